/- Lemmas for the last texts. -/
import Derived.Test.YtfhaojhofiocaaaGreatDoorM02
import Derived.Deep.AppendLies
import Derived.Deep.Cut
import Derived.Shelf.GgClosure.Gives
set_option maxHeartbeats 1600000
set_option maxRecDepth 100000
namespace Go.Proofs.YtfhaojhofiocaaaGreatDoor
open Go.RowKit Go.Proofs.Tryz
def hitI(p:Nat->Bool)(n:Nat):Int:=match (List.range n).find? p with
 |some i=>(i:Int)
 |none=>-1
def anyN(p:Nat->Bool)(n:Nat):Bool:=(List.range n).any p
theorem zeH(p:Nat->Bool)(n:Nat)(h:∀i,i<n->p i=false):hitI p n=-1:=by
 unfold hitI;rw[List.find?_eq_none.2 (λx a=>by rw[h x (ZQ.1 a)];decide)]
theorem zmb(p:Nat->Bool)(n j:Nat)(a:j<n)(h1:p j=true)(h:∀i,i<j->p i=false):hitI p n=j:=by
 unfold hitI
 have:(List.range n).find? p=some j:=by
  rw[List.find?_eq_some_iff_getElem];refine⟨h1,j,by simpa using a,by simp,λi b=>by simpa using h i b⟩
 rw[this]
theorem zet(p:Nat->Bool)(n:Nat):anyN p n=false↔∀i,i<n->p i=false:=by
 unfold anyN;simp
theorem zkK(p:Nat->Bool)(n:Nat):anyN p n=true↔∃i,i<n/\p i=true:=by
 unfold anyN;simp
theorem zhM(p:Nat->Bool)(n:Nat):decide (0<=hitI p n)=anyN p n:=by
 cases h:anyN p n with
 |false=>rw[zeH p n ((zet p n).1 h)];rfl
 |true=>
  obtain⟨i,c,a⟩:=(zkK p n).1 h;unfold hitI;cases b:(List.range n).find? p with
  |some j=>simp
  |none=>exact absurd a (by have:=List.find?_eq_none.1 b i (by simpa using c);simpa using this)
theorem zd2{b:Type}(f:b->Bool)(l:List b)(d:b):anyN (λj=>f (l.getD j d)) l.length=l.any f:=by
 rw[Bool.eq_iff_iff,zkK,List.any_eq_true]
 constructor
 ·rintro⟨i,a,h⟩
  rw[Qr,Qe a]at h;exact⟨l[i],QC a,h⟩
 ·rintro⟨x,c,h⟩
  obtain⟨i,a,rfl⟩:=List.mem_iff_getElem.1 c;exact⟨i,a,by rw[Qr,Qe a];exact h⟩
def zaC(b:Bool)(w:World)(e:Ending)(w':World):Prop:=e=jC (.bool b)/\w w'
def Tgt(x:Ins)(c d:Int):Prop:=(x.kind=2/\c<=x.a/\x.a<=d/\c<=x.b/\x.b<=d)\/(x.kind=3/\c<=x.a/\x.a<=d)\/x.kind=1\/x.kind=4\/x.kind=5
theorem Tgt.mono{x:Ins}{c d a b:Int}(h:Tgt x c d)(h1:a<=c)(h2:d<=b):Tgt x a b:=by
 unfold Tgt at h ⊢;omega
theorem zo3{t:Tree}{at_:Nat}{l:List Ins}(h:Code t at_ l):∀x∈l,Tgt x at_ (at_+l.length):=by
 induction h with
 |none|byte|begin|finish=>intro x c;simp only[QF]at c;subst c;simp[Tgt]
 |empty=>intro x c;simp at c
 |cat S a b at_ d e _ _ h1 h2=>
  intro x c;rw[Qb]
  rcases QY.1 c with h|h
  ·exact(h1 x h).mono (ZB _) (by omega)
  ·exact(h2 x h).mono (by omega) (by omega)
 |alt S a b at_ d e _ _ h1 h2=>
  intro x c;simp only[Qb,Qq]
  rcases QN.1 c with h|c
  ·subst h;left;dsimp only;omega
  ·rcases QY.1 c with h|c
   ·exact(h1 x h).mono (by omega) (by omega)
   ·rcases QN.1 c with h|h
    ·subst h;right;left;dsimp only;omega
    ·exact(h2 x h).mono (by omega) (by omega)
 |star S a at_ d _ h1=>
  intro x c;simp only[Qb,Qq,QP]
  rcases QN.1 c with h|c
  ·subst h;left;dsimp only;omega
  ·rcases QY.1 c with h|c
   ·exact(h1 x h).mono (by omega) (by omega)
   ·rw[QF]at c
    subst c;right;left;dsimp only;omega
def OkP(P:List Ins):Prop:=∀i (h:i<P.length),(P[i].kind=2/\(0<=P[i].a/\P[i].a<P.length)/\0<=P[i].b/\P[i].b<P.length)\/(P[i].kind=3/\0<=P[i].a/\P[i].a<P.length)\/((P[i].kind=1\/P[i].kind=4\/P[i].kind=5)/\i+1<P.length)\/P[i].kind=6
theorem zm8{t:Tree}{l:List Ins}(h:Code t 0 l):OkP (l++[⟨6,0,0,.zero⟩]):=by
 intro i a;rw[Qb,QH]at a ⊢
 by_cases c:i<l.length
 ·rw[Zy c]
  have:=zo3 h l[i] (QC c);unfold Tgt at this;omega
 ·obtain rfl:i=l.length:=by omega
  right;right;right
  simp
def Ins7(w:World)(b o:Nat)(x:Ins):Prop:=w.cell? ⟨b,o,none⟩=some (jA x.kind)/\w.cell? ⟨b,o+1,none⟩=some (jA x.a)/\w.cell? ⟨b,o+2,none⟩=some (jA x.b)/\
 w.cell? ⟨b,o+3,none⟩=some (jB x.set.a)/\w.cell? ⟨b,o+4,none⟩=some (jB x.set.b)/\w.cell? ⟨b,o+5,none⟩=some (jB x.set.c)/\w.cell? ⟨b,o+6,none⟩=some (jB x.set.d)
theorem zwo{w:World}{B n b a:Nat}{l:List Ins}(h:Sl w B 7 (some ⟨b,a,none⟩) n (l.flatMap zbh))(k:Nat)(d:k<l.length):Ins7 w b (a+k*7) l[k]:=by
 obtain⟨i,c,e,_,r⟩:=zzf h k d;injection e with e
 injection e with f g
 subst f;subst g
 exact r
theorem zh0(k:Int)(g:Nat)(n:Nat)(w:World)(a:0<=k)(h1:k<n)(b:w.cell? g=some (jA (n:Int))):
 Calls prog 65 #[jA k,.pointer g] w λe w'=>e=jC (.bool true)/\w'=w:=by
 go_in
 go_wp2;go_ret;exact⟨rfl,rfl⟩
def zyU(n:Nat)(w:World)(i:Value)(wr:World):Prop:=∃k:Nat,k<=n/\i=jA k/\w wr/\wr.cell? w.heap.size=some (jA (n:Int))/\w.heap.size<wr.heap.size
theorem zgE(P:List Ins)(A:Option Addr)(c:Nat)(w:World)(h:Sl w w.heap.size 7 A P.length (P.flatMap zbh))(j:OkP P)(T:0<P.length)(V:P.length<=400):
 Calls prog 47 #[.slice A P.length c] w λe w'=>e=jC (jA 0)/\w w':=by
 have m:=hIx j;obtain⟨b,s,rfl,K,d⟩:=h.src (by rw[h.len];omega);have n:Hid (∀k (r:k<P.length) W,w W->Ins7 W b (s+k*7) P[k]):=λk r W hb=>zwo (h.below hb) k r
 have X:decide (400<(P.length:Int))=false:=by simp;omega
 have Z:((P.length:Int)==0)=false:=Qc.2 (by omega);clear j d
 go_in
 go_wp2
 go_loopw [17] (λi wr=>zyU P.length w i wr) (λi _=>P.length-(intOf i).toNat)
 case atStart=>exact⟨0,Qn _,rfl,WaL,zar (Qi _ _) 0,by simp⟩
 case round=>
  obtain⟨k,r,rfl,a,q,t⟩:=hrel
  by_cases f:k<P.length
  ·obtain⟨z,I,F,D,C,G,H⟩:=n.out k f wr a
   have u:=m.out k f;generalize P[k]=x at z I F D C G H u;obtain⟨U,B,O,⟨sa,sb,sc,Q⟩⟩:=x;dsimp only at z I F D C G H u;have S:(k:Int)<(P.length:Int):=by omega
   have l:=hIx λo=>(((Qi wr.heap.size wr).alloc (Qd _) o).cell (p:=⟨w.heap.size,0,none⟩) t).trans q
   have J:∀o,zyU P.length w (jA ((k+1:Nat):Int)) (wr.alloc o):=λo=>⟨k+1,f,rfl,a.alloc a.size o,l.out o,by simp;omega⟩
   have g:=hIx J;clear J
   rcases u with ⟨rfl,⟨v,y⟩,N,L⟩|⟨rfl,v,y⟩|⟨rfl|rfl|rfl,Y⟩|rfl
   ·go_wp2_with fail
    refine(zh0 B _ P.length _ v y (l.out _)).mono ?_;rintro e w' ⟨rfl,rfl⟩;go_wp2_with fail;refine(zh0 O _ P.length _ N L (l.out _)).mono ?_;rintro e w' ⟨rfl,rfl⟩;go_wp2_with fail
    go_roundw
    case rel=>exact g.out _
    case measure=>simp[intOf] <;> omega
   ·go_wp2_with fail
    refine(zh0 B _ P.length _ v y (l.out _)).mono ?_;rintro e w' ⟨rfl,rfl⟩;go_wp2_with fail
    go_roundw
    case rel=>exact g.out _
    case measure=>simp[intOf] <;> omega
   have E:(k:Int)+1<(P.length:Int):=by omega
   rotate_left
   have E:(k:Int)+1<(P.length:Int):=by omega
   rotate_left
   have E:(k:Int)+1<(P.length:Int):=by omega
   all_goals
    go_wp2_with fail
    go_roundw
    case rel=>exact g.out _
    case measure=>simp[intOf] <;> omega
  ·obtain rfl:k=P.length:=by omega
   go_wp2;go_ret;exact⟨rfl,a⟩
def natV(n:Nat):Value:=jA (n:Int)
def OwnNT(w:World)(v:Value)(l:List Nat):Prop:=w.ownsRow 0 3 1 v l.length (l.map natV)
theorem OwnNT.nil(w:World):OwnNT w (jD 0 0) []:=ZH w 0 3 1
theorem OwnNT.keep{w w':World}{v:Value}{l:List Nat}(h:OwnNT w v l)(b:∀g,v.ownBlock=some g->w'.heap[g]? = w.heap[g]?):OwnNT w' v l:=by
 refine⟨h.1,?_⟩
 rcases h.2 with d|⟨g,cap,a,h1,h2,e,c⟩
 ·exact .inl d
 ·exact .inr ⟨g,cap,a,h1,h2,(b g (by rw[h1];rfl)).trans e,c⟩
theorem OwnNT.lt{w:World}{v:Value}{l:List Nat}(h:OwnNT w v l):∀g,v.ownBlock=some g->g<w.heap.size:=λg a=>(QE h g a).2
theorem OwnNT.form{w:World}{v:Value}{l:List Nat}(h:OwnNT w v l):∃A c,v=.slice A l.length c:=by
 rcases h.2 with ⟨h1,h2⟩|⟨g,cap,a,h1,_⟩
 ·exact⟨none,0,by rw[h1,h2]⟩
 ·exact⟨_,_,h1⟩
theorem OwnNT.head{w:World}{v:Value}{l:List Nat}(h:OwnNT w v l)(hl:0<l.length):∃g c,v=.slice (some ⟨g,0,none⟩) l.length c/\g<w.heap.size:=by
 rcases h.2 with ⟨_,h2⟩|⟨g,cap,a,h1,_⟩
 ·omega
 ·exact⟨g,cap,h1,h.lt g (by rw[h1];rfl)⟩
theorem OwnNT.cell{w:World}{g c:Nat}{l:List Nat}(h:OwnNT w (.slice g l.length c) l)(k:Nat)(a:k<l.length):w.cell? ⟨g,k,none⟩=some (jA ((l[k]:Nat):Int)):=by
 have h1:=Zq (g:=g) h (by simp[Value.ownBlock]) k (natV l[k]) (by simp[a]);rw[zbd]at h1;exact h1
theorem OwnNT.pop{w:World}{g c k:Nat}{l:List Nat}(h:OwnNT w (.slice g (l++[k]).length c) (l++[k])):OwnNT w (.slice g l.length c) l:=by
 unfold OwnNT at h ⊢;rw[Qb,QH,Q2]at h;exact ownsRow_pop (by simp) h
theorem OwnNT.one(w:World)(n:Nat):OwnNT (w.alloc (.cells #[natV n] 3)) (.slice w.heap.size 1 1) [n]:=
 ⟨rfl,.inr ⟨w.heap.size,1,#[natV n],rfl,Qn _,Qv w _,Qd _,by decide,rfl,rfl⟩⟩
def FromN(w:World)(g n:Nat)(F:Nat->Nat):Prop:=w.heap[g]? = some (.cells ((List.range n).map λi=>natV (F i)).toArray 3 (0,0))
theorem FromN.cell{w:World}{g n:Nat}{F:Nat->Nat}(h:FromN w g n F)(k:Nat)(a:k<n):w.cell? ⟨g,k,none⟩=some (jA ((F k:Nat):Int))/\w.frozen? ⟨g,k,none⟩=false:=
 ⟨(Qo w g k _ _ _ h).trans (by simp[a,natV]),Zc w g k _ _ h⟩
theorem FromN.keep{w w':World}{g n:Nat}{F:Nat->Nat}(h:FromN w g n F)(a:w'.heap[g]? = w.heap[g]?):FromN w' g n F:=a.trans h
theorem FromN.set{w:World}{g n:Nat}{F:Nat->Nat}(h:FromN w g n F)(k v:Nat):FromN (w.setCell ⟨g,k,none⟩ (jA (v:Int))) g n (upd F k v):=by
 have h1:=QW w g k _ _ (jA (v:Int)) h;unfold FromN;rw[h1,Qa]
 congr 3
 apply List.ext_getElem (by simp)
 intro i h2 a;simp only[Xf,Qk,List.length_range]at h2;rw[List.getElem_set];simp only[Zo,List.getElem_range,upd]
 by_cases c:k=i
 ·subst c;simp[natV]
 ·rw[Qf c,Qf (λe=>c e.symm)]
theorem zmh:(prog.info? 3).map (λi=>(i.zero,i.size,i.bytes))=some (some (jA 0),1,8):=by kernel_rfl
section
variable {ops:Array Oper} {rest:List Oper} {o:Oper} {a:Act} {Q:Exit->Act->World->Prop} {w:World}
theorem zmX{K:Act->World->Prop}(s x:Operand)(G:o.op=.call {callee:=.builtin .append,args:=#[s,x],argTypes:=#[54,54]})
 (v:Value) (l:List Nat) (J:a.eval s=v) (f:OwnNT w v l)
 (z:List Value) (b:List Nat) (N:z=b.map natV) (A:Nat) (t:w.heap.size=A) (c:Nat) (L:a.eval x=.slice A b.length c) (y:0<b.length)
 (B:l.length+b.length<=1048576)
 (h:∀g cap w',OwnNT w' (.slice (some ⟨g,0,none⟩) (l++b).length cap) (l++b)->(∀k,k<w.heap.size->v.ownBlock≠some k->w'.heap[k]? = w.heap[k]?)->(v.ownBlock=some g\/w.heap.size<=g)->g<w'.heap.size->w.heap.size<w'.heap.size->Below 0 w w'->K (a.put o.dst (.slice (some ⟨g,0,none⟩) (l++b).length cap)) w'):
 o.wp prog a (w.alloc (.cells z.toArray 3)) K Q:=by
 subst N;subst t
 obtain⟨F,r,j,m,q⟩:=ZG zmh;have d:=World.ownsRow.alloc f (.cells (b.map natV).toArray 3)
 refine wp_append_lies (P:=prog) (w.alloc (.cells (b.map natV).toArray 3)) s x 54 G 0 3 F (jA 0) 1 8 underlying54 r j m q rfl (by decide) v l.length (l.map natV) J d
  ⟨w.heap.size,0,none⟩ b.length c (b.map natV) L (by simp) (zd6 w _ _) (λu H=>by obtain⟨n,_,rfl⟩:=QS.1 H;rfl) y (by unfold maxLen;omega) (by omega) (Qn _) (w.heap.size+1) (by simp) ?_
 intro g cap w' h1 h2 I D;have E:=h2.size;rw[Qp]at E;rw[<-Q2,<-Qb]at h1;rw[<-Qb];exact h g cap w' h1 (λk C i=>(h2.block k (by simp;omega) (λe=>i e.symm)).trans (Qs _ _ _ C)) (I.imp_right λe=>by omega) D (by omega) (((Qi _ _).alloc (Qn _) _).trans ⟨h2.os,h2.tape,h2.output,h2.size,λ_ r=>absurd r (by omega)⟩)
theorem zat(f:o.guard=none)(s x:Operand)(u:o.op=.call {callee:=.builtin .append,args:=#[s,x],argTypes:=#[54,54]})
 (v:Value) (l:List Nat) (z:a.eval s=v) (d:OwnNT w v l)
 (i:List Value) (b:List Nat) (C:i=b.map natV) (j:Nat) (m:w.heap.size=j) (c:Nat) (A:a.eval x=.slice j b.length c) (n:0<b.length)
 (e:l.length+b.length<=1048576)
 (h:∀g cap w',OwnNT w' (.slice (some ⟨g,0,none⟩) (l++b).length cap) (l++b)->(∀k,k<w.heap.size->v.ownBlock≠some k->w'.heap[k]? = w.heap[k]?)->(v.ownBlock=some g\/w.heap.size<=g)->g<w'.heap.size->w.heap.size<w'.heap.size->Below 0 w w'->wpList prog ops Q rest (a.put o.dst (.slice (some ⟨g,0,none⟩) (l++b).length cap)) w'):
 wpList prog ops Q (o::rest) a (w.alloc (.cells i.toArray 3)):=
 Z3 f λ_ r=>zmX s x u v l z d i b C j m c A n e λg cap w' h1 h2 y q t B=>r _ _ (h g cap w' h1 h2 y q t B)
end
def unmet(n:Nat)(G:Nat->Nat):Nat:=((List.range n).filter λi=>G i==0).length
theorem zdm(n:Nat)(G:Nat->Nat):unmet (n+1) G=unmet n G+if G n=0 then 1 else 0:=by
 unfold unmet;rw[List.range_succ,ZR,Qb]
 by_cases c:G n=0
 ·simp[c]
 ·simp[c]
theorem zpw{n:Nat}{G H:Nat->Nat}(h:∀i,i<n->(G i=0↔H i=0)):unmet n G=unmet n H:=by
 induction n with
 |zero=>rfl
 |succ n ih=>
  rw[zdm,zdm,ih λi a=>h i (by omega)]
  by_cases c:G n=0
  ·rw[Qj c,Qj ((h n (by omega)).1 c)]
  ·rw[Qf c,Qf λe=>c ((h n (by omega)).2 e)]
theorem zmk{n k v:Nat}{G:Nat->Nat}(d:k<n)(b:G k=0)(a:v≠0):unmet n (upd G k v)+1=unmet n G:=by
 induction n with
 |zero=>omega
 |succ n ih=>
  rw[zdm,zdm]
  by_cases c:k=n
  ·subst c
   rw[Qj b,Qf (by unfold upd;rw[Qj rfl];exact a)];rw[zpw (H:=G) λi f=>by unfold upd;rw[Qf (by omega)]]
  ·have h1:=ih (by omega)
   have h2:upd G k v n=G n:=by unfold upd;rw[Qf λe=>c e.symm]
   rw[h2];omega
theorem zot(n:Nat)(G:Nat->Nat):unmet n G<=n:=by
 induction n with
 |zero=>exact Qd _
 |succ n ih=>rw[zdm];split <;> omega
def zAd:Value->Bool
 |.int _ m=>m==0
 |_=>false
def zl2(w:World)(g:Nat):Nat:=match w.heap[g]? with
 |some (.cells cs _ _)=>(cs.toList.filter zAd).length
 |_=>0
theorem FromN.unmet{w:World}{g n:Nat}{F:Nat->Nat}(h:FromN w g n F):zl2 w g=unmet n F:=by
 unfold FromN at h;unfold zl2;rw[h];dsimp only;unfold Go.Proofs.YtfhaojhofiocaaaGreatDoor.unmet;rw[List.filter_map,Qk]
 congr 1
 apply List.filter_congr
 intro i _;show ((F i:Int)==0)=(F i==0)
 by_cases c:F i=0
 ·rw[c];rfl
 ·rw[Qc.2 c,Qc.2 (by omega)]
def lenV:Value->Nat
 |.slice _ n _=>n
 |_=>0
def ThB(w:World)(d:Nat)(e:Value)(s:ByteArray)(a n:Nat)(c:Value):Prop:=∃b,w.heap[d]? = some (.cells #[e,.string s,.slice a n b,c] 370 (0,0))
theorem ThB.cells{w:World}{a:Nat}{e:Value}{s:ByteArray}{c n:Nat}{d:Value}(h:ThB w a e s c n d):
 w.cell? a=some e/\w.cell? ⟨a,1,none⟩=some (.string s)/\(∃b,w.cell? ⟨a,2,none⟩=some (.slice c n b))/\w.cell? ⟨a,3,none⟩=some d/\w.frozen? ⟨a,3,none⟩=false:=by
 obtain⟨b,h⟩:=h;exact⟨Qo w a 0 _ _ _ h,Qo w a 1 _ _ _ h,⟨b,Qo w a 2 _ _ _ h⟩,Qo w a 3 _ _ _ h,Zc w a 3 _ _ h⟩
theorem ThB.keep{w w':World}{a:Nat}{d:Value}{s:ByteArray}{b n:Nat}{c:Value}(h:ThB w a d s b n c)(e:w'.heap[a]? = w.heap[a]?):ThB w' a d s b n c:=by
 obtain⟨f,h⟩:=h;exact⟨f,e.trans h⟩
theorem ThB.set{w:World}{a:Nat}{c:Value}{s:ByteArray}{b n:Nat}{d:Value}(h:ThB w a c s b n d)(u:Value):ThB (w.setCell ⟨a,3,none⟩ u) a c s b n u:=by
 obtain⟨e,h⟩:=h;exact⟨e,QW w a 3 _ _ u h⟩
structure ThM(w:World)(gt:Nat)(pv:Value)(s:ByteArray)(gF n:Nat)(vl:Value)(G:Nat->Nat)(lg:List Nat):Prop where
 blk:ThB w gt pv s gF n vl
 frm:FromN w gF n G
 lst:OwnNT w vl lg
 far:vl.ownBlock≠some gF
 len:lg.length+unmet n G<=n
theorem ThM.ne{w:World}{b:Nat}{i:Value}{s:ByteArray}{d n:Nat}{c:Value}{G:Nat->Nat}{f:List Nat}(h:ThM w b i s d n c G f):b≠d/\c.ownBlock≠some b:=by
 obtain⟨k,hb⟩:=h.blk
 constructor
 ·intro e
  have h2:=h.frm;unfold FromN at h2;rw[<-e,hb]at h2;injection h2 with h2
  injection h2 with _ h2 _
  exact absurd h2 (by decide)
 ·intro e
  rcases h.lst.2 with ⟨h1,_⟩|⟨g,cap,j,h1,_,a,_⟩
  ·rw[h1]at e;cases e
  ·rw[h1]at e
   injection e with e
   have e:g=b:=e;rw[e,hb]at a;injection a with a
   injection a with _ a _
   exact absurd a (by decide)
mutual
def nodes:Tree->Nat
 |.node _ _ a=>1+zcE a
def zcE:List Tree->Nat
 | []=>0
 |t::a=>nodes t+zcE a
end
theorem zfS{t:Tree}{at_:Nat}{l:List Ins}(h:Code t at_ l):l.length<=2*nodes t:=by
 induction h with
 |none=>simp[nodes,zcE]
 |empty=>simp
 |byte=>simp[nodes,zcE]
 |begin=>simp[nodes,zcE]
 |finish=>simp[nodes,zcE]
 |cat S a b at_ c d _ _ h1 h2=>simp only[nodes,zcE,Qb];omega
 |alt S a b at_ c d _ _ h1 h2=>simp only[nodes,zcE,Qb,Qq];omega
 |star S a at_ c _ h1=>simp only[nodes,zcE,Qb,Qq,QP];omega
def Keeps(w w':World):Prop:=∀(g:Nat) (cs:Array Value) (t:TypeId) (a:Nat × Nat),136≠t->w.heap[g]? = some (Obj.cells cs t a)->w'.heap[g]? = some (Obj.cells cs t a)
theorem Keeps.trans{a b c:World}(h:Keeps a b)(k:Keeps b c):Keeps a c:=λg cs t d e f=>k g cs t d e (h g cs t d e f)
theorem zaG{w:World}{g:Nat}{o:Obj}(h:w.heap[g]? = some o):g<w.heap.size:=by
 rcases ZJ g w.heap.size with b|a
 ·exact b
 ·rw[ZV a]at h;cases h
theorem Keeps.below{w w':World}(hb:w w'):Keeps w w':=λg _ _ _ _ a=>(hb.block g (zaG a)).trans a
theorem Keeps.alloc(w:World)(o:Obj):Keeps w (w.alloc o):=Keeps.below ((Qi _ _).alloc (Qd _) o)
theorem Keeps.own{w w':World}{base:Nat}{v:Value}{l:List Ins}(h:OwnP w base v l)(b:∀g,g<w.heap.size->v.ownBlock≠some g->w'.heap[g]? = w.heap[g]?):Keeps w w':=λg _ _ _ c a=>(b g (zaG a) (zbl h a c)).trans a
theorem Keeps.only{w w':World}{base g:Nat}{c n:Nat}{l:List Ins}(h:OwnP w base (.slice g n c) l)(b:w.grownBy w' (some g)):Keeps w w':=λk _ _ _ d a=>
 (b.block k (zaG a) (λe=>zbl h a d e.symm)).trans a
def zhF(t:Tree)(p:List Ins)(B:Nat)(w:World)(e:Ending)(w':World):Prop:=
 ∃v' l,e=jC v'/\Code t p.length l/\OwnP w' B v' (p++l)/\Below B w w'/\Keeps w w'/\w.heap.size<=w'.heap.size
def CodeC(t:Tree):Prop:=∀(A:Option Addr) (c:Nat) (w:World) (B:Nat) (v:Value) (p:List Ins),B<=w.heap.size->LK w B t.kids A->OwnP w B v p->p.length+2*nodes t<=1000->
 Calls prog 64 #[v,argX t A c] w (zhF t p B w)
theorem zhe(k:Int)(S:Set4)(x:Ins)(q:(k=1\/k=3)/\x=⟨1,0,0,S⟩\/k=7/\x=⟨4,0,0,.zero⟩\/k=8/\x=⟨5,0,0,.zero⟩)(n:∀at_,Code (.node k S []) at_ [x]):CodeC (.node k S []):=by
 intro A c w B v p m _ l s;have r:=hIx n;obtain⟨A0,c0,rfl,_⟩:=l.form;have e:∀o,OwnP (w.alloc o) B (.slice A0 p.length c0) p:=λo=>l.below ((Qi _ _).alloc (Qd _) o)
 have u:p.length<=1000:=by omega
 have j:=hIx m;unfold argX;obtain⟨a,b,t,d⟩:=S;dsimp only[Tree.kind,Tree.set,Tree.kids,List.length_nil];clear n s m
 rcases q with ⟨rfl|rfl,rfl⟩|⟨rfl,rfl⟩|⟨rfl,rfl⟩
 all_goals
  go_in
  go_wp2_with (at_builtin;refine zb4 rfl _ _ rfl B _ p rfl (e _) (by simp;exact XL j.out) _ ⟨_,0,0,⟨_,_,_,_⟩⟩ rfl (w.heap.size+1) (by simp) 1 rfl (by omega) ?_;intro v' w' f i g h);go_ret;exact⟨v',_,rfl,r.out _,f,((Qi _ _).alloc j.out _).trans i,(Keeps.alloc _ _).trans (Keeps.own (e _) g),by simp at h;omega⟩
theorem CodeC.call{t:Tree}(ih:CodeC t){w:World}{B:Nat}{A:Option Addr}{c:Nat}(h:LT w B t (zap t.kind t.set A t.kids.length c)):
 ∀(W:World) (v:Value) (p:List Ins),B<=W.heap.size->Below B w W->OwnP W B v p->p.length+2*nodes t<=1000->Calls prog 64 #[v,argX t A c] W (zhF t p B W):=λW v p l hb g k=>by
 obtain⟨i,a,e,_,d⟩:=h.parts;have f:Value.slice A t.kids.length c=.slice i t.kids.length a:=by unfold zap at e;injection e with _ e;injection e with _ e;injection e with _ e;injection e with _ e;injection e with _ e;injection e with e
 injection f with b _ j
 subst b;subst j
 exact ih A c W B v p l (d.below hb) g k
def boxX(k:Int)(a b c d:Int)(A:Option Addr)(n q:Nat):Obj:=.cells #[jA k,jB a,jB b,jB c,jB d,.slice A n q] 98
theorem zi7{w W:World}{k a b c d:Int}{A:Option Addr}{n q:Nat}(h:Keeps (w.alloc (boxX k a b c d A n q)) W):W.cell? ⟨w.heap.size,5,none⟩=some (.slice A n q)/\W.cell? w.heap.size=some (jA k):=by
 have h1:=h w.heap.size _ 98 (0,0) (by decide) (Qv w _);exact⟨Qo W w.heap.size 5 _ _ (0,0) h1,Qo W w.heap.size 0 _ _ (0,0) h1⟩
theorem zem{w W:World}{B b a:Nat}{t:Tree}{A:Option Addr}{c:Nat}(h:CellsAt w b a (zap t.kind t.set A t.kids.length c))(hb:Below B w W)(d:b<B):CellsAt W b a (zap t.kind t.set A t.kids.length c):=
 λj e=>(hb.cell (p:=⟨b,a+j,none⟩) d).trans (h j e)
theorem zqu(S:Set4):CodeC (.node 2 S []):=by
 intro A c w B v p g _ f i;obtain⟨A0,c0,rfl,_⟩:=f.form;have e:∀o,OwnP (w.alloc o) B (.slice A0 p.length c0) (p++[]):=λo=>by rw[QO];exact f.below ((Qi _ _).alloc (Qd _) o)
 unfold argX;obtain⟨a,b,h,d⟩:=S;dsimp only[Tree.kind,Tree.set,Tree.kids,List.length_nil]
 go_in
 go_wp2;go_ret;exact⟨_,[],rfl,.empty _ _,e _,(Qi _ _).alloc g _,Keeps.alloc _ _,by simp⟩
theorem zuS(S:Set4)(L P:Tree)(t:CodeC L)(z:CodeC P):CodeC (.node 4 S [L,P]):=by
 intro A c w B v p U J O hn;obtain⟨bb,h3,ca,cb,rfl,x,i,j,s,m⟩:=LK.two J;obtain⟨A1,c1,rfl,_,_⟩:=j.parts;obtain⟨A2,c2,rfl,_,_⟩:=m.parts;have N:=hIx (t.call j);have K:=hIx (z.call m);have HX:=hIx λW hb=>zem i (W:=W) hb x
 have HY:=hIx λW hb=>zem s (W:=W) hb x
 simp only[nodes,zcE]at hn;obtain⟨A0,c0,rfl,_⟩:=O.form;have H:∀o,OwnP (w.alloc o) B (.slice A0 p.length c0) p:=λo=>O.below ((Qi _ _).alloc (Qd _) o)
 have l:Hid (∀k a b c d A n q W,Keeps (w.alloc (boxX k a b c d A n q)) W->_):=λk a b c d A n q W h=>zi7 h
 unfold boxX at l;unfold argX at N K ⊢;obtain⟨a,b,c',d⟩:=S;dsimp only[Tree.kind,Tree.set,Tree.kids,List.length_nil,List.length_cons]at l ⊢;clear J t z j m
 go_in
 have V:=i.six;clear i s;have Y:bb<w.heap.size:=by omega
 go_wp2_with fail;refine(N.out _ _ p (by simp;omega) ((Qi _ _).alloc U _) (H _) (by omega)).mono ?_;rintro e X ⟨v1,Q,rfl,D,F,C,g,u⟩;have f:=((Qi B w).alloc U _).trans C;have G:=g;have f5:=l.out _ _ _ _ _ _ _ _ _ g;have y0:=(HY.out _ f).six;have Z:=zfS D;have T:w.heap.size+1<=X.heap.size:=by simpa using u
 clear V C g u;go_wp2_with fail;refine(K.out _ _ (p++Q) (by omega) f F (by rw[Qb];omega)).mono ?_;rintro e w2 ⟨v2,lb,rfl,y,r,I,E,h0⟩;clear y0 f5;go_wp2;go_ret;rw[Qb]at y;exact⟨v2,Q++lb,rfl,.cat _ _ _ _ _ _ D y,by rw[<-Q4];exact r,f.trans I,((Keeps.alloc _ _).trans G).trans E,by omega⟩
theorem OwnP.drew{w:World}{base:Nat}{v:Value}{l:List Ins}(h:OwnP w base v l):OwnP w.drew base v l:=h
theorem OwnP.spot{w:World}{base g c:Nat}{l:List Ins}(h:OwnP w base (.slice g l.length c) l)(k:Nat)(a:k<l.length)(j:Nat)(b:j<7):
 w.cell? ⟨g,k*7+j,none⟩=(zbh l[k])[j]? /\ w.frozen? ⟨g,k*7+j,none⟩=false:=by
 refine⟨?_,World.ownsRow.frozenAt h _⟩;have h1:=zcA zbh 7 zcN l k j a b;have hl:=za3 zbh 7 zcN l;have h2:k*7+j<(l.flatMap zbh).length:=by omega
 have:=Zq (g:=g) h (by simp[Value.ownBlock]) (k*7+j) _ (Qe h2);rw[zbd]at this;rw[this,<-Qe h2,h1]
theorem OwnP.ab{w:World}{base g c:Nat}{l:List Ins}(h:OwnP w base (.slice g l.length c) l)(k:Nat)(d:k<l.length):
 (w.cell? ⟨g,k*7+1,none⟩=some (jA l[k].a)/\w.cell? ⟨g,k*7+2,none⟩=some (jA l[k].b))/\w.frozen? ⟨g,k*7+1,none⟩=false/\w.frozen? ⟨g,k*7+2,none⟩=false:=
 ⟨⟨(h.spot k d 1 (by decide)).1,(h.spot k d 2 (by decide)).1⟩,(h.spot k d 1 (by decide)).2,(h.spot k d 2 (by decide)).2⟩
theorem zsC(p a:List Ins)(n:Nat)(k:Int)(b:n=p.length):(p++[(⟨2,(n:Int)+1,0,.zero⟩:Ins)]++a++[(⟨3,(n:Int),0,.zero⟩:Ins)]).set n ⟨2,(n:Int)+1,k,.zero⟩=
 p++((⟨2,(n:Int)+1,k,.zero⟩:Ins)::(a++[⟨3,(n:Int),0,.zero⟩])):=by
 subst b;rw[Q4,Q4,ZO _ _ (Qd _),Z8]
 rfl
theorem zq2(p a:List Ins)(x y:Ins)(h:p.length<(p++[x]++a++[y]).length):(p++[x]++a++[y])[p.length]=x:=by
 simp
theorem Keeps.undrew{w w':World}(h:Keeps w.drew w'):Keeps w w':=h
theorem zsU(S:Set4)(t:Tree)(N:CodeC t):CodeC (.node 6 S [t]):=by
 intro A c w B v p hB T X hn;obtain⟨s,g,ca,rfl,Y,u,z⟩:=LK.one T;obtain⟨A1,c1,rfl,_,_⟩:=z.parts;have V:=hIx (N.call z);have HX:=hIx λW hb=>(zem u (W:=W) hb Y).six
 simp only[nodes,zcE]at hn;obtain⟨A0,c0,rfl,_⟩:=X.form;have H:∀o,OwnP (w.alloc o) B (.slice A0 p.length c0) p:=λo=>X.below ((Qi _ _).alloc (Qd _) o)
 have r:Hid (∀k a b c d A n q W,Keeps (w.alloc (boxX k a b c d A n q)) W->_):=λk a b c d A n q W h=>(zi7 h).1
 unfold boxX at r;unfold argX at V ⊢;obtain⟨a,b,c',d⟩:=S;dsimp only[Tree.kind,Tree.set,Tree.kids,List.length_nil,List.length_cons]at r ⊢;clear T N z;have h8:=hIx X;have i1:IntKind.i64.wrap ((p.length:Int)+1)=(p.length:Int)+1:=Qz _ (by omega)
 go_in
 have x0:=u.six;clear u;have hf:s<w.heap.size:=by omega
 go_wp2_with fail;have J:∀o,B<=(w.alloc o).heap.size:=λo=>by simp;omega
 have HS:=hIx λW T hb=>And.intro (r.out 6 a b c' d (some ⟨s,g,none⟩) 1 c W T) (HX.out W hb)
 go_region_held3 (λw'=>w'.cell? ⟨w.heap.size,5,none⟩=some (.slice (some ⟨s,g,none⟩) 1 c)/\w'.cell? ⟨s,g,none⟩=some (jA t.kind)/\w'.cell? ⟨s,g+1,none⟩=some (jB t.set.a)/\w'.cell? ⟨s,g+2,none⟩=some (jB t.set.b)/\
  w'.cell? ⟨s,g+3,none⟩=some (jB t.set.c)/\w'.cell? ⟨s,g+4,none⟩=some (jB t.set.d)/\w'.cell? ⟨s,g+5,none⟩=some (.slice A1 t.kids.length c1))
  (first|exact HS.out _ (l.trans C) (f.trans E)|exact HS.out _ l f|go_keep)
  (first
   |(refine zfl rfl (.tmp 85) (.tmp 89) rfl B (.slice A0 p.length c0) p rfl (H _).drew (J _) _ ⟨2,(p.length:Int)+1,0,.zero⟩ rfl (w.heap.size+1) (by simp) 1 rfl (by omega) ?_;intro v8 w8 P I O h5;have l:=Keeps.undrew (Keeps.own (H _).drew O);have f:Below B w w8:=((Qi B w).alloc hB _).drew.trans I)
   |(go_at_call 64;(with_reducible refine(V.out w8 v8 (p++[⟨2,(p.length:Int)+1,0,.zero⟩]) (Ql hB f.size) f P (by rw[Qb,QH];omega)).mono ?_);rintro e w1 ⟨v1,i,rfl,F,y,E,C,hi⟩))
 rw[Qb,QH]at F;have hg:=zfS F;have m:=f.trans E;have G:=l.trans C;clear V HS HX r E C I O x0 P J;have he:=m.size;have U:B<=w1.heap.size:=Ql hB m.size;obtain⟨h7,hh,rfl,_⟩:=y.form;have Z:(p++[(⟨2,(p.length:Int)+1,0,.zero⟩:Ins)]++i).length=p.length+1+i.length:=by simp;omega
 have HM:Hid (∀k,((p++[(⟨2,(p.length:Int)+1,0,.zero⟩:Ins)]++i++[(⟨3,(p.length:Int),0,.zero⟩:Ins)]).set p.length ⟨2,(p.length:Int)+1,k,.zero⟩)=p++((⟨2,(p.length:Int)+1,k,.zero⟩:Ins)::(i++[⟨3,(p.length:Int),0,.zero⟩]))):=hIx λk=>zsC p i _ k rfl
 have Q:Hid (∀h,(p++[(⟨2,(p.length:Int)+1,0,.zero⟩:Ins)]++i++[(⟨3,(p.length:Int),0,.zero⟩:Ins)])[p.length]'h=⟨2,(p.length:Int)+1,0,.zero⟩):=λh=>zq2 p i _ _ h
 have D:Hid ((p++[(⟨2,(p.length:Int)+1,0,.zero⟩:Ins)]++i++[(⟨3,(p.length:Int),0,.zero⟩:Ins)]).length=p.length+1+i.length+1):=hIx (by simp;omega);generalize hL:p++[(⟨2,(p.length:Int)+1,0,.zero⟩:Ins)]++i++[(⟨3,(p.length:Int),0,.zero⟩:Ins)]=L at HM Q D;go_wp2_with (at_builtin;refine zb4 rfl _ _ rfl B _ (p++[⟨2,(p.length:Int)+1,0,.zero⟩]++i) rfl y U _ ⟨3,p.length,0,.zero⟩ rfl w1.heap.size rfl 1 rfl (by rw[Z];omega) ?_;intro v2 w2 j h3 h0 hd;rw[hL]at j;have K:p.length<L.length:=(by rw[D.out];omega);have ha:(p.length:Int)<(L.length:Int):=(by omega);obtain⟨gq,cq,rfl,h4,h6⟩:=j.head (by omega);have ⟨⟨_,hc⟩,_,h9⟩:=j.ab p.length K);go_ret;have x:=j.setAB p.length K 2 (by decide) (jA (L.length:Int)) ⟨2,(p.length:Int)+1,((p.length+1+i.length+1:Nat):Int),.zero⟩ (by rw[Q.out,D.out];rfl);rw[HM.out]at x;exact⟨_,_,rfl,.star _ _ _ _ F,x.1,(m.trans h3).setCell h4 _,(((Keeps.alloc _ _).trans G).trans (Keeps.own y h0)).trans (Keeps.only j x.2),by simp;omega⟩
theorem OwnNT.alloc{w:World}{v:Value}{l:List Nat}(h:OwnNT w v l)(o:Obj):OwnNT (w.alloc o) v l:=h.keep λg a=>Qs _ _ _ (h.lt g a)
theorem zeo{P:List Ins}{s:jE}{i k:Nat}{x:Ins}(h:P[k]? = some x)(m:Nat):Eps P s i k m↔(x.kind=2/\(m=x.a.toNat\/m=x.b.toNat))\/(x.kind=3/\m=x.a.toNat)\/(x.kind=4/\i=0/\m=k+1)\/(x.kind=5/\i=s.length/\m=k+1):=by
 constructor
 ·intro d
  cases d with
  |one y h1 h2=>rw[h]at h1;injection h1 with h1;subst h1;exact .inl ⟨h2,.inl rfl⟩
  |two y h1 h2=>rw[h]at h1;injection h1 with h1;subst h1;exact .inl ⟨h2,.inr rfl⟩
  |jump y h1 h2=>rw[h]at h1;injection h1 with h1;subst h1;exact .inr (.inl ⟨h2,rfl⟩)
  |begin y h1 h2 c=>rw[h]at h1;injection h1 with h1;subst h1;exact .inr (.inr (.inl ⟨h2,c,rfl⟩))
  |finish y h1 h2 c=>rw[h]at h1;injection h1 with h1;subst h1;exact .inr (.inr (.inr ⟨h2,c,rfl⟩))
 ·rintro(⟨h2,rfl|rfl⟩|⟨h2,rfl⟩|⟨h2,c,rfl⟩|⟨h2,c,rfl⟩)
  ·exact .one _ _ h h2
  ·exact .two _ _ h h2
  ·exact .jump _ _ h h2
  ·exact .begin _ _ h h2 c
  ·exact .finish _ _ h h2 c
theorem OwnNT.cap{w:World}{g n c:Nat}{l:List Nat}(h:OwnNT w (.slice g n c) l):l.length<=c:=by
 rcases h.2 with ⟨h1,_⟩|⟨d,cap,a,h1,_,_,b,_⟩
 ·cases h1
 ·injection h1 with _ _ h1
  rw[h1];exact b
theorem OwnP.keep{w w':World}{v:Value}{l:List Ins}(h:OwnP w 0 v l)(b:∀g,v.ownBlock=some g->w'.heap[g]? = w.heap[g]?):OwnP w' 0 v l:=by
 refine⟨h.1,?_⟩
 rcases h.2 with d|⟨g,cap,a,h1,h2,e,c⟩
 ·exact .inl d
 ·exact .inr ⟨g,cap,a,h1,h2,(b g (by rw[h1];rfl)).trans e,c⟩
structure Kept(w wr:World)(gt gF:Nat)(vl vl':Value):Prop where
 blocks:∀k,k<w.heap.size->k≠gt->k≠gF->vl.ownBlock≠some k->wr.heap[k]? = w.heap[k]?
 own:∀g,vl'.ownBlock=some g->vl.ownBlock=some g\/w.heap.size<=g
 below:Below 0 w wr
structure AddR(P:List Ins)(s:ByteArray)(i n f:Nat)(F:Nat->Nat)(ls:List Nat)(gt gF:Nat)(pv vl:Value)(w:World)(vt:Value)(wr:World)(todo:List Nat)(G:Nat->Nat)(lg:List Nat)(vl':Value):Prop where
 stk:OwnNT wr vt todo
 thr:ThM wr gt pv s gF P.length vl' G lg
 dfs:DfsI P s.data.toList i n f F ls G lg todo
 small:∀k∈todo,k<P.length
 len:todo.length+unmet P.length G<=1+P.length
 prg:OwnP wr 0 pv P
 new:∀g,vt.ownBlock=some g->w.heap.size<=g/\vl'.ownBlock≠some g
 kept:Kept w wr gt gF vl vl'
structure AddA(P:List Ins)(s:ByteArray)(gt gF:Nat)(pv vl:Value)(w:World)(gq cq:Nat)(W3:World)(td:List Nat)(G:Nat->Nat)(lg:List Nat)(v3:Value):Prop where
 stk:OwnNT W3 (.slice gq td.length cq) td
 thr:ThM W3 gt pv s gF P.length v3 G lg
 prg:OwnP W3 0 pv P
 new:w.heap.size<=gq/\v3.ownBlock≠some gq
 kept:Kept w W3 gt gF vl v3
theorem AddR.after{P:List Ins}{s:ByteArray}{i n f:Nat}{F:Nat->Nat}{V:List Nat}{l d:Nat}{I T:Value}{w wr:World}{o S k:Nat}{L:List Nat}{G:Nat->Nat}{q:List Nat}{m:Value}
 (h:AddR P s i n f F V l d I T w (.slice o (L++[k]).length S) wr (L++[k]) G q m) (c:G k=0) (W:k<P.length) (X:l<w.heap.size) (h4:d<w.heap.size) {u:Value} (hu:u=jA ((f+1:Nat):Int))
 {r:World} {g cap:Nat} (h1:OwnNT r (.slice g (q++[k]).length cap) (q++[k])) (h2:∀j,j<(wr.setCell ⟨d,k,none⟩ u).heap.size->m.ownBlock≠some j->r.heap[j]? = (wr.setCell ⟨d,k,none⟩ u).heap[j]?)
 (b:m.ownBlock=some g\/(wr.setCell ⟨d,k,none⟩ u).heap.size<=g) (h6:Below 0 (wr.setCell ⟨d,k,none⟩ u) r):
 AddA P s l d I T w o S (r.setCell ⟨l,3,none⟩ (.slice g (q++[k]).length cap)) L (upd G k (f+1)) (q++[k]) (.slice g (q++[k]).length cap):=by
 subst hu;have Z:(wr.setCell ⟨d,k,none⟩ (jA ((f+1:Nat):Int))).heap.size=wr.heap.size:=by simp
 rw[Z]at h2 b;have h0:=h.kept.below.size;obtain⟨U,n2⟩:=h.thr.ne;have J:=h.new o rfl;have K:=h.stk.lt o rfl;have D:o≠d:=by omega
 have E:o≠l:=by omega
 have C:g≠d:=λe=>by
  rcases b with b|b
  ·exact h.thr.far (by rw[b,e])
  ·omega
 have B:g≠l:=λe=>by
  rcases b with b|b
  ·exact n2 (by rw[b,e])
  ·omega
 have A:g≠o:=λe=>by
  rcases b with b|b
  ·exact J.2 (by rw[b,e])
  ·omega
 have Q:∀j,j≠d->(wr.setCell ⟨d,k,none⟩ (jA ((f+1:Nat):Int))).heap[j]? = wr.heap[j]? := λj a=>Qm wr ⟨d,k,none⟩ _ j a
 have H:∀j,j≠l->(r.setCell ⟨l,3,none⟩ (.slice g (q++[k]).length cap)).heap[j]? = r.heap[j]? := λj a=>Qm r ⟨l,3,none⟩ _ j a
 have y:∀j,j<wr.heap.size->j≠d->j≠l->m.ownBlock≠some j->(r.setCell ⟨l,3,none⟩ (.slice g (q++[k]).length cap)).heap[j]? = wr.heap[j]? := λj a t x z=>((H j x).trans (h2 j a z)).trans (Q j t)
 have N:∀j,I.ownBlock=some j->j<wr.heap.size/\j≠d/\j≠l/\m.ownBlock≠some j:=λj a=>by
  refine⟨(QE h.prg j a).2,?_,?_,?_⟩
  ·intro e;subst e;exact absurd a (zbl h.prg h.thr.frm (by decide))
  ·intro e;subst e;obtain⟨cF,hb⟩:=h.thr.blk;exact absurd a (zbl h.prg hb (by decide))
  ·intro e
   rcases h.thr.lst.2 with ⟨t,_⟩|⟨g1,_,_,t,_,z,_⟩
   ·rw[t]at e;cases e
   ·rw[t]at e
    injection e with e
    have e:g1=j:=e;subst e;exact absurd a (zbl h.prg z (by decide))
 refine⟨?_,⟨?_,?_,?_,?_,?_⟩,?_,⟨J.1,λe=>A (by injection e)⟩,⟨?_,?_,?_⟩⟩
 ·exact h.stk.pop.keep λj a=>by
   have e:o=j:=by injection a
   subst e;exact y o K D E J.2
 ·exact(h.thr.blk.keep ((h2 l (by omega) n2).trans (Q l U))).set _
 ·exact((h.thr.frm.set k (f+1)).keep (h2 d (by omega) h.thr.far)).keep (H d λe=>U e.symm)
 ·exact h1.keep λj a=>H j λe=>by
   have x:g=j:=by injection a
   exact B (x.trans e)
 ·intro e;exact C (by injection e)
 ·have e:=h.thr.len
  have x:=zmk (v:=f+1) W c (by omega);rw[Qb,QH];omega
 ·exact h.prg.keep λj a=>by
   obtain⟨a1,a2,Y,a4⟩:=N j a;exact y j a1 a2 Y a4
 ·intro j a t x z
  have e4:m.ownBlock≠some j:=λe=>by
   rcases h.kept.own j e with O|O
   ·exact z O
   ·omega
  exact(y j (by omega) x t e4).trans (h.kept.blocks j a t x z)
 ·intro j a
  have e:g=j:=by injection a
  subst e
  rcases b with b|b
  ·exact h.kept.own g b
  ·right;omega
 ·exact((h.kept.below.setCell (Qn _) _).trans h6).setCell (Qn _) _
def zwA(P:List Ins)(s:ByteArray)(i n f:Nat)(F:Nat->Nat)(j:List Nat)(h e:Nat)(c g:Value)(w:World)(d:Value)(wr:World):Prop:=
 ∃a G k b,AddR P s i n f F j h e c g w d wr a G k b
def AddW(P:List Ins)(s:ByteArray)(i n f:Nat)(F:Nat->Nat)(j:List Nat)(c b:Nat)(g h:Value)(w:World)(e:Ending)(w':World):Prop:=
 ∃G d a,e=jC (.tuple #[])/\ThM w' c g s b P.length a G d/\AddPost P s.data.toList i n f F j G d/\OwnP w' 0 g P/\Kept w w' c b h a
theorem AddR.next{P:List Ins}{s:ByteArray}{i n f:Nat}{F:Nat->Nat}{K:List Nat}{x l:Nat}{A E:Value}{w wr:World}{r D k:Nat}{o:List Nat}{G:Nat->Nat}{B:List Nat}{z:Value}
 (h:AddR P s i n f F K x l A E w (.slice r (o++[k]).length D) wr (o++[k]) G B z) (c:G k=0) (S:k<P.length)
 {u:World} {J:Value} (a:AddA P s x l A E w r D u o (upd G k (f+1)) (B++[k]) J) (X:l<w.heap.size) (T:x<w.heap.size) {q:World} {vt5:Value} {succ:List Nat} (L:OwnNT q vt5 (o++succ))
 (b:∀j,j<u.heap.size->j≠r->q.heap[j]? = u.heap[j]?) (H:∀g,vt5.ownBlock=some g->g=r\/u.heap.size<=g) (C:Below 0 u q) (Z:∀m,m∈succ↔Eps P s.data.toList i k m) (I:∀m∈succ,m<P.length) (h0:succ.length<=2):
 zwA P s i n f F K x l A E w vt5 q/\lenV vt5+2*zl2 q l<lenV (.slice r (o.length+1) D)+2*zl2 wr l:=by
 have hu:=zmk (v:=f+1) S c (by omega);have hz:=a.kept.below.size;have N:=a.new;obtain⟨n1,n2⟩:=a.thr.ne;have hl:=h.len;rw[Qb,QH]at hl;have V:=b l (by omega) (by omega);have kT:=b x (by omega) (by omega);have t:FromN q l P.length (upd G k (f+1)):=a.thr.frm.keep V;refine⟨⟨o++succ,upd G k (f+1),B++[k],J,L,⟨a.thr.blk.keep kT,t,a.thr.lst.keep λj y=>b j (a.thr.lst.lt j y) λe=>N.2 (e ▸ y),a.thr.far,a.thr.len⟩,h.dfs.mark c Z,λm hm=>?_,?_,a.prg.keep λj y=>b j (QE a.prg j y).2 λe=>?_,λg Q=>?_,⟨λj h1 h2 Y U=>?_,a.kept.own,a.kept.below.trans C⟩⟩,?_⟩
 ·rcases QY.1 hm with h1|h1
  ·exact h.small m (by simp[h1])
  ·exact I m h1
 ·rw[Qb];omega
 ·subst e
  rcases a.stk.2 with ⟨d,_⟩|⟨g1,_,_,d,_,e3,_⟩
  ·cases d
  ·injection d with d
   injection d with d
   injection d with d
   subst d;exact absurd y (zbl a.prg e3 (by decide))
 ·rcases H g Q with e|e
  ·subst e;exact N
  ·exact⟨by omega,λW=>by have:=a.thr.lst.lt g W;omega⟩
 ·exact(b j (by omega) (by omega)).trans (a.kept.blocks j h1 h2 Y U)
 ·rw[t.unmet,h.thr.frm.unmet]
  obtain⟨A5,c5,O⟩:=L.form;rw[O];simp only[lenV,Qb];omega
theorem ztI(P:List Ins)(he:OkP P)(h4:P.length<=400)(s:ByteArray)(i n f:Nat)(hn:n<P.length)(hf:f<=8192)(F:Nat->Nat)(ls:List Nat)(E Y:Nat)(pv vl:Value)(w:World)
 (hT:ThM w E pv s Y P.length vl F ls) (hP:OwnP w 0 pv P) (l:Y<w.heap.size) (d:E<w.heap.size):
 Calls prog 295 #[.pointer E,jA (n:Int),jA (i:Int),jA (f:Int)] w (AddW P s i n f F ls E Y pv vl w):=by
 have hh:=hIx he;obtain⟨gp,cp,rfl,hs⟩:=OwnP.head hP (by omega)
 go_in
 go_wp2
 go_loopw [8] (λv wr=>zwA P s i n f F ls E Y (.slice gp P.length cp) vl w v wr) (λv wr=>lenV v+2*zl2 wr Y)
 case atStart=>
  have A:∀o,∀k,k<w.heap.size->(w.alloc o).heap[k]? = w.heap[k]? := λo k r=>Qs _ _ _ r
  refine⟨[n],F,ls,vl,OwnNT.one w n,⟨hT.blk.keep (A _ _ d),hT.frm.keep (A _ _ l),hT.lst.keep λg q=>A _ _ (hT.lst.lt g q),hT.far,hT.len⟩,DfsI.start _ _ _ _ _,λk r=>by rw[QF.1 r];exact hn,?_,hP.keep λg q=>A _ _ (QE hP g q).2,λg q=>?_,⟨λk r _ _ _=>A _ _ r,λg q=>.inl q,(Qi _ _).alloc (Qn _) _⟩⟩
  ·have:=zot P.length F;simp;omega
  ·have e:w.heap.size=g:=by simpa[Value.ownBlock]using q
   subst e;exact⟨Qd _,λh=>absurd (hT.lst.lt _ h) (by omega)⟩
 case round=>
  obtain⟨h9,G,z,B,C⟩:=hrel
  rcases List.eq_nil_or_concat h9 with rfl|⟨y,k,rfl⟩
  ·obtain⟨A1,c1,rfl⟩:=C.stk.form
   dsimp only[List.length_nil];go_wp2;exact bodyPost_end (v:=.tuple #[]) (by simp[results,results295,go_sem]) rfl ⟨G,z,B,rfl,C.thr,C.dfs.stop,C.prg,C.kept⟩
  ·rw[List.concat_eq_append]at C
   obtain⟨Z,cq,rfl,hp⟩:=C.stk.head (by simp);have r:k<P.length:=C.small k (by simp);have h0:=C.stk.cap;have h7:=C.stk.cell y.length (by simp);have hc:=C.stk.pop;have ho:=C.new Z rfl;obtain⟨t0,t1,⟨cF,t2⟩,t3,t4⟩:=C.thr.blk.cells;obtain⟨q0,q1⟩:=C.thr.frm.cell k r;have hq:y.length+unmet P.length G<=P.length:=by have:=C.len;simp at this;omega
   rw[Qb,QH]at h0 ⊢;rw[ZW (Qd _)]at h7;simp only[Z8,List.getElem_cons_zero]at h7;have j1:IntKind.i64.wrap (((y.length+1:Nat):Int)-1)=((y.length:Nat):Int):=by rw[Qz _ (by omega)];omega
   have j2:(0:Int)<((y.length+1:Nat):Int):=by omega
   have j3:((y.length:Nat):Int)<((y.length+1:Nat):Int):=by omega
   have j4:((k:Nat):Int)<(P.length:Int):=by omega
   have j5:y.length<=cq:=by omega
   have a:=hIx C;clear C h0
   by_cases c:G k=0
   ·rw[c]at q0
    have q0:wr.cell? ⟨Y,k,none⟩=some (jA 0):=q0;have i6:IntKind.i64.wrap ((f:Int)+1)=(f:Int)+1:=Qz _ (by omega);have hx:=hh.out k r;have L:Hid (P[k]? = some P[k]):=hIx (Qe r);have J:Hid (∀W,OwnP W 0 (.slice gp P.length cp) P->Ins7 W gp (k*7) P[k]):=λW h=>⟨(h.spot k r 0 (by decide)).1,(h.spot k r 1 (by decide)).1,(h.spot k r 2 (by decide)).1,(h.spot k r 3 (by decide)).1,(h.spot k r 4 (by decide)).1,(h.spot k r 5 (by decide)).1,(h.spot k r 6 (by decide)).1⟩
    generalize P[k]=x at hx L J;obtain⟨kd,xa,xb,⟨sa,sb,sc,sd⟩⟩:=x;have I:ThB (wr.setCell ⟨Y,k,none⟩ (jA ((f:Int)+1))) E (.slice gp P.length cp) s Y P.length B:=a.out.thr.blk.keep (Qm wr ⟨Y,k,none⟩ _ E a.out.thr.ne.1);obtain⟨m0,m1,⟨hr,m2⟩,m3,m4⟩:=I.cells;have O:OwnNT (wr.setCell ⟨Y,k,none⟩ (jA ((f:Int)+1))) B z:=a.out.thr.lst.keep λg q=>Qm wr ⟨Y,k,none⟩ _ g λe=>a.out.thr.far (by rw[q];exact Zm some e)
    have ht:z.length<=400:=by have:=a.out.thr.len;omega
    dsimp only at hx
    rcases hx with ⟨rfl,⟨a0,a1⟩,b0,b1⟩|⟨rfl,a0,a1⟩|⟨rfl|rfl|rfl,hi⟩|rfl
    ·obtain⟨na,rfl⟩:=Zs a0
     obtain⟨nb,rfl⟩:=Zs b0;go_wp2_with (at_builtin;first|(refine zat rfl (.tmp 47) (.tmp 49) rfl B z rfl O _ [k] rfl wr.heap.size (by simp) 1 rfl (by simp) (by simp;omega) ?_;intro g3 D N h1 h2 Q h4 S T;have b:=a.out.after c r d l (u:=jA ((f:Int)+1)) rfl h1 h2 Q T;rw[show (z++[k]).length=z.length+1 from Qb]at b;have ⟨_,_,_,p3,p4⟩:=(I.keep (h2 E (by simp;have:=a.out.kept.below.size;omega) a.out.thr.ne.2)).cells;have ⟨o0,o1,⟨_,o2⟩,o3,_⟩:=b.thr.blk.cells;have ⟨x0,x1,x2,x3,x4,x5,x6⟩:=J.out _ b.prg;have H:E<N.heap.size:=(by simp at S;have:=a.out.kept.below.size;omega))|(refine zat rfl (.tmp 64) (.tmp 69) rfl (.slice Z y.length cq) y rfl (b.stk.alloc _) _ [nb,na] rfl (N.heap.size+1) (by simp) 2 rfl (by simp) (by simp;omega) ?_;intro g5 X W5 V e2 t e4 e5 e6;rw[show (y++[nb,na]).length=y.length+2 from Qb]at V))
     exact a.out.next c r b l d V (λj K A=>(e2 j (by simp at K ⊢;omega) (λe=>A (by injection e with e;exact e.symm))).trans (Qs _ _ _ K)) (λg q=>by
      have e7:g5=g:=by injection q
      subst e7
      rcases t with t|t
      ·left;injection t with t;exact t.symm
      ·right;simp at t ⊢;omega) (((Qi _ _).alloc (Qn _) _).trans e6) (λm=>by rw[zeo L.out];simp[or_comm]) (λm hm=>by simp at hm;omega) (by simp)
    ·obtain⟨na,rfl⟩:=Zs a0
     go_wp2_with (at_builtin;first|(refine zat rfl (.tmp 47) (.tmp 49) rfl B z rfl O _ [k] rfl wr.heap.size (by simp) 1 rfl (by simp) (by simp;omega) ?_;intro g3 D N h1 h2 Q h4 S T;have b:=a.out.after c r d l (u:=jA ((f:Int)+1)) rfl h1 h2 Q T;rw[show (z++[k]).length=z.length+1 from Qb]at b;have ⟨_,_,_,p3,p4⟩:=(I.keep (h2 E (by simp;have:=a.out.kept.below.size;omega) a.out.thr.ne.2)).cells;have ⟨o0,o1,⟨_,o2⟩,o3,_⟩:=b.thr.blk.cells;have ⟨x0,x1,x2,x3,x4,x5,x6⟩:=J.out _ b.prg;have H:E<N.heap.size:=(by simp at S;have:=a.out.kept.below.size;omega))|(refine zat rfl (.tmp 75) (.tmp 78) rfl (.slice Z y.length cq) y rfl (b.stk.alloc _) _ [na] rfl (N.heap.size+1) (by simp) 1 rfl (by simp) (by simp;omega) ?_;intro g5 X W5 V e2 t e4 e5 e6;rw[show (y++[na]).length=y.length+1 from Qb]at V))
     exact a.out.next c r b l d V (λj K A=>(e2 j (by simp at K ⊢;omega) (λe=>A (by injection e with e;exact e.symm))).trans (Qs _ _ _ K)) (λg q=>by
      have e7:g5=g:=by injection q
      subst e7
      rcases t with t|t
      ·left;injection t with t;exact t.symm
      ·right;simp at t ⊢;omega) (((Qi _ _).alloc (Qn _) _).trans e6) (λm=>by rw[zeo L.out];simp) (λm hm=>by simp at hm;omega) (by simp)
    ·go_wp2_with (at_builtin;refine zat rfl (.tmp 47) (.tmp 49) rfl B z rfl O _ [k] rfl wr.heap.size (by simp) 1 rfl (by simp) (by simp;omega) ?_;intro g3 D N h1 h2 Q h4 S T;have b:=a.out.after c r d l (u:=jA ((f:Int)+1)) rfl h1 h2 Q T;rw[show (z++[k]).length=z.length+1 from Qb]at b;have ⟨_,_,_,p3,p4⟩:=(I.keep (h2 E (by simp;have:=a.out.kept.below.size;omega) a.out.thr.ne.2)).cells;have ⟨o0,o1,⟨_,o2⟩,o3,_⟩:=b.thr.blk.cells;have ⟨x0,x1,x2,x3,x4,x5,x6⟩:=J.out _ b.prg;have H:E<N.heap.size:=(by simp at S;have:=a.out.kept.below.size;omega))
     exact a.out.next c r b l d (vt5:=.slice Z y.length cq) (succ:=[]) (by rw[QO];exact b.stk.alloc _) (λj K _=>Qs _ _ _ K) (λg q=>.inl (by injection q with q;exact q.symm)) ((Qi _ _).alloc (Qn _) _) (λm=>by rw[zeo L.out];simp) (by simp) (by simp)
    ·have i7:IntKind.i64.wrap ((k:Int)+1)=(k:Int)+1:=Qz _ (by omega)
     by_cases U:i=0
     ·have h8:((i:Int)==0)=true:=by rw[U];rfl
      have CI:=hIx U;clear U;go_wp2_with (at_builtin;first|(refine zat rfl (.tmp 47) (.tmp 49) rfl B z rfl O _ [k] rfl wr.heap.size (by simp) 1 rfl (by simp) (by simp;omega) ?_;intro g3 D N h1 h2 Q h4 S T;have b:=a.out.after c r d l (u:=jA ((f:Int)+1)) rfl h1 h2 Q T;rw[show (z++[k]).length=z.length+1 from Qb]at b;have ⟨_,_,_,p3,p4⟩:=(I.keep (h2 E (by simp;have:=a.out.kept.below.size;omega) a.out.thr.ne.2)).cells;have ⟨o0,o1,⟨_,o2⟩,o3,_⟩:=b.thr.blk.cells;have ⟨x0,x1,x2,x3,x4,x5,x6⟩:=J.out _ b.prg;have H:E<N.heap.size:=(by simp at S;have:=a.out.kept.below.size;omega))|(refine zat rfl (.tmp 100) (.tmp 103) rfl (.slice Z y.length cq) y rfl (b.stk.alloc _) _ [k+1] rfl (N.heap.size+1) (by simp) 1 rfl (by simp) (by simp;omega) ?_;intro g5 X W5 V e2 t e4 e5 e6;rw[show (y++[k+1]).length=y.length+1 from Qb]at V))
      exact a.out.next c r b l d V (λj K A=>(e2 j (by simp at K ⊢;omega) (λe=>A (by injection e with e;exact e.symm))).trans (Qs _ _ _ K)) (λg q=>by
       have e7:g5=g:=by injection q
       subst e7
       rcases t with t|t
       ·left;injection t with t;exact t.symm
       ·right;simp at t ⊢;omega) (((Qi _ _).alloc (Qn _) _).trans e6) (λm=>by rw[zeo L.out];simp[CI.out]) (λm hm=>by simp at hm;omega) (by simp)
     ·have h8:((i:Int)==0)=false:=Qc.2 (by omega)
      have CI:=hIx U;clear U;go_wp2_with (at_builtin;refine zat rfl (.tmp 47) (.tmp 49) rfl B z rfl O _ [k] rfl wr.heap.size (by simp) 1 rfl (by simp) (by simp;omega) ?_;intro g3 D N h1 h2 Q h4 S T;have b:=a.out.after c r d l (u:=jA ((f:Int)+1)) rfl h1 h2 Q T;rw[show (z++[k]).length=z.length+1 from Qb]at b;have ⟨_,_,_,p3,p4⟩:=(I.keep (h2 E (by simp;have:=a.out.kept.below.size;omega) a.out.thr.ne.2)).cells;have ⟨o0,o1,⟨_,o2⟩,o3,_⟩:=b.thr.blk.cells;have ⟨x0,x1,x2,x3,x4,x5,x6⟩:=J.out _ b.prg;have H:E<N.heap.size:=(by simp at S;have:=a.out.kept.below.size;omega));exact a.out.next c r b l d (vt5:=.slice Z y.length cq) (succ:=[]) (by rw[QO];exact b.stk.alloc _) (λj K _=>Qs _ _ _ K) (λg q=>.inl (by injection q with q;exact q.symm)) ((Qi _ _).alloc (Qn _) _) (λm=>by rw[zeo L.out];simp[CI.out]) (by simp) (by simp)
    ·have i7:IntKind.i64.wrap ((k:Int)+1)=(k:Int)+1:=Qz _ (by omega)
     have ha:s.data.toList.length=s.size:=by simp
     have hd:=hIx ha;clear ha
     by_cases U:i=s.size
     ·have h8:((i:Int)==(s.size:Int))=true:=by rw[U];simp
      have CI:=hIx U;clear U;go_wp2_with (at_builtin;first|(refine zat rfl (.tmp 47) (.tmp 49) rfl B z rfl O _ [k] rfl wr.heap.size (by simp) 1 rfl (by simp) (by simp;omega) ?_;intro g3 D N h1 h2 Q h4 S T;have b:=a.out.after c r d l (u:=jA ((f:Int)+1)) rfl h1 h2 Q T;rw[show (z++[k]).length=z.length+1 from Qb]at b;have ⟨_,_,_,p3,p4⟩:=(I.keep (h2 E (by simp;have:=a.out.kept.below.size;omega) a.out.thr.ne.2)).cells;have ⟨o0,o1,⟨_,o2⟩,o3,_⟩:=b.thr.blk.cells;have ⟨x0,x1,x2,x3,x4,x5,x6⟩:=J.out _ b.prg;have H:E<N.heap.size:=(by simp at S;have:=a.out.kept.below.size;omega))|(refine zat rfl (.tmp 100) (.tmp 103) rfl (.slice Z y.length cq) y rfl (b.stk.alloc _) _ [k+1] rfl (N.heap.size+1) (by simp) 1 rfl (by simp) (by simp;omega) ?_;intro g5 X W5 V e2 t e4 e5 e6;rw[show (y++[k+1]).length=y.length+1 from Qb]at V))
      exact a.out.next c r b l d V (λj K A=>(e2 j (by simp at K ⊢;omega) (λe=>A (by injection e with e;exact e.symm))).trans (Qs _ _ _ K)) (λg q=>by
       have e7:g5=g:=by injection q
       subst e7
       rcases t with t|t
       ·left;injection t with t;exact t.symm
       ·right;simp at t ⊢;omega) (((Qi _ _).alloc (Qn _) _).trans e6) (λm=>by rw[zeo L.out,hd.out];simp[CI.out]) (λm hm=>by simp at hm;omega) (by simp)
     ·have h8:((i:Int)==(s.size:Int))=false:=Qc.2 (by omega)
      have CI:=hIx U;clear U;go_wp2_with (at_builtin;refine zat rfl (.tmp 47) (.tmp 49) rfl B z rfl O _ [k] rfl wr.heap.size (by simp) 1 rfl (by simp) (by simp;omega) ?_;intro g3 D N h1 h2 Q h4 S T;have b:=a.out.after c r d l (u:=jA ((f:Int)+1)) rfl h1 h2 Q T;rw[show (z++[k]).length=z.length+1 from Qb]at b;have ⟨_,_,_,p3,p4⟩:=(I.keep (h2 E (by simp;have:=a.out.kept.below.size;omega) a.out.thr.ne.2)).cells;have ⟨o0,o1,⟨_,o2⟩,o3,_⟩:=b.thr.blk.cells;have ⟨x0,x1,x2,x3,x4,x5,x6⟩:=J.out _ b.prg;have H:E<N.heap.size:=(by simp at S;have:=a.out.kept.below.size;omega));exact a.out.next c r b l d (vt5:=.slice Z y.length cq) (succ:=[]) (by rw[QO];exact b.stk.alloc _) (λj K _=>Qs _ _ _ K) (λg q=>.inl (by injection q with q;exact q.symm)) ((Qi _ _).alloc (Qn _) _) (λm=>by rw[zeo L.out,hd.out];simp[CI.out]) (by simp) (by simp)
    ·go_wp2_with (at_builtin;refine zat rfl (.tmp 47) (.tmp 49) rfl B z rfl O _ [k] rfl wr.heap.size (by simp) 1 rfl (by simp) (by simp;omega) ?_;intro g3 D N h1 h2 Q h4 S T;have b:=a.out.after c r d l (u:=jA ((f:Int)+1)) rfl h1 h2 Q T;rw[show (z++[k]).length=z.length+1 from Qb]at b;have ⟨_,_,_,p3,p4⟩:=(I.keep (h2 E (by simp;have:=a.out.kept.below.size;omega) a.out.thr.ne.2)).cells;have ⟨o0,o1,⟨_,o2⟩,o3,_⟩:=b.thr.blk.cells;have ⟨x0,x1,x2,x3,x4,x5,x6⟩:=J.out _ b.prg;have H:E<N.heap.size:=(by simp at S;have:=a.out.kept.below.size;omega))
     exact a.out.next c r b l d (vt5:=.slice Z y.length cq) (succ:=[]) (by rw[QO];exact b.stk.alloc _) (λj K _=>Qs _ _ _ K) (λg q=>.inl (by injection q with q;exact q.symm)) ((Qi _ _).alloc (Qn _) _) (λm=>by rw[zeo L.out];simp) (by simp) (by simp)
   ·have c1:decide ((0:Int)<((G k:Nat):Int))=true:=by simp;omega
    go_wp2_with fail;have C:=a.out;exact⟨⟨y,G,z,B,hc,C.thr,C.dfs.skip c,λm hm=>C.small m (by simp[hm]),by omega,C.prg,C.new,C.kept⟩,by simp[lenV]⟩
theorem ThM.fresh{w:World}{b:Nat}{c:Value}{s:ByteArray}{a n:Nat}(hb:ThB w b c s a n (jD 0 0))(d:FromN w a n (λ_=>0)):ThM w b c s a n (jD 0 0) (λ_=>0) []:=
 ⟨hb,d,OwnNT.nil w,by simp[Value.ownBlock],by have:=zot n (λ_=>0);simpa using this⟩
theorem ThM.keep{w w':World}{b:Nat}{e:Value}{s:ByteArray}{a n:Nat}{c:Value}{G:Nat->Nat}{d:List Nat}(h:ThM w b e s a n c G d)(h1:w'.heap[b]? = w.heap[b]?)(h2:w'.heap[a]? = w.heap[a]?)(f:∀g,c.ownBlock=some g->w'.heap[g]? = w.heap[g]?):ThM w' b e s a n c G d:=
 ⟨h.blk.keep h1,h.frm.keep h2,h.lst.keep f,h.far,h.len⟩
theorem FromN.made{w:World}{g n:Nat}(h:w.ownsRow w.heap.size 3 1 (.slice g n n) n (List.replicate n (jA 0))\/w.ownsRow 0 3 1 (.slice g n n) n (List.replicate n (jA 0))):FromN w g n (λ_=>0):=by
 have c:∀base,w.ownsRow base 3 1 (.slice g n n) n (List.replicate n (jA 0))->FromN w g n (λ_=>0):=λbase h=>by
  rcases h.2 with ⟨h1,_⟩|⟨l,cap,d,h1,_,k,_,_,j,f⟩
  ·cases h1
  ·injection h1 with h1 _ h2
   injection h1 with h1
   injection h1 with h1
   subst h1;subst h2
   unfold FromN;rw[k]
   have e:d.toList=(List.range n).map λ_=>natV 0:=by
    rw[Nat.mul_one]at j f;rw[QR (by rw[ZC];omega)]at f;rw[f]
    apply List.ext_getElem (by simp)
    intro i a b;simp[natV]
   rw[<-e]
 exact h.elim (c _) (c _)
section
variable {ops:Array Oper} {rest:List Oper} {o:Oper} {a:Act} {Q:Exit->Act->World->Prop} {w:World}
theorem zfM(b:o.guard=none)(x y:Operand)(d:o.op=.makeSlice 54 x y)(n g:Nat)(j:w.heap.size=g)(r:a.eval x=jA (n:Int))(m:a.eval y=jA (n:Int))(s:n<=1048576)
 (k:∀w',FromN w' g n (λ_=>0)->w w'->g<w'.heap.size->wpList prog ops Q rest (a.put o.dst (.slice g n n)) w'):
 wpList prog ops Q (o::rest) a w:=by
 subst j;obtain⟨l,q,c,f,h⟩:=ZG zmh;refine wpList_make_full w b x y 54 d 0 3 l (jA 0) 1 underlying54 q c f .i64 .i64 _ _ n r m rfl rfl (by rw[h];omega) (by unfold maxLen;omega) (Qn _) λw' h1 h2=>?_
 rw[Nat.mul_one]at h1;have e:(madeCells (jA 0).cells n).toList=List.replicate n (jA 0):=toList_madeCells_one (jA 0) n;rw[e]at h1;have i:=FromN.made (.inr h1);exact k w' i (zpX h2) (zaG i)
end
theorem zti{P:List Ins}{sl:jE}{t f:Nat}{F:Nat->Nat}{c:List Nat}{G:Nat->Nat}{d:List Nat}(g:zph P sl t F false f)(b:Thr P sl t F c)(e:∀m,F m<=t)(a:AddPost P sl t 0 t F c G d):
 Comp P sl t G false f/\Thr P sl t G d/\∀m,G m<=t+1:=
 have h1:∀m,F m<=t+1:=λm=>XL (e m)
 ⟨zpr g b h1 a,a.thr b h1 (R.start t),a.le h1⟩
