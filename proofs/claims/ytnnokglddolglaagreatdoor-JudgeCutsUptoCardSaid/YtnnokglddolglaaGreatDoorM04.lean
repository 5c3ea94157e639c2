/- Lemmas for the last texts. -/
import Derived.Test.YtnnokglddolglaaGreatDoorM03
import Derived.Deep.AppendLies
import Derived.Deep.Cut
set_option maxHeartbeats 1600000
set_option maxRecDepth 100000
namespace Go.Proofs.YtnnokglddolglaaGreatDoor
open Go.RowKit Go.Proofs.Tryz
def natV(n:Nat):Value:=jA (n:Int)
def OwnNT(w:World)(v:Value)(l:List Nat):Prop:=w.ownsRow 0 3 1 v l.length (l.map natV)
theorem OwnNT.nil(w:World):OwnNT w (jD 0 0) []:=ZU w 0 3 1
theorem OwnNT.keep{w w':World}{v:Value}{l:List Nat}(h:OwnNT w v l)(b:∀g,v.ownBlock=some g->w'.heap[g]? = w.heap[g]?):OwnNT w' v l:=by
 refine⟨h.1,?_⟩
 rcases h.2 with d|⟨g,cap,a,h1,h2,e,c⟩
 ·exact .inl d
 ·exact .inr ⟨g,cap,a,h1,h2,(b g (by rw[h1];rfl)).trans e,c⟩
theorem OwnNT.lt{w:World}{v:Value}{l:List Nat}(h:OwnNT w v l):∀g,v.ownBlock=some g->g<w.heap.size:=λg a=>(QK h g a).2
theorem OwnNT.form{w:World}{v:Value}{l:List Nat}(h:OwnNT w v l):∃A c,v=.slice A l.length c:=by
 rcases h.2 with ⟨h1,h2⟩|⟨g,cap,a,h1,_⟩
 ·exact⟨none,0,by rw[h1,h2]⟩
 ·exact⟨_,_,h1⟩
theorem OwnNT.head{w:World}{v:Value}{l:List Nat}(h:OwnNT w v l)(hl:0<l.length):∃g c,v=.slice (some ⟨g,0,none⟩) l.length c/\g<w.heap.size:=by
 rcases h.2 with ⟨_,h2⟩|⟨g,cap,a,h1,_⟩
 ·omega
 ·exact⟨g,cap,h1,h.lt g (by rw[h1];rfl)⟩
theorem OwnNT.cell{w:World}{g c:Nat}{l:List Nat}(h:OwnNT w (.slice g l.length c) l)(k:Nat)(a:k<l.length):w.cell? ⟨g,k,none⟩=some (jA ((l[k]:Nat):Int)):=by
 have h1:=Zq (g:=g) h (by simp[Value.ownBlock]) k (natV l[k]) (by simp[a]);rw[zba]at h1;exact h1
theorem OwnNT.pop{w:World}{g c k:Nat}{l:List Nat}(h:OwnNT w (.slice g (l++[k]).length c) (l++[k])):OwnNT w (.slice g l.length c) l:=by
 unfold OwnNT at h ⊢;rw[Qa,QC,Q2]at h;exact ownsRow_pop (by simp) h
theorem OwnNT.one(w:World)(n:Nat):OwnNT (w.alloc (.cells #[natV n] 3)) (.slice w.heap.size 1 1) [n]:=
 ⟨rfl,.inr ⟨w.heap.size,1,#[natV n],rfl,Qm _,Qt w _,Qc _,by decide,rfl,rfl⟩⟩
def FromN(w:World)(g n:Nat)(F:Nat->Nat):Prop:=w.heap[g]? = some (.cells ((List.range n).map λi=>natV (F i)).toArray 3 (0,0))
theorem FromN.cell{w:World}{g n:Nat}{F:Nat->Nat}(h:FromN w g n F)(k:Nat)(a:k<n):w.cell? ⟨g,k,none⟩=some (jA ((F k:Nat):Int))/\w.frozen? ⟨g,k,none⟩=false:=
 ⟨(Qf w g k _ _ _ h).trans (by simp[a,natV]),Z4 w g k _ _ h⟩
theorem FromN.keep{w w':World}{g n:Nat}{F:Nat->Nat}(h:FromN w g n F)(a:w'.heap[g]? = w.heap[g]?):FromN w' g n F:=a.trans h
theorem FromN.set{w:World}{g n:Nat}{F:Nat->Nat}(h:FromN w g n F)(k v:Nat):FromN (w.setCell ⟨g,k,none⟩ (jA (v:Int))) g n (upd F k v):=by
 have h1:=Q3 w g k _ _ (jA (v:Int)) h;unfold FromN;rw[h1,Q1]
 congr 3
 apply List.ext_getElem (by simp)
 intro i h2 a;simp only[Xm,Qh,List.length_range]at h2;rw[List.getElem_set];simp only[Zm,List.getElem_range,upd]
 by_cases c:k=i
 ·subst c;simp[natV]
 ·rw[Qe c,Qe (λe=>c e.symm)]
theorem zml:(prog.info? 3).map (λi=>(i.zero,i.size,i.bytes))=some (some (jA 0),1,8):=by kernel_rfl
section
variable {ops:Array Oper} {rest:List Oper} {o:Oper} {a:Act} {Q:Exit->Act->World->Prop} {w:World}
theorem zm8{K:Act->World->Prop}(s x:Operand)(F:o.op=.call {callee:=.builtin .append,args:=#[s,x],argTypes:=#[31,31]})
 (v:Value) (l:List Nat) (I:a.eval s=v) (f:OwnNT w v l)
 (y:List Value) (b:List Nat) (L:y=b.map natV) (z:Nat) (r:w.heap.size=z) (c:Nat) (J:a.eval x=.slice z b.length c) (t:0<b.length)
 (A:l.length+b.length<=1048576)
 (h:∀g cap w',OwnNT w' (.slice (some ⟨g,0,none⟩) (l++b).length cap) (l++b)->(∀k,k<w.heap.size->v.ownBlock≠some k->w'.heap[k]? = w.heap[k]?)->(v.ownBlock=some g\/w.heap.size<=g)->g<w'.heap.size->w.heap.size<w'.heap.size->Below 0 w w'->K (a.put o.dst (.slice (some ⟨g,0,none⟩) (l++b).length cap)) w'):
 o.wp prog a (w.alloc (.cells y.toArray 3)) K Q:=by
 subst L;subst r
 obtain⟨E,q,j,m,p⟩:=ZG zml;have d:=World.ownsRow.alloc f (.cells (b.map natV).toArray 3)
 refine wp_append_lies (P:=prog) (w.alloc (.cells (b.map natV).toArray 3)) s x 31 F 0 3 E (jA 0) 1 8 underlying31 q j m p rfl (by decide) v l.length (l.map natV) I d
  ⟨w.heap.size,0,none⟩ b.length c (b.map natV) J (by simp) (zd2 w _ _) (λu G=>by obtain⟨n,_,rfl⟩:=QR.1 G;rfl) t (by unfold maxLen;omega) (by omega) (Qm _) (w.heap.size+1) (by simp) ?_
 intro g cap w' h1 h2 H C;have D:=h2.size;rw[Qp]at D;rw[<-Q2,<-Qa]at h1;rw[<-Qa];exact h g cap w' h1 (λk B i=>(h2.block k (by simp;omega) (λe=>i e.symm)).trans (Qr _ _ _ B)) (H.imp_right λe=>by omega) C (by omega) (((Qj _ _).alloc (Qm _) _).trans ⟨h2.os,h2.tape,h2.output,h2.size,λ_ q=>absurd q (by omega)⟩)
theorem zap(f:o.guard=none)(s x:Operand)(t:o.op=.call {callee:=.builtin .append,args:=#[s,x],argTypes:=#[31,31]})
 (v:Value) (l:List Nat) (y:a.eval s=v) (d:OwnNT w v l)
 (i:List Value) (b:List Nat) (B:i=b.map natV) (j:Nat) (m:w.heap.size=j) (c:Nat) (z:a.eval x=.slice j b.length c) (n:0<b.length)
 (e:l.length+b.length<=1048576)
 (h:∀g cap w',OwnNT w' (.slice (some ⟨g,0,none⟩) (l++b).length cap) (l++b)->(∀k,k<w.heap.size->v.ownBlock≠some k->w'.heap[k]? = w.heap[k]?)->(v.ownBlock=some g\/w.heap.size<=g)->g<w'.heap.size->w.heap.size<w'.heap.size->Below 0 w w'->wpList prog ops Q rest (a.put o.dst (.slice (some ⟨g,0,none⟩) (l++b).length cap)) w'):
 wpList prog ops Q (o::rest) a (w.alloc (.cells i.toArray 3)):=
 Xe f λ_ q=>zm8 s x t v l y d i b B j m c z n e λg cap w' h1 h2 u p r A=>q _ _ (h g cap w' h1 h2 u p r A)
end
def unmet(n:Nat)(G:Nat->Nat):Nat:=((List.range n).filter λi=>G i==0).length
theorem zdp(n:Nat)(G:Nat->Nat):unmet (n+1) G=unmet n G+if G n=0 then 1 else 0:=by
 unfold unmet;rw[List.range_succ,ZW,Qa]
 by_cases c:G n=0
 ·simp[c]
 ·simp[c]
theorem zpM{n:Nat}{G H:Nat->Nat}(h:∀i,i<n->(G i=0↔H i=0)):unmet n G=unmet n H:=by
 induction n with
 |zero=>rfl
 |succ n ih=>
  rw[zdp,zdp,ih λi a=>h i (by omega)]
  by_cases c:G n=0
  ·rw[Qg c,Qg ((h n (by omega)).1 c)]
  ·rw[Qe c,Qe λe=>c ((h n (by omega)).2 e)]
theorem zmp{n k v:Nat}{G:Nat->Nat}(d:k<n)(b:G k=0)(a:v≠0):unmet n (upd G k v)+1=unmet n G:=by
 induction n with
 |zero=>omega
 |succ n ih=>
  rw[zdp,zdp]
  by_cases c:k=n
  ·subst c
   rw[Qg b,Qe (by unfold upd;rw[Qg rfl];exact a)];rw[zpM (H:=G) λi f=>by unfold upd;rw[Qe (by omega)]]
  ·have h1:=ih (by omega)
   have h2:upd G k v n=G n:=by unfold upd;rw[Qe λe=>c e.symm]
   rw[h2];omega
theorem zoH(n:Nat)(G:Nat->Nat):unmet n G<=n:=by
 induction n with
 |zero=>exact Qc _
 |succ n ih=>rw[zdp];split <;> omega
def zz0:Value->Bool
 |.int _ m=>m==0
 |_=>false
def zl5(w:World)(g:Nat):Nat:=match w.heap[g]? with
 |some (.cells cs _ _)=>(cs.toList.filter zz0).length
 |_=>0
theorem FromN.unmet{w:World}{g n:Nat}{F:Nat->Nat}(h:FromN w g n F):zl5 w g=unmet n F:=by
 unfold FromN at h;unfold zl5;rw[h];dsimp only;unfold Go.Proofs.YtnnokglddolglaaGreatDoor.unmet;rw[List.filter_map,Qh]
 congr 1
 apply List.filter_congr
 intro i _;show ((F i:Int)==0)=(F i==0)
 by_cases c:F i=0
 ·rw[c];rfl
 ·rw[Qb.2 c,Qb.2 (by omega)]
def lenV:Value->Nat
 |.slice _ n _=>n
 |_=>0
def ThB(w:World)(d:Nat)(e:Value)(s:ByteArray)(a n:Nat)(c:Value):Prop:=∃b,w.heap[d]? = some (.cells #[e,.string s,.slice a n b,c] 374 (0,0))
theorem ThB.cells{w:World}{a:Nat}{e:Value}{s:ByteArray}{c n:Nat}{d:Value}(h:ThB w a e s c n d):
 w.cell? a=some e/\w.cell? ⟨a,1,none⟩=some (.string s)/\(∃b,w.cell? ⟨a,2,none⟩=some (.slice c n b))/\w.cell? ⟨a,3,none⟩=some d/\w.frozen? ⟨a,3,none⟩=false:=by
 obtain⟨b,h⟩:=h;exact⟨Qf w a 0 _ _ _ h,Qf w a 1 _ _ _ h,⟨b,Qf w a 2 _ _ _ h⟩,Qf w a 3 _ _ _ h,Z4 w a 3 _ _ h⟩
theorem ThB.keep{w w':World}{a:Nat}{d:Value}{s:ByteArray}{b n:Nat}{c:Value}(h:ThB w a d s b n c)(e:w'.heap[a]? = w.heap[a]?):ThB w' a d s b n c:=by
 obtain⟨f,h⟩:=h;exact⟨f,e.trans h⟩
theorem ThB.set{w:World}{a:Nat}{c:Value}{s:ByteArray}{b n:Nat}{d:Value}(h:ThB w a c s b n d)(u:Value):ThB (w.setCell ⟨a,3,none⟩ u) a c s b n u:=by
 obtain⟨e,h⟩:=h;exact⟨e,Q3 w a 3 _ _ u h⟩
structure ThM(w:World)(gt:Nat)(pv:Value)(s:ByteArray)(gF n:Nat)(vl:Value)(G:Nat->Nat)(lg:List Nat):Prop where
 blk:ThB w gt pv s gF n vl
 frm:FromN w gF n G
 lst:OwnNT w vl lg
 far:vl.ownBlock≠some gF
 len:lg.length+unmet n G<=n
theorem ThM.ne{w:World}{b:Nat}{i:Value}{s:ByteArray}{d n:Nat}{c:Value}{G:Nat->Nat}{f:List Nat}(h:ThM w b i s d n c G f):b≠d/\c.ownBlock≠some b:=by
 obtain⟨k,hb⟩:=h.blk
 constructor
 ·intro e
  have h2:=h.frm;unfold FromN at h2;rw[<-e,hb]at h2;injection h2 with h2
  injection h2 with _ h2 _
  exact absurd h2 (by decide)
 ·intro e
  rcases h.lst.2 with ⟨h1,_⟩|⟨g,cap,j,h1,_,a,_⟩
  ·rw[h1]at e;cases e
  ·rw[h1]at e
   injection e with e
   have e:g=b:=e;rw[e,hb]at a;injection a with a
   injection a with _ a _
   exact absurd a (by decide)
mutual
def nodes:Tree->Nat
 |.node _ _ a=>1+zcz a
def zcz:List Tree->Nat
 | []=>0
 |t::a=>nodes t+zcz a
end
theorem zfF{t:Tree}{at_:Nat}{l:List Ins}(h:Code t at_ l):l.length<=2*nodes t:=by
 induction h with
 |none=>simp[nodes,zcz]
 |empty=>simp
 |byte=>simp[nodes,zcz]
 |begin=>simp[nodes,zcz]
 |finish=>simp[nodes,zcz]
 |cat S a b at_ c d _ _ h1 h2=>simp only[nodes,zcz,Qa];omega
 |alt S a b at_ c d _ _ h1 h2=>simp only[nodes,zcz,Qa,Qn];omega
 |star S a at_ c _ h1=>simp only[nodes,zcz,Qa,Qn,QS];omega
def Keeps(w w':World):Prop:=∀(g:Nat) (cs:Array Value) (t:TypeId) (a:Nat × Nat),235≠t->w.heap[g]? = some (Obj.cells cs t a)->w'.heap[g]? = some (Obj.cells cs t a)
theorem Keeps.trans{a b c:World}(h:Keeps a b)(k:Keeps b c):Keeps a c:=λg cs t d e f=>k g cs t d e (h g cs t d e f)
theorem zaz{w:World}{g:Nat}{o:Obj}(h:w.heap[g]? = some o):g<w.heap.size:=by
 rcases ZI g w.heap.size with b|a
 ·exact b
 ·rw[ZZ a]at h;cases h
theorem Keeps.below{w w':World}(hb:w w'):Keeps w w':=λg _ _ _ _ a=>(hb.block g (zaz a)).trans a
theorem Keeps.alloc(w:World)(o:Obj):Keeps w (w.alloc o):=Keeps.below ((Qj _ _).alloc (Qc _) o)
theorem Keeps.own{w w':World}{base:Nat}{v:Value}{l:List Ins}(h:OwnP w base v l)(b:∀g,g<w.heap.size->v.ownBlock≠some g->w'.heap[g]? = w.heap[g]?):Keeps w w':=λg _ _ _ c a=>(b g (zaz a) (zbx h a c)).trans a
theorem Keeps.only{w w':World}{base g:Nat}{c n:Nat}{l:List Ins}(h:OwnP w base (.slice g n c) l)(b:w.grownBy w' (some g)):Keeps w w':=λk _ _ _ d a=>
 (b.block k (zaz a) (λe=>zbx h a d e.symm)).trans a
def zhA(t:Tree)(p:List Ins)(B:Nat)(w:World)(e:Ending)(w':World):Prop:=
 ∃v' l,e=jC v'/\Code t p.length l/\OwnP w' B v' (p++l)/\Below B w w'/\Keeps w w'/\w.heap.size<=w'.heap.size
def CodeC(t:Tree):Prop:=∀(A:Option Addr) (c:Nat) (w:World) (B:Nat) (v:Value) (p:List Ins),B<=w.heap.size->LK w B t.kids A->OwnP w B v p->p.length+2*nodes t<=1000->
 Calls prog 140 #[v,argX t A c] w (zhA t p B w)
theorem zg9(k:Int)(S:Set4)(x:Ins)(q:(k=1\/k=3)/\x=⟨1,0,0,S⟩\/k=7/\x=⟨4,0,0,.zero⟩\/k=8/\x=⟨5,0,0,.zero⟩)(n:∀at_,Code (.node k S []) at_ [x]):CodeC (.node k S []):=by
 intro A c w B v p m _ l t;have r:=hIx n;obtain⟨s,c0,rfl,_⟩:=l.form;have e:∀o,OwnP (w.alloc o) B (.slice s p.length c0) p:=λo=>l.below ((Qj _ _).alloc (Qc _) o)
 have y:p.length<=1000:=by omega
 have j:=hIx m;unfold argX;obtain⟨a,b,u,d⟩:=S;dsimp only[Tree.kind,Tree.set,Tree.kids,List.length_nil];clear n t m
 rcases q with ⟨rfl|rfl,rfl⟩|⟨rfl,rfl⟩|⟨rfl,rfl⟩
 all_goals
  go_in
  go_wp2_with (at_builtin;refine zb2 rfl _ _ rfl B _ p rfl (e _) (by simp;exact XU j.out) _ ⟨_,0,0,⟨_,_,_,_⟩⟩ rfl (w.heap.size+1) (by simp) 1 rfl (by omega) ?_;intro v' w' f i g h);go_ret;exact⟨v',_,rfl,r.out _,f,((Qj _ _).alloc j.out _).trans i,(Keeps.alloc _ _).trans (Keeps.own (e _) g),by simp at h;omega⟩
theorem CodeC.call{t:Tree}(ih:CodeC t){w:World}{B:Nat}{A:Option Addr}{c:Nat}(h:LT w B t (zan t.kind t.set A t.kids.length c)):
 ∀(W:World) (v:Value) (p:List Ins),B<=W.heap.size->Below B w W->OwnP W B v p->p.length+2*nodes t<=1000->Calls prog 140 #[v,argX t A c] W (zhA t p B W):=λW v p l hb g k=>by
 obtain⟨i,a,e,_,d⟩:=h.parts;have f:Value.slice A t.kids.length c=.slice i t.kids.length a:=by unfold zan at e;injection e with _ e;injection e with _ e;injection e with _ e;injection e with _ e;injection e with _ e;injection e with e
 injection f with b _ j
 subst b;subst j
 exact ih A c W B v p l (d.below hb) g k
def boxX(k:Int)(a b c d:Int)(A:Option Addr)(n q:Nat):Obj:=.cells #[jA k,jB a,jB b,jB c,jB d,.slice A n q] 185
theorem zi5{w W:World}{k a b c d:Int}{A:Option Addr}{n q:Nat}(h:Keeps (w.alloc (boxX k a b c d A n q)) W):W.cell? ⟨w.heap.size,5,none⟩=some (.slice A n q)/\W.cell? w.heap.size=some (jA k):=by
 have h1:=h w.heap.size _ 185 (0,0) (by decide) (Qt w _);exact⟨Qf W w.heap.size 5 _ _ (0,0) h1,Qf W w.heap.size 0 _ _ (0,0) h1⟩
theorem zee{w W:World}{B b off:Nat}{t:Tree}{A:Option Addr}{c:Nat}(h:CellsAt w b off (zan t.kind t.set A t.kids.length c))(hb:Below B w W)(a:b<B):CellsAt W b off (zan t.kind t.set A t.kids.length c):=
 λj d=>(hb.cell (p:=⟨b,off+j,none⟩) a).trans (h j d)
theorem zqG(S:Set4):CodeC (.node 2 S []):=by
 intro A c w B v p h _ f j;obtain⟨g,c0,rfl,_⟩:=f.form;have e:∀o,OwnP (w.alloc o) B (.slice g p.length c0) (p++[]):=λo=>by rw[QE];exact f.below ((Qj _ _).alloc (Qc _) o)
 unfold argX;obtain⟨a,b,i,d⟩:=S;dsimp only[Tree.kind,Tree.set,Tree.kids,List.length_nil]
 go_in
 go_wp2;go_ret;exact⟨_,[],rfl,.empty _ _,e _,(Qj _ _).alloc h _,Keeps.alloc _ _,by simp⟩
theorem zuK(S:Set4)(N O:Tree)(x:CodeC N)(s:CodeC O):CodeC (.node 4 S [N,O]):=by
 intro A c w B v p P L K hn;obtain⟨bb,off,ca,cb,rfl,r,g,i,y,m⟩:=LK.two L;obtain⟨A1,c1,rfl,_,_⟩:=i.parts;obtain⟨A2,c2,rfl,_,_⟩:=m.parts;have J:=hIx (x.call i);have T:=hIx (s.call m);have HX:=hIx λW hb=>zee g (W:=W) hb r
 have HY:=hIx λW hb=>zee y (W:=W) hb r
 simp only[nodes,zcz]at hn;obtain⟨X,c0,rfl,_⟩:=K.form;have F:∀o,OwnP (w.alloc o) B (.slice X p.length c0) p:=λo=>K.below ((Qj _ _).alloc (Qc _) o)
 have j:Hid (∀k a b c d A n q W,Keeps (w.alloc (boxX k a b c d A n q)) W->_):=λk a b c d A n q W h=>zi5 h
 unfold boxX at j;unfold argX at J T ⊢;obtain⟨a,b,c',d⟩:=S;dsimp only[Tree.kind,Tree.set,Tree.kids,List.length_nil,List.length_cons]at j ⊢;clear L x s i m
 go_in
 obtain⟨Z,x1,Y,x3,x4,x5⟩:=g.six;clear g y;have h3:bb<w.heap.size:=by omega
 go_wp2_with fail;refine(J.out _ _ p (by simp;omega) ((Qj _ _).alloc P _) (F _) (by omega)).mono ?_;rintro e w1 ⟨v1,U,rfl,D,I,C,l,z⟩;have f:=((Qj B w).alloc P _).trans C;have E:=l;obtain⟨f5,f0⟩:=j.out _ _ _ _ _ _ _ _ _ l;obtain⟨y0,y1,y2,V,y4,y5⟩:=(HY.out _ f).six;have h4:=zfF D;have Q:w.heap.size+1<=w1.heap.size:=by simpa using z
 clear Z x1 Y x3 x4 x5 C l z;go_wp2_with fail;refine(T.out _ _ (p++U) (by omega) f I (by rw[Qa];omega)).mono ?_;rintro e w2 ⟨v2,lb,rfl,u,t,H,G,h0⟩;clear y0 y1 y2 V y4 y5 f0 f5;go_wp2;go_ret;rw[Qa]at u;exact⟨v2,U++lb,rfl,.cat _ _ _ _ _ _ D u,by rw[<-QG];exact t,f.trans H,((Keeps.alloc _ _).trans E).trans G,by omega⟩
theorem OwnP.drew{w:World}{base:Nat}{v:Value}{l:List Ins}(h:OwnP w base v l):OwnP w.drew base v l:=h
theorem OwnP.spot{w:World}{base g c:Nat}{l:List Ins}(h:OwnP w base (.slice g l.length c) l)(k:Nat)(a:k<l.length)(j:Nat)(b:j<7):
 w.cell? ⟨g,k*7+j,none⟩=(zbi l[k])[j]? /\ w.frozen? ⟨g,k*7+j,none⟩=false:=by
 refine⟨?_,World.ownsRow.frozenAt h _⟩;have h1:=zcw zbi 7 zcJ l k j a b;have hl:=za0 zbi 7 zcJ l;have h2:k*7+j<(l.flatMap zbi).length:=by omega
 have:=Zq (g:=g) h (by simp[Value.ownBlock]) (k*7+j) _ (Qd h2);rw[zba]at this;rw[this,<-Qd h2,h1]
theorem OwnP.ab{w:World}{base g c:Nat}{l:List Ins}(h:OwnP w base (.slice g l.length c) l)(k:Nat)(d:k<l.length):
 (w.cell? ⟨g,k*7+1,none⟩=some (jA l[k].a)/\w.cell? ⟨g,k*7+2,none⟩=some (jA l[k].b))/\w.frozen? ⟨g,k*7+1,none⟩=false/\w.frozen? ⟨g,k*7+2,none⟩=false:=
 ⟨⟨(h.spot k d 1 (by decide)).1,(h.spot k d 2 (by decide)).1⟩,(h.spot k d 1 (by decide)).2,(h.spot k d 2 (by decide)).2⟩
theorem zsI(p a:List Ins)(n:Nat)(k:Int)(b:n=p.length):(p++[(⟨2,(n:Int)+1,0,.zero⟩:Ins)]++a++[(⟨3,(n:Int),0,.zero⟩:Ins)]).set n ⟨2,(n:Int)+1,k,.zero⟩=
 p++((⟨2,(n:Int)+1,k,.zero⟩:Ins)::(a++[⟨3,(n:Int),0,.zero⟩])):=by
 subst b;rw[QG,QG,ZH _ _ (Qc _),Xg]
 rfl
theorem zq9(p a:List Ins)(x y:Ins)(h:p.length<(p++[x]++a++[y]).length):(p++[x]++a++[y])[p.length]=x:=by
 simp
theorem Keeps.undrew{w w':World}(h:Keeps w.drew w'):Keeps w w':=h
theorem zs0(S:Set4)(s:Tree)(K:CodeC s):CodeC (.node 6 S [s]):=by
 intro A c w B v p hB Q V hn;obtain⟨r,off,ca,rfl,X,t,y⟩:=LK.one Q;obtain⟨A1,c1,rfl,_,_⟩:=y.parts;have U:=hIx (K.call y);have HX:=hIx λW hb=>(zee t (W:=W) hb X).six
 simp only[nodes,zcz]at hn;obtain⟨A0,c0,rfl,_⟩:=V.form;have G:∀o,OwnP (w.alloc o) B (.slice A0 p.length c0) p:=λo=>V.below ((Qj _ _).alloc (Qc _) o)
 have m:Hid (∀k a b c d A n q W,Keeps (w.alloc (boxX k a b c d A n q)) W->_):=λk a b c d A n q W h=>(zi5 h).1
 unfold boxX at m;unfold argX at U ⊢;obtain⟨a,b,c',d⟩:=S;dsimp only[Tree.kind,Tree.set,Tree.kids,List.length_nil,List.length_cons]at m ⊢;clear Q K y;have h7:=hIx V;have i1:IntKind.i64.wrap ((p.length:Int)+1)=(p.length:Int)+1:=Qx _ (by omega)
 go_in
 obtain⟨x0,x1,x2,x3,x4,x5⟩:=t.six;clear t;have he:r<w.heap.size:=by omega
 go_wp2_with fail;have I:∀o,B<=(w.alloc o).heap.size:=λo=>by simp;omega
 have HS:=hIx λW Q hb=>And.intro (m.out 6 a b c' d (some ⟨r,off,none⟩) 1 c W Q) (HX.out W hb)
 go_region_held3 (λw'=>w'.cell? ⟨w.heap.size,5,none⟩=some (.slice (some ⟨r,off,none⟩) 1 c)/\w'.cell? ⟨r,off,none⟩=some (jA s.kind)/\w'.cell? ⟨r,off+1,none⟩=some (jB s.set.a)/\w'.cell? ⟨r,off+2,none⟩=some (jB s.set.b)/\
  w'.cell? ⟨r,off+3,none⟩=some (jB s.set.c)/\w'.cell? ⟨r,off+4,none⟩=some (jB s.set.d)/\w'.cell? ⟨r,off+5,none⟩=some (.slice A1 s.kids.length c1))
  (first|exact HS.out _ (j.trans z) (f.trans D)|exact HS.out _ j f|go_keep)
  (first
   |(refine zfa rfl (.tmp 85) (.tmp 89) rfl B (.slice A0 p.length c0) p rfl (G _).drew (I _) _ ⟨2,(p.length:Int)+1,0,.zero⟩ rfl (w.heap.size+1) (by simp) 1 rfl (by omega) ?_;intro v8 w8 O H N h4;have j:=Keeps.undrew (Keeps.own (G _).drew N);have f:Below B w w8:=((Qj B w).alloc hB _).drew.trans H)
   |(go_at_call 140;(with_reducible refine(U.out w8 v8 (p++[⟨2,(p.length:Int)+1,0,.zero⟩]) (Ql hB f.size) f O (by rw[Qa,QC];omega)).mono ?_);rintro e w1 ⟨v1,g,rfl,E,x,D,z,hh⟩))
 rw[Qa,QC]at E;have hf:=zfF E;have l:=f.trans D;have F:=j.trans z;clear U HS HX m D z H N x0 x1 x2 x3 x4 x5 O I;have hd:=l.size;have T:B<=w1.heap.size:=Ql hB l.size;obtain⟨h6,hg,rfl,_⟩:=x.form;have Y:(p++[(⟨2,(p.length:Int)+1,0,.zero⟩:Ins)]++g).length=p.length+1+g.length:=by simp;omega
 have HM:Hid (∀k,((p++[(⟨2,(p.length:Int)+1,0,.zero⟩:Ins)]++g++[(⟨3,(p.length:Int),0,.zero⟩:Ins)]).set p.length ⟨2,(p.length:Int)+1,k,.zero⟩)=p++((⟨2,(p.length:Int)+1,k,.zero⟩:Ins)::(g++[⟨3,(p.length:Int),0,.zero⟩]))):=hIx λk=>zsI p g _ k rfl
 have P:Hid (∀h,(p++[(⟨2,(p.length:Int)+1,0,.zero⟩:Ins)]++g++[(⟨3,(p.length:Int),0,.zero⟩:Ins)])[p.length]'h=⟨2,(p.length:Int)+1,0,.zero⟩):=λh=>zq9 p g _ _ h
 have C:Hid ((p++[(⟨2,(p.length:Int)+1,0,.zero⟩:Ins)]++g++[(⟨3,(p.length:Int),0,.zero⟩:Ins)]).length=p.length+1+g.length+1):=hIx (by simp;omega);generalize hL:p++[(⟨2,(p.length:Int)+1,0,.zero⟩:Ins)]++g++[(⟨3,(p.length:Int),0,.zero⟩:Ins)]=L at HM P C;go_wp2_with (at_builtin;refine zb2 rfl _ _ rfl B _ (p++[⟨2,(p.length:Int)+1,0,.zero⟩]++g) rfl x T _ ⟨3,p.length,0,.zero⟩ rfl w1.heap.size rfl 1 rfl (by rw[Y];omega) ?_;intro v2 w2 i h0 Z hc;rw[hL]at i;have J:p.length<L.length:=(by rw[C.out];omega);have h9:(p.length:Int)<(L.length:Int):=(by omega);obtain⟨gq,cq,rfl,h3,h5⟩:=i.head (by omega);have ⟨⟨_,ha⟩,_,h8⟩:=i.ab p.length J);go_ret;have u:=i.setAB p.length J 2 (by decide) (jA (L.length:Int)) ⟨2,(p.length:Int)+1,((p.length+1+g.length+1:Nat):Int),.zero⟩ (by rw[P.out,C.out];rfl);rw[HM.out]at u;exact⟨_,_,rfl,.star _ _ _ _ E,u.1,(l.trans h0).setCell h3 _,(((Keeps.alloc _ _).trans F).trans (Keeps.own x Z)).trans (Keeps.only i u.2),by simp;omega⟩
theorem OwnNT.alloc{w:World}{v:Value}{l:List Nat}(h:OwnNT w v l)(o:Obj):OwnNT (w.alloc o) v l:=h.keep λg a=>Qr _ _ _ (h.lt g a)
theorem zef{P:List Ins}{s:jE}{i k:Nat}{x:Ins}(h:P[k]? = some x)(m:Nat):Eps P s i k m↔(x.kind=2/\(m=x.a.toNat\/m=x.b.toNat))\/(x.kind=3/\m=x.a.toNat)\/(x.kind=4/\i=0/\m=k+1)\/(x.kind=5/\i=s.length/\m=k+1):=by
 constructor
 ·intro d
  cases d with
  |one y h1 h2=>rw[h]at h1;injection h1 with h1;subst h1;exact .inl ⟨h2,.inl rfl⟩
  |two y h1 h2=>rw[h]at h1;injection h1 with h1;subst h1;exact .inl ⟨h2,.inr rfl⟩
  |jump y h1 h2=>rw[h]at h1;injection h1 with h1;subst h1;exact .inr (.inl ⟨h2,rfl⟩)
  |begin y h1 h2 c=>rw[h]at h1;injection h1 with h1;subst h1;exact .inr (.inr (.inl ⟨h2,c,rfl⟩))
  |finish y h1 h2 c=>rw[h]at h1;injection h1 with h1;subst h1;exact .inr (.inr (.inr ⟨h2,c,rfl⟩))
 ·rintro(⟨h2,rfl|rfl⟩|⟨h2,rfl⟩|⟨h2,c,rfl⟩|⟨h2,c,rfl⟩)
  ·exact .one _ _ h h2
  ·exact .two _ _ h h2
  ·exact .jump _ _ h h2
  ·exact .begin _ _ h h2 c
  ·exact .finish _ _ h h2 c
theorem OwnNT.cap{w:World}{g n c:Nat}{l:List Nat}(h:OwnNT w (.slice g n c) l):l.length<=c:=by
 rcases h.2 with ⟨h1,_⟩|⟨d,cap,a,h1,_,_,b,_⟩
 ·cases h1
 ·injection h1 with _ _ h1
  rw[h1];exact b
theorem OwnP.keep{w w':World}{v:Value}{l:List Ins}(h:OwnP w 0 v l)(b:∀g,v.ownBlock=some g->w'.heap[g]? = w.heap[g]?):OwnP w' 0 v l:=by
 refine⟨h.1,?_⟩
 rcases h.2 with d|⟨g,cap,a,h1,h2,e,c⟩
 ·exact .inl d
 ·exact .inr ⟨g,cap,a,h1,h2,(b g (by rw[h1];rfl)).trans e,c⟩
structure Kept(w wr:World)(gt gF:Nat)(vl vl':Value):Prop where
 blocks:∀k,k<w.heap.size->k≠gt->k≠gF->vl.ownBlock≠some k->wr.heap[k]? = w.heap[k]?
 own:∀g,vl'.ownBlock=some g->vl.ownBlock=some g\/w.heap.size<=g
 below:Below 0 w wr
structure AddR(P:List Ins)(s:ByteArray)(i n f:Nat)(F:Nat->Nat)(ls:List Nat)(gt gF:Nat)(pv vl:Value)(w:World)(vt:Value)(wr:World)(todo:List Nat)(G:Nat->Nat)(lg:List Nat)(vl':Value):Prop where
 stk:OwnNT wr vt todo
 thr:ThM wr gt pv s gF P.length vl' G lg
 dfs:DfsI P s.data.toList i n f F ls G lg todo
 small:∀k∈todo,k<P.length
 len:todo.length+unmet P.length G<=1+P.length
 prg:OwnP wr 0 pv P
 new:∀g,vt.ownBlock=some g->w.heap.size<=g/\vl'.ownBlock≠some g
 kept:Kept w wr gt gF vl vl'
structure AddA(P:List Ins)(s:ByteArray)(gt gF:Nat)(pv vl:Value)(w:World)(gq cq:Nat)(W3:World)(td:List Nat)(G:Nat->Nat)(lg:List Nat)(v3:Value):Prop where
 stk:OwnNT W3 (.slice gq td.length cq) td
 thr:ThM W3 gt pv s gF P.length v3 G lg
 prg:OwnP W3 0 pv P
 new:w.heap.size<=gq/\v3.ownBlock≠some gq
 kept:Kept w W3 gt gF vl v3
theorem AddR.after{P:List Ins}{s:ByteArray}{i n f:Nat}{F:Nat->Nat}{U:List Nat}{l d:Nat}{H S:Value}{w wr:World}{o Q k:Nat}{K:List Nat}{G:Nat->Nat}{p:List Nat}{m:Value}
 (h:AddR P s i n f F U l d H S w (.slice o (K++[k]).length Q) wr (K++[k]) G p m) (c:G k=0) (V:k<P.length) (W:l<w.heap.size) (h0:d<w.heap.size) {u:Value} (hu:u=jA ((f+1:Nat):Int))
 {q:World} {g cap:Nat} (h1:OwnNT q (.slice g (p++[k]).length cap) (p++[k])) (h2:∀j,j<(wr.setCell ⟨d,k,none⟩ u).heap.size->m.ownBlock≠some j->q.heap[j]? = (wr.setCell ⟨d,k,none⟩ u).heap[j]?)
 (b:m.ownBlock=some g\/(wr.setCell ⟨d,k,none⟩ u).heap.size<=g) (h6:Below 0 (wr.setCell ⟨d,k,none⟩ u) q):
 AddA P s l d H S w o Q (q.setCell ⟨l,3,none⟩ (.slice g (p++[k]).length cap)) K (upd G k (f+1)) (p++[k]) (.slice g (p++[k]).length cap):=by
 subst hu;have Y:(wr.setCell ⟨d,k,none⟩ (jA ((f+1:Nat):Int))).heap.size=wr.heap.size:=by simp
 rw[Y]at h2 b;have Z:=h.kept.below.size;obtain⟨T,n2⟩:=h.thr.ne;have I:=h.new o rfl;have J:=h.stk.lt o rfl;have C:o≠d:=by omega
 have D:o≠l:=by omega
 have B:g≠d:=λe=>by
  rcases b with b|b
  ·exact h.thr.far (by rw[b,e])
  ·omega
 have A:g≠l:=λe=>by
  rcases b with b|b
  ·exact n2 (by rw[b,e])
  ·omega
 have z:g≠o:=λe=>by
  rcases b with b|b
  ·exact I.2 (by rw[b,e])
  ·omega
 have O:∀j,j≠d->(wr.setCell ⟨d,k,none⟩ (jA ((f+1:Nat):Int))).heap[j]? = wr.heap[j]? := λj a=>Qk wr ⟨d,k,none⟩ _ j a
 have E:∀j,j≠l->(q.setCell ⟨l,3,none⟩ (.slice g (p++[k]).length cap)).heap[j]? = q.heap[j]? := λj a=>Qk q ⟨l,3,none⟩ _ j a
 have x:∀j,j<wr.heap.size->j≠d->j≠l->m.ownBlock≠some j->(q.setCell ⟨l,3,none⟩ (.slice g (p++[k]).length cap)).heap[j]? = wr.heap[j]? := λj a r t y=>((E j t).trans (h2 j a y)).trans (O j r)
 have L:∀j,H.ownBlock=some j->j<wr.heap.size/\j≠d/\j≠l/\m.ownBlock≠some j:=λj a=>by
  refine⟨(QK h.prg j a).2,?_,?_,?_⟩
  ·intro e;subst e;exact absurd a (zbx h.prg h.thr.frm (by decide))
  ·intro e;subst e;obtain⟨cF,hb⟩:=h.thr.blk;exact absurd a (zbx h.prg hb (by decide))
  ·intro e
   rcases h.thr.lst.2 with ⟨r,_⟩|⟨g1,_,_,r,_,y,_⟩
   ·rw[r]at e;cases e
   ·rw[r]at e
    injection e with e
    have e:g1=j:=e;subst e;exact absurd a (zbx h.prg y (by decide))
 refine⟨?_,⟨?_,?_,?_,?_,?_⟩,?_,⟨I.1,λe=>z (by injection e)⟩,⟨?_,?_,?_⟩⟩
 ·exact h.stk.pop.keep λj a=>by
   have e:o=j:=by injection a
   subst e;exact x o J C D I.2
 ·exact(h.thr.blk.keep ((h2 l (by omega) n2).trans (O l T))).set _
 ·exact((h.thr.frm.set k (f+1)).keep (h2 d (by omega) h.thr.far)).keep (E d λe=>T e.symm)
 ·exact h1.keep λj a=>E j λe=>by
   have t:g=j:=by injection a
   exact A (t.trans e)
 ·intro e;exact B (by injection e)
 ·have e:=h.thr.len
  have t:=zmp (v:=f+1) V c (by omega);rw[Qa,QC];omega
 ·exact h.prg.keep λj a=>by
   obtain⟨a1,a2,X,a4⟩:=L j a;exact x j a1 a2 X a4
 ·intro j a r t y
  have e4:m.ownBlock≠some j:=λe=>by
   rcases h.kept.own j e with N|N
   ·exact y N
   ·omega
  exact(x j (by omega) t r e4).trans (h.kept.blocks j a r t y)
 ·intro j a
  have e:g=j:=by injection a
  subst e
  rcases b with b|b
  ·exact h.kept.own g b
  ·right;omega
 ·exact((h.kept.below.setCell (Qm _) _).trans h6).setCell (Qm _) _
def zwA(P:List Ins)(s:ByteArray)(i n f:Nat)(F:Nat->Nat)(j:List Nat)(h e:Nat)(c g:Value)(w:World)(d:Value)(wr:World):Prop:=
 ∃a G k b,AddR P s i n f F j h e c g w d wr a G k b
def AddW(P:List Ins)(s:ByteArray)(i n f:Nat)(F:Nat->Nat)(j:List Nat)(c b:Nat)(g h:Value)(w:World)(e:Ending)(w':World):Prop:=
 ∃G d a,e=jC (.tuple #[])/\ThM w' c g s b P.length a G d/\AddPost P s.data.toList i n f F j G d/\OwnP w' 0 g P/\Kept w w' c b h a
theorem AddR.next{P:List Ins}{s:ByteArray}{i n f:Nat}{F:Nat->Nat}{J:List Nat}{u l:Nat}{z D:Value}{w wr:World}{q C k:Nat}{o:List Nat}{G:Nat->Nat}{A:List Nat}{y:Value}
 (h:AddR P s i n f F J u l z D w (.slice q (o++[k]).length C) wr (o++[k]) G A y) (c:G k=0) (Q:k<P.length)
 {t:World} {I:Value} (a:AddA P s u l z D w q C t o (upd G k (f+1)) (A++[k]) I) (W:l<w.heap.size) (S:u<w.heap.size) {p:World} {vt5:Value} {succ:List Nat} (K:OwnNT p vt5 (o++succ))
 (b:∀j,j<t.heap.size->j≠q->p.heap[j]? = t.heap[j]?) (E:∀g,vt5.ownBlock=some g->g=q\/t.heap.size<=g) (B:Below 0 t p) (Y:∀m,m∈succ↔Eps P s.data.toList i k m) (H:∀m∈succ,m<P.length) (Z:succ.length<=2):
 zwA P s i n f F J u l z D w vt5 p/\lenV vt5+2*zl5 p l<lenV (.slice q (o.length+1) C)+2*zl5 wr l:=by
 have hu:=zmp (v:=f+1) Q c (by omega);have hz:=a.kept.below.size;have L:=a.new;obtain⟨n1,n2⟩:=a.thr.ne;have hl:=h.len;rw[Qa,QC]at hl;have U:=b l (by omega) (by omega);have kT:=b u (by omega) (by omega);have r:FromN p l P.length (upd G k (f+1)):=a.thr.frm.keep U;refine⟨⟨o++succ,upd G k (f+1),A++[k],I,K,⟨a.thr.blk.keep kT,r,a.thr.lst.keep λj x=>b j (a.thr.lst.lt j x) λe=>L.2 (e ▸ x),a.thr.far,a.thr.len⟩,h.dfs.mark c Y,λm hm=>?_,?_,a.prg.keep λj x=>b j (QK a.prg j x).2 λe=>?_,λg O=>?_,⟨λj h1 h2 X T=>?_,a.kept.own,a.kept.below.trans B⟩⟩,?_⟩
 ·rcases QO.1 hm with h1|h1
  ·exact h.small m (by simp[h1])
  ·exact H m h1
 ·rw[Qa];omega
 ·subst e
  rcases a.stk.2 with ⟨d,_⟩|⟨g1,_,_,d,_,e3,_⟩
  ·cases d
  ·injection d with d
   injection d with d
   injection d with d
   subst d;exact absurd x (zbx a.prg e3 (by decide))
 ·rcases E g O with e|e
  ·subst e;exact L
  ·exact⟨by omega,λV=>by have:=a.thr.lst.lt g V;omega⟩
 ·exact(b j (by omega) (by omega)).trans (a.kept.blocks j h1 h2 X T)
 ·rw[r.unmet,h.thr.frm.unmet]
  obtain⟨A5,c5,N⟩:=K.form;rw[N];simp only[lenV,Qa];omega
theorem ztG(P:List Ins)(he:OkP P)(h4:P.length<=400)(s:ByteArray)(i n f:Nat)(hn:n<P.length)(hf:f<=8192)(F:Nat->Nat)(ls:List Nat)(D X:Nat)(pv vl:Value)(w:World)
 (hT:ThM w D pv s X P.length vl F ls) (hP:OwnP w 0 pv P) (l:X<w.heap.size) (d:D<w.heap.size):
 Calls prog 303 #[.pointer D,jA (n:Int),jA (i:Int),jA (f:Int)] w (AddW P s i n f F ls D X pv vl w):=by
 have hh:=hIx he;obtain⟨gp,cp,rfl,hs⟩:=OwnP.head hP (by omega)
 go_in
 go_wp2
 go_loopw [8] (λv wr=>zwA P s i n f F ls D X (.slice gp P.length cp) vl w v wr) (λv wr=>lenV v+2*zl5 wr X)
 case atStart=>
  have z:∀o,∀k,k<w.heap.size->(w.alloc o).heap[k]? = w.heap[k]? := λo k q=>Qr _ _ _ q
  refine⟨[n],F,ls,vl,OwnNT.one w n,⟨hT.blk.keep (z _ _ d),hT.frm.keep (z _ _ l),hT.lst.keep λg p=>z _ _ (hT.lst.lt g p),hT.far,hT.len⟩,DfsI.start _ _ _ _ _,λk q=>by rw[Qy.1 q];exact hn,?_,hP.keep λg p=>z _ _ (QK hP g p).2,λg p=>?_,⟨λk q _ _ _=>z _ _ q,λg p=>.inl p,(Qj _ _).alloc (Qm _) _⟩⟩
  ·have:=zoH P.length F;simp;omega
  ·have e:w.heap.size=g:=by simpa[Value.ownBlock]using p
   subst e;exact⟨Qc _,λh=>absurd (hT.lst.lt _ h) (by omega)⟩
 case round=>
  obtain⟨h9,G,y,A,B⟩:=hrel
  rcases List.eq_nil_or_concat h9 with rfl|⟨t,k,rfl⟩
  ·obtain⟨A1,c1,rfl⟩:=B.stk.form
   dsimp only[List.length_nil];go_wp2;exact bodyPost_end (v:=.tuple #[]) (by simp[results,results303,go_sem]) rfl ⟨G,y,A,rfl,B.thr,B.dfs.stop,B.prg,B.kept⟩
  ·rw[List.concat_eq_append]at B
   obtain⟨Y,cq,rfl,hp⟩:=B.stk.head (by simp);have q:k<P.length:=B.small k (by simp);have h0:=B.stk.cap;have h7:=B.stk.cell t.length (by simp);have hc:=B.stk.pop;have ho:=B.new Y rfl;obtain⟨t0,t1,⟨cF,t2⟩,t3,t4⟩:=B.thr.blk.cells;obtain⟨q0,q1⟩:=B.thr.frm.cell k q;have hq:t.length+unmet P.length G<=P.length:=by have:=B.len;simp at this;omega
   rw[Qa,QC]at h0 ⊢;rw[ZO (Qc _)]at h7;simp only[Xg,List.getElem_cons_zero]at h7;have j1:IntKind.i64.wrap (((t.length+1:Nat):Int)-1)=((t.length:Nat):Int):=by rw[Qx _ (by omega)];omega
   have j2:(0:Int)<((t.length+1:Nat):Int):=by omega
   have j3:((t.length:Nat):Int)<((t.length+1:Nat):Int):=by omega
   have j4:((k:Nat):Int)<(P.length:Int):=by omega
   have j5:t.length<=cq:=by omega
   have a:=hIx B;clear B h0
   by_cases c:G k=0
   ·rw[c]at q0
    have q0:wr.cell? ⟨X,k,none⟩=some (jA 0):=q0;have i6:IntKind.i64.wrap ((f:Int)+1)=(f:Int)+1:=Qx _ (by omega);have hx:=hh.out k q;have K:Hid (P[k]? = some P[k]):=hIx (Qd q);have I:Hid (∀W,OwnP W 0 (.slice gp P.length cp) P->Ins7 W gp (k*7) P[k]):=λW h=>⟨(h.spot k q 0 (by decide)).1,(h.spot k q 1 (by decide)).1,(h.spot k q 2 (by decide)).1,(h.spot k q 3 (by decide)).1,(h.spot k q 4 (by decide)).1,(h.spot k q 5 (by decide)).1,(h.spot k q 6 (by decide)).1⟩
    generalize P[k]=x at hx K I;obtain⟨kd,xa,xb,⟨sa,sb,sc,sd⟩⟩:=x;have H:ThB (wr.setCell ⟨X,k,none⟩ (jA ((f:Int)+1))) D (.slice gp P.length cp) s X P.length A:=a.out.thr.blk.keep (Qk wr ⟨X,k,none⟩ _ D a.out.thr.ne.1);obtain⟨m0,m1,⟨hr,m2⟩,m3,m4⟩:=H.cells;have N:OwnNT (wr.setCell ⟨X,k,none⟩ (jA ((f:Int)+1))) A y:=a.out.thr.lst.keep λg p=>Qk wr ⟨X,k,none⟩ _ g λe=>a.out.thr.far (by rw[p];exact Zi some e)
    have ht:y.length<=400:=by have:=a.out.thr.len;omega
    dsimp only at hx
    rcases hx with ⟨rfl,⟨a0,a1⟩,b0,b1⟩|⟨rfl,a0,a1⟩|⟨rfl|rfl|rfl,hi⟩|rfl
    ·obtain⟨na,rfl⟩:=Zt a0
     obtain⟨nb,rfl⟩:=Zt b0;go_wp2_with (at_builtin;first|(refine zap rfl (.tmp 47) (.tmp 49) rfl A y rfl N _ [k] rfl wr.heap.size (by simp) 1 rfl (by simp) (by simp;omega) ?_;intro g3 C L h1 h2 O h4 Q S;have b:=a.out.after c q d l (u:=jA ((f:Int)+1)) rfl h1 h2 O S;rw[show (y++[k]).length=y.length+1 from Qa]at b;have ⟨_,_,_,p3,p4⟩:=(H.keep (h2 D (by simp;have:=a.out.kept.below.size;omega) a.out.thr.ne.2)).cells;have ⟨o0,o1,⟨_,o2⟩,o3,_⟩:=b.thr.blk.cells;have ⟨x0,x1,x2,x3,x4,x5,x6⟩:=I.out _ b.prg;have E:D<L.heap.size:=(by simp at Q;have:=a.out.kept.below.size;omega))|(refine zap rfl (.tmp 64) (.tmp 69) rfl (.slice Y t.length cq) t rfl (b.stk.alloc _) _ [nb,na] rfl (L.heap.size+1) (by simp) 2 rfl (by simp) (by simp;omega) ?_;intro g5 V W5 U e2 r e4 e5 e6;rw[show (t++[nb,na]).length=t.length+2 from Qa]at U))
     exact a.out.next c q b l d U (λj J z=>(e2 j (by simp at J ⊢;omega) (λe=>z (by injection e with e;exact e.symm))).trans (Qr _ _ _ J)) (λg p=>by
      have e7:g5=g:=by injection p
      subst e7
      rcases r with r|r
      ·left;injection r with r;exact r.symm
      ·right;simp at r ⊢;omega) (((Qj _ _).alloc (Qm _) _).trans e6) (λm=>by rw[zef K.out];simp[or_comm]) (λm Z=>by simp at Z;omega) (by simp)
    ·obtain⟨na,rfl⟩:=Zt a0
     go_wp2_with (at_builtin;first|(refine zap rfl (.tmp 47) (.tmp 49) rfl A y rfl N _ [k] rfl wr.heap.size (by simp) 1 rfl (by simp) (by simp;omega) ?_;intro g3 C L h1 h2 O h4 Q S;have b:=a.out.after c q d l (u:=jA ((f:Int)+1)) rfl h1 h2 O S;rw[show (y++[k]).length=y.length+1 from Qa]at b;have ⟨_,_,_,p3,p4⟩:=(H.keep (h2 D (by simp;have:=a.out.kept.below.size;omega) a.out.thr.ne.2)).cells;have ⟨o0,o1,⟨_,o2⟩,o3,_⟩:=b.thr.blk.cells;have ⟨x0,x1,x2,x3,x4,x5,x6⟩:=I.out _ b.prg;have E:D<L.heap.size:=(by simp at Q;have:=a.out.kept.below.size;omega))|(refine zap rfl (.tmp 75) (.tmp 78) rfl (.slice Y t.length cq) t rfl (b.stk.alloc _) _ [na] rfl (L.heap.size+1) (by simp) 1 rfl (by simp) (by simp;omega) ?_;intro g5 V W5 U e2 r e4 e5 e6;rw[show (t++[na]).length=t.length+1 from Qa]at U))
     exact a.out.next c q b l d U (λj J z=>(e2 j (by simp at J ⊢;omega) (λe=>z (by injection e with e;exact e.symm))).trans (Qr _ _ _ J)) (λg p=>by
      have e7:g5=g:=by injection p
      subst e7
      rcases r with r|r
      ·left;injection r with r;exact r.symm
      ·right;simp at r ⊢;omega) (((Qj _ _).alloc (Qm _) _).trans e6) (λm=>by rw[zef K.out];simp) (λm Z=>by simp at Z;omega) (by simp)
    ·go_wp2_with (at_builtin;refine zap rfl (.tmp 47) (.tmp 49) rfl A y rfl N _ [k] rfl wr.heap.size (by simp) 1 rfl (by simp) (by simp;omega) ?_;intro g3 C L h1 h2 O h4 Q S;have b:=a.out.after c q d l (u:=jA ((f:Int)+1)) rfl h1 h2 O S;rw[show (y++[k]).length=y.length+1 from Qa]at b;have ⟨_,_,_,p3,p4⟩:=(H.keep (h2 D (by simp;have:=a.out.kept.below.size;omega) a.out.thr.ne.2)).cells;have ⟨o0,o1,⟨_,o2⟩,o3,_⟩:=b.thr.blk.cells;have ⟨x0,x1,x2,x3,x4,x5,x6⟩:=I.out _ b.prg;have E:D<L.heap.size:=(by simp at Q;have:=a.out.kept.below.size;omega))
     exact a.out.next c q b l d (vt5:=.slice Y t.length cq) (succ:=[]) (by rw[QE];exact b.stk.alloc _) (λj J _=>Qr _ _ _ J) (λg p=>.inl (by injection p with p;exact p.symm)) ((Qj _ _).alloc (Qm _) _) (λm=>by rw[zef K.out];simp) (by simp) (by simp)
    ·have i7:IntKind.i64.wrap ((k:Int)+1)=(k:Int)+1:=Qx _ (by omega)
     by_cases T:i=0
     ·have h8:((i:Int)==0)=true:=by rw[T];rfl
      have CI:=hIx T;clear T;go_wp2_with (at_builtin;first|(refine zap rfl (.tmp 47) (.tmp 49) rfl A y rfl N _ [k] rfl wr.heap.size (by simp) 1 rfl (by simp) (by simp;omega) ?_;intro g3 C L h1 h2 O h4 Q S;have b:=a.out.after c q d l (u:=jA ((f:Int)+1)) rfl h1 h2 O S;rw[show (y++[k]).length=y.length+1 from Qa]at b;have ⟨_,_,_,p3,p4⟩:=(H.keep (h2 D (by simp;have:=a.out.kept.below.size;omega) a.out.thr.ne.2)).cells;have ⟨o0,o1,⟨_,o2⟩,o3,_⟩:=b.thr.blk.cells;have ⟨x0,x1,x2,x3,x4,x5,x6⟩:=I.out _ b.prg;have E:D<L.heap.size:=(by simp at Q;have:=a.out.kept.below.size;omega))|(refine zap rfl (.tmp 100) (.tmp 103) rfl (.slice Y t.length cq) t rfl (b.stk.alloc _) _ [k+1] rfl (L.heap.size+1) (by simp) 1 rfl (by simp) (by simp;omega) ?_;intro g5 V W5 U e2 r e4 e5 e6;rw[show (t++[k+1]).length=t.length+1 from Qa]at U))
      exact a.out.next c q b l d U (λj J z=>(e2 j (by simp at J ⊢;omega) (λe=>z (by injection e with e;exact e.symm))).trans (Qr _ _ _ J)) (λg p=>by
       have e7:g5=g:=by injection p
       subst e7
       rcases r with r|r
       ·left;injection r with r;exact r.symm
       ·right;simp at r ⊢;omega) (((Qj _ _).alloc (Qm _) _).trans e6) (λm=>by rw[zef K.out];simp[CI.out]) (λm Z=>by simp at Z;omega) (by simp)
     ·have h8:((i:Int)==0)=false:=Qb.2 (by omega)
      have CI:=hIx T;clear T;go_wp2_with (at_builtin;refine zap rfl (.tmp 47) (.tmp 49) rfl A y rfl N _ [k] rfl wr.heap.size (by simp) 1 rfl (by simp) (by simp;omega) ?_;intro g3 C L h1 h2 O h4 Q S;have b:=a.out.after c q d l (u:=jA ((f:Int)+1)) rfl h1 h2 O S;rw[show (y++[k]).length=y.length+1 from Qa]at b;have ⟨_,_,_,p3,p4⟩:=(H.keep (h2 D (by simp;have:=a.out.kept.below.size;omega) a.out.thr.ne.2)).cells;have ⟨o0,o1,⟨_,o2⟩,o3,_⟩:=b.thr.blk.cells;have ⟨x0,x1,x2,x3,x4,x5,x6⟩:=I.out _ b.prg;have E:D<L.heap.size:=(by simp at Q;have:=a.out.kept.below.size;omega));exact a.out.next c q b l d (vt5:=.slice Y t.length cq) (succ:=[]) (by rw[QE];exact b.stk.alloc _) (λj J _=>Qr _ _ _ J) (λg p=>.inl (by injection p with p;exact p.symm)) ((Qj _ _).alloc (Qm _) _) (λm=>by rw[zef K.out];simp[CI.out]) (by simp) (by simp)
    ·have i7:IntKind.i64.wrap ((k:Int)+1)=(k:Int)+1:=Qx _ (by omega)
     have ha:s.data.toList.length=s.size:=by simp
     have hd:=hIx ha;clear ha
     by_cases T:i=s.size
     ·have h8:((i:Int)==(s.size:Int))=true:=by rw[T];simp
      have CI:=hIx T;clear T;go_wp2_with (at_builtin;first|(refine zap rfl (.tmp 47) (.tmp 49) rfl A y rfl N _ [k] rfl wr.heap.size (by simp) 1 rfl (by simp) (by simp;omega) ?_;intro g3 C L h1 h2 O h4 Q S;have b:=a.out.after c q d l (u:=jA ((f:Int)+1)) rfl h1 h2 O S;rw[show (y++[k]).length=y.length+1 from Qa]at b;have ⟨_,_,_,p3,p4⟩:=(H.keep (h2 D (by simp;have:=a.out.kept.below.size;omega) a.out.thr.ne.2)).cells;have ⟨o0,o1,⟨_,o2⟩,o3,_⟩:=b.thr.blk.cells;have ⟨x0,x1,x2,x3,x4,x5,x6⟩:=I.out _ b.prg;have E:D<L.heap.size:=(by simp at Q;have:=a.out.kept.below.size;omega))|(refine zap rfl (.tmp 100) (.tmp 103) rfl (.slice Y t.length cq) t rfl (b.stk.alloc _) _ [k+1] rfl (L.heap.size+1) (by simp) 1 rfl (by simp) (by simp;omega) ?_;intro g5 V W5 U e2 r e4 e5 e6;rw[show (t++[k+1]).length=t.length+1 from Qa]at U))
      exact a.out.next c q b l d U (λj J z=>(e2 j (by simp at J ⊢;omega) (λe=>z (by injection e with e;exact e.symm))).trans (Qr _ _ _ J)) (λg p=>by
       have e7:g5=g:=by injection p
       subst e7
       rcases r with r|r
       ·left;injection r with r;exact r.symm
       ·right;simp at r ⊢;omega) (((Qj _ _).alloc (Qm _) _).trans e6) (λm=>by rw[zef K.out,hd.out];simp[CI.out]) (λm Z=>by simp at Z;omega) (by simp)
     ·have h8:((i:Int)==(s.size:Int))=false:=Qb.2 (by omega)
      have CI:=hIx T;clear T;go_wp2_with (at_builtin;refine zap rfl (.tmp 47) (.tmp 49) rfl A y rfl N _ [k] rfl wr.heap.size (by simp) 1 rfl (by simp) (by simp;omega) ?_;intro g3 C L h1 h2 O h4 Q S;have b:=a.out.after c q d l (u:=jA ((f:Int)+1)) rfl h1 h2 O S;rw[show (y++[k]).length=y.length+1 from Qa]at b;have ⟨_,_,_,p3,p4⟩:=(H.keep (h2 D (by simp;have:=a.out.kept.below.size;omega) a.out.thr.ne.2)).cells;have ⟨o0,o1,⟨_,o2⟩,o3,_⟩:=b.thr.blk.cells;have ⟨x0,x1,x2,x3,x4,x5,x6⟩:=I.out _ b.prg;have E:D<L.heap.size:=(by simp at Q;have:=a.out.kept.below.size;omega));exact a.out.next c q b l d (vt5:=.slice Y t.length cq) (succ:=[]) (by rw[QE];exact b.stk.alloc _) (λj J _=>Qr _ _ _ J) (λg p=>.inl (by injection p with p;exact p.symm)) ((Qj _ _).alloc (Qm _) _) (λm=>by rw[zef K.out,hd.out];simp[CI.out]) (by simp) (by simp)
    ·go_wp2_with (at_builtin;refine zap rfl (.tmp 47) (.tmp 49) rfl A y rfl N _ [k] rfl wr.heap.size (by simp) 1 rfl (by simp) (by simp;omega) ?_;intro g3 C L h1 h2 O h4 Q S;have b:=a.out.after c q d l (u:=jA ((f:Int)+1)) rfl h1 h2 O S;rw[show (y++[k]).length=y.length+1 from Qa]at b;have ⟨_,_,_,p3,p4⟩:=(H.keep (h2 D (by simp;have:=a.out.kept.below.size;omega) a.out.thr.ne.2)).cells;have ⟨o0,o1,⟨_,o2⟩,o3,_⟩:=b.thr.blk.cells;have ⟨x0,x1,x2,x3,x4,x5,x6⟩:=I.out _ b.prg;have E:D<L.heap.size:=(by simp at Q;have:=a.out.kept.below.size;omega))
     exact a.out.next c q b l d (vt5:=.slice Y t.length cq) (succ:=[]) (by rw[QE];exact b.stk.alloc _) (λj J _=>Qr _ _ _ J) (λg p=>.inl (by injection p with p;exact p.symm)) ((Qj _ _).alloc (Qm _) _) (λm=>by rw[zef K.out];simp) (by simp) (by simp)
   ·have c1:decide ((0:Int)<((G k:Nat):Int))=true:=by simp;omega
    go_wp2_with fail;have B:=a.out;exact⟨⟨t,G,y,A,hc,B.thr,B.dfs.skip c,λm Z=>B.small m (by simp[Z]),by omega,B.prg,B.new,B.kept⟩,by simp[lenV]⟩
