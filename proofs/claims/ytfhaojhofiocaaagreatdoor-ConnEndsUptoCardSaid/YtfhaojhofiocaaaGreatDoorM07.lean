/- Lemmas for the last texts. -/
import Derived.Test.YtfhaojhofiocaaaGreatDoorM06
import Derived.Laws.Concat
import Derived.Laws.IdiomStrings
set_option maxHeartbeats 6400000
set_option maxRecDepth 100000
namespace Go.Proofs.YtfhaojhofiocaaaGreatDoor
open Go.RowKit Go.Proofs.Tryz
section
open Go.RowKit
structure TC where
 t:Tree
 A:Option Addr
 c:Nat
def zc1(x:TC):List Value:=zap x.t.kind x.t.set x.A x.t.kids.length x.c
def OwnT(w:World)(base:Nat)(v:Value)(l:List TC):Prop:=w.ownsRow base 98 6 v l.length (l.flatMap zc1)
theorem OwnT.nil(w:World)(base:Nat):OwnT w base (jD 0 0) []:=ZH w base 98 6
theorem OwnT.below{w w':World}{base:Nat}{v:Value}{l:List TC}(h:OwnT w base v l)(hb:w w'):OwnT w' base v l:=zaM h hb
theorem OwnT.keep{w w':World}{base:Nat}{v:Value}{l:List TC}(h:OwnT w base v l)(b:∀g,v.ownBlock=some g->w'.heap[g]? = w.heap[g]?):OwnT w' base v l:=by
 refine⟨h.1,?_⟩
 rcases h.2 with d|⟨g,cap,a,h1,h2,e,c⟩
 ·exact .inl d
 ·exact .inr ⟨g,cap,a,h1,h2,(b g (by rw[h1];rfl)).trans e,c⟩
theorem zpj{w:World}{p:Nat->Prop}:∀(l:List TC) (b a:Nat),p b->(∀x∈l,LX w p x.t (zc1 x))->(∀j u,(l.flatMap zc1)[j]? = some u->w.cell? ⟨b,a+j,none⟩=some u)->LXK w p (l.map TC.t) (some ⟨b,a,none⟩)
 | [],_,_,_,_,_=>by rw[ZE,LXK];trivial
 |x::l,b,a,hb,hl,d=>by
  rw[Q8,LXK];refine⟨b,a,zc1 x,rfl,hb,rfl,λj c=>?_,hl x (by simp),zpj l b (a+6) hb (λy e=>hl y (by simp[e])) λj u f=>?_⟩
  ·refine d j _ ?_
   rw[QV,Zj c,Qe c]
  ·have:=d (6+j) u (by rw[QV,Q1 (by show 6<=_;omega)];show (l.flatMap zc1)[6+j-6]? = _;rw[Nat.add_sub_cancel_left];exact f)
   rw[Zf];exact this
theorem zvH:(prog.info? 98).map (λi=>(i.zero,i.size,i.bytes))=some (some (.agg #[jA 0,jB 0,jB 0,jB 0,jB 0,jD 0 0]),6,64):=by kernel_rfl
section
variable {ops:Array Oper} {o:Oper} {a:Act} {Q:Exit->Act->World->Prop} {w:World}
theorem zkk{K:Act->World->Prop}{E:Prop}(i:o.guard=none)(s x:Operand)(C:o.op=.call {callee:=.builtin .append,args:=#[s,x],argTypes:=#[96,96]})
 (base:Nat) (v:Value) (l:List TC) (n:Nat) (I:l.length=n) (F:a.eval s=v) (d:OwnT w base v l) (b:base<=w.heap.size) (y:TC) (f c:Nat) (H:a.eval x=.slice f 1 c) (A:PutX w f (zc1 y)) (r:n<=1000)
 (h:∀g cap w',OwnT w' base (.slice (some ⟨g,0,none⟩) (n+1) cap) (l++[y])->w.grownBy w' v.ownBlock->(v.ownBlock=some g\/g=w.heap.size)->g<w'.heap.size->K (a.put o.dst (.slice (some ⟨g,0,none⟩) (n+1) cap)) w'):
 if Region.wanted o (yielded ops a.tmps)=true then Oper.wp prog o a w K Q else E:=by
 subst I;have B:Region.wanted o (yielded ops a.tmps)=true:=by simp[Region.wanted,i]
 rw[Qj B];obtain⟨z,G,k,m,q⟩:=ZG zvH
 refine wp_append_lies (P:=prog) w s x 96 C base 98 z _ 6 64 underlying96 G k m q rfl (by decide) v l.length (l.flatMap zc1) F d
  ⟨f,0,none⟩ 1 c (zc1 y) H rfl (λj u e=>?_) (λu e=>?_) (by decide) (by unfold maxLen;omega) (by omega) b w.heap.size rfl ?_
 ·rw[zbd]
  exact(Qo w f j _ _ _ A).trans (by simpa using e)
 ·unfold zc1 zap at e
  simp only[QN,Zz,XA]at e
  rcases e with rfl|rfl|rfl|rfl|rfl|rfl <;> rfl
 ·intro g cap w' h1 h2 D t
  refine h g cap w' ?_ h2 D t;unfold OwnT;rw[Qb,Q7,QV,XC,QO];exact h1
end
def zxv(t:Tree):Prop:=∀(A:Option Addr) (c:Nat) (w:World),LT w w.heap.size t (zap t.kind t.set A t.kids.length c)->
 Calls prog 166 #[argX t A c] w λe w'=>∃b a,e=jC (argX t b a)/\NewX w w' t b a/\w w'
structure CpSt(ts:List Tree)(k:Int)(S:Set4)(w:World)(j:Nat)(l:List TC)(A:Option Addr)(c:Nat)(wr:World):Prop where
 map:l.map TC.t=ts.take j
 len:l.length=j
 own:OwnT wr (w.heap.size+3) (.slice A j c) l
 out:PutX wr (w.heap.size+2) (zap k S A j c)
 trees:∀x∈l,LX wr (λb=>w.heap.size+2<b/\(Value.slice A j c).ownBlock≠some b/\b<wr.heap.size) x.t (zc1 x)
 zero:ZeroX wr (w.heap.size+1)
 low:w wr
theorem CpSt.size{a:List Tree}{k:Int}{S:Set4}{w:World}{j:Nat}{l:List TC}{A:Option Addr}{c:Nat}{wr:World}(h:CpSt a k S w j l A c wr):w.heap.size+2<wr.heap.size:=h.out.lt
theorem CpSt.more{d:List Tree}{k:Int}{S:Set4}{w:World}{j:Nat}{l:List TC}{A:Option Addr}{c:Nat}{wr w':World}(h:CpSt d k S w j l A c wr)(hb:wr w'):CpSt d k S w j l A c w':=
 ⟨h.map,h.len,h.own.below hb,(hb.block _ h.out.lt).trans h.out,
  λx e=>LX.keep (λ_ a=>⟨a.1,a.2.1,Qw a.2.2 hb.size⟩) (λb o a=>hb.cell (p:=⟨b,o,none⟩) a.2.2) _ _ (h.trees x e),(hb.block _ h.zero.lt).trans h.zero,h.low.trans (hb.mono h.low.size)⟩
theorem CpSt.add{u:List Tree}{k:Int}{S:Set4}{w:World}{j:Nat}{l:List TC}{A:Option Addr}{c:Nat}{v wr w':World}{y:TC}{g cap:Nat}(h:CpSt u k S w j l A c wr)(H:u.take (j+1)=u.take j++[y.t])
 (J:w.heap.size+2<v.heap.size) (F:LX wr (ziC v.heap.size wr.heap.size) y.t (zc1 y)) (z:∀b,(Value.slice A j c).ownBlock=some b->b<v.heap.size)
 (B:OwnT w' (w.heap.size+3) (.slice g (j+1) cap) (l++[y])) (r:wr.grownBy w' (Value.slice A j c).ownBlock) (s:(Value.slice A j c).ownBlock=some g\/g=wr.heap.size):
 CpSt u k S w (j+1) (l++[y]) (some ⟨g,0,none⟩) cap (w'.setCell ⟨w.heap.size+2,5,none⟩ (.slice g (j+1) cap)):=by
 have E:=r.size;have I:=QE B g rfl;have a:∀b,(Value.slice A j c).ownBlock=some b->w.heap.size+3<=b:=λb hb=>(QE h.own b hb).1
 have i:∀b,b<wr.heap.size->(Value.slice A j c).ownBlock≠some b->b≠w.heap.size+2->(w'.setCell ⟨w.heap.size+2,5,none⟩ (.slice g (j+1) cap)).heap[b]? = wr.heap[b]? := λb h1 h2 C=>
  (Qm _ _ _ _ C).trans (r.block b h1 (λe=>h2 e.symm))
 have G:(w'.setCell ⟨w.heap.size+2,5,none⟩ (.slice g (j+1) cap)).heap.size=w'.heap.size:=by simp[World.setCell]
 have q:w'.heap[w.heap.size+2]? = wr.heap[w.heap.size+2]? := r.block _ (by have:=h.size;omega) (λe=>by have:=a _ e.symm;omega);refine⟨?_,?_,?_,?_,λx n=>?_,?_,?_⟩
 ·rw[Q2,h.map,H];rfl
 ·rw[Qb,h.len];rfl
 ·exact B.keep λb hb=>Qm _ _ _ _ (show b≠w.heap.size+2 by have:=(QE B b hb).1;omega)
 ·have:=q.trans h.out
  unfold PutX;simp only[World.setCell,Q5,this]
  rfl
 ·have f:∀b,(Value.slice A j c).ownBlock≠some b->b<wr.heap.size->(Value.slice g (j+1) cap).ownBlock≠some b:=λb h1 h2 e=>by
   have D:g=b:=QG e
   rcases s with s|s
   ·exact h1 (by rw[s,D])
   ·omega
  have d:∀b o,b<wr.heap.size->(Value.slice A j c).ownBlock≠some b->b≠w.heap.size+2->(w'.setCell ⟨w.heap.size+2,5,none⟩ (.slice g (j+1) cap)).cell? ⟨b,o,none⟩=wr.cell? ⟨b,o,none⟩:=λb o h1 h2 C=>by
   simp only[World.cell?, i b h1 h2 C]
  rcases QY.1 n with n|n
  ·exact LX.keep (λb hb=>⟨hb.1,f b hb.2.1 hb.2.2,by have:=hb.2.2;omega⟩) (λb o hb=>d b o hb.2.2 hb.2.1 (by have:=hb.1;omega)) _ _ (h.trees x n)
  ·rw[QF.1 n]
   have m:∀b,v.heap.size<=b->(Value.slice A j c).ownBlock≠some b:=λb hb e=>by have:=z b e;omega
   exact LX.keep (λb hb=>⟨by have:=hb.1;omega,f b (m b hb.1) hb.2,by have:=hb.2;omega⟩) (λb o hb=>d b o hb.2 (m b hb.1) (by have:=hb.1;omega)) _ _ F
 ·exact(i _ h.zero.lt (λe=>by have:=a _ e;omega) (by omega)).trans h.zero
 ·refine(h.low.grown r h.low.size (λb hb=>by have:=a b hb;omega)).setCell (by show w.heap.size<=w.heap.size+2;omega) _
theorem CpSt.tree{a:List Tree}{k:Int}{S:Set4}{w:World}{l:List TC}{A:Option Addr}{c:Nat}{wr:World}(h:CpSt a k S w a.length l A c wr)(s:S.Wf):
 LX wr (λb=>w.heap.size+2<b/\b<wr.heap.size) (.node k S a) (zap k S A a.length c):=by
 have f:l.map TC.t=a:=by rw[h.map,Q0]
 rw[LX];refine⟨A,c,rfl,s,?_⟩
 rcases h.own.2 with ⟨_,i⟩|⟨g,cap,n,e,v,q,_⟩
 ·have:l=[]:=QA i
  subst this;rw[<-f];exact LXK.nil _ _ _
 ·have d:=QE h.own g (by rw[e];rfl)
  have m:A=some ⟨g,0,none⟩:=by injection e
  rw[m,<-f];refine zpj l g 0 ⟨by omega,d.2⟩ (λx r=>LX.keep (λb hb=>⟨hb.1,hb.2.2⟩) (λ_ _ _=>rfl) _ _ (h.trees x r)) λj u o=>?_
  have:=Zq (g:=g) h.own (by rw[e];rfl) j u o;rw[zbd]at this;rw[Ze];exact this
end
section
open Go.RowKit
def zux(b:List Tree)(k:Int)(S:Set4)(w:World)(a:Value)(wr:World):Prop:=
 ∃(j:Nat) (l:List TC) (A:Option Addr) (c:Nat),a=jA j/\j<=b.length/\CpSt b k S w j l A c wr
theorem zth(k:Int)(S:Set4)(m:List Tree)(hB:m.length<=2)(ih:∀(i:Nat) (h:i<m.length),zxv m[i]):zxv (.node k S m):=by
 intro A c w hl;have IH:=hIx ih;rw[LT]at hl;obtain⟨q,v,he,Z,hk⟩:=hl;have hA:q=A:=by unfold zap at he;simp only[List.cons.injEq,Value.slice.injEq]at he;exact he.2.2.2.2.2.1.1.symm
 subst hA;have hm:=hIx Z;have hn:Hid (∀W,w W->LK W w.heap.size m q):=λW h=>hk.below h
 have hd:Hid (zux m k S w (jA (0:Nat)) (((w.alloc (.cells #[jA k,jB S.a,jB S.b,jB S.c,jB S.d,.slice q m.length c] 98)).alloc (.cells #[jA 0,jB 0,jB 0,jB 0,jB 0,jD 0 0] 98)).alloc (.cells #[jA k,jB S.a,jB S.b,jB S.c,jB S.d,jD 0 0] 98))):=by
  refine⟨0,[],none,0,rfl,Qn _,⟨rfl,rfl,OwnT.nil _ _,?_,λx hx=>absurd hx (by simp),?_,?_⟩⟩
  ·have:=PutX.new ((w.alloc (.cells #[jA k,jB S.a,jB S.b,jB S.c,jB S.d,.slice q m.length c] 98)).alloc (.cells #[jA 0,jB 0,jB 0,jB 0,jB 0,jD 0 0] 98)) (zap k S none 0 0)
   simpa[zap]using this
  ·have:=ZeroX.new (w.alloc (.cells #[jA k,jB S.a,jB S.b,jB S.c,jB S.d,.slice q m.length c] 98))
   rw[Qp]at this;exact(Qs _ _ _ (by simp)).trans this
  ·exact(WaL.alloc (by simp) _).alloc (by simp;omega) _
 unfold argX Tree.kind Tree.set Tree.kids;dsimp only;clear ih hk he Z
 go_in
 go_upto_region 3 with fail
 generalize ((w.alloc (.cells #[jA k,jB S.a,jB S.b,jB S.c,jB S.d,.slice q m.length c] 98)).alloc (.cells #[jA 0,jB 0,jB 0,jB 0,jB 0,jD 0 0] 98)).alloc (.cells #[jA k,jB S.a,jB S.b,jB S.c,jB S.d,jD 0 0] 98)=W1 at *
 go_loopw [14] (λK wr=>zux m k S w K wr) (λK _=>m.length-(intOf K).toNat)
 case atStart=>exact hd.out
 case round=>
  obtain⟨j,l,n,c2,rfl,hj,t⟩:=hrel;have F:=hIx t;have hz:=t.size;have o0:=(show PutX wr (w.heap.size+1+1) [_,_,_,_,_,_]from t.out).cells
  by_cases z:j<m.length
  ·have d1:decide ((j:Int)<(m.length:Int))=true:=Qx (by omega)
   have i7:IntKind.i64.wrap ((j:Int)+1)=(j:Int)+1:=Qz _ (by omega);obtain⟨b,hf,hD,rfl,hv,N,H⟩:=(hn.out wr t.low).at j z;have h6:=IH.out j z;have ha:Hid (m.take (j+1)=m.take j++[m[j]]):=by unfold Hid;rw[Qu z]
   generalize m[j]=f at *;obtain⟨Q,c3,P,_⟩:=H.parts;subst P;have y0:=(show CellsAt wr b (hf+j*6) [_,_,_,_,_,_]from N).six;have X:=hIx H;clear N t;obtain⟨s,u⟩:∃s,wr.alloc (.cells #[jA f.kind,jB f.set.a,jB f.set.b,jB f.set.c,jB f.set.d,.slice Q f.kids.length c3] 98)=s:=⟨_,rfl⟩
   have T:wr s:=by rw[<-u];exact WaL
   have J:wr.heap.size<s.heap.size:=by rw[<-u];simp
   have V:PutX s wr.heap.size [jA f.kind,jB f.set.a,jB f.set.b,jB f.set.c,jB f.set.d,.slice Q f.kids.length c3]:=by rw[<-u];exact PutX.new wr (zap f.kind f.set Q f.kids.length c3)
   have x0:=V.cells;have C:=F.out.more T;have Y:∀b,(Value.slice n j c2).ownBlock=some b->b<s.heap.size:=λb hb=>(QE C.own b hb).2
   have hh:=hIx Y;have U:=hIx C
   have hg:Hid (∀W,s W->Calls prog 166 #[.agg #[jA f.kind,jB f.set.a,jB f.set.b,jB f.set.c,jB f.set.d,.slice Q f.kids.length c3]] W λe w'=>∃q v,e=jC (.agg #[jA f.kind,jB f.set.a,jB f.set.b,jB f.set.c,jB f.set.d,.slice q f.kids.length v])/\LX w' (ziC s.heap.size w'.heap.size) f (zap f.kind f.set q f.kids.length v)/\CpSt m k S w j l n c2 w'):=λW hW=>
    (h6 Q c3 W (LT.keep (Ql (Ql F.out.low.size (QZ J)) hW.size) (λbb oo hp=>(T.trans (hW.mono (QZ J))).cell (p:=⟨bb,oo,none⟩) (Qw hp F.out.low.size)) _ _ X.out)).mono
     (λe w' ⟨q,v,h1,h2,h3⟩=>⟨q,v,h1,LX.keep (λb hb=>⟨Ql hW.size hb.1,hb.2⟩) (λ_ _ _=>rfl) _ _ h2,C.more (hW.trans (h3.mono hW.size))⟩)
   clear H C Y h6;have hE:=hIx u;go_upto_region 5 with fail
   clear u y0;have o0:=(show PutX s (w.heap.size+1+1) [jA k,jB S.a,jB S.b,jB S.c,jB S.d,.slice n j c2]from U.out.out).cells;have hc:j<=1000:=by omega
   have hr:l.length=j:=U.out.len
   have O:Hid (∀q v w2 w3 g cap,LX w2 (ziC s.heap.size w2.heap.size) f (zap f.kind f.set q f.kids.length v)->CpSt m k S w j l n c2 w2->
    OwnT w3 (w.heap.size+3) (.slice (some ⟨g,0,none⟩) (j+1) cap) (l++[⟨f,q,v⟩])->w2.grownBy w3 (Value.slice n j c2).ownBlock->((Value.slice n j c2).ownBlock=some g\/g=w2.heap.size)->
    zux m k S w (jA ((j:Int)+1)) (w3.setCell ⟨w.heap.size+2,5,none⟩ (.slice (some ⟨g,0,none⟩) (j+1) cap))):=λq v w2 w3 g cap h1 h2 h3 h4 h5=>
    ⟨j+1,_,_,_,by rw[Int.natCast_succ],z,CpSt.add (y:=⟨f,q,v⟩) h2 ha.out (Qw hz (QZ J)) h1 hh.out h3 h4 h5⟩
   clear V
   go_region_law (first
    |(refine zkk rfl (.tmp 19) (.tmp 22) rfl (w.heap.size+3) (.slice n j c2) l j hr rfl (by exact r.out.own) (by exact r.out.size) ⟨f,A9,c9⟩ w2.heap.size 1 rfl (by exact PutX.new w2 _) hc ?_;intro g cap w3 h0 E D h7;have G:PutX w3 (w.heap.size+1+1) [.int .i64 k,.int .u64 S.a,.int .u64 S.b,.int .u64 S.c,.int .u64 S.d,.slice n j c2]:=(E.block _ r.out.out.lt (λe=>by have:=(QE r.out.own _ e.symm).1;omega)).trans r.out.out;have o5:=G.cells.2.2.2.2.2;have f5:=G.free 5)
    |(go_simp;go_at_call 166;refine(hg.out _ (by first|exact Qi _ _|exact(Qi _ _).drew)).mono ?_;rintro e w2 ⟨A9,c9,rfl,hu,B⟩;have hw:=hIx B;have ht:PutX w2 (w.heap.size+1+1) [jA k,jB S.a,jB S.b,jB S.c,jB S.d,.slice n j c2]:=B.out;have o5:=ht.cells.2.2.2.2.2;have hy:w.heap.size+1+1<w2.heap.size:=B.size;have r:Hid (CpSt m k S w j l n c2 (w2.alloc (.cells #[jA f.kind,jB f.set.a,jB f.set.b,jB f.set.c,jB f.set.d,.slice A9 f.kids.length c9] 98))):=B.more WaL))
   all_goals
    have hN:=O.out A9 c9 (w2.alloc (.cells #[jA f.kind,jB f.set.a,jB f.set.b,jB f.set.c,jB f.set.d,.slice A9 f.kids.length c9] 98)) w3 g cap
     (LX.keep (λb hb=>⟨hb.1,by have:=hb.2;rw[Qp];omega⟩) (λb o hb=>((Qi w2.heap.size w2).alloc (Qd _) _).cell (p:=⟨b,o,none⟩) hb.2) _ _ hu) r.out h0 (by exact E) (by exact D)
    have hq:Hid (zux m k S w (jA ((j:Int)+1)) (w3.setCell ⟨w.heap.size+1+1,5,none⟩ (.slice g (j+1) cap))):=hN;generalize w3.setCell ⟨w.heap.size+1+1,5,none⟩ (.slice g (j+1) cap)=w4 at *;clear hN h0 E D h7 G o5 f5;go_wp2;exact⟨hq.out,by dsimp only[intOf];omega⟩
  ·obtain rfl:j=m.length:=by omega
   have d1:decide ((m.length:Int)<(m.length:Int))=false:=by simp
   have ho:=hIx (t.tree hm.out);have I:Below (w.heap.size+1) wr (zai wr (w.heap.size+1) (jA k) (jB S.a) (jB S.b) (jB S.c) (jB S.d) (.slice n m.length c2)):=zbA (Qi _ _) (Qd _) _ _ _ _ _ _
   have h8:∀i,i≠w.heap.size+1->(zai wr (w.heap.size+1) (jA k) (jB S.a) (jB S.b) (jB S.c) (jB S.d) (.slice n m.length c2)).heap[i]? = wr.heap[i]? := λi L=>by
    unfold zai;rw[Qm _ _ _ _ L,Qm _ _ _ _ L,Qm _ _ _ _ L,Qm _ _ _ _ L,Qm _ _ _ _ L,Qm _ _ _ _ L]
   have h9:Hid (NewX w (zai wr (w.heap.size+1) (jA k) (jB S.a) (jB S.b) (jB S.c) (jB S.d) (.slice n m.length c2)) (.node k S m) n c2):=
    LX.keep (λb hb=>⟨by have:=hb.1;omega,Qw hb.2 I.size⟩) (λb o hb=>by simp only[World.cell?, h8 b (show b≠w.heap.size+1 by have:=hb.1;omega)]) _ _ ho.out
   have hs:Hid (w (zai wr (w.heap.size+1) (jA k) (jB S.a) (jB S.b) (jB S.c) (jB S.d) (.slice n m.length c2))):=t.low.trans (I.mono (Zd _));have HX:=hIx (t.zero.fill (jA k) (jB S.a) (jB S.b) (jB S.c) (jB S.d) (.slice n m.length c2));have z0:=t.zero.cells;have q0:=t.zero.free;clear t I h8;go_wp2_with fail;have ⟨s0,s1,s2,s3,s4,s5⟩:=HX.out.cells;unfold zai at s0 s1 s2 s3 s4 s5;exact QD (by simp[results,results166,go_sem,s0,s1,s2,s3,s4,s5]) rfl ⟨n,c2,rfl,h9.out,hs.out⟩
theorem zpi(t:Tree)(h:FewT t):zxv t:=
 match t,h with
 |.node k S a,h=>by
  rw[FewT]at h;exact zth k S a h.1 λi b=>zpi a[i] (h.2.at i b)
termination_by SizeOf.sizeOf t
decreasing_by
 have:=List.sizeOf_lt_of_mem (QC b);simp only[Tree.node.sizeOf_spec];omega
end
theorem LX.star{w:World}{p:Nat->Prop}{t:Tree}{A:Option Addr}{c b c1:Nat}(h:LX w p t (zap t.kind t.set A t.kids.length c))(hb:p b)(a:PutX w b (zap t.kind t.set A t.kids.length c)):
 LX w p (stT t) (zap 6 .zero (some ⟨b,0,none⟩) 1 c1):=by
 unfold stT;rw[LX];refine⟨_,_,rfl,zbC,?_⟩;rw[LXK];refine⟨b,0,_,rfl,hb,rfl,λj d=>?_,h,LXK.nil _ _ _⟩;rw[Ze,Qo w b j _ _ _ a];simp[Qe d]
theorem znp{W:World}{k:Nat}(o:Obj)(a b c d e f:Value)(h:k<W.heap.size):zai (W.alloc o) k a b c d e f=(zai W k a b c d e f).alloc o:=by
 have g:∀(V:World) (p:Addr) (u:Value),(V.setCell p u).heap.size=V.heap.size:=λV p u=>by simp[World.setCell]
 unfold zai;rw[Z2 _ _ _ _ h];rw[Z2 _ _ _ _ (by rw[g];exact h)];rw[Z2 _ _ _ _ (by rw[g,g];exact h)];rw[Z2 _ _ _ _ (by rw[g,g,g];exact h)];rw[Z2 _ _ _ _ (by rw[g,g,g,g];exact h)];rw[Z2 _ _ _ _ (by rw[g,g,g,g,g];exact h)]
def zxZ(g:Nat)(s:ByteArray)(w:World)(k op:Nat)(R:TR)(wr:World):Prop:=
 ∃(x:TR) (A:Option Addr) (c:Nat),FewT x.1/\fixI (zcQ s.data.toList) (ze5 s.data.toList) x=R/\x.2.pos<=s.size/\x.2.op=op/\OutSt g s w k x A c wr
theorem zmg(s:ByteArray)(op:Nat)(AF:RS->TR)(hs:s.size<=4096)(hA:ziE s.data.toList AF)(hC:zfT 164 s op (zhn s.data.toList AF)):
 zfT 129 s op (zfN s.data.toList AF):=by
 intro g r w h hp hQ;have gm:s.data.toList.length=s.size:=by simp
 have K:=h.lt;obtain⟨W0,h0⟩:∃W0,w.alloc (.cells #[jA 0,jB 0,jB 0,jB 0,jB 0,jD 0 0] 98)=W0:=⟨_,rfl⟩
 have hu:w W0:=by rw[<-h0];exact WaL
 have hr:ZeroX W0 w.heap.size:=by rw[<-h0];exact ZeroX.new w
 have gc:w.heap.size<W0.heap.size:=hr.lt;have hH:=hIx (hC g r W0 (h.below hu) hp hQ);have hm:Hid (ZeroX W0 w.heap.size/\w.grownBy W0 (some g)):=⟨hr,zcn (zaZ w _) hu⟩
 have hX:Hid (fixI (zcQ s.data.toList) (ze5 s.data.toList) (zhn s.data.toList AF r)=zfN s.data.toList AF r):=rfl;have hv:=(zmj hA (r:=r) (by omega)).1;have hj:=hIx hv.few;have he:=hIx hv.step;generalize hR:zfN s.data.toList AF r=R at *;generalize g2:zhn s.data.toList AF r=C at *;have gf:=hIx h0;clear h hC hu h0 hr hR g2 hv hA
 go_in
 go_upto_region 1 with fail
 rw[gf.out];go_wp2_with (go_at_call 164;apply Hid.out);refine WhM hH ?_;rintro e w2 ⟨A,c,rfl,hV,h2⟩
 have HO:Hid (OutSt g s w w2.heap.size C A c (w2.alloc (.cells #[jA C.1.kind,jB C.1.set.a,jB C.1.set.b,jB C.1.set.c,jB C.1.set.d,.slice A C.1.kids.length c] 98))):=
  OutSt.start K (hm.out.1.grown h2.2 (by omega)) (zay hm.out.2 h2.2) gc hV h2.1 h2.2.size
 have U:C.2.pos<=s.size:=by have:=he.out.inn;omega
 have Y:C.2.op=op:=he.out.op.trans hQ;clear hV h2 he hH hm;unfold argX;go_upto_region 3 with fail
 generalize w2.alloc (.cells #[jA C.1.kind,jB C.1.set.a,jB C.1.set.b,jB C.1.set.c,jB C.1.set.d,.slice A C.1.kids.length c] 98)=W3 at *;generalize w2.heap.size=k at *;have HS:Hid (zxZ g s w k op R W3):=⟨C,A,c,hj.out,hX.out,U,Y,HO.out⟩
 clear HO U Y hX hj
 go_loopw [7] (λ_ wr=>zxZ g s w k op R wr) (λ_ wr=>zia g s.size wr)
 case atStart=>exact HS.out
 case round=>
  obtain⟨x,A,c,T,hx,U,Y,hO⟩:=hrel;have HM:=hIx (zeN hO.rd);have HO:=hIx hO;have gl:=hO.far;have h3:InR s.data.toList x:=by unfold InR;omega
  have hj:=hIx T
  have hn:Hid (∀(b:Int) W,OutSt g s w k x A c W->Calls prog 89 #[.pointer (some ⟨g,0,none⟩),jA b] W λe w'=>e=jC (.bool (decide (zaf s.data.toList x.2=b)))/\OutSt g s w k (x.1,if zaf s.data.toList x.2=b then onR x.2 else x.2) A c w'):=λb W hW=>
   (zdR g s x.2 b W hW.rd U hs).mono (λe w' ⟨h1,h2⟩=>by
    have l:=hW.call K h2;unfold zaR at h1 l
    by_cases hb:zaf s.data.toList x.2=b
    ·rw[Qj hb]at h1 l
     rw[Qj hb];exact⟨by rw[h1,Qx hb],l⟩
    ·rw[Qf hb]at h1 l
     rw[Qf hb];exact⟨by rw[h1,Qt hb],l⟩)
  have O:Hid (∀(n:Tree) A7 c7 B,zcQ s.data.toList x=some (n,onR x.2)->OutSt g s w k (x.1,onR x.2) A c B->LX B (λb=>w.heap.size<b/\b≠k/\b<B.heap.size) n (zap n.kind n.set A7 n.kids.length c7)->
   zxZ g s w k op R (zai B k (jA n.kind) (jB n.set.a) (jB n.set.b) (jB n.set.c) (jB n.set.d) (.slice A7 n.kids.length c7))/\zia g s.size (zai B k (jA n.kind) (jB n.set.a) (jB n.set.b) (jB n.set.c) (jB n.set.d) (.slice A7 n.kids.length c7))<zia g s.size wr):=λn A7 c7 B V h7 ge=>by
   have hp:=h7.put K n A7 c7 ge;have hf:=zgN s.data.toList;have hZ:=zc6 V;obtain⟨_,_,_,_,hY,_⟩:=hZ;have hk:=hf.keep x _ h3 V;refine⟨⟨_,A7,c7,hY T,by rw[<-hx];exact(zic hf h3 V).symm,?_,Y,hp⟩,?_⟩
   ·have:(onR x.2).pos<=s.data.toList.length:=hk
    show (onR x.2).pos<=s.size
    omega
   ·rw[HM.out,zeN hp.rd];exact hf.less x _ h3 V
  have HX:=hIx hx
  have hB:Hid (∀(b:Int) W,zaf s.data.toList x.2=b->OutSt g s w k x A c W->Calls prog 89 #[.pointer (some ⟨g,0,none⟩),jA b] W λe w'=>e=jC (.bool true)/\OutSt g s w k (x.1,onR x.2) A c w'):=λb W hb hW=>
   (hn.out b W hW).mono λe w' ⟨h1,h2⟩=>⟨by rw[h1,Qx hb],by rw[Qj hb]at h2;exact h2⟩
  have hD:Hid (∀(b:Int) W,zaf s.data.toList x.2≠b->OutSt g s w k x A c W->Calls prog 89 #[.pointer (some ⟨g,0,none⟩),jA b] W λe w'=>e=jC (.bool false)/\OutSt g s w k x A c w'):=λb W hb hW=>
   (hn.out b W hW).mono λe w' ⟨h1,h2⟩=>⟨by rw[h1,Qt hb],by rw[Qf hb]at h2;exact h2⟩
  clear hx hO h3 hn
  by_cases m:zaf s.data.toList x.2=42
  ·have HT:=hIx (hB.out 42 wr m HO.out)
   have J:Hid (zcQ s.data.toList x=some (stT x.1,onR x.2)):=by unfold Hid zcQ;rw[Qj m]
   clear m;go_wp2_with (go_at_call 89;apply Hid.out);refine WhM HT ?_;rintro e Z ⟨rfl,Q⟩;have o0:=(show PutX Z k [jA x.1.kind,jB x.1.set.a,jB x.1.set.b,jB x.1.set.c,jB x.1.set.d,.slice A x.1.kids.length c]from Q.out).cells;have f0:=Q.out.free;have gh:k<Z.heap.size:=Q.out.lt;have E:=Q.low K ((Qi Z.heap.size Z).alloc (Qd _) (.cells #[jA x.1.kind,jB x.1.set.a,jB x.1.set.b,jB x.1.set.c,jB x.1.set.d,.slice A x.1.kids.length c] 98));have hS:=LX.star (c1:=1) E.tree (b:=Z.heap.size) ⟨by omega,by omega,by rw[Qp];omega⟩ (PutX.new Z _);have hw:=O.out (stT x.1) _ 1 _ J.out E hS;rw[znp _ _ _ _ _ _ _ gh]at hw;have z:=hIx hw;clear hw;clear Q E hS;go_wp2_with fail
   go_roundw
   case measure=>exact z.out.2
   case rel=>exact z.out.1
  have g4:=hIx (hD.out 42 wr m HO.out);go_wp2_with (go_at_call 89;apply Hid.out);refine WhM g4 ?_;rintro e Z ⟨rfl,Q⟩
  by_cases y:zaf s.data.toList x.2=63
  ·have HT:=hIx (hB.out 63 Z y Q)
   have J:Hid (zcQ s.data.toList x=some (orT x.1 emT,onR x.2)):=by unfold Hid zcQ;rw[Qf m,Qj y]
   clear m y Q;go_wp2_with (go_at_call 89;apply Hid.out);refine WhM HT ?_;rintro e w5 ⟨rfl,E⟩;have o0:=(show PutX w5 k [jA x.1.kind,jB x.1.set.a,jB x.1.set.b,jB x.1.set.c,jB x.1.set.d,.slice A x.1.kids.length c]from E.out).cells;have f0:=E.out.free
   have hq:Hid (Calls prog 90 #[jA 5,.agg #[jA x.1.kind,jB x.1.set.a,jB x.1.set.b,jB x.1.set.c,jB x.1.set.d,.slice A x.1.kids.length c],.agg #[jA 2,jB 0,jB 0,jB 0,jB 0,jD 0 0]] w5 (znA 5 x.1 emT (λb=>w.heap.size<b/\b≠k/\b<w5.heap.size) w5)):=
    zg9 5 x.1 emT A none c 0 _ w5 (λb hb=>hb.2.2) E.tree (LX.leaf _ _ _ _ _ _ zbC)
   have H5:=hIx E;have gp:k<w5.heap.size:=E.out.lt;clear E;go_wp2_with (go_at_call 90;apply Hid.out);refine WhM hq ?_;rintro e j ⟨A6,c6,rfl,hL,hy⟩;have D:=H5.out.low K hy;have gj:=hy.size;have z:=hIx (O.out (orT x.1 emT) A6 c6 j J.out D (LX.keep (λb hb=>by rcases hb with hb|hb;exact⟨hb.1,hb.2.1,by have:=hb.2.2;omega⟩;exact⟨by have:=hb.1;omega,by have:=hb.1;omega,hb.2⟩) (λ_ _ _=>rfl) _ _ hL));have o0:=(show PutX j k [jA x.1.kind,jB x.1.set.a,jB x.1.set.b,jB x.1.set.c,jB x.1.set.d,.slice A x.1.kids.length c]from D.out).cells;have f0:=D.out.free;clear hL hy D;unfold argX;go_wp2_with fail
   go_roundw
   case measure=>exact z.out.2
   case rel=>exact z.out.1
  have g3:=hIx (hD.out 63 Z y Q);clear Q;go_wp2_with (go_at_call 89;apply Hid.out);refine WhM g3 ?_;rintro e w5 ⟨rfl,E⟩
  by_cases H:zaf s.data.toList x.2=43
  ·have HT:=hIx (hB.out 43 w5 H E)
   have J:Hid (zcQ s.data.toList x=some (jnT x.1 (stT (zbN x.1)),onR x.2)):=by unfold Hid zcQ;rw[Qf m,Qf y,Qj H]
   clear m y H E;go_wp2_with (go_at_call 89;apply Hid.out);refine WhM HT ?_;rintro e j ⟨rfl,D⟩;have hG:=hIx (λ(W:World) (hW:j W)=>(D.low K hW).lt);have H6:=hIx D;have g7:k<j.heap.size:=D.out.lt;have o0:=(show PutX j k [jA x.1.kind,jB x.1.set.a,jB x.1.set.b,jB x.1.set.c,jB x.1.set.d,.slice A x.1.kids.length c]from D.out).cells;have F:j (j.alloc (.cells #[jA 2,jB 0,jB 0,jB 0,jB 0,jD 0 0] 98)):=WaL
   have hN:Hid (Calls prog 165 #[.agg #[jA x.1.kind,jB x.1.set.a,jB x.1.set.b,jB x.1.set.c,jB x.1.set.d,.slice A x.1.kids.length c],jA 0] (j.alloc (.cells #[jA 2,jB 0,jB 0,jB 0,jB 0,jD 0 0] 98)) λe w'=>e=jC (jA (zeQ x.1 0))/\j w'/\PutX w' j.heap.size [jA 2,jB 0,jB 0,jB 0,jB 0,jD 0 0]):=
    (zom x.1 T A c (j.alloc (.cells #[jA 2,jB 0,jB 0,jB 0,jB 0,jD 0 0] 98)) 0 (hG.out _ F) (by decide) (by decide)).mono (λe w' ⟨h1,h2⟩=>⟨h1,F.trans (h2.mono F.size),(h2.block _ (PutX.new j [jA 2,jB 0,jB 0,jB 0,jB 0,jD 0 0]).lt).trans (PutX.new j [jA 2,jB 0,jB 0,jB 0,jB 0,jD 0 0])⟩)
   have gn:=zk3 x.1 0 (by decide);clear D F;go_upto_region 9 with fail
   go_wp2_with (go_at_call 165;apply Hid.out);refine WhM hN ?_;rintro e B ⟨rfl,h8,L⟩;have H7:=hIx (And.intro h8 L);have gk:k<B.heap.size:=Qw g7 h8.size;have hE:j.heap.size<B.heap.size:=L.lt;have hI:=H6.out.low K h8;have o0:=(show PutX B k [jA x.1.kind,jB x.1.set.a,jB x.1.set.b,jB x.1.set.c,jB x.1.set.d,.slice A x.1.kids.length c]from hI.out).cells;have b0:=L.cells;have e0:=L.free;clear hI h8 L hN
   go_upto_if 26 with fail
   obtain⟨cz,ho⟩:∃cz,decide (zeQ x.1 0<=80)=cz:=⟨_,rfl⟩
   rw[ho];have hF:=hIx ho;clear ho
   go_cut [3]from 7 to 33 (λv3 wx=>v3=.pointer k/\∃(t:Option Addr) (q:Nat),j wx/\PutX wx j.heap.size [jA (zbN x.1).kind,jB (zbN x.1).set.a,jB (zbN x.1).set.b,jB (zbN x.1).set.c,jB (zbN x.1).set.d,.slice t (zbN x.1).kids.length q]/\LX wx (λb=>w.heap.size<b/\b≠k/\b<wx.heap.size) (zbN x.1) (zap (zbN x.1).kind (zbN x.1).set t (zbN x.1).kids.length q))
   case first=>
    cases cz with
    |true=>
     have hz:zeQ x.1 0<=80:=Zp hF.out;have N:Hid (zbN x.1=x.1):=by unfold Hid zbN;rw[Qj hz]
     have g6:Hid (Calls prog 166 #[.agg #[jA x.1.kind,jB x.1.set.a,jB x.1.set.b,jB x.1.set.c,jB x.1.set.d,.slice A x.1.kids.length c]] B λe w'=>∃A' c',e=jC (.agg #[jA x.1.kind,jB x.1.set.a,jB x.1.set.b,jB x.1.set.c,jB x.1.set.d,.slice A' x.1.kids.length c'])/\NewX B w' x.1 A' c'/\B w'):=zpi x.1 T A c B (hG.out B H7.out.1);clear hz;go_wp2_with (go_at_call 166;apply Hid.out);refine WhM g6 ?_;rintro e w8 ⟨t,q,rfl,hK,I⟩;have u:PutX w8 j.heap.size [jA 2,jB 0,jB 0,jB 0,jB 0,jD 0 0]:=(I.block _ hE).trans H7.out.2;have g8:=hIx (u.fill rfl (jA x.1.kind) (jB x.1.set.a) (jB x.1.set.b) (jB x.1.set.c) (jB x.1.set.d) (.slice t x.1.kids.length q));have ht:Below j.heap.size w8 (zai w8 j.heap.size (jA x.1.kind) (jB x.1.set.a) (jB x.1.set.b) (jB x.1.set.c) (jB x.1.set.d) (.slice t x.1.kids.length q)):=zbA (Qi _ _) (Qd _) _ _ _ _ _ _;have ga:Hid (j (zai w8 j.heap.size (jA x.1.kind) (jB x.1.set.a) (jB x.1.set.b) (jB x.1.set.c) (jB x.1.set.d) (.slice t x.1.kids.length q))):=(H7.out.1.trans (I.mono (QZ hE))).trans ht
     have hT:∀i,i≠j.heap.size->(zai w8 j.heap.size (jA x.1.kind) (jB x.1.set.a) (jB x.1.set.b) (jB x.1.set.c) (jB x.1.set.d) (.slice t x.1.kids.length q)).heap[i]? = w8.heap[i]? := λi hi=>by
      unfold zai;rw[Qm _ _ _ _ hi,Qm _ _ _ _ hi,Qm _ _ _ _ hi,Qm _ _ _ _ hi,Qm _ _ _ _ hi,Qm _ _ _ _ hi]
     have gd:Hid (LX (zai w8 j.heap.size (jA x.1.kind) (jB x.1.set.a) (jB x.1.set.b) (jB x.1.set.c) (jB x.1.set.d) (.slice t x.1.kids.length q)) (λb=>w.heap.size<b/\b≠k/\b<(zai w8 j.heap.size (jA x.1.kind) (jB x.1.set.a) (jB x.1.set.b) (jB x.1.set.c) (jB x.1.set.d) (.slice t x.1.kids.length q)).heap.size) x.1 (zap x.1.kind x.1.set t x.1.kids.length q)):=
      LX.keep (λb hb=>⟨by have:=hb.1;omega,by have:=hb.1;omega,Qw hb.2 ht.size⟩) (λb o hb=>by simp only[World.cell?, hT b (show b≠j.heap.size by have:=hb.1;omega)]) _ _ hK
     have b0:=u.cells;have e0:=u.free;clear u ht hT hK I;go_wp2;go_meet;exact⟨rfl,t,q,ga.out,by rw[N.out];exact g8.out,by rw[N.out];exact gd.out⟩
    |false=>
     have hz:¬zeQ x.1 0<=80:=of_decide_eq_false hF.out;have N:Hid (zbN x.1=emT):=by unfold Hid zbN;rw[Qf hz]
     clear hz;go_wp2;go_meet;exact⟨rfl,none,0,H7.out.1,by rw[N.out];exact H7.out.2,by rw[N.out];exact LX.leaf _ _ _ _ _ _ zbC⟩
   case rest=>
    obtain⟨rfl,t,q,I,u,hh⟩:=hcut;obtain⟨f,hJ⟩:∃f,zbN x.1=f:=⟨_,rfl⟩
    rw[hJ]at u hh J;have S:=H6.out.low K I;have gq:k<wc.heap.size:=S.out.lt;have gi:j.heap.size<wc.heap.size:=u.lt;have o0:=(show PutX wc k [jA x.1.kind,jB x.1.set.a,jB x.1.set.b,jB x.1.set.c,jB x.1.set.d,.slice A x.1.kids.length c]from S.out).cells;have b0:=u.cells;have G:wc (wc.alloc (.cells #[jA f.kind,jB f.set.a,jB f.set.b,jB f.set.c,jB f.set.d,.slice t f.kids.length q] 98)):=WaL;have h9:=S.low K G
    have hU:LX (wc.alloc (.cells #[jA f.kind,jB f.set.a,jB f.set.b,jB f.set.c,jB f.set.d,.slice t f.kids.length q] 98)) (λb=>w.heap.size<b/\b≠k/\b<(wc.alloc (.cells #[jA f.kind,jB f.set.a,jB f.set.b,jB f.set.c,jB f.set.d,.slice t f.kids.length q] 98)).heap.size) f (zap f.kind f.set t f.kids.length q):=
     LX.keep (λb hb=>⟨hb.1,hb.2.1,Qw hb.2.2 G.size⟩) (λb o hb=>G.cell (p:=⟨b,o,none⟩) hb.2.2) _ _ hh
    have hc:=LX.star (c1:=1) hU (b:=wc.heap.size) ⟨by omega,by omega,by rw[Qp];omega⟩ (PutX.new wc _)
    have hq:Hid (Calls prog 90 #[jA 4,.agg #[jA x.1.kind,jB x.1.set.a,jB x.1.set.b,jB x.1.set.c,jB x.1.set.d,.slice A x.1.kids.length c],.agg #[jA 6,jB 0,jB 0,jB 0,jB 0,.slice wc.heap.size 1 1]] (wc.alloc (.cells #[jA f.kind,jB f.set.a,jB f.set.b,jB f.set.c,jB f.set.d,.slice t f.kids.length q] 98)) (znA 4 x.1 (stT f) (λb=>w.heap.size<b/\b≠k/\b<(wc.alloc (.cells #[jA f.kind,jB f.set.a,jB f.set.b,jB f.set.c,jB f.set.d,.slice t f.kids.length q] 98)).heap.size) (wc.alloc (.cells #[jA f.kind,jB f.set.a,jB f.set.b,jB f.set.c,jB f.set.d,.slice t f.kids.length q] 98)))):=
     zg9 4 x.1 (stT f) A (some ⟨wc.heap.size,0,none⟩) c 1 _ _ (λb hb=>hb.2.2) h9.tree hc
    have H9:=hIx h9;clear I u hh S G h9 hU hc hJ;go_wp2_with (go_at_call 90;apply Hid.out);refine WhM hq ?_;rintro e hP ⟨g9,g1,rfl,ha,P⟩;have X:=H9.out.low K P;have hd:=P.size;have gg:=H9.out.out.lt;have z:=hIx (O.out (jnT x.1 (stT f)) g9 g1 hP J.out X (LX.keep (λb hb=>by rcases hb with hb|hb;exact⟨hb.1,hb.2.1,by have:=hb.2.2;omega⟩;exact⟨by have:=hb.1;omega,by have:=hb.1;omega,hb.2⟩) (λ_ _ _=>rfl) _ _ ha));have o0:=(show PutX hP k [jA x.1.kind,jB x.1.set.a,jB x.1.set.b,jB x.1.set.c,jB x.1.set.d,.slice A x.1.kids.length c]from X.out).cells;have f0:=X.out.free;clear ha P X hd gg;unfold argX;go_wp2_with fail
    go_roundw
    case measure=>exact z.out.2
    case rel=>exact z.out.1
  ·have g5:=hIx (hD.out 43 w5 H E)
   have g0:Hid (R=x):=by
    unfold Hid;rw[<-HX.out];exact zhl (zgN s.data.toList) (show InR s.data.toList x by unfold InR;omega) (by unfold zcQ;rw[Qf m,Qf y,Qf H])
   clear m y H E;go_wp2_with (go_at_call 89;apply Hid.out);refine WhM g5 ?_;rintro e j ⟨rfl,D⟩;have HD:=hIx (OutSt.done K D);have o0:=(show PutX j k [jA x.1.kind,jB x.1.set.a,jB x.1.set.b,jB x.1.set.c,jB x.1.set.d,.slice A x.1.kids.length c]from D.out).cells;have z0:=D.zero.cells;have y0:=D.zero.free;clear D;go_wp2_with fail;obtain⟨d1,d2,d3⟩:=HD.out;have ⟨s0,s1,s2,s3,s4,s5⟩:=(show PutX _ w.heap.size [_,_,_,_,_,_]from d1).cells;unfold zai at s0 s1 s2 s3 s4 s5;exact QD (v:=argX x.1 A c) (by simp[results,results129,go_sem,s0,s1,s2,s3,s4,s5,argX]) rfl (by rw[g0.out];exact⟨A,c,rfl,d2,d3⟩)
theorem ziF(f:Nat->Bool):(setF f).Wf:=by
 have h:∀j,zix ((wdF f j:Nat):Int):=λj=>by have:=ziR f j;unfold zix;omega
 exact⟨h 0,h 1,h 2,h 3⟩
structure ClSt(g:Nat)(s:ByteArray)(w:World)(k:Nat)(q:RS)(F:Nat->Bool)(wr:World):Prop where
 rd:RdAt g s q wr
 four:FourW wr k (setF F)
 zero:ZeroX wr w.heap.size
 frame:w.grownBy wr (some g)
 far:w.heap.size<k
theorem ClSt.call{g:Nat}{s:ByteArray}{w:World}{k:Nat}{q a:RS}{F:Nat->Bool}{wr w':World}(b:g<w.heap.size)(h:ClSt g s w k q F wr)(e:RdEnd g s a wr w'):ClSt g s w k a F w':=
 ⟨e.1,h.four.grown e.2 (by have:=h.far;omega),h.zero.grown e.2 (by omega),zay h.frame e.2,h.far⟩
theorem ClSt.low{g:Nat}{s:ByteArray}{w:World}{k:Nat}{q:RS}{F:Nat->Bool}{wr w':World}(h:ClSt g s w k q F wr)(hb:wr w'):ClSt g s w k q F w':=
 ⟨h.rd.below hb,h.four.below hb h.four.lt,(hb.block _ h.zero.lt).trans h.zero,zay h.frame (zcn (zaZ wr _) hb),h.far⟩
theorem ClSt.put{g:Nat}{s:ByteArray}{w:World}{k:Nat}{q:RS}{F:Nat->Bool}{wr:World}(c:g<w.heap.size)(h:ClSt g s w k q F wr)(a:Nat->Bool):ClSt g s w k q a (zcy wr k (setF a)):=by
 have h1:=h.far;have hb:Below k wr (zcy wr k (setF a)):=zba (Qi _ _) (Qd _) _;have b:=zbr h.four (setF a);exact⟨(hb.block g (by omega)).trans h.rd,b,(hb.block _ (by omega)).trans h.zero,zdu h.frame (by omega) hb,h1⟩
def zxH(g:Nat)(s:ByteArray)(R:(Nat->Bool) × RS)(w:World)(k:Nat)(a:Value)(wr:World):Prop:=
 ∃(n:Nat) (q:RS) (F:Nat->Bool),a=jA n/\ze4 s.data.toList q (decide (n=0)) F=R/\q.pos<=s.size/\n+zbU s.data.toList q<=s.size+1/\ClSt g s w k q F wr
theorem zr4(g:Nat)(s:ByteArray)(r:RS)(w:World)(h:RdAt g s r w)(hp:r.pos<=s.size)(hs:s.size<=4096):
 Calls prog 194 #[.pointer g] w (zjx g s (byT (zeX s.data.toList r).1,(zeX s.data.toList r).2) w):=by
 have gS:s.data.toList.length=s.size:=by simp
 have Y:=h.lt;obtain⟨W0,hj⟩:∃W0,w.alloc (.cells #[jA 0,jB 0,jB 0,jB 0,jB 0,jD 0 0] 98)=W0:=⟨_,rfl⟩
 have hU:w W0:=by rw[<-hj];exact WaL
 have gg:ZeroX W0 w.heap.size:=by rw[<-hj];exact ZeroX.new w
 have gm:W0.heap.size=w.heap.size+1:=by rw[<-hj];simp
 have gn:=h.below hU;have gE:=hIx (zdR g s r 94 W0 gn hp hs);have ht:=zdr (s:=s.data.toList) (r:=r) (by omega) (b:=94) (by decide)
 have ga:Hid (∀w1,RdEnd g s (zaR s.data.toList r 94).2 W0 w1->ClSt g s w w1.heap.size (zaR s.data.toList r 94).2 (λ_=>false) (w1.alloc (.cells #[jB 0,jB 0,jB 0,jB 0] 95))):=by
  intro w1 h1;have gz:=h1.2.size;have hP:w1 (w1.alloc (.cells #[jB 0,jB 0,jB 0,jB 0] 95)):=WaL;exact⟨h1.1.below hP,FourW.new w1,(hP.block _ (by omega)).trans (gg.grown h1.2 (by omega)),zay (zcn (zaZ w _) hU) (zcn h1.2 (hP.mono gz)),by omega⟩
 have gs:Hid (zeX s.data.toList r=(zhh s.data.toList r,(zaR s.data.toList (zjV s.data.toList r) 93).2)):=rfl;have hr:Hid (zjV s.data.toList r=if setF (zhh s.data.toList r)=.zero then zaF (ze4 s.data.toList (zaR s.data.toList r 94).2 true λ_=>false).2 3 else (ze4 s.data.toList (zaR s.data.toList r 94).2 true λ_=>false).2):=rfl;have g3:Hid (zhh s.data.toList r=λx=>if (zaR s.data.toList r 94).1=true then !(ze4 s.data.toList (zaR s.data.toList r 94).2 true λ_=>false).1 x else (ze4 s.data.toList (zaR s.data.toList r 94).2 true λ_=>false).1 x):=rfl;have gB:(zaR s.data.toList r 94).2.pos<=s.size:=by have:=ht.1.inn;omega
 have gF:=hIx (zim (s:=s.data.toList) _ (zaR s.data.toList r 94).2 true (λ_=>false) (Qd _) (by omega)).inn;generalize gw:zeX s.data.toList r=CL at *;generalize gD:zjV s.data.toList r=LE at *;generalize gK:zhh s.data.toList r=LF at *;generalize hL:ze4 s.data.toList (zaR s.data.toList r 94).2 true (λ_=>false)=L at *;have HL:=hIx hL;generalize zaR s.data.toList r 94=T at *;have gO:=hIx hj;clear h hU gg gm gn ht hj gw gD gK hL
 go_in
 go_upto_region 1 with fail
 rw[gO.out];go_wp2_with (go_at_call 89;apply Hid.out);refine WhM gE ?_;rintro e w1 ⟨rfl,h1⟩;have HC:=hIx (ga.out w1 h1);clear h1 ga;go_upto_region 3 with fail
 generalize gH:w1.alloc (.cells #[jB 0,jB 0,jB 0,jB 0] 95)=W1 at *;clear gH;generalize w1.heap.size=k at *;have HS:Hid (zxH g s L w k (jA (0:Nat)) W1):=⟨0,T.2,λ_=>false,rfl,HL.out,gB,by unfold zbU;split <;> omega,HC.out⟩
 clear HC;go_wp2
 go_loopw [5] (λv5 wr=>zxH g s L w k v5 wr) (λv5 _=>s.size+2-(intOf v5).toNat)
 case atStart=>exact HS.out
 case round=>
  obtain⟨n,q,F,rfl,gu,hq,hn,hC⟩:=hrel;have hd:=ztk (s:=s.data.toList) (r:=q) (first:=decide (n=0)) (F:=F) (by omega);rw[gu]at hd;have hA:=hIx hd;have h6:=hIx hC;have ⟨c0,c1,c2,c3⟩:=hC.rd.cells;have hi:=hIx (zf5 g s q wr hC.rd hq);have gh:=zcO (s:=s.data.toList) (r:=q) (by omega);have hk:=λhe=>zfB (s:=s.data.toList) (r:=q) (by omega) he
  have hc:=hIx (And.intro gh hk)
  -- ROUND
  clear hd gu hC gh hk
  by_cases J:q.e=0/\(decide (n=0)=true\/zaf s.data.toList q≠93)
  ·have d1:(q.e==0)=true:=by rw[J.1];rfl
   by_cases h0:n=0
   all_goals
    first
     |(
      have d2:((n:Int)==0)=true:=by rw[h0];rfl
      clear h0;go_upto_region 6 with fail
      have o:=h6.out;obtain⟨w2,rfl⟩:∃w2:World,w2=wr:=⟨_,rfl⟩
      clear d2)
     |(
      have d2:((n:Int)==0)=false:=Qc.2 (by omega)
      have d3:(zaf s.data.toList q != 93)=true:=Q6.2 (J.2.resolve_left λh=>h0 (Zp h));clear h0;go_wp2_with (go_at_call 130;apply Hid.out);refine WhM hi ?_;rintro e w9 ⟨rfl,m,rfl⟩;have o:=h6.out.low (below_drewN (Qi _ _) m);go_upto_region 6 with fail
      generalize wr.drewN m=w2 at *;clear d2 d3)
    clear c0 c1 c2 c3 h6 d1;have hZ:ze4 s.data.toList (zbM s.data.toList q).2 false (λx=>F x||(zbM s.data.toList q).1 x)=L:=by rw[hA.out,Qj J]
    have gQ:n<=s.size:=by unfold zbU at hn;rw[Qj J.1]at hn;omega
    have B:Hid (∀W,ClSt g s w k (zbM s.data.toList q).2 (λx=>F x||(zbM s.data.toList q).1 x) W->zxH g s L w k (.int .i64 ((n:Int)+1)) W):=λW A=>
     ⟨n+1,_,_,by rw[Int.natCast_succ],by rw[Qt (by omega)];exact hZ,by have:=hc.out.1.1.inn;omega,by have:=hc.out.2 J.1;omega,A⟩
    have i7:IntKind.i64.wrap ((n:Int)+1)=(n:Int)+1:=Qz _ (by omega);have gR:=o.four.lt;obtain⟨z,u⟩:∃z,setF F=z:=⟨_,rfl⟩
    have hw:Hid (∀(f:Nat->Bool) (j:Set4) (V:RS) W,setF f=j->ClSt g s w k V F W->Calls prog 213 #[.agg #[jB z.a,jB z.b,jB z.c,jB z.d],.agg #[jB j.a,jB j.b,jB j.c,jB j.d]] W λe w'=>∃Su,e=jC (.agg #[jB Su.a,jB Su.b,jB Su.c,jB Su.d])/\setF (λx=>F x||f x)=Su/\ClSt g s w k V F w'):=λf j V W hf A=>by
     have:=zer F f W;rw[hf,u]at this;exact this.mono (λe w' ⟨h1,h2⟩=>⟨_,h1,rfl,A.low h2⟩)
    have hY:=zeJ (s:=s.data.toList) (r:=q) (by omega);cases S:(zbp s.data.toList q).1 with
    |some f=>
     have gj:zbM s.data.toList q=(f,(zbp s.data.toList q).2):=by unfold zbM;rw[S]
     obtain⟨j,g5⟩:∃j,setF f=j:=⟨_,rfl⟩
     have HG:Hid (Calls prog 195 #[.pointer g] w2 λe w'=>e=jC (.tuple #[.agg #[jB j.a,jB j.b,jB j.c,jB j.d],.bool true])/\ClSt g s w k (zbp s.data.toList q).2 F w'):=
      (zfK g s q w2 o.rd hq hs).mono (λe w' ⟨h1,h2⟩=>⟨by rw[h1,S];dsimp only;rw[g5];rfl,o.call Y h2⟩)
     rw[gj]at B;clear hZ hY S gj hA hc hi;go_wp2_with (go_at_call 195;apply Hid.out);refine WhM HG ?_;rintro e w3 ⟨rfl,E⟩;have U:=E.low ((Qi w3.heap.size w3).alloc (Qd _) (.cells #[jB j.a,jB j.b,jB j.c,jB j.d] 95));have g9:FourW (w3.alloc (.cells #[jB j.a,jB j.b,jB j.c,jB j.d] 95)) w3.heap.size j:=Qv w3 _;go_upto_region 8 with fail
     generalize w3.alloc (.cells #[jB j.a,jB j.b,jB j.c,jB j.d] 95)=W4 at *;have ⟨c0,c1,c2,c3⟩:=(show FourW W4 k z from by rw[<-u];exact U.four).cells;have ⟨d0,d1,d2,d3⟩:=g9.cells;have HU:=hIx (hw.out f j _ W4 g5 U);clear U g9 E;go_wp2_with (go_at_call 213;apply Hid.out);refine WhM HU ?_;rintro e w5 ⟨Su,rfl,hh,y⟩;have I:=hIx (B.out _ (y.put Y (λx=>F x||f x)));rw[hh]at I;have ⟨c0,c1,c2,c3⟩:=(show FourW w5 k z from by rw[<-u];exact y.four).cells;have f0:=y.four.free 0;have f1:=y.four.free 1;have f2:=y.four.free 2;have f3:=y.four.free 3;clear y hh B hw g5;go_wp2;exact⟨I.out,by dsimp only[intOf];omega⟩
    |none=>
     have g7:(zbp s.data.toList q).2=q:=hY.2.1 S;have hG:=zdw (s:=s.data.toList) (r:=q) (by omega);obtain⟨C,hC⟩:∃C,zbo s.data.toList q=C:=⟨_,rfl⟩
     rw[hC]at hG;have ho:0<=C.1/\C.1<256:=⟨by omega,by omega⟩
     have hH:=zdr (s:=s.data.toList) (r:=C.2) hG.1.inn (b:=45) (by decide);obtain⟨P,h8⟩:∃P,zaR s.data.toList C.2 45=P:=⟨_,rfl⟩
     rw[h8]at hH;have gk:=zdw (s:=s.data.toList) (r:=P.2) hH.1.inn;obtain⟨D,hD⟩:∃D,zbo s.data.toList P.2=D:=⟨_,rfl⟩
     rw[hD]at gk;have hm:0<=D.1/\D.1<256:=⟨by omega,by omega⟩
     have gN:C.2.pos<=s.size:=by have:=hG.1.inn;omega
     have gL:P.2.pos<=s.size:=by have:=hH.1.inn;omega
     have l:Hid (zbM s.data.toList q=if P.1=true then (rgF C.1.toNat D.1.toNat,if D.1<C.1/\D.2.e=0 then zaF {D.2 with pos:=P.2.pos} 3 else D.2)else (rgF C.1.toNat C.1.toNat,P.2)):=by
      unfold Hid zbM;rw[S];dsimp only;rw[hC,h8,hD]
     have HG:Hid (Calls prog 195 #[.pointer g] w2 λe w'=>e=jC (.tuple #[.agg #[jB 0,jB 0,jB 0,jB 0],.bool false])/\ClSt g s w k q F w'):=
      (zfK g s q w2 o.rd hq hs).mono (λe w' ⟨h1,h2⟩=>⟨by rw[h1,S];rfl,by rw[<-g7];exact o.call Y h2⟩)
     have gf:Hid (∀W,ClSt g s w k q F W->Calls prog 196 #[.pointer g] W λe w'=>e=jC (jA C.1)/\ClSt g s w k C.2 F w'):=λW A=>
      (zhJ g s q W A.rd hq hs).mono (λe w' ⟨h1,h2⟩=>⟨by rw[h1,hC],by rw[hC]at h2;exact A.call Y h2⟩)
     have g8:Hid (∀W,ClSt g s w k C.2 F W->Calls prog 89 #[.pointer g,jA 45] W λe w'=>e=jC (.bool P.1)/\ClSt g s w k P.2 F w'):=λW A=>
      (zdR g s C.2 45 W A.rd gN hs).mono (λe w' ⟨h1,h2⟩=>⟨by rw[h1,h8],by rw[h8]at h2;exact A.call Y h2⟩)
     have g1:Hid (∀W,ClSt g s w k P.2 F W->Calls prog 196 #[.pointer g] W λe w'=>e=jC (jA D.1)/\ClSt g s w k D.2 F w'):=λW A=>
      (zhJ g s P.2 W A.rd gL hs).mono (λe w' ⟨h1,h2⟩=>⟨by rw[h1,hD],by rw[hD]at h2;exact A.call Y h2⟩)
     have hB:Hid (∀(V:RS) W,ClSt g s w k V F W->Calls prog 62 #[.pointer g,jA 3] W λe w'=>e=jC (.tuple #[])/\ClSt g s w k (zaF V 3) F w'):=λV W A=>
      (zda g s V 3 W A.rd).mono (λe w' ⟨h1,h2⟩=>⟨h1,A.call Y h2⟩)
     clear hZ hY S g7 hG hC hH h8 gk hD hA hc hi;go_wp2_with (go_at_call 195;apply Hid.out);refine WhM HG ?_;rintro e w3 ⟨rfl,E⟩;have gd:=hIx (E.low ((Qi w3.heap.size w3).alloc (Qd _) (.cells #[jB 0,jB 0,jB 0,jB 0] 95)));clear E;go_upto_region 9 with fail
     generalize w3.alloc (.cells #[jB 0,jB 0,jB 0,jB 0] 95)=W4 at *;have hN:=hIx (gf.out W4 gd.out);go_wp2_with (go_at_call 196;apply Hid.out);refine WhM hN ?_;rintro e w5 ⟨rfl,y⟩;have hJ:=hIx (g8.out w5 y);clear y gf hN g8 gd;go_wp2_with (go_at_call 89;apply Hid.out);refine WhM hJ ?_;rintro e w6 ⟨rfl,g0⟩;have hS:=hIx g0;have ⟨c0,c1,c2,c3⟩:=g0.rd.cells;clear g0 hJ
     go_upto_if 42 with fail
     obtain⟨N,K⟩:∃N,P.1=N:=⟨_,rfl⟩
     rw[K];rw[K]at l;have gP:=hIx K;clear K
     go_cut [8,9]from 13 to 69 (λv8 v9 wx=>v8=jA C.1/\v9=jA (if N=true then D.1 else C.1)/\ClSt g s w k (zbM s.data.toList q).2 F wx)
     case first=>
      cases N with
      |true=>
       rw[Qj rfl]at l;have hK:=hIx (g1.out w6 hS.out);go_wp2_with (go_at_call 196;apply Hid.out);refine WhM hK ?_;rintro e w7 ⟨rfl,hF⟩;have hx:=hIx hF;have ⟨c0,c1,c2,c3⟩:=hF.rd.cells;have f1:=hF.rd.free 1;clear hF hK g1
       by_cases O:D.1<C.1
       ·have d1:decide (D.1<C.1)=true:=Qx O
        by_cases Z:D.2.e=0
        ·have d2:(D.2.e==0)=true:=by rw[Z];rfl
         rw[Qj ⟨O,Z⟩]at l;have hI:RdEnd g s {D.2 with pos:=P.2.pos} w7 (w7.setCell ⟨g,1,none⟩ (jA (P.2.pos:Nat))):=⟨hx.out.rd.setPos _,zao (zaZ w7 _) 1 _⟩
         have gM:=hIx (hB.out _ _ (hx.out.call Y hI));clear hI O Z;go_wp2_with (go_at_call 62;apply Hid.out);refine WhM gM ?_;rintro e w8 ⟨rfl,X⟩;go_wp2;go_meet;exact⟨rfl,rfl,by rw[l.out];exact X⟩
        ·have d2:(D.2.e==0)=false:=Qc.2 Z
         rw[Qf (λh=>Z h.2)]at l;clear O Z;go_wp2;go_meet;exact⟨rfl,rfl,by rw[l.out];exact hx.out⟩
       ·have d1:decide (D.1<C.1)=false:=Qt O
        rw[Qf (λh=>O h.1)]at l;clear O;go_wp2;go_meet;exact⟨rfl,rfl,by rw[l.out];exact hx.out⟩
      |false=>
       rw[Qf (by decide)]at l;go_wp2;go_meet;exact⟨rfl,rfl,by rw[l.out];exact hS.out⟩
     case rest=>
      obtain⟨rfl,rfl,X⟩:=hcut;obtain⟨lo,gc⟩:∃lo:Nat,C.1=lo:=⟨C.1.toNat,by omega⟩
      obtain⟨hv,g6⟩:∃hv:Nat,(if N=true then D.1 else C.1)=hv:=⟨(if N=true then D.1 else C.1).toNat,by cases N;exact(ZX ho.1).symm;exact(ZX hm.1).symm⟩
      have gJ:hv<256:=by
       have:((hv:Nat):Int)<256:=by (rw[<-g6];cases N;exact ho.2;exact hm.2)
       omega
      have gl:(zbM s.data.toList q).1=rgF lo hv:=by
       rw[l.out];have e1:C.1.toNat=lo:=by omega
       have e2:(if N=true then D.1 else C.1).toNat=hv:=by omega
       cases N
       ·have e3:C.1.toNat=hv:=e2
        rw[Qf (by decide)];show rgF C.1.toNat C.1.toNat=_;rw[<-e1,<-e3]
       ·have e3:D.1.toNat=hv:=e2
        rw[Qj rfl];show rgF C.1.toNat D.1.toNat=_;rw[<-e1,<-e3]
      rw[g6,gc];rw[gl]at B;obtain⟨Q,hQ⟩:∃Q,(zbM s.data.toList q).2=Q:=⟨_,rfl⟩
      rw[hQ]at X B;obtain⟨Sr,gr⟩:∃Sr,setF (rgF lo hv)=Sr:=⟨_,rfl⟩
      have gq:Hid (∀W,wc W->Calls prog 75 #[jA (lo:Int),jA (hv:Int)] W λe w'=>e=jC (.agg #[jB Sr.a,jB Sr.b,jB Sr.c,jB Sr.d])/\ClSt g s w k Q F w'):=λW A=>by
       have:=zhT lo hv gJ W;rw[gr]at this;exact this.mono (λe w' ⟨h1,h2⟩=>⟨h1,(X.low A).low h2⟩)
      have ⟨c0,c1,c2,c3⟩:=(show FourW wc k z from by rw[<-u];exact X.four).cells;clear g1 hB gP l g6 gl hQ hS gc ho hm;go_upto_region 17 with fail
      go_region_with (first
       |(go_at_call 75;(with_reducible refine(gq.out _ ?_).mono ?_);(first|exact Qi _ _|exact(Qi _ _).drew);rintro e w8 ⟨rfl,hX⟩;have gy:=hIx hX;have ⟨c0,c1,c2,c3⟩:=(show FourW w8 k z from by rw[<-u];exact hX.four).cells;clear hX)
       |(go_at_call 213;(refine(hw.out (rgF lo hv) Sr Q w8 gr gy.out).mono ?_);rintro e w9 ⟨Su,rfl,hh,t⟩;have I:=hIx (B.out _ (t.put Y (λx=>F x||rgF lo hv x)));rw[hh]at I;have ⟨c0,c1,c2,c3⟩:=(show FourW w9 k z from by rw[<-u];exact t.four).cells;have f0:=t.four.free 0;have f1:=t.four.free 1;have f2:=t.four.free 2;have f3:=t.four.free 3;clear t hh))
      all_goals
       clear gq hw X;go_wp2_with fail
       go_roundw
       case measure=>dsimp only[intOf];omega
       case rel=>exact I.out
  ·by_cases he:q.e=0
   all_goals
    first
     |(
      have d1:(q.e==0)=false:=Qc.2 he
      clear he;go_upto_region 18 with fail
      have o:=h6.out;obtain⟨w2,rfl⟩:∃w2:World,w2=wr:=⟨_,rfl⟩)
     |(
      have d1:(q.e==0)=true:=by rw[he];rfl
      have h0:n≠0:=λh=>J ⟨he,.inl (Qx h)⟩
      have h9:zaf s.data.toList q=93:=Decidable.byContradiction λh=>J ⟨he,.inr h⟩
      have d2:((n:Int)==0)=false:=Qc.2 (by omega);have d3:(zaf s.data.toList q != 93)=false:=by rw[h9];rfl
      clear he h0 h9;go_wp2_with (go_at_call 130;apply Hid.out);refine WhM hi ?_;rintro e w9 ⟨rfl,m,rfl⟩;have o:=h6.out.low (below_drewN (Qi _ _) m);go_upto_region 18 with fail
      generalize wr.drewN m=w2 at *;clear d2 d3)
    clear c0 c1 c2 c3 h6 d1;have gG:L=(F,q):=by rw[hA.out,Qf J]
    have hB:Hid (∀(V:RS) (G:Nat->Bool) W,ClSt g s w k V G W->Calls prog 62 #[.pointer g,jA 3] W λe w'=>e=jC (.tuple #[])/\ClSt g s w k (zaF V 3) G w'):=λV G W A=>
     (zda g s V 3 W A.rd).mono (λe w' ⟨h1,h2⟩=>⟨h1,A.call Y h2⟩)
    clear hc hi hn;rw[gG]at hr g3 gF;obtain⟨N,K⟩:∃N,T.1=N:=⟨_,rfl⟩
    rw[K]at g3;obtain⟨z,u⟩:∃z,setF F=z:=⟨_,rfl⟩
    have hy:=hIx u;obtain⟨i,hE⟩:∃i,setF LF=i:=⟨_,rfl⟩
    have h7:=hIx hE;rw[hE]at hr
    have hO:i=if N=true then setF (λx=>!F x)else z:=by
     rw[<-hE,g3.out];cases N
     ·rw[Qf (by decide)];rw[<-u];rfl
     ·rw[Qj rfl];rfl
    have hu:=hIx hO;have H:=hIx o;have gT:=o.far;clear u hE hO o
    go_upto_if 70 with fail
    rw[K];clear K
    go_cut [4]from 70 to 81 (λv4 wx=>v4=.pointer k/\ClSt g s w k q LF wx)
    case first=>
     have ⟨c0,c1,c2,c3⟩:=(show FourW w2 k z from by rw[<-hy.out];exact H.out.four).cells;cases N with
     |true=>
      have gA:Hid (Calls prog 192 #[.agg #[jB z.a,jB z.b,jB z.c,jB z.d]] w2 λe w'=>e=jC (.agg #[jB i.a,jB i.b,jB i.c,jB i.d])/\w2 w'):=by
       have:=zoA F w2;rw[hy.out]at this;have e2:=hu.out;rw[Qj rfl]at e2;rw[<-e2]at this;exact this
      go_wp2_with (go_at_call 192;apply Hid.out);refine WhM gA ?_;rintro e w3 ⟨rfl,gi⟩;have h3:=H.out.low gi;have ⟨c0,c1,c2,c3⟩:=(show FourW w3 k z from by rw[<-hy.out];exact h3.four).cells;have f0:=h3.four.free 0;have f1:=h3.four.free 1;have f2:=h3.four.free 2;have f3:=h3.four.free 3;have HP:=hIx (h3.put Y LF);rw[h7.out]at HP;clear gi h3;go_wp2;go_meet;exact⟨rfl,HP.out⟩
     |false=>
      have gp:Hid (ClSt g s w k q LF w2):=by
       have e2:=hu.out;rw[Qf (by decide)]at e2;exact⟨H.out.rd,by rw[h7.out,e2,<-hy.out];exact H.out.four,H.out.zero,H.out.frame,H.out.far⟩
      clear c0 c1 c2 c3;go_wp2;go_meet;exact⟨rfl,gp.out⟩
    case rest=>
     obtain⟨rfl,E⟩:=hcut;have hT:=hIx E;have ⟨c0,c1,c2,c3⟩:=(show FourW wc k i from by rw[<-h7.out];exact E.four).cells;have g4:∀W,_:=λW=>zio i Set4.zero W
     unfold setV Set4.zero at g4;dsimp only at g4;clear E H hu
     go_upto_if 75 with fail
     obtain⟨cz,hR⟩:∃cz,zxx i ⟨0,0,0,0⟩=cz:=⟨_,rfl⟩
     rw[hR];have ge:Hid (decide (i=Set4.zero)=cz):=hR;clear hR g4
     go_cut [4]from 73 to 81 (λv4 wx=>v4=.pointer k/\ClSt g s w k LE LF wx)
     case first=>
      cases cz with
      |true=>
       have hz:i=Set4.zero:=Zp ge.out;have ha:Hid (LE=zaF q 3):=by unfold Hid;rw[hr.out,Qj hz]
       have gC:=hIx (hB.out q LF wc hT.out);clear hz;go_wp2_with (go_at_call 62;apply Hid.out);refine WhM gC ?_;rintro e w4 ⟨rfl,h4⟩;go_wp2;go_meet;exact⟨rfl,by rw[ha.out];exact h4⟩
      |false=>
       have hz:¬i=Set4.zero:=of_decide_eq_false ge.out;have ha:Hid (LE=q):=by unfold Hid;rw[hr.out,Qf hz]
       clear hz;go_wp2;go_meet;exact⟨rfl,by rw[ha.out];exact hT.out⟩
     case rest=>
      obtain⟨rfl,U⟩:=hcut
      have gv:LE.pos<=s.size:=by
       have h1:(zaF q 3).pos=q.pos:=(zck q 3 (by decide)).1;have h2:LE.pos=q.pos:=by rw[hr.out];split;exact h1;rfl
       omega
      have gt:Hid (Calls prog 89 #[.pointer g,jA 93] wc λe w'=>e=jC (.bool (zaR s.data.toList LE 93).1)/\ClSt g s w k (zaR s.data.toList LE 93).2 LF w'):=
       (zdR g s LE 93 wc U.rd gv hs).mono (λe w' ⟨h1,h2⟩=>⟨h1,U.call Y h2⟩)
      clear U hT gv;go_wp2_with (go_at_call 89;apply Hid.out);refine WhM gt ?_;rintro e w5 ⟨rfl,h5⟩;have ⟨c0,c1,c2,c3⟩:=(show FourW w5 k i from by rw[<-h7.out];exact h5.four).cells;have ⟨z0,z1,z2,z3,z4,z5⟩:=h5.zero.cells;have y0:=h5.zero.free 0;have y1:=h5.zero.free 1;have y2:=h5.zero.free 2;have y3:=h5.zero.free 3;have y4:=h5.zero.free 4;have y5:=h5.zero.free 5;have HX:=hIx (h5.zero.fill (jA 3) (jB i.a) (jB i.b) (jB i.c) (jB i.d) (jD 0 0));have g2:Below w.heap.size w5 (zai w5 w.heap.size (jA 3) (jB i.a) (jB i.b) (jB i.c) (jB i.d) (jD 0 0)):=zbA (Qi _ _) (Qd _) _ _ _ _ _ _
      have hV:Hid (RdEnd g s CL.2 w (zai w5 w.heap.size (jA 3) (jB i.a) (jB i.b) (jB i.c) (jB i.d) (jD 0 0))):=by
       unfold Hid;rw[gs.out];exact⟨(g2.block g Y).trans h5.rd,zdu h5.frame (Qd _) g2⟩
      have gx:Hid (byT CL.1=.node 3 i []):=by unfold Hid;rw[gs.out];unfold byT;rw[h7.out]
      have gI:i.Wf:=by rw[<-h7.out];exact ziF LF
      clear h5 g2 gt;go_wp2_with fail;have ⟨s0,s1,s2,s3,s4,s5⟩:=HX.out.cells;unfold zai at s0 s1 s2 s3 s4 s5;exact QD (v:=argX (.node 3 i []) none 0) (by simp[results,results194,go_sem,s0,s1,s2,s3,s4,s5,argX,Tree.kind,Tree.set,Tree.kids]) rfl (by rw[gx.out];exact⟨none,0,rfl,LX.leaf _ _ _ _ _ _ gI,hV.out⟩)
