/- Lemmas for the last texts. -/
import Derived.Test.YtnnokglddolglaaGreatDoorM09
import Derived.Laws.Concat
import Derived.Laws.IdiomStrings
set_option maxHeartbeats 6400000
set_option maxRecDepth 100000
namespace Go.Proofs.YtnnokglddolglaaGreatDoor
open Go.RowKit Go.Proofs.Tryz
section
open Go.RowKit
structure TC where
 t:Tree
 A:Option Addr
 c:Nat
def zcV(x:TC):List Value:=zan x.t.kind x.t.set x.A x.t.kids.length x.c
def OwnT(w:World)(base:Nat)(v:Value)(l:List TC):Prop:=w.ownsRow base 185 6 v l.length (l.flatMap zcV)
theorem OwnT.nil(w:World)(base:Nat):OwnT w base (jD 0 0) []:=ZU w base 185 6
theorem OwnT.below{w w':World}{base:Nat}{v:Value}{l:List TC}(h:OwnT w base v l)(hb:w w'):OwnT w' base v l:=zaU h hb
theorem OwnT.keep{w w':World}{base:Nat}{v:Value}{l:List TC}(h:OwnT w base v l)(b:∀g,v.ownBlock=some g->w'.heap[g]? = w.heap[g]?):OwnT w' base v l:=by
 refine⟨h.1,?_⟩
 rcases h.2 with d|⟨g,cap,a,h1,h2,e,c⟩
 ·exact .inl d
 ·exact .inr ⟨g,cap,a,h1,h2,(b g (by rw[h1];rfl)).trans e,c⟩
theorem zpz{w:World}{p:Nat->Prop}:∀(l:List TC) (b off:Nat),p b->(∀x∈l,LX w p x.t (zcV x))->(∀j u,(l.flatMap zcV)[j]? = some u->w.cell? ⟨b,off+j,none⟩=some u)->LXK w p (l.map TC.t) (some ⟨b,off,none⟩)
 | [],_,_,_,_,_=>by rw[Zu,LXK];trivial
 |x::l,b,off,hb,hl,c=>by
  rw[QW,LXK];refine⟨b,off,zcV x,rfl,hb,rfl,λj a=>?_,hl x (by simp),zpz l b (off+6) hb (λy d=>hl y (by simp[d])) λj u e=>?_⟩
  ·refine c j _ ?_
   rw[QH,Zj a,Qd a]
  ·have:=c (6+j) u (by rw[QH,Q0 (by show 6<=_;omega)];show (l.flatMap zcV)[6+j-6]? = _;rw[Nat.add_sub_cancel_left];exact e)
   rw[Zk];exact this
theorem zvD:(prog.info? 185).map (λi=>(i.zero,i.size,i.bytes))=some (some (.agg #[jA 0,jB 0,jB 0,jB 0,jB 0,jD 0 0]),6,64):=by kernel_rfl
section
variable {ops:Array Oper} {o:Oper} {a:Act} {Q:Exit->Act->World->Prop} {w:World}
theorem zkz{K:Act->World->Prop}{E:Prop}(i:o.guard=none)(s x:Operand)(B:o.op=.call {callee:=.builtin .append,args:=#[s,x],argTypes:=#[183,183]})
 (base:Nat) (v:Value) (l:List TC) (n:Nat) (H:l.length=n) (D:a.eval s=v) (d:OwnT w base v l) (b:base<=w.heap.size) (y:TC) (f c:Nat) (G:a.eval x=.slice f 1 c) (z:PutX w f (zcV y)) (q:n<=1000)
 (h:∀g cap w',OwnT w' base (.slice (some ⟨g,0,none⟩) (n+1) cap) (l++[y])->w.grownBy w' v.ownBlock->(v.ownBlock=some g\/g=w.heap.size)->g<w'.heap.size->K (a.put o.dst (.slice (some ⟨g,0,none⟩) (n+1) cap)) w'):
 if Region.wanted o (yielded ops a.tmps)=true then Oper.wp prog o a w K Q else E:=by
 subst H;have A:Region.wanted o (yielded ops a.tmps)=true:=by simp[Region.wanted,i]
 rw[Qg A];obtain⟨t,F,k,m,p⟩:=ZG zvD
 refine wp_append_lies (P:=prog) w s x 183 B base 185 t _ 6 64 underlying183 F k m p rfl (by decide) v l.length (l.flatMap zcV) D d
  ⟨f,0,none⟩ 1 c (zcV y) G rfl (λj u e=>?_) (λu e=>?_) (by decide) (by unfold maxLen;omega) (by omega) b w.heap.size rfl ?_
 ·rw[zba]
  exact(Qf w f j _ _ _ z).trans (by simpa using e)
 ·unfold zcV zan at e
  simp only[QI,ZY,or_false]at e
  rcases e with rfl|rfl|rfl|rfl|rfl|rfl <;> rfl
 ·intro g cap w' h1 h2 C r
  refine h g cap w' ?_ h2 C r;unfold OwnT;rw[Qa,Q6,QH,Xa,QE];exact h1
end
def zxt(t:Tree):Prop:=∀(A:Option Addr) (c:Nat) (w:World),LT w w.heap.size t (zan t.kind t.set A t.kids.length c)->
 Calls prog 259 #[argX t A c] w λe w'=>∃b a,e=jC (argX t b a)/\NewX w w' t b a/\w w'
structure CpSt(ts:List Tree)(k:Int)(S:Set4)(w:World)(j:Nat)(l:List TC)(A:Option Addr)(c:Nat)(wr:World):Prop where
 map:l.map TC.t=ts.take j
 len:l.length=j
 own:OwnT wr (w.heap.size+3) (.slice A j c) l
 out:PutX wr (w.heap.size+2) (zan k S A j c)
 trees:∀x∈l,LX wr (λb=>w.heap.size+2<b/\(Value.slice A j c).ownBlock≠some b/\b<wr.heap.size) x.t (zcV x)
 zero:ZeroX wr (w.heap.size+1)
 low:w wr
theorem CpSt.size{a:List Tree}{k:Int}{S:Set4}{w:World}{j:Nat}{l:List TC}{A:Option Addr}{c:Nat}{wr:World}(h:CpSt a k S w j l A c wr):w.heap.size+2<wr.heap.size:=h.out.lt
theorem CpSt.more{d:List Tree}{k:Int}{S:Set4}{w:World}{j:Nat}{l:List TC}{A:Option Addr}{c:Nat}{wr w':World}(h:CpSt d k S w j l A c wr)(hb:wr w'):CpSt d k S w j l A c w':=
 ⟨h.map,h.len,h.own.below hb,(hb.block _ h.out.lt).trans h.out,
  λx e=>LX.keep (λ_ a=>⟨a.1,a.2.1,Qv a.2.2 hb.size⟩) (λb o a=>hb.cell (p:=⟨b,o,none⟩) a.2.2) _ _ (h.trees x e),(hb.block _ h.zero.lt).trans h.zero,h.low.trans (hb.mono h.low.size)⟩
theorem CpSt.add{s:List Tree}{k:Int}{S:Set4}{w:World}{j:Nat}{l:List TC}{A:Option Addr}{c:Nat}{u wr w':World}{y:TC}{g cap:Nat}(h:CpSt s k S w j l A c wr)(G:s.take (j+1)=s.take j++[y.t])
 (I:w.heap.size+2<u.heap.size) (E:LX wr (ziB u.heap.size wr.heap.size) y.t (zcV y)) (v:∀b,(Value.slice A j c).ownBlock=some b->b<u.heap.size)
 (z:OwnT w' (w.heap.size+3) (.slice g (j+1) cap) (l++[y])) (q:wr.grownBy w' (Value.slice A j c).ownBlock) (r:(Value.slice A j c).ownBlock=some g\/g=wr.heap.size):
 CpSt s k S w (j+1) (l++[y]) (some ⟨g,0,none⟩) cap (w'.setCell ⟨w.heap.size+2,5,none⟩ (.slice g (j+1) cap)):=by
 have D:=q.size;have H:=QK z g rfl;have a:∀b,(Value.slice A j c).ownBlock=some b->w.heap.size+3<=b:=λb hb=>(QK h.own b hb).1
 have i:∀b,b<wr.heap.size->(Value.slice A j c).ownBlock≠some b->b≠w.heap.size+2->(w'.setCell ⟨w.heap.size+2,5,none⟩ (.slice g (j+1) cap)).heap[b]? = wr.heap[b]? := λb h1 h2 B=>
  (Qk _ _ _ _ B).trans (q.block b h1 (λe=>h2 e.symm))
 have F:(w'.setCell ⟨w.heap.size+2,5,none⟩ (.slice g (j+1) cap)).heap.size=w'.heap.size:=by simp[World.setCell]
 have p:w'.heap[w.heap.size+2]? = wr.heap[w.heap.size+2]? := q.block _ (by have:=h.size;omega) (λe=>by have:=a _ e.symm;omega);refine⟨?_,?_,?_,?_,λx n=>?_,?_,?_⟩
 ·rw[Q2,h.map,G];rfl
 ·rw[Qa,h.len];rfl
 ·exact z.keep λb hb=>Qk _ _ _ _ (show b≠w.heap.size+2 by have:=(QK z b hb).1;omega)
 ·have:=p.trans h.out
  unfold PutX;simp only[World.setCell,Q4,this]
  rfl
 ·have f:∀b,(Value.slice A j c).ownBlock≠some b->b<wr.heap.size->(Value.slice g (j+1) cap).ownBlock≠some b:=λb h1 h2 e=>by
   have C:g=b:=QD e
   rcases r with r|r
   ·exact h1 (by rw[r,C])
   ·omega
  have d:∀b o,b<wr.heap.size->(Value.slice A j c).ownBlock≠some b->b≠w.heap.size+2->(w'.setCell ⟨w.heap.size+2,5,none⟩ (.slice g (j+1) cap)).cell? ⟨b,o,none⟩=wr.cell? ⟨b,o,none⟩:=λb o h1 h2 B=>by
   simp only[World.cell?, i b h1 h2 B]
  rcases QO.1 n with n|n
  ·exact LX.keep (λb hb=>⟨hb.1,f b hb.2.1 hb.2.2,by have:=hb.2.2;omega⟩) (λb o hb=>d b o hb.2.2 hb.2.1 (by have:=hb.1;omega)) _ _ (h.trees x n)
  ·rw[Qy.1 n]
   have m:∀b,u.heap.size<=b->(Value.slice A j c).ownBlock≠some b:=λb hb e=>by have:=v b e;omega
   exact LX.keep (λb hb=>⟨by have:=hb.1;omega,f b (m b hb.1) hb.2,by have:=hb.2;omega⟩) (λb o hb=>d b o hb.2 (m b hb.1) (by have:=hb.1;omega)) _ _ E
 ·exact(i _ h.zero.lt (λe=>by have:=a _ e;omega) (by omega)).trans h.zero
 ·refine(h.low.grown q h.low.size (λb hb=>by have:=a b hb;omega)).setCell (by show w.heap.size<=w.heap.size+2;omega) _
theorem CpSt.tree{a:List Tree}{k:Int}{S:Set4}{w:World}{l:List TC}{A:Option Addr}{c:Nat}{wr:World}(h:CpSt a k S w a.length l A c wr)(r:S.Wf):
 LX wr (λb=>w.heap.size+2<b/\b<wr.heap.size) (.node k S a) (zan k S A a.length c):=by
 have f:l.map TC.t=a:=by rw[h.map,QZ]
 rw[LX];refine⟨A,c,rfl,r,?_⟩
 rcases h.own.2 with ⟨_,i⟩|⟨g,cap,n,e,s,p,_⟩
 ·have:l=[]:=QA i
  subst this;rw[<-f];exact LXK.nil _ _ _
 ·have d:=QK h.own g (by rw[e];rfl)
  have m:A=some ⟨g,0,none⟩:=by injection e
  rw[m,<-f];refine zpz l g 0 ⟨by omega,d.2⟩ (λx q=>LX.keep (λb hb=>⟨hb.1,hb.2.2⟩) (λ_ _ _=>rfl) _ _ (h.trees x q)) λj u o=>?_
  have:=Zq (g:=g) h.own (by rw[e];rfl) j u o;rw[zba]at this;rw[Zh];exact this
end
section
open Go.RowKit
def zus(b:List Tree)(k:Int)(S:Set4)(w:World)(a:Value)(wr:World):Prop:=
 ∃(j:Nat) (l:List TC) (A:Option Addr) (c:Nat),a=jA j/\j<=b.length/\CpSt b k S w j l A c wr
theorem ztj(k:Int)(S:Set4)(m:List Tree)(hB:m.length<=2)(ih:∀(i:Nat) (h:i<m.length),zxt m[i]):zxt (.node k S m):=by
 intro A c w hl;have IH:=hIx ih;rw[LT]at hl;obtain⟨r,z,he,h0,hk⟩:=hl;have hA:r=A:=by unfold zan at he;simp only[XS,Value.slice.injEq]at he;exact he.2.2.2.2.2.1.1.symm
 subst hA;have hm:=hIx h0;have hn:Hid (∀W,w W->LK W w.heap.size m r):=λW h=>hk.below h
 have hf:Hid (zus m k S w (jA (0:Nat)) (((w.alloc (.cells #[jA k,jB S.a,jB S.b,jB S.c,jB S.d,.slice r m.length c] 185)).alloc (.cells #[jA 0,jB 0,jB 0,jB 0,jB 0,jD 0 0] 185)).alloc (.cells #[jA k,jB S.a,jB S.b,jB S.c,jB S.d,jD 0 0] 185))):=by
  refine⟨0,[],none,0,rfl,Qm _,⟨rfl,rfl,OwnT.nil _ _,?_,λx hx=>absurd hx (by simp),?_,?_⟩⟩
  ·have:=PutX.new ((w.alloc (.cells #[jA k,jB S.a,jB S.b,jB S.c,jB S.d,.slice r m.length c] 185)).alloc (.cells #[jA 0,jB 0,jB 0,jB 0,jB 0,jD 0 0] 185)) (zan k S none 0 0)
   simpa[zan]using this
  ·have:=ZeroX.new (w.alloc (.cells #[jA k,jB S.a,jB S.b,jB S.c,jB S.d,.slice r m.length c] 185))
   rw[Qp]at this;exact(Qr _ _ _ (by simp)).trans this
  ·exact(WaL.alloc (by simp) _).alloc (by simp;omega) _
 unfold argX Tree.kind Tree.set Tree.kids;dsimp only;clear ih hk he h0
 go_in
 go_upto_region 3 with fail
 generalize ((w.alloc (.cells #[jA k,jB S.a,jB S.b,jB S.c,jB S.d,.slice r m.length c] 185)).alloc (.cells #[jA 0,jB 0,jB 0,jB 0,jB 0,jD 0 0] 185)).alloc (.cells #[jA k,jB S.a,jB S.b,jB S.c,jB S.d,jD 0 0] 185)=W1 at *
 go_loopw [14] (λL wr=>zus m k S w L wr) (λL _=>m.length-(intOf L).toNat)
 case atStart=>exact hf.out
 case round=>
  obtain⟨j,l,n,c2,rfl,hj,q⟩:=hrel;have G:=hIx q;have hz:=q.size;have ⟨o0,o1,o2,o3,o4,o5⟩:=(show PutX wr (w.heap.size+1+1) [_,_,_,_,_,_]from q.out).cells
  by_cases B:j<m.length
  ·have d1:decide ((j:Int)<(m.length:Int))=true:=Qu (by omega)
   have i7:IntKind.i64.wrap ((j:Int)+1)=(j:Int)+1:=Qx _ (by omega);obtain⟨b,off,hD,rfl,hv,O,I⟩:=(hn.out wr q.low).at j B;have h7:=IH.out j B;have hc:Hid (m.take (j+1)=m.take j++[m[j]]):=by unfold Hid;rw[Qs B]
   generalize m[j]=f at *;obtain⟨T,c3,Q,_⟩:=I.parts;subst Q;have ⟨y0,y1,y2,y3,y4,y5⟩:=(show CellsAt wr b (off+j*6) [_,_,_,_,_,_]from O).six;have Y:=hIx I;clear O q;obtain⟨t,u⟩:∃t,wr.alloc (.cells #[jA f.kind,jB f.set.a,jB f.set.b,jB f.set.c,jB f.set.d,.slice T f.kids.length c3] 185)=t:=⟨_,rfl⟩
   have U:wr t:=by rw[<-u];exact WaL
   have K:wr.heap.size<t.heap.size:=by rw[<-u];simp
   have X:PutX t wr.heap.size [jA f.kind,jB f.set.a,jB f.set.b,jB f.set.c,jB f.set.d,.slice T f.kids.length c3]:=by rw[<-u];exact PutX.new wr (zan f.kind f.set T f.kids.length c3)
   have ⟨x0,x1,x2,x3,x4,x5⟩:=X.cells;have D:=G.out.more U;have Z:∀b,(Value.slice n j c2).ownBlock=some b->b<t.heap.size:=λb hb=>(QK D.own b hb).2
   have hh:=hIx Z;have V:=hIx D
   have hg:Hid (∀W,t W->Calls prog 259 #[.agg #[jA f.kind,jB f.set.a,jB f.set.b,jB f.set.c,jB f.set.d,.slice T f.kids.length c3]] W λe w'=>∃r z,e=jC (.agg #[jA f.kind,jB f.set.a,jB f.set.b,jB f.set.c,jB f.set.d,.slice r f.kids.length z])/\LX w' (ziB t.heap.size w'.heap.size) f (zan f.kind f.set r f.kids.length z)/\CpSt m k S w j l n c2 w'):=λW hW=>
    (h7 T c3 W (LT.keep (Ql (Ql G.out.low.size (QX K)) hW.size) (λbb oo hp=>(U.trans (hW.mono (QX K))).cell (p:=⟨bb,oo,none⟩) (Qv hp G.out.low.size)) _ _ Y.out)).mono
     (λe w' ⟨r,z,h1,h2,h3⟩=>⟨r,z,h1,LX.keep (λb hb=>⟨Ql hW.size hb.1,hb.2⟩) (λ_ _ _=>rfl) _ _ h2,D.more (hW.trans (h3.mono hW.size))⟩)
   clear I D Z h7;have hE:=hIx u;go_upto_region 5 with fail
   clear u y0 y1 y2 y3 y4 y5;have ⟨o0,o1,o2,o3,o4,o5⟩:=(show PutX t (w.heap.size+1+1) [jA k,jB S.a,jB S.b,jB S.c,jB S.d,.slice n j c2]from V.out.out).cells;have hd:j<=1000:=by omega
   have hr:l.length=j:=V.out.len
   have P:Hid (∀r z w2 w3 g cap,LX w2 (ziB t.heap.size w2.heap.size) f (zan f.kind f.set r f.kids.length z)->CpSt m k S w j l n c2 w2->
    OwnT w3 (w.heap.size+3) (.slice (some ⟨g,0,none⟩) (j+1) cap) (l++[⟨f,r,z⟩])->w2.grownBy w3 (Value.slice n j c2).ownBlock->((Value.slice n j c2).ownBlock=some g\/g=w2.heap.size)->
    zus m k S w (jA ((j:Int)+1)) (w3.setCell ⟨w.heap.size+2,5,none⟩ (.slice (some ⟨g,0,none⟩) (j+1) cap))):=λr z w2 w3 g cap h1 h2 h3 h4 h5=>
    ⟨j+1,_,_,_,by rw[Int.natCast_succ],B,CpSt.add (y:=⟨f,r,z⟩) h2 hc.out (Qv hz (QX K)) h1 hh.out h3 h4 h5⟩
   clear X
   go_region_law (first
    |(refine zkz rfl (.tmp 19) (.tmp 22) rfl (w.heap.size+3) (.slice n j c2) l j hr rfl (by exact s.out.own) (by exact s.out.size) ⟨f,A9,c9⟩ w2.heap.size 1 rfl (by exact PutX.new w2 _) hd ?_;intro g cap w3 h6 F E h8;have H:PutX w3 (w.heap.size+1+1) [.int .i64 k,.int .u64 S.a,.int .u64 S.b,.int .u64 S.c,.int .u64 S.d,.slice n j c2]:=(F.block _ s.out.out.lt (λe=>by have:=(QK s.out.own _ e.symm).1;omega)).trans s.out.out;have o5:=H.cells.2.2.2.2.2;have f5:=H.free 5)
    |(go_simp;go_at_call 259;refine(hg.out _ (by first|exact Qj _ _|exact(Qj _ _).drew)).mono ?_;rintro e w2 ⟨A9,c9,rfl,hu,C⟩;have hw:=hIx C;have ht:PutX w2 (w.heap.size+1+1) [jA k,jB S.a,jB S.b,jB S.c,jB S.d,.slice n j c2]:=C.out;have o5:=ht.cells.2.2.2.2.2;have hy:w.heap.size+1+1<w2.heap.size:=C.size;have s:Hid (CpSt m k S w j l n c2 (w2.alloc (.cells #[jA f.kind,jB f.set.a,jB f.set.b,jB f.set.c,jB f.set.d,.slice A9 f.kids.length c9] 185))):=C.more WaL))
   all_goals
    have hN:=P.out A9 c9 (w2.alloc (.cells #[jA f.kind,jB f.set.a,jB f.set.b,jB f.set.c,jB f.set.d,.slice A9 f.kids.length c9] 185)) w3 g cap
     (LX.keep (λb hb=>⟨hb.1,by have:=hb.2;rw[Qp];omega⟩) (λb o hb=>((Qj w2.heap.size w2).alloc (Qc _) _).cell (p:=⟨b,o,none⟩) hb.2) _ _ hu) s.out h6 (by exact F) (by exact E)
    have hq:Hid (zus m k S w (jA ((j:Int)+1)) (w3.setCell ⟨w.heap.size+1+1,5,none⟩ (.slice g (j+1) cap))):=hN;generalize w3.setCell ⟨w.heap.size+1+1,5,none⟩ (.slice g (j+1) cap)=w4 at *;clear hN h6 F E h8 H o5 f5;go_wp2;exact⟨hq.out,by dsimp only[intOf];omega⟩
  ·obtain rfl:j=m.length:=by omega
   have d1:decide ((m.length:Int)<(m.length:Int))=false:=by simp
   have ho:=hIx (q.tree hm.out);have J:Below (w.heap.size+1) wr (zai wr (w.heap.size+1) (jA k) (jB S.a) (jB S.b) (jB S.c) (jB S.d) (.slice n m.length c2)):=zbD (Qj _ _) (Qc _) _ _ _ _ _ _
   have h9:∀i,i≠w.heap.size+1->(zai wr (w.heap.size+1) (jA k) (jB S.a) (jB S.b) (jB S.c) (jB S.d) (.slice n m.length c2)).heap[i]? = wr.heap[i]? := λi N=>by
    unfold zai;rw[Qk _ _ _ _ N,Qk _ _ _ _ N,Qk _ _ _ _ N,Qk _ _ _ _ N,Qk _ _ _ _ N,Qk _ _ _ _ N]
   have ha:Hid (NewX w (zai wr (w.heap.size+1) (jA k) (jB S.a) (jB S.b) (jB S.c) (jB S.d) (.slice n m.length c2)) (.node k S m) n c2):=
    LX.keep (λb hb=>⟨by have:=hb.1;omega,Qv hb.2 J.size⟩) (λb o hb=>by simp only[World.cell?, h9 b (show b≠w.heap.size+1 by have:=hb.1;omega)]) _ _ ho.out
   have hs:Hid (w (zai wr (w.heap.size+1) (jA k) (jB S.a) (jB S.b) (jB S.c) (jB S.d) (.slice n m.length c2))):=q.low.trans (J.mono (Zc _));have HX:=hIx (q.zero.fill (jA k) (jB S.a) (jB S.b) (jB S.c) (jB S.d) (.slice n m.length c2));have ⟨z0,z1,z2,z3,z4,z5⟩:=q.zero.cells;have q0:=q.zero.free 0;have q1:=q.zero.free 1;have q2:=q.zero.free 2;have q3:=q.zero.free 3;have q4:=q.zero.free 4;have q5:=q.zero.free 5;clear q J h9;go_wp2_with fail;have ⟨s0,s1,s2,s3,s4,s5⟩:=HX.out.cells;unfold zai at s0 s1 s2 s3 s4 s5;exact Qi (v:=argX (.node k S m) n c2) (by simp[results,results259,go_sem,s0,s1,s2,s3,s4,s5,argX,Tree.kind,Tree.set,Tree.kids]) rfl ⟨n,c2,rfl,ha.out,hs.out⟩
theorem zpy(t:Tree)(h:FewT t):zxt t:=
 match t,h with
 |.node k S a,h=>by
  rw[FewT]at h;exact ztj k S a h.1 λi b=>zpy a[i] (h.2.at i b)
termination_by SizeOf.sizeOf t
decreasing_by
 have:=List.sizeOf_lt_of_mem (Qz b);simp only[Tree.node.sizeOf_spec];omega
end
theorem LX.star{w:World}{p:Nat->Prop}{t:Tree}{A:Option Addr}{c b c1:Nat}(h:LX w p t (zan t.kind t.set A t.kids.length c))(hb:p b)(a:PutX w b (zan t.kind t.set A t.kids.length c)):
 LX w p (stT t) (zan 6 .zero (some ⟨b,0,none⟩) 1 c1):=by
 unfold stT;rw[LX];refine⟨_,_,rfl,zbE,?_⟩;rw[LXK];refine⟨b,0,_,rfl,hb,rfl,λj d=>?_,h,LXK.nil _ _ _⟩;rw[Zh,Qf w b j _ _ _ a];simp[Qd d]
theorem znB{W:World}{k:Nat}(o:Obj)(a b c d e f:Value)(h:k<W.heap.size):zai (W.alloc o) k a b c d e f=(zai W k a b c d e f).alloc o:=by
 have g:∀(V:World) (p:Addr) (u:Value),(V.setCell p u).heap.size=V.heap.size:=λV p u=>by simp[World.setCell]
 unfold zai;rw[Z5 _ _ _ _ h];rw[Z5 _ _ _ _ (by rw[g];exact h)];rw[Z5 _ _ _ _ (by rw[g,g];exact h)];rw[Z5 _ _ _ _ (by rw[g,g,g];exact h)];rw[Z5 _ _ _ _ (by rw[g,g,g,g];exact h)];rw[Z5 _ _ _ _ (by rw[g,g,g,g,g];exact h)]
def zxU(g:Nat)(s:ByteArray)(w:World)(k op:Nat)(R:TR)(wr:World):Prop:=
 ∃(x:TR) (A:Option Addr) (c:Nat),FewT x.1/\fixI (zcN s.data.toList) (zeR s.data.toList) x=R/\x.2.pos<=s.size/\x.2.op=op/\OutSt g s w k x A c wr
theorem zmk(s:ByteArray)(op:Nat)(AF:RS->TR)(hs:s.size<=4096)(hA:ziD s.data.toList AF)(hC:zfG 257 s op (zhh s.data.toList AF)):
 zfG 217 s op (zfB s.data.toList AF):=by
 intro g r w h hp hQ;have gl:s.data.toList.length=s.size:=by simp
 have O:=h.lt;obtain⟨W0,h0⟩:∃W0,w.alloc (.cells #[jA 0,jB 0,jB 0,jB 0,jB 0,jD 0 0] 185)=W0:=⟨_,rfl⟩
 have hu:w W0:=by rw[<-h0];exact WaL
 have hr:ZeroX W0 w.heap.size:=by rw[<-h0];exact ZeroX.new w
 have gb:w.heap.size<W0.heap.size:=hr.lt;have hH:=hIx (hC g r W0 (h.below hu) hp hQ);have hm:Hid (ZeroX W0 w.heap.size/\w.grownBy W0 (some g)):=⟨hr,zci (zaW w _) hu⟩
 have hX:Hid (fixI (zcN s.data.toList) (zeR s.data.toList) (zhh s.data.toList AF r)=zfB s.data.toList AF r):=rfl;have hv:=(zmn hA (r:=r) (by omega)).1;have hj:=hIx hv.few;have he:=hIx hv.step;generalize hR:zfB s.data.toList AF r=R at *;generalize g2:zhh s.data.toList AF r=G at *;have ge:=hIx h0;clear h hC hu h0 hr hR g2 hv hA
 go_in
 go_upto_region 1 with fail
 rw[ge.out];go_wp2_with (go_at_call 257;apply Hid.out);refine WhM hH ?_;rintro e w2 ⟨A,c,rfl,hV,h2⟩
 have HO:Hid (OutSt g s w w2.heap.size G A c (w2.alloc (.cells #[jA G.1.kind,jB G.1.set.a,jB G.1.set.b,jB G.1.set.c,jB G.1.set.d,.slice A G.1.kids.length c] 185))):=
  OutSt.start O (hm.out.1.grown h2.2 (by omega)) (zax hm.out.2 h2.2) gb hV h2.1 h2.2.size
 have V:G.2.pos<=s.size:=by have:=he.out.inn;omega
 have Y:G.2.op=op:=he.out.op.trans hQ;clear hV h2 he hH hm;unfold argX;go_upto_region 3 with fail
 generalize w2.alloc (.cells #[jA G.1.kind,jB G.1.set.a,jB G.1.set.b,jB G.1.set.c,jB G.1.set.d,.slice A G.1.kids.length c] 185)=W3 at *;generalize w2.heap.size=k at *;have HS:Hid (zxU g s w k op R W3):=⟨G,A,c,hj.out,hX.out,V,Y,HO.out⟩
 clear HO V Y hX hj
 go_loopw [7] (λ_ wr=>zxU g s w k op R wr) (λ_ wr=>zia g s.size wr)
 case atStart=>exact HS.out
 case round=>
  obtain⟨x,A,c,U,hx,V,Y,hO⟩:=hrel;have HM:=hIx (zeB hO.rd);have HO:=hIx hO;have gk:=hO.far;have h3:InR s.data.toList x:=by unfold InR;omega
  have hj:=hIx U
  have hn:Hid (∀(b:Int) W,OutSt g s w k x A c W->Calls prog 175 #[.pointer (some ⟨g,0,none⟩),jA b] W λe w'=>e=jC (.bool (decide (zad s.data.toList x.2=b)))/\OutSt g s w k (x.1,if zad s.data.toList x.2=b then onR x.2 else x.2) A c w'):=λb W hW=>
   (zdQ g s x.2 b W hW.rd V hs).mono (λe w' ⟨h1,h2⟩=>by
    have n:=hW.call O h2;unfold zaL at h1 n
    by_cases hb:zad s.data.toList x.2=b
    ·rw[Qg hb]at h1 n
     rw[Qg hb];exact⟨by rw[h1,Qu hb],n⟩
    ·rw[Qe hb]at h1 n
     rw[Qe hb];exact⟨by rw[h1,Qq hb],n⟩)
  have Q:Hid (∀(y:Tree) A7 c7 F,zcN s.data.toList x=some (y,onR x.2)->OutSt g s w k (x.1,onR x.2) A c F->LX F (λb=>w.heap.size<b/\b≠k/\b<F.heap.size) y (zan y.kind y.set A7 y.kids.length c7)->
   zxU g s w k op R (zai F k (jA y.kind) (jB y.set.a) (jB y.set.b) (jB y.set.c) (jB y.set.d) (.slice A7 y.kids.length c7))/\zia g s.size (zai F k (jA y.kind) (jB y.set.a) (jB y.set.b) (jB y.set.c) (jB y.set.d) (.slice A7 y.kids.length c7))<zia g s.size wr):=λy A7 c7 F X h7 gd=>by
   have hp:=h7.put O y A7 c7 gd;have hf:=zgG s.data.toList;have hZ:=zc2 X;obtain⟨_,_,_,_,hY,_⟩:=hZ;have hk:=hf.keep x _ h3 X;refine⟨⟨_,A7,c7,hY U,by rw[<-hx];exact(zid hf h3 X).symm,?_,Y,hp⟩,?_⟩
   ·have:(onR x.2).pos<=s.data.toList.length:=hk
    show (onR x.2).pos<=s.size
    omega
   ·rw[HM.out,zeB hp.rd];exact hf.less x _ h3 X
  have HX:=hIx hx
  have hB:Hid (∀(b:Int) W,zad s.data.toList x.2=b->OutSt g s w k x A c W->Calls prog 175 #[.pointer (some ⟨g,0,none⟩),jA b] W λe w'=>e=jC (.bool true)/\OutSt g s w k (x.1,onR x.2) A c w'):=λb W hb hW=>
   (hn.out b W hW).mono λe w' ⟨h1,h2⟩=>⟨by rw[h1,Qu hb],by rw[Qg hb]at h2;exact h2⟩
  have hD:Hid (∀(b:Int) W,zad s.data.toList x.2≠b->OutSt g s w k x A c W->Calls prog 175 #[.pointer (some ⟨g,0,none⟩),jA b] W λe w'=>e=jC (.bool false)/\OutSt g s w k x A c w'):=λb W hb hW=>
   (hn.out b W hW).mono λe w' ⟨h1,h2⟩=>⟨by rw[h1,Qq hb],by rw[Qe hb]at h2;exact h2⟩
  clear hx hO h3 hn
  by_cases t:zad s.data.toList x.2=42
  ·have HT:=hIx (hB.out 42 wr t HO.out)
   have N:Hid (zcN s.data.toList x=some (stT x.1,onR x.2)):=by unfold Hid zcN;rw[Qg t]
   clear t;go_wp2_with (go_at_call 175;apply Hid.out);refine WhM HT ?_;rintro e Z ⟨rfl,H⟩;have ⟨o0,o1,o2,o3,o4,o5⟩:=(show PutX Z k [jA x.1.kind,jB x.1.set.a,jB x.1.set.b,jB x.1.set.c,jB x.1.set.d,.slice A x.1.kids.length c]from H.out).cells;have f0:=H.out.free 0;have f1:=H.out.free 1;have f2:=H.out.free 2;have f3:=H.out.free 3;have f4:=H.out.free 4;have f5:=H.out.free 5;have gg:k<Z.heap.size:=H.out.lt;have u:=H.low O ((Qj Z.heap.size Z).alloc (Qc _) (.cells #[jA x.1.kind,jB x.1.set.a,jB x.1.set.b,jB x.1.set.c,jB x.1.set.d,.slice A x.1.kids.length c] 185));have hS:=LX.star (c1:=1) u.tree (b:=Z.heap.size) ⟨by omega,by omega,by rw[Qp];omega⟩ (PutX.new Z _);have hw:=Q.out (stT x.1) _ 1 _ N.out u hS;rw[znB _ _ _ _ _ _ _ gg]at hw;have E:=hIx hw;clear hw;clear H u hS;go_wp2_with fail
   go_roundw
   case measure=>exact E.out.2
   case rel=>exact E.out.1
  have g4:=hIx (hD.out 42 wr t HO.out);go_wp2_with (go_at_call 175;apply Hid.out);refine WhM g4 ?_;rintro e Z ⟨rfl,H⟩
  by_cases D:zad s.data.toList x.2=63
  ·have HT:=hIx (hB.out 63 Z D H)
   have N:Hid (zcN s.data.toList x=some (orT x.1 emT,onR x.2)):=by unfold Hid zcN;rw[Qe t,Qg D]
   clear t D H;go_wp2_with (go_at_call 175;apply Hid.out);refine WhM HT ?_;rintro e w5 ⟨rfl,u⟩;have ⟨o0,o1,o2,o3,o4,o5⟩:=(show PutX w5 k [jA x.1.kind,jB x.1.set.a,jB x.1.set.b,jB x.1.set.c,jB x.1.set.d,.slice A x.1.kids.length c]from u.out).cells;have f0:=u.out.free 0;have f1:=u.out.free 1;have f2:=u.out.free 2;have f3:=u.out.free 3;have f4:=u.out.free 4;have f5:=u.out.free 5
   have hq:Hid (Calls prog 176 #[jA 5,.agg #[jA x.1.kind,jB x.1.set.a,jB x.1.set.b,jB x.1.set.c,jB x.1.set.d,.slice A x.1.kids.length c],.agg #[jA 2,jB 0,jB 0,jB 0,jB 0,jD 0 0]] w5 (znN 5 x.1 emT (λb=>w.heap.size<b/\b≠k/\b<w5.heap.size) w5)):=
    zg3 5 x.1 emT A none c 0 _ w5 (λb hb=>hb.2.2) u.tree (LX.leaf _ _ _ _ _ _ zbE)
   have H5:=hIx u;have gn:k<w5.heap.size:=u.out.lt;clear u;go_wp2_with (go_at_call 176;apply Hid.out);refine WhM hq ?_;rintro e j ⟨A6,c6,rfl,hL,hy⟩;have m:=H5.out.low O hy;have gi:=hy.size;have E:=hIx (Q.out (orT x.1 emT) A6 c6 j N.out m (LX.keep (λb hb=>by rcases hb with hb|hb;exact⟨hb.1,hb.2.1,by have:=hb.2.2;omega⟩;exact⟨by have:=hb.1;omega,by have:=hb.1;omega,hb.2⟩) (λ_ _ _=>rfl) _ _ hL));have ⟨o0,o1,o2,o3,o4,o5⟩:=(show PutX j k [jA x.1.kind,jB x.1.set.a,jB x.1.set.b,jB x.1.set.c,jB x.1.set.d,.slice A x.1.kids.length c]from m.out).cells;have f0:=m.out.free 0;have f1:=m.out.free 1;have f2:=m.out.free 2;have f3:=m.out.free 3;have f4:=m.out.free 4;have f5:=m.out.free 5;clear hL hy m;unfold argX;go_wp2_with fail
   go_roundw
   case measure=>exact E.out.2
   case rel=>exact E.out.1
  have g3:=hIx (hD.out 63 Z D H);clear H;go_wp2_with (go_at_call 175;apply Hid.out);refine WhM g3 ?_;rintro e w5 ⟨rfl,u⟩
  by_cases K:zad s.data.toList x.2=43
  ·have HT:=hIx (hB.out 43 w5 K u)
   have N:Hid (zcN s.data.toList x=some (jnT x.1 (stT (zbM x.1)),onR x.2)):=by unfold Hid zcN;rw[Qe t,Qe D,Qg K]
   clear t D K u;go_wp2_with (go_at_call 175;apply Hid.out);refine WhM HT ?_;rintro e j ⟨rfl,m⟩;have hG:=hIx (λ(W:World) (hW:j W)=>(m.low O hW).lt);have H6:=hIx m;have g7:k<j.heap.size:=m.out.lt;have ⟨o0,o1,o2,o3,o4,o5⟩:=(show PutX j k [jA x.1.kind,jB x.1.set.a,jB x.1.set.b,jB x.1.set.c,jB x.1.set.d,.slice A x.1.kids.length c]from m.out).cells;have I:j (j.alloc (.cells #[jA 2,jB 0,jB 0,jB 0,jB 0,jD 0 0] 185)):=WaL
   have hN:Hid (Calls prog 258 #[.agg #[jA x.1.kind,jB x.1.set.a,jB x.1.set.b,jB x.1.set.c,jB x.1.set.d,.slice A x.1.kids.length c],jA 0] (j.alloc (.cells #[jA 2,jB 0,jB 0,jB 0,jB 0,jD 0 0] 185)) λe w'=>e=jC (jA (zeF x.1 0))/\j w'/\PutX w' j.heap.size [jA 2,jB 0,jB 0,jB 0,jB 0,jD 0 0]):=
    (zoB x.1 U A c (j.alloc (.cells #[jA 2,jB 0,jB 0,jB 0,jB 0,jD 0 0] 185)) 0 (hG.out _ I) (by decide) (by decide)).mono (λe w' ⟨h1,h2⟩=>⟨h1,I.trans (h2.mono I.size),(h2.block _ (PutX.new j [jA 2,jB 0,jB 0,jB 0,jB 0,jD 0 0]).lt).trans (PutX.new j [jA 2,jB 0,jB 0,jB 0,jB 0,jD 0 0])⟩)
   have gm:=zle x.1 0 (by decide);clear m I;go_upto_region 9 with fail
   go_wp2_with (go_at_call 258;apply Hid.out);refine WhM hN ?_;rintro e F ⟨rfl,h8,q⟩;have H7:=hIx (And.intro h8 q);have gj:k<F.heap.size:=Qv g7 h8.size;have hE:j.heap.size<F.heap.size:=q.lt;have hI:=H6.out.low O h8;have ⟨o0,o1,o2,o3,o4,o5⟩:=(show PutX F k [jA x.1.kind,jB x.1.set.a,jB x.1.set.b,jB x.1.set.c,jB x.1.set.d,.slice A x.1.kids.length c]from hI.out).cells;have ⟨b0,b1,b2,b3,b4,b5⟩:=q.cells;have e0:=q.free 0;have e1:=q.free 1;have e2:=q.free 2;have e3:=q.free 3;have e4:=q.free 4;have e5:=q.free 5;clear hI h8 q hN
   go_upto_if 26 with fail
   obtain⟨cz,ho⟩:∃cz,decide (zeF x.1 0<=80)=cz:=⟨_,rfl⟩
   rw[ho];have hF:=hIx ho;clear ho
   go_cut [3]from 7 to 33 (λv3 wx=>v3=.pointer k/\∃(C:Option Addr) (z:Nat),j wx/\PutX wx j.heap.size [jA (zbM x.1).kind,jB (zbM x.1).set.a,jB (zbM x.1).set.b,jB (zbM x.1).set.c,jB (zbM x.1).set.d,.slice C (zbM x.1).kids.length z]/\LX wx (λb=>w.heap.size<b/\b≠k/\b<wx.heap.size) (zbM x.1) (zan (zbM x.1).kind (zbM x.1).set C (zbM x.1).kids.length z))
   case first=>
    cases cz with
    |true=>
     have hz:zeF x.1 0<=80:=Zr hF.out;have P:Hid (zbM x.1=x.1):=by unfold Hid zbM;rw[Qg hz]
     have g6:Hid (Calls prog 259 #[.agg #[jA x.1.kind,jB x.1.set.a,jB x.1.set.b,jB x.1.set.c,jB x.1.set.d,.slice A x.1.kids.length c]] F λe w'=>∃A' c',e=jC (.agg #[jA x.1.kind,jB x.1.set.a,jB x.1.set.b,jB x.1.set.c,jB x.1.set.d,.slice A' x.1.kids.length c'])/\NewX F w' x.1 A' c'/\F w'):=zpy x.1 U A c F (hG.out F H7.out.1);clear hz;go_wp2_with (go_at_call 259;apply Hid.out);refine WhM g6 ?_;rintro e w8 ⟨C,z,rfl,hK,L⟩;have l:PutX w8 j.heap.size [jA 2,jB 0,jB 0,jB 0,jB 0,jD 0 0]:=(L.block _ hE).trans H7.out.2;have g8:=hIx (l.fill rfl (jA x.1.kind) (jB x.1.set.a) (jB x.1.set.b) (jB x.1.set.c) (jB x.1.set.d) (.slice C x.1.kids.length z));have ht:Below j.heap.size w8 (zai w8 j.heap.size (jA x.1.kind) (jB x.1.set.a) (jB x.1.set.b) (jB x.1.set.c) (jB x.1.set.d) (.slice C x.1.kids.length z)):=zbD (Qj _ _) (Qc _) _ _ _ _ _ _;have ga:Hid (j (zai w8 j.heap.size (jA x.1.kind) (jB x.1.set.a) (jB x.1.set.b) (jB x.1.set.c) (jB x.1.set.d) (.slice C x.1.kids.length z))):=(H7.out.1.trans (L.mono (QX hE))).trans ht
     have hT:∀i,i≠j.heap.size->(zai w8 j.heap.size (jA x.1.kind) (jB x.1.set.a) (jB x.1.set.b) (jB x.1.set.c) (jB x.1.set.d) (.slice C x.1.kids.length z)).heap[i]? = w8.heap[i]? := λi hi=>by
      unfold zai;rw[Qk _ _ _ _ hi,Qk _ _ _ _ hi,Qk _ _ _ _ hi,Qk _ _ _ _ hi,Qk _ _ _ _ hi,Qk _ _ _ _ hi]
     have gc:Hid (LX (zai w8 j.heap.size (jA x.1.kind) (jB x.1.set.a) (jB x.1.set.b) (jB x.1.set.c) (jB x.1.set.d) (.slice C x.1.kids.length z)) (λb=>w.heap.size<b/\b≠k/\b<(zai w8 j.heap.size (jA x.1.kind) (jB x.1.set.a) (jB x.1.set.b) (jB x.1.set.c) (jB x.1.set.d) (.slice C x.1.kids.length z)).heap.size) x.1 (zan x.1.kind x.1.set C x.1.kids.length z)):=
      LX.keep (λb hb=>⟨by have:=hb.1;omega,by have:=hb.1;omega,Qv hb.2 ht.size⟩) (λb o hb=>by simp only[World.cell?, hT b (show b≠j.heap.size by have:=hb.1;omega)]) _ _ hK
     have ⟨b0,b1,b2,b3,b4,b5⟩:=l.cells;have e0:=l.free 0;have e1:=l.free 1;have e2:=l.free 2;have e3:=l.free 3;have e4:=l.free 4;have e5:=l.free 5;clear l ht hT hK L;go_wp2;go_meet;exact⟨rfl,C,z,ga.out,by rw[P.out];exact g8.out,by rw[P.out];exact gc.out⟩
    |false=>
     have hz:¬zeF x.1 0<=80:=of_decide_eq_false hF.out;have P:Hid (zbM x.1=emT):=by unfold Hid zbM;rw[Qe hz]
     clear hz;go_wp2;go_meet;exact⟨rfl,none,0,H7.out.1,by rw[P.out];exact H7.out.2,by rw[P.out];exact LX.leaf _ _ _ _ _ _ zbE⟩
   case rest=>
    obtain⟨rfl,C,z,L,l,hh⟩:=hcut;obtain⟨f,hJ⟩:∃f,zbM x.1=f:=⟨_,rfl⟩
    rw[hJ]at l hh N;have T:=H6.out.low O L;have gp:k<wc.heap.size:=T.out.lt;have gh:j.heap.size<wc.heap.size:=l.lt;have ⟨o0,o1,o2,o3,o4,o5⟩:=(show PutX wc k [jA x.1.kind,jB x.1.set.a,jB x.1.set.b,jB x.1.set.c,jB x.1.set.d,.slice A x.1.kids.length c]from T.out).cells;have ⟨b0,b1,b2,b3,b4,b5⟩:=l.cells;have J:wc (wc.alloc (.cells #[jA f.kind,jB f.set.a,jB f.set.b,jB f.set.c,jB f.set.d,.slice C f.kids.length z] 185)):=WaL;have h9:=T.low O J
    have hU:LX (wc.alloc (.cells #[jA f.kind,jB f.set.a,jB f.set.b,jB f.set.c,jB f.set.d,.slice C f.kids.length z] 185)) (λb=>w.heap.size<b/\b≠k/\b<(wc.alloc (.cells #[jA f.kind,jB f.set.a,jB f.set.b,jB f.set.c,jB f.set.d,.slice C f.kids.length z] 185)).heap.size) f (zan f.kind f.set C f.kids.length z):=
     LX.keep (λb hb=>⟨hb.1,hb.2.1,Qv hb.2.2 J.size⟩) (λb o hb=>J.cell (p:=⟨b,o,none⟩) hb.2.2) _ _ hh
    have hc:=LX.star (c1:=1) hU (b:=wc.heap.size) ⟨by omega,by omega,by rw[Qp];omega⟩ (PutX.new wc _)
    have hq:Hid (Calls prog 176 #[jA 4,.agg #[jA x.1.kind,jB x.1.set.a,jB x.1.set.b,jB x.1.set.c,jB x.1.set.d,.slice A x.1.kids.length c],.agg #[jA 6,jB 0,jB 0,jB 0,jB 0,.slice wc.heap.size 1 1]] (wc.alloc (.cells #[jA f.kind,jB f.set.a,jB f.set.b,jB f.set.c,jB f.set.d,.slice C f.kids.length z] 185)) (znN 4 x.1 (stT f) (λb=>w.heap.size<b/\b≠k/\b<(wc.alloc (.cells #[jA f.kind,jB f.set.a,jB f.set.b,jB f.set.c,jB f.set.d,.slice C f.kids.length z] 185)).heap.size) (wc.alloc (.cells #[jA f.kind,jB f.set.a,jB f.set.b,jB f.set.c,jB f.set.d,.slice C f.kids.length z] 185)))):=
     zg3 4 x.1 (stT f) A (some ⟨wc.heap.size,0,none⟩) c 1 _ _ (λb hb=>hb.2.2) h9.tree hc
    have H9:=hIx h9;clear L l hh T J h9 hU hc hJ;go_wp2_with (go_at_call 176;apply Hid.out);refine WhM hq ?_;rintro e hP ⟨g9,g1,rfl,ha,S⟩;have B:=H9.out.low O S;have hd:=S.size;have gf:=H9.out.out.lt;have E:=hIx (Q.out (jnT x.1 (stT f)) g9 g1 hP N.out B (LX.keep (λb hb=>by rcases hb with hb|hb;exact⟨hb.1,hb.2.1,by have:=hb.2.2;omega⟩;exact⟨by have:=hb.1;omega,by have:=hb.1;omega,hb.2⟩) (λ_ _ _=>rfl) _ _ ha));have ⟨o0,o1,o2,o3,o4,o5⟩:=(show PutX hP k [jA x.1.kind,jB x.1.set.a,jB x.1.set.b,jB x.1.set.c,jB x.1.set.d,.slice A x.1.kids.length c]from B.out).cells;have f0:=B.out.free 0;have f1:=B.out.free 1;have f2:=B.out.free 2;have f3:=B.out.free 3;have f4:=B.out.free 4;have f5:=B.out.free 5;clear ha S B hd gf;unfold argX;go_wp2_with fail
    go_roundw
    case measure=>exact E.out.2
    case rel=>exact E.out.1
  ·have g5:=hIx (hD.out 43 w5 K u)
   have g0:Hid (R=x):=by
    unfold Hid;rw[<-HX.out];exact zhf (zgG s.data.toList) (show InR s.data.toList x by unfold InR;omega) (by unfold zcN;rw[Qe t,Qe D,Qe K])
   clear t D K u;go_wp2_with (go_at_call 175;apply Hid.out);refine WhM g5 ?_;rintro e j ⟨rfl,m⟩;have HD:=hIx (OutSt.done O m);have ⟨o0,o1,o2,o3,o4,o5⟩:=(show PutX j k [jA x.1.kind,jB x.1.set.a,jB x.1.set.b,jB x.1.set.c,jB x.1.set.d,.slice A x.1.kids.length c]from m.out).cells;have ⟨z0,z1,z2,z3,z4,z5⟩:=m.zero.cells;have y0:=m.zero.free 0;have y1:=m.zero.free 1;have y2:=m.zero.free 2;have y3:=m.zero.free 3;have y4:=m.zero.free 4;have y5:=m.zero.free 5;clear m;go_wp2_with fail;obtain⟨d1,d2,d3⟩:=HD.out;have ⟨s0,s1,s2,s3,s4,s5⟩:=(show PutX _ w.heap.size [_,_,_,_,_,_]from d1).cells;unfold zai at s0 s1 s2 s3 s4 s5;exact Qi (v:=argX x.1 A c) (by simp[results,results217,go_sem,s0,s1,s2,s3,s4,s5,argX]) rfl (by rw[g0.out];exact⟨A,c,rfl,d2,d3⟩)
theorem ziE(f:Nat->Bool):(setF f).Wf:=by
 have h:∀j,zix ((wdF f j:Nat):Int):=λj=>by have:=ziR f j;unfold zix;omega
 exact⟨h 0,h 1,h 2,h 3⟩
