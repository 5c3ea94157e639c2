/- Lemmas for the last texts. -/
import Derived.Test.YtfhaojhofiocaaaGreatDoorM03
import Derived.Deep.CutRange
import Derived.Lib.IndexBytes
set_option maxHeartbeats 1600000
set_option maxRecDepth 100000
namespace Go.Proofs.YtfhaojhofiocaaaGreatDoor
open Go.RowKit Go.Proofs.Tryz
def BestB(w:World)(g:Nat)(f a:Nat)(found:Bool):Prop:=w.heap[g]? = some (.cells #[jA (f:Int),jA (a:Int),.bool found] 356 (0,0))
structure RunR(P:List Ins)(s:ByteArray)(pv:Value)(w:World)(t:Nat)(wr:World)(gt gF:Nat)(vl:Value)(F:Nat->Nat)(ls:List Nat)(found:Bool)(f tq:Nat):Prop where
 thm:ThM wr gt pv s gF P.length vl F ls
 thr:Thr P s.data.toList t F ls
 clt:zph P s.data.toList t F found f
 max:∀m,F m<=t
 best:znP P s.data.toList (P.length-1) (λj=>j<t) found f tq
 cells:BestB wr (w.heap.size+1) f tq found
 res:BestB wr w.heap.size 0 0 false
 prg:OwnP wr 0 pv P
 low:w.heap.size+1<gt/\w.heap.size+1<gF/\∀g,vl.ownBlock=some g->w.heap.size+1<g
 below:w wr
theorem BestB.setAll{w:World}{g a b f d:Nat}{c found:Bool}(h:BestB w g a b c):BestB (((w.setCell g (jA (f:Int))).setCell ⟨g,1,none⟩ (jA (d:Int))).setCell ⟨g,2,none⟩ (.bool found)) g f d found:=
 QW _ g 2 _ _ _ (QW _ g 1 _ _ _ (QW w g 0 _ _ _ h))
theorem BestB.three{w:World}{g f a:Nat}{found:Bool}(h:BestB w g f a found):(w.cell? g=some (jA (f:Int))/\w.cell? ⟨g,1,none⟩=some (jA (a:Int))/\w.cell? ⟨g,2,none⟩=some (.bool found))/\w.frozen? ⟨g,0,none⟩=false/\w.frozen? ⟨g,1,none⟩=false/\w.frozen? ⟨g,2,none⟩=false:=
 ⟨⟨Qo w g 0 _ _ _ h,Qo w g 1 _ _ _ h,Qo w g 2 _ _ _ h⟩,Zc w g 0 _ _ h,Zc w g 1 _ _ h,Zc w g 2 _ _ h⟩
theorem Path.lt{P:List Ins}{s:jE}(a:OkP P){N j L n i:Nat}(h:Path P s N j L n i):n<P.length->N<P.length:=by
 have at_:∀m x,P[m]? = some x->∃h:m<P.length,P[m]=x:=λm x h=>Qy.1 h
 induction h with
 |here=>exact λh=>h
 |eps _ n m i f _ ih=>
  intro e;refine ih ?_;cases f with
  |one x h1 h2=>obtain⟨d,b⟩:=at_ _ _ h1;have:=a n d;rw[b]at this;omega
  |two x h1 h2=>obtain⟨d,b⟩:=at_ _ _ h1;have:=a n d;rw[b]at this;omega
  |jump x h1 h2=>obtain⟨d,b⟩:=at_ _ _ h1;have:=a n d;rw[b]at this;omega
  |begin x h1 h2=>obtain⟨d,b⟩:=at_ _ _ h1;have:=a n d;rw[b]at this;omega
  |finish x h1 h2=>obtain⟨d,b⟩:=at_ _ _ h1;have:=a n d;rw[b]at this;omega
 |byte _ n i hb _ ih=>
  intro e;refine ih ?_;obtain⟨x,c,h1,h2,_⟩:=hb;obtain⟨d,b⟩:=at_ _ _ h1;have:=a n d;rw[b]at this;omega
theorem Thr.lt{P:List Ins}{s:jE}(a:OkP P)(d:0<P.length){t:Nat}{F:Nat->Nat}{e:List Nat}(h:Thr P s t F e){n:Nat}(c:F n≠0):n<P.length:=by
 obtain⟨k,_,L,b⟩:=h.real n c;exact b.lt a d
structure MidR(P:List Ins)(s:ByteArray)(pv:Value)(w:World)(t:Nat)(wx:World)(gt gF:Nat)(vl:Value)(G:Nat->Nat)(lg:List Nat)(found:Bool)(f tq:Nat):Prop where
 thm:ThM wx gt pv s gF P.length vl G lg
 thr:Thr P s.data.toList t G lg
 cmp:Comp P s.data.toList t G found f
 max:∀m,G m<=t+1
 best:znP P s.data.toList (P.length-1) (λj=>j<t) found f tq
 cells:BestB wx (w.heap.size+1) f tq found
 res:BestB wx w.heap.size 0 0 false
 prg:OwnP wx 0 pv P
 low:w.heap.size+1<gt/\w.heap.size+1<gF/\∀g,vl.ownBlock=some g->w.heap.size+1<g
 below:w wx
section
variable {P:List Ins} {s:ByteArray} {pv:Value} {w:World} {t:Nat}
theorem RunR.added{wr w2:World}{c d:Nat}{n a:Value}{F G:Nat->Nat}{j i:List Nat}{f m:Nat}(h:RunR P s pv w t wr c d n F j false f m)(r:ThM w2 c pv s d P.length a G i)
 (u:AddPost P s.data.toList t 0 t F j G i) (x:OwnP w2 0 pv P) (b:Kept wr w2 c d n a):MidR P s pv w t w2 c d a G i false f m:=by
 obtain⟨h1,h2,v⟩:=zti h.clt h.thr h.max u;obtain⟨y,z,l⟩:=h.low;have A:w.heap.size+1<wr.heap.size:=zaG h.cells;have keep:∀k,k<w.heap.size+1+1->w2.heap[k]? = wr.heap[k]? := λk q=>b.blocks k (by omega) (by omega) (by omega) λe=>by have:=l k e;omega
 refine⟨r,h2,h1,v,h.best,(keep _ (by omega)).trans h.cells,(keep _ (by omega)).trans h.res,x,⟨y,z,λg o=>?_⟩,?_⟩
 ·rcases b.own g o with e|e
  ·exact l g e
  ·omega
 ·exact h.below.trans ⟨b.below.os,b.below.tape,b.below.output,b.below.size,λk q=>keep k (by omega)⟩
structure InRT(P:List Ins)(s:ByteArray)(pv:Value)(w:World)(t:Nat)(wx:World)(G:Nat->Nat)(lg:List Nat)(found:Bool)(f:Nat)(q:Nat)(wr:World)(gt gF:Nat)(vl:Value)(H:Nat->Nat)(lh:List Nat)(found1:Bool)(f1 to1:Nat):Prop where
 thm:ThM wr gt pv s gF P.length vl H lh
 thr:Thr P s.data.toList (t+1) H lh
 far:wx.heap.size<=gt/\wx.heap.size<=gF/\∀g,vl.ownBlock=some g->wx.heap.size<=g
 keep:∀k,k<wx.heap.size->k≠w.heap.size+1->wr.heap[k]? = wx.heap[k]?
 below:w wr
 size:wx.heap.size<=wr.heap.size
 cells:BestB wr (w.heap.size+1) f1 to1 found1
 max:∀m,H m<=t+1
 sort:∀r n,lg[r]? = some n->q<=r->∀m,H m<=G n
 done:∀r n,lg[r]? = some n->r<q->zcF P s.data.toList t n->(found1=true->G n<=f1+1)->H (n+1)≠0/\H (n+1)<=G n
 old:found=true->found1=true/\f1<=f
 best:(znP P s.data.toList (P.length-1) (λj=>j<t) found1 f1 to1/\∀r n,lg[r]? = some n->r<q->n=P.length-1->found1=true/\f1+1<G n)\/
  (znP P s.data.toList (P.length-1) (λj=>j<t+1) true f1 t/\found1=true/\to1=t/\G (P.length-1)=f1+1)
section
variable {wx:World} {gt gF:Nat} {vl:Value} {G:Nat->Nat} {lg:List Nat} {found:Bool} {f tq:Nat}
theorem MidR.start(h:MidR P s pv w t wx gt gF vl G lg found f tq){i:World}{b a:Nat}(l:ThM i b pv s a P.length (jD 0 0) (λ_=>0) [])(c:wx i)(h1:wx.heap.size<=b)(h2:wx.heap.size<=a):
 InRT P s pv w t wx G lg found f 0 i b a (jD 0 0) (λ_=>0) [] found f tq:=
 ⟨l,Thr.zero _,⟨h1,h2,λg m=>by cases m⟩,λk j _=>c.block k j,h.below.trans (c.mono h.below.size),c.size,(c.block _ (zaG h.cells)).trans h.cells,λ_=>Qn _,λ_ _ _ _ _=>Qn _,λr n _ d=>absurd d (by omega),λe=>⟨e,Qd _⟩,.inl ⟨h.best,λr n _ d=>absurd d (by omega)⟩⟩
section
variable {wr:World} {q gt2 gF2:Nat} {vl2:Value} {H:Nat->Nat} {lh:List Nat} {found1:Bool} {f1 to1:Nat}
theorem InRT.now(h:InRT P s pv w t wx G lg found f q wr gt2 gF2 vl2 H lh found1 f1 to1)(hM:MidR P s pv w t wx gt gF vl G lg found f tq):ThM wr gt pv s gF P.length vl G lg:=by
 obtain⟨e,i,d⟩:=hM.low;have a:gt<wx.heap.size:=by obtain⟨_,hb⟩:=hM.thm.blk;exact zaG hb
 have b:gF<wx.heap.size:=zaG hM.thm.frm;exact hM.thm.keep (h.keep _ a (by omega)) (h.keep _ b (by omega)) λg c=>h.keep _ (hM.thm.lst.lt g c) (by have:=d g c;omega)
theorem InRT.prg(h:InRT P s pv w t wx G lg found f q wr gt2 gF2 vl2 H lh found1 f1 to1)(hM:MidR P s pv w t wx gt gF vl G lg found f tq)(b:OwnP w 0 pv P):OwnP wr 0 pv P:=
 hM.prg.keep λg a=>h.keep g (QE hM.prg g a).2 (by have:=(QE b g a).2;omega)
theorem InRT.stop(h:InRT P s pv w t wx G lg found f lg.length wr gt2 gF2 vl2 H lh found1 f1 to1)(hM:MidR P s pv w t wx gt gF vl G lg found f tq)(l:OwnP w 0 pv P):RunR P s pv w (t+1) wr gt2 gF2 vl2 H lh found1 f1 to1:=by
 have o:w.heap.size+1<wx.heap.size:=zaG hM.cells
 have b:∀n,G n≠0->∃r,r<lg.length/\lg[r]? = some n:=λn c=>by
  obtain⟨r,a,e⟩:=Xd ((hM.thr.mem n).2 c);exact⟨r,a,by rw[<-e];exact Qe a⟩
 obtain⟨q,u,i⟩:=h.far;refine⟨h.thm,h.thr,zsP hM.cmp h.old h.thr λn c hb j=>?_,h.max,?_,h.cells,(h.keep _ (by omega) (by omega)).trans hM.res,h.prg hM l,⟨by omega,by omega,λg d=>by have:=i g d;omega⟩,h.below⟩
 ·obtain⟨r,a,e⟩:=b n c
  exact h.done r n e a hb j
 ·rcases h.best with ⟨h1,h2⟩|⟨h1,h2,k,m⟩
  ·exact zsp h1 hM.cmp h.old λc=>by
    obtain⟨r,a,e⟩:=b _ c;exact h2 r _ e a rfl
  ·rw[h2,k];exact h1
theorem InRT.pass(h:InRT P s pv w t wx G lg found f q wr gt2 gF2 vl2 H lh found1 f1 to1)(B:w.heap.size+1<wx.heap.size){n:Nat}(l:lg[q]? = some n){b:World}(a:wr b)
 (hb:zcF P s.data.toList t n->found1=true/\f1+1<G n) (y:n=P.length-1->found1=true/\f1+1<G n):InRT P s pv w t wx G lg found f (q+1) b gt2 gF2 vl2 H lh found1 f1 to1:=by
 have C:=h.size;have i:gt2<wr.heap.size:=by obtain⟨_,hb⟩:=h.thm.blk;exact zaG hb
 have j:gF2<wr.heap.size:=zaG h.thm.frm;refine⟨h.thm.keep (a.block _ i) (a.block _ j) λg v=>a.block _ (h.thm.lst.lt g v),h.thr,h.far,λk x e=>(a.block k (by omega)).trans (h.keep k x e),h.below.trans (a.mono h.below.size),Ql h.size a.size,(a.block _ (by omega)).trans h.cells,h.max,λr n' e o=>h.sort r n' e (by omega),λr n' e o d m=>?_,h.old,?_⟩
 ·by_cases c:r<q
  ·exact h.done r n' e c d m
  ·obtain rfl:r=q:=by omega
   rw[l]at e;injection e with e;subst e
   obtain⟨z,A⟩:=hb d;have:=m z;omega
 ·rcases h.best with ⟨h1,h2⟩|h1
  ·refine .inl ⟨h1,λr n' e o u=>?_⟩
   by_cases c:r<q
   ·exact h2 r n' e c u
   ·obtain rfl:r=q:=by omega
    rw[l]at e;injection e with e;subst e
    exact y u
  ·exact .inr h1
theorem InRT.push(h:InRT P s pv w t wx G lg found f q wr gt2 gF2 vl2 H lh found1 f1 to1)(hM:MidR P s pv w t wx gt gF vl G lg found f tq){n k:Nat}(u:lg[q]? = some n)(hb:zcF P s.data.toList t n)(T:n≠P.length-1)(S:G n=k+1)
 {B y:World} (o:wr B) {i:Value} {A:Nat->Nat} {l:List Nat} (I:ThM y gt2 pv s gF2 P.length i A l) (v:AddPost P s.data.toList (t+1) (n+1) k H lh A l) (d:Kept B y gt2 gF2 vl2 i):
 InRT P s pv w t wx G lg found f (q+1) y gt2 gF2 i A l found1 f1 to1:=by
 have X:=h.size;have N:w.heap.size+1<wx.heap.size:=zaG hM.cells;obtain⟨U,V,C⟩:=h.far;have J:=o.size;have keep:∀j,j<wx.heap.size->y.heap[j]? = wr.heap[j]? := λj x=>(d.blocks j (by omega) (by omega) (by omega) λe=>by have:=C j e;omega).trans (o.block j (by omega))
 have b:∀m,H m<=k+1:=λm=>by rw[<-S];exact h.sort q n u (Qd _) m
 obtain⟨K,Y,L⟩:=hM.thr.real n (by omega);obtain rfl:K=k:=by omega
 have W:=hM.max n;have a:=v.le b;have Q:=h.below.size;refine⟨I,v.thr h.thr b (L.byte hb),⟨U,V,λg F=>?_⟩,λj x e=>(keep j x).trans (h.keep j x e),?_,by have:=d.below.size;omega,(keep _ N).trans h.cells,λm=>by have:=a m;omega,λr n' e D m=>?_,λr n' e D z O=>?_,h.old,?_⟩
 ·rcases d.own g F with e|e
  ·exact C g e
  ·omega
 ·exact h.below.trans ⟨d.below.os.trans o.os,d.below.tape.trans o.tape,d.below.output.trans o.output,Ql o.size d.below.size,λj x=>keep j (by omega)⟩
 ·have h1:G n<=G n':=by
   obtain⟨c1,c2⟩:=Qy.1 u;obtain⟨c3,c4⟩:=Qy.1 e;have:=List.pairwise_iff_getElem.1 hM.thr.sorted q r c1 c3 (by omega);rw[c2,c4]at this;exact this
  have:=a m;omega
 ·by_cases c:r<q
  ·have h1:=h.done r n' e c z O
   rw[v.keep _ h1.1];exact h1
  ·obtain rfl:r=q:=by omega
   rw[u]at e;injection e with e;subst e
   exact⟨v.at_,by have:=a (n+1);omega⟩
 ·rcases h.best with ⟨h1,h2⟩|h1
  ·refine .inl ⟨h1,λr n' e D E=>?_⟩
   by_cases c:r<q
   ·exact h2 r n' e c E
   ·obtain rfl:r=q:=by omega
    rw[u]at e;injection e with e;subst e
    exact absurd E T
  ·exact .inr h1
end
end
end
attribute [go_sem] results282
theorem zpy{wc:World}{g f d:Nat}{a:Bool}(h:BestB wc g f d a)(k t:Nat)(o:Obj):
 BestB ((((wc.setCell g (jA (k:Int))).setCell ⟨g,1,none⟩ (jA (t:Int))).setCell ⟨g,2,none⟩ (.bool true)).alloc o).drew g k t true/\
 (∀j,j<wc.heap.size->j≠g->((((wc.setCell g (jA (k:Int))).setCell ⟨g,1,none⟩ (jA (t:Int))).setCell ⟨g,2,none⟩ (.bool true)).alloc o).drew.heap[j]? = wc.heap[j]?)/\
 ∀B,B<=g->B<=wc.heap.size->Below B wc ((((wc.setCell g (jA (k:Int))).setCell ⟨g,1,none⟩ (jA (t:Int))).setCell ⟨g,2,none⟩ (.bool true)).alloc o).drew:=by
 have q:=zaG h;have h1:BestB _ g k t true:=h.setAll
 have h2:∀j,j≠g->(((wc.setCell g (jA (k:Int))).setCell ⟨g,1,none⟩ (jA (t:Int))).setCell ⟨g,2,none⟩ (.bool true)).heap[j]? = wc.heap[j]? := λj b=>
  (Qm _ ⟨g,2,none⟩ _ j b).trans ((Qm _ ⟨g,1,none⟩ _ j b).trans (Qm _ ⟨g,0,none⟩ _ j b))
 have m:∀B,B<=g->Below B wc (((wc.setCell g (jA (k:Int))).setCell ⟨g,1,none⟩ (jA (t:Int))).setCell ⟨g,2,none⟩ (.bool true)):=λB e=>(((Qi _ _).setCell (p:=⟨g,0,none⟩) e _).setCell (p:=⟨g,1,none⟩) e _).setCell (p:=⟨g,2,none⟩) e _
 have l:(((wc.setCell g (jA (k:Int))).setCell ⟨g,1,none⟩ (jA (t:Int))).setCell ⟨g,2,none⟩ (.bool true)).heap.size=wc.heap.size:=by simp
 generalize (((wc.setCell g (jA (k:Int))).setCell ⟨g,1,none⟩ (jA (t:Int))).setCell ⟨g,2,none⟩ (.bool true))=W at *;exact⟨(Qs W o g (by omega)).trans h1,λj b c=>(Qs W o j (by omega)).trans (h2 j c),λB i n=>((m B i).alloc (by omega) o).drew⟩
theorem InRT.call{P:List Ins}{s:ByteArray}{e:Value}{w:World}{t:Nat}{wx:World}{E F:Nat}{D:Value}{G:Nat->Nat}{x:List Nat}{found:Bool}{f z:Nat}{wr:World}{q a b:Nat}{d:Value}{H:Nat->Nat}{r:List Nat}{c:Bool}{B u:Nat}
 (h:InRT P s e w t wx G x found f q wr a b d H r c B u) (hM:MidR P s e w t wx E F D G x found f z) (J:OwnP w 0 e P) (v:OkP P) (C:P.length<=400) {n k:Nat} (I:n+1<P.length) (A:k<=8192) {j:World} (i:wr j):
 Calls prog 295 #[.pointer a,jA ((n:Int)+1),jA ((t:Int)+1),jA (k:Int)] j (AddW P s (t+1) (n+1) k H r a b e d j):=by
 have m:a<wr.heap.size:=by obtain⟨_,hb⟩:=h.thm.blk;exact zaG hb
 have o:b<wr.heap.size:=zaG h.thm.frm;have y:=h.prg hM J;have K:=i.size;exact ztI P v C s (t+1) (n+1) k I A H r a b e d j (h.thm.keep (i.block _ m) (i.block _ o) λg l=>i.block _ (h.thm.lst.lt g l)) (y.keep λg l=>i.block g (QE y g l).2) (by omega) (by omega)
mutual
theorem zsT:∀(t:Tree) (a n:Int),n<=80->n<=(chk t a n).1/\(chk t a n).1<=81/\((chk t a n).2=0->(chk t a n).1<=80)
 |.node k s b,a,n,h=>by
  rw[chk]
  by_cases c1:80<n+1
  ·rw[Qj c1];exact⟨by show n<=n+1;omega,by show n+1<=81;omega,λe=>absurd (show (2:Int)=0 from e) (by decide)⟩
  ·rw[Qf c1]
   by_cases c2:20<a
   ·rw[Qj c2];exact⟨by show n<=n+1;omega,by show n+1<=81;omega,λe=>absurd (show (11:Int)=0 from e) (by decide)⟩
   ·rw[Qf c2]
    by_cases c3:badT k s b.length=true
    ·rw[Qj c3];exact⟨by show n<=n+1;omega,by show n+1<=81;omega,λe=>absurd (show (1:Int)=0 from e) (by decide)⟩
    ·rw[Qf c3]
     have:=zo2 b (a+1) (n+1) (by omega);exact⟨by omega,this.2⟩
theorem zo2:∀(b:List Tree) (a n:Int),n<=80->n<=(chkL b a n).1/\(chkL b a n).1<=81/\((chkL b a n).2=0->(chkL b a n).1<=80)
 | [],a,n,h=>by rw[chkL];exact⟨ZB _,by show n<=81;omega,λ_=>h⟩
 |t::b,a,n,h=>by
  rw[chkL];have h1:=zsT t a n h
  by_cases c:(chk t a n).2≠0
  ·rw[Qj c];exact h1
  ·rw[Qf c]
   have h2:=zo2 b a _ (h1.2.2 (ZZ.1 c));exact⟨by omega,h2.2⟩
end
theorem ztD(b:List Tree)(i:Nat)(h:i<b.length)(a n:Int):chkL (b.drop i) a n=if (chk b[i] a n).2≠0 then chk b[i] a n else chkL (b.drop (i+1)) a (chk b[i] a n).1:=by
 rw[Zb h,chkL]
theorem zus(k:Int)(s:Set4)(b:List Tree)(a n:Int):chk (.node k s b) a n=
 if 80<n+1 then (n+1,2)else if 20<a then (n+1,11)else if badT k s b.length=true then (n+1,1)else chkL b (a+1) (n+1):=by rw[chk]
def Cnt(w:World)(g:Nat)(n:Int):Prop:=w.heap[g]? = some (.cells #[jA n] 3 (0,0))
theorem Cnt.cell{w:World}{g:Nat}{n:Int}(h:Cnt w g n):w.cell? g=some (jA n):=Qo w g 0 _ _ (0,0) h
theorem Cnt.free{w:World}{g:Nat}{n:Int}(h:Cnt w g n):w.frozen? ⟨g,0,none⟩=false:=by unfold Cnt at h;simp[World.frozen?, h]
theorem Cnt.lt{w:World}{g:Nat}{n:Int}(h:Cnt w g n):g<w.heap.size:=by
 rcases ZJ g w.heap.size with b|a
 ·exact b
 ·unfold Cnt at h;rw[ZV a]at h;cases h
theorem Cnt.set{w:World}{g:Nat}{n:Int}(h:Cnt w g n)(m:Int):Cnt (w.setCell g (jA m)) g m:=by unfold Cnt at h ⊢;simp[World.setCell,Q5,h]
theorem Cnt.alloc{w:World}{g:Nat}{n:Int}(h:Cnt w g n)(o:Obj):Cnt (w.alloc o) g n:=(Qs w o g h.lt).trans h
theorem Cnt.drewN{w:World}{g:Nat}{n:Int}(h:Cnt w g n)(q:Nat):Cnt (w.drewN q) g n:=h
theorem zeL{a w:World}{row:Option Nat}(h:a.grownBy w row)(o:Obj):a.grownBy (w.alloc o) row:=
 zjm h ((Qi _ _).alloc (Qd _) o)
theorem LT.only{w w':World}{g:Nat}{t:Tree}{cs:List Value}(h:LT w g t cs)(hb:w.grownBy w' (some g))(c:g<w.heap.size):LT w' g t cs:=
 LT.keep (Qd _) (λb o a=>World.cell?_of_block (hb.block b (by omega) (λe=>by injection e with e;omega))) t cs h
theorem LK.only{w w':World}{g:Nat}{a:List Tree}{A:Option Addr}(h:LK w g a A)(hb:w.grownBy w' (some g))(d:g<w.heap.size):LK w' g a A:=
 LK.keep (Qd _) (λb o c=>World.cell?_of_block (hb.block b (by omega) (λe=>by injection e with e;omega))) a A h
def zhy(g:Nat)(r:Int × Int)(w:World)(e:Ending)(w':World):Prop:=e=jC (jA r.2)/\Cnt w' g r.1/\w.grownBy w' (some g)
def zrC(t:Tree):Prop:=∀(cs:List Value) (w:World) (g:Nat) (a n:Int),LT w g t cs->Cnt w g n->0<=n->n<=80->1<=a->a<=21->
 Calls prog 91 #[.agg cs.toArray,jA a,.pointer g] w (zhy g (chk t a n) w)
def zAc(g:Nat)(w c:World)(b:List Tree)(a n:Int)(i:Value)(wr:World):Prop:=
 ∃(k:Nat) (m:Int),k<=b.length/\i=jA k/\0<=m/\m<=80/\Hid (chkL (b.drop k) a m=chkL b a n)/\Cnt wr g m/\c.grownBy wr (some g)/\w.grownBy wr (some g)
theorem zpU(k:Int)(s:Set4)(q:List Tree)(ih:∀i (h:i<q.length),zrC q[i]):zrC (.node k s q):=by
 intro cs w g f n z U h0 h1 d0 d1;rw[LT]at z;obtain⟨A,c,rfl,hs,hk⟩:=z;have IH:=hIx ih;have HR:=hIx (zus k s q f n);have hc:=U.cell;have hd:=U.free;have h6:=U.lt;have x:∀W,_:=λW=>zio s Set4.zero W
 unfold setV Set4.zero at x;dsimp only at x;obtain⟨F,J,I,E⟩:=s;unfold zap;dsimp only at x ⊢;have HC:=hIx U;have h5:n+1<=9223372036854775807:=by omega
 clear ih U
 have L:∀m:Int,Cnt ((w.setCell ⟨g,0,none⟩ (jA m)).alloc (.cells #[jA k,jB F,jB J,jB I,jB E,.slice A q.length c] 98)) g m/\w.grownBy ((w.setCell ⟨g,0,none⟩ (jA m)).alloc (.cells #[jA k,jB F,jB J,jB I,jB E,.slice A q.length c] 98)) (some g):=λm=>
  ⟨(HC.out.set m).alloc _,zeL (zao (World.grownBy.refl _ _) 0 _) _⟩
 have r:=hIx L;clear L
 by_cases c1:80<n+1
 ·have l:=hIx (HR.out.trans (Qj c1))
  clear x
  go_in
  go_wp2;go_ret;exact⟨by rw[l.out];rfl,by rw[l.out];exact r.out _⟩
 ·by_cases c2:20<f
  ·have l:=hIx ((HR.out.trans (Qf c1)).trans (Qj c2))
   clear x
   go_in
   go_wp2;go_ret;exact⟨by rw[l.out];rfl,by rw[l.out];exact r.out _⟩
  ·have N:=hIx ((HR.out.trans (Qf c1)).trans (Qf c2))
   go_in
   go_wp2_with fail;have h3:n+1<=80:=by omega
   have hh:f<=20:=by omega
   clear hc hd h5 c1 c2;cases Y:(zhO k != (q.length:Int))with
   |true=>
    have l:Hid (chk (.node k ⟨F,J,I,E⟩ q) f n=(n+1,1)):=N.out.trans (Qj (by unfold badT;rw[Y];rfl));clear x
    go_quiet ((go_at_call 131;exact Za (zkA _ _)))
    go_wp2;go_ret;have H:=r.out (n+1);exact⟨by rw[l.out];rfl,by rw[l.out];exact⟨H.1.drewN nq,zgf H.2 nq⟩⟩
   |false=>
    cases q2:(k==3)==zxx ⟨F,J,I,E⟩ ⟨0,0,0,0⟩with
    |true=>
     have l:Hid (chk (.node k ⟨F,J,I,E⟩ q) f n=(n+1,1)):=N.out.trans (Qj (by have:((k==3)==decide ((⟨F,J,I,E⟩:Set4)=Set4.zero))=true:=q2;unfold badT;rw[Y,this];rfl))
     go_quiet ((go_at_call 131;exact Za (zkA _ _)))
     go_wp2;go_ret;have H:=r.out (n+1);exact⟨by rw[l.out];rfl,by rw[l.out];exact⟨H.1.drewN nq,zgf H.2 nq⟩⟩
    |false=>
     have l:Hid (chk (.node k ⟨F,J,I,E⟩ q) f n=chkL q (f+1) (n+1)):=N.out.trans (Qf (by have:((k==3)==decide ((⟨F,J,I,E⟩:Set4)=Set4.zero))=false:=q2;unfold badT;rw[Y,this];decide));have T:Hid (zhO k=q.length):=by simpa[Hid]using Y
     go_quiet ((go_at_call 131;exact Za (zkA _ _)))
     go_wp2_with fail
     have ht:q.length<=2:=by
      have:=T.out;have:zhO k<=2:=by unfold zhO;split <;> (try split) <;> (try split) <;> omega
      omega
     have H:=r.out (n+1);have P:∃W:World,W=((w.setCell g (jA (n+1))).alloc (.cells #[jA k,jB F,jB J,jB I,jB E,.slice A q.length c] 98)).drewN nq:=⟨_,rfl⟩
     obtain⟨W,P⟩:=P;have e1:Cnt W g (n+1):=by rw[P];exact H.1.drewN nq
     have e2:w.grownBy W (some g):=by rw[P];exact zgf H.2 nq
     rw[<-P];clear H P x Y q2 r HC
     go_loopw [44] (λi wr=>zAc g w W q (f+1) (n+1) i wr) (λi _=>q.length-(intOf i).toNat)
     case atStart=>exact⟨0,n+1,Qn _,rfl,by omega,h3,rfl,e1,World.grownBy.refl _ _,e2⟩
     case round=>
      obtain⟨j,m,hj,rfl,h8,Z,HM,S,hf,D⟩:=hrel
      by_cases z:j<q.length
      ·have h7:=hk.only D h6
       obtain⟨b,h9,hu,rfl,hm,Q,O⟩:=h7.at j z;have V:=IH.out j z;have y:=hIx (ztD q j z (f+1) m);have t:=zsT q[j] (f+1) m Z;generalize q[j]=v at *;obtain⟨A2,c2,C,ha⟩:=O.parts;have y0:=(C ▸ Q:CellsAt wr b (h9+j*6) (zap v.kind v.set A2 v.kids.length c2)).six;have hq:w.heap.size<=wr.heap.size:=D.size;have hv:b<wr.heap.size:=by omega
       have hn:g<wr.heap.size:=by omega
       have HQ:Hid (∀W,Calls prog 91 #[.agg #[jA v.kind,jB v.set.a,jB v.set.b,jB v.set.c,jB v.set.d,.slice A2 v.kids.length c2],jA (f+1),.pointer g] (wr.alloc W) (zhy g (chk v (f+1) m) (wr.alloc W))):=λW=>
        V _ (wr.alloc W) g (f+1) m ((C ▸ O:LT wr g v (zap v.kind v.set A2 v.kids.length c2)).keep (Qd _) (λbb o hp=>((Qi wr.heap.size wr).alloc (Qd _) W).cell (p:=⟨bb,o,none⟩) (by show bb<wr.heap.size;omega))) (S.alloc W) h8 Z (by omega) (by omega)
       have ho:f+1<=9223372036854775807:=by omega
       clear V O Q C ha;cases hr:chk v (f+1) m with
       |mk rn re=>
        rw[hr]at t HQ y;have u:=y.out;dsimp only at t u;clear y
        by_cases K:re=0
        ·subst K
         rw[Qf (by simp)]at u;have y:=hIx u;have h4:=t.2.2 rfl;have hi:=t.1;clear hr u t;go_wp2_with fail;refine(HQ.out _).mono ?_;rintro e w2 ⟨rfl,B,G⟩;clear y0;go_wp2_with fail
         go_roundw
         case rel=>exact⟨j+1,rn,by omega,by go_num,by omega,h4,y.out.symm.trans HM.out,B,zay (zeL hf _) G,zay (zeL D _) G⟩
         case measure=>simp[intOf] <;> omega
        ·rw[Qj K]at u
         have y:=hIx u;have qe:(re != 0)=true:=Q6.2 K;clear hr K u;go_wp2_with fail;refine(HQ.out _).mono ?_;rintro e w2 ⟨rfl,B,G⟩;clear y0;go_wp2;go_ret;have HF:=l.out.trans (HM.out.symm.trans y.out);exact⟨by rw[HF];rfl,by rw[HF];exact⟨B,zay (zeL D _) G⟩⟩
      ·obtain rfl:j=q.length:=by omega
       have X:Hid (chkL q (f+1) (n+1)=(m,0)):=by
        unfold Hid;rw[<-HM.out,List.drop_length,chkL]
       go_wp2;go_ret;exact⟨by rw[l.out,X.out];rfl,by rw[l.out,X.out];exact⟨S,D⟩⟩
theorem zlw(t:Tree):zrC t:=
 match t with
 |.node k s a=>zpU k s a λi h=>zlw a[i]
termination_by SizeOf.sizeOf t
decreasing_by
 have:=List.sizeOf_lt_of_mem (QC h);simp only[Tree.node.sizeOf_spec];omega
def zbm(t:Tree):Int:=(chk t 1 0).2
theorem zjJ(t:Tree)(cs:List Value)(w:World)(h:LT w w.heap.size t cs):
 Calls prog 63 #[.agg cs.toArray] w λe w'=>e=jC (jA (zbm t))/\w w':=by
 obtain⟨m,c2,rfl,_⟩:=h.parts
 have k:Hid (∀(o:Obj),Calls prog 91 #[.agg #[jA t.kind,jB t.set.a,jB t.set.b,jB t.set.c,jB t.set.d,.slice m t.kids.length c2],jA 1,.pointer (w.heap.size+1:)] ((w.alloc o).alloc (.cells #[jA 0] 3)) (zhy (w.heap.size+1) (chk t 1 0) ((w.alloc o).alloc (.cells #[jA 0] 3)))):=λo=>
  zlw t _ _ (w.heap.size+1) 1 0 (h.keep (Zd _) (λb g l=>(((Qi w.heap.size w).alloc (Qd _) o).alloc (by simp) _).cell (p:=⟨b,g,none⟩) l)) (by have:=Qv (w.alloc o) (.cells #[jA 0] 3);simpa[Cnt]using this) (by decide) (by decide) (by decide) (by decide)
 clear h;unfold zap
 go_in
 go_wp2_with fail;refine(k.out _).mono ?_;rintro e w2 ⟨rfl,_,f⟩;go_wp2;go_ret;have j:∀o g,w ((w.alloc o).alloc g):=λo g=>((Qi _ _).alloc (Qd _) o).alloc (by simp) g
 exact⟨rfl,(j _ _).trans ⟨f.os,f.tape,f.output,f.size,λi n=>f.block i (by simp;omega) (λe=>by injection e with e;omega)⟩⟩
def Two(w:World)(g:Nat)(a b:Value):Prop:=w.heap[g]? = some (.cells #[a,b] 354 (0,0))
theorem zf7:Set4.zero.Wf:=⟨⟨by decide,by decide⟩,⟨by decide,by decide⟩,⟨by decide,by decide⟩,⟨by decide,by decide⟩⟩
mutual
def WfT:Tree->Prop
 |.node _ s a=>s.Wf/\WfL a
def WfL:List Tree->Prop
 | []=>True
 |t::a=>WfT t/\WfL a
end
mutual
theorem LT.wf{w:World}{B:Nat}:∀(t:Tree) (cs:List Value),LT w B t cs->WfT t
 |.node k s a,cs,h=>by
  rw[LT]at h;obtain⟨A,c,_,h2,b⟩:=h;rw[WfT];exact⟨h2,LK.wf a A b⟩
theorem LK.wf{w:World}{B:Nat}:∀(a:List Tree) (A:Option Addr),LK w B a A->WfL a
 | [],_,_=>by rw[WfL];trivial
 |t::a,A,h=>by
  rw[LK]at h;obtain⟨b,d,cs,_,_,_,_,e,c⟩:=h;rw[WfL];exact⟨LT.wf t cs e,LK.wf a _ c⟩
end
theorem zxU{t:Tree}{at_:Nat}{l:List Ins}(h:Code t at_ l):WfT t->∀x∈l,x.set.Wf:=by
 induction h with
 |none S at_|byte S at_=>intro d x c;rw[WfT]at d;rw[QF]at c;subst c;exact d.1
 |begin S at_|finish S at_=>intro d x c;rw[QF]at c;subst c;exact zf7
 |empty=>intro _ x c;simp at c
 |cat S a b at_ e f _ _ h1 h2=>
  intro d x c;rw[WfT,WfL,WfL,WfL]at d
  rcases QY.1 c with h|h
  ·exact h1 d.2.1 x h
  ·exact h2 d.2.2.1 x h
 |alt S a b at_ e f _ _ h1 h2=>
  intro d x c;rw[WfT,WfL,WfL,WfL]at d
  rcases QN.1 c with h|c
  ·subst h;exact zf7
  ·rcases QY.1 c with h|c
   ·exact h1 d.2.1 x h
   ·rcases QN.1 c with h|h
    ·subst h;exact zf7
    ·exact h2 d.2.2.1 x h
 |star S a at_ e _ h1=>
  intro d x c;rw[WfT,WfL,WfL]at d
  rcases QN.1 c with h|c
  ·subst h;exact zf7
  ·rcases QY.1 c with h|c
   ·exact h1 d.2.1 x h
   ·rw[QF]at c
    subst c;exact zf7
theorem zxw{t:Tree}{l:List Ins}(h:Code t 0 l)(b:WfT t):∀n (a:n<(l++[(⟨6,0,0,.zero⟩:Ins)]).length),(l++[(⟨6,0,0,.zero⟩:Ins)])[n].set.Wf:=λn a=>by
 have c:=QC a
 rcases QY.1 c with h1|h1
 ·exact zxU h b _ h1
 ·rw[QF.1 h1];exact zf7
theorem zuc{t:Tree}{l:List Ins}(h:Code t 0 l):∀n (a:n<(l++[(⟨6,0,0,.zero⟩:Ins)]).length),(l++[(⟨6,0,0,.zero⟩:Ins)])[n].kind=6↔n=(l++[(⟨6,0,0,.zero⟩:Ins)]).length-1:=λn a=>by
 have hl:(l++[(⟨6,0,0,.zero⟩:Ins)]).length=l.length+1:=by simp
 rw[hl]at a ⊢
 by_cases c:n<l.length
 ·rw[Zy c]
  have:=zo3 h l[n] (QC c);unfold Tgt at this
  constructor
  ·intro e;omega
  ·intro e;omega
 ·obtain rfl:n=l.length:=by omega
  simp
theorem zrB(P:List Ins)(A:Option Addr)(c:Nat)(s:ByteArray)(w:World)(h:Sl w w.heap.size 7 A P.length (P.flatMap zbh))(a:OkP P)(g:0<P.length)(d:P.length<=400):
 Calls prog 281 #[.slice A P.length c,.string s] w λe w'=>e=jC (jA (if 8192<s.size then 2 else 0))/\w w':=by
 have i:=hIx (zgE P A c w h a g d);clear a h
 by_cases b:8192<s.size
 have f:decide (8192<(s.size:Int))=true:=by simp;omega
 rw[Qj b]
 rotate_left
 have f:decide (8192<(s.size:Int))=false:=by simp;omega
 rw[Qf b]
 all_goals
  go_in
  go_wp2_with fail;refine i.out.mono ?_;rintro e j ⟨rfl,hb⟩;go_wp2;go_ret;exact⟨rfl,hb⟩
theorem OwnP.sl{w:World}{b g n c:Nat}{l:List Ins}(h:OwnP w b (.slice g n c) l):Sl w w.heap.size 7 (some ⟨g,0,none⟩) l.length (l.flatMap zbh):=by
 obtain⟨A,f,e,d⟩:=h.form;injection e with a _ _
 rw[a];exact d
attribute [go_sem] results282
def zi4(P:List Ins)(s:jE)(n:Nat):Prop:=∃i j,j<n+1/\R P s i (P.length-1) j
def zzu(P:List Ins)(s:ByteArray)(h:Value)(w:World)(t:Nat)(wx:World)(G:Nat->Nat)(e:List Nat)(f a c:Nat)(j:Value)(g:World):Prop:=
 ∃q d H k i b,j=jA ((q:Nat):Int)/\q<=e.length/\InRT P s h w t wx G e false f q g a c d H k false i b
def zx8(P:List Ins)(s:ByteArray)(i:Value)(w:World)(b c:Value)(wr:World):Prop:=
 ∃t a d e F h f g,c=jA ((t:Nat):Int)/\t<=s.size+1/\b=.pointer (some ⟨a,0,none⟩)/\RunR P s i w t wr a d e F h false f g
def zod(P:List Ins)(s:ByteArray)(w:World)(e:Ending)(w':World):Prop:=
 ∃found f a,e=jC (.agg #[jA ((f:Nat):Int),jA ((a:Nat):Int),.bool found])/\(found=true↔zi4 P s.data.toList s.size)/\w w'
theorem zuT(P:List Ins)(h9:OkP P)(hF:∀n (h:n<P.length),P[n].kind=6↔n=P.length-1)(D:∀n (h:n<P.length),P[n].set.Wf)(h0:0<P.length)(h4:P.length<=400)(s:ByteArray)(hs:s.size<=8192)(pv:Value)(w:World)(hP:OwnP w 0 pv P):
 Calls prog 282 #[pv,.string s,.bool true] w (zod P s w):=by
 obtain⟨gp,cp,rfl,gB⟩:=OwnP.head hP h0;have hL:=hIx h9;have ga:=hIx hF;have gk:=hIx D;clear hF D
 go_in
 go_wp2_with (at_make;refine zfM rfl _ _ rfl P.length (w.heap.size+1+1) (by simp) rfl rfl (by omega) ?_;intro w1 gm hp gs)
 go_loopw [8,9] (λvn vt wr=>zx8 P s (.slice gp P.length cp) w vn vt wr) (λ_ vt _=>s.size+1-(intOf vt).toNat)
 case atStart=>
  have hz:w.heap.size+1+1<w1.heap.size:=gs;have hk:∀j,j<w.heap.size+1+1->∀o,(w1.alloc o).heap[j]? = w1.heap[j]? := λj hj o=>Qs _ _ _ (by omega)
  have hB:w w1:=(WaL.alloc (by simp) _).trans (hp.mono (by simp;omega));refine⟨0,w1.heap.size,w.heap.size+1+1,jD 0 0,λ_=>0,[],0,0,rfl,Qn _,rfl,⟨ThM.fresh ⟨P.length,Qv _ _⟩ (gm.keep (Qs _ _ _ hz)),Thr.zero 0,λ_ k _ h=>absurd h (by omega),λ_=>Qd _,zrG _,?_,?_,?_,⟨by omega,by omega,λg hg=>by cases hg⟩,hB.alloc hB.size _⟩⟩
  ·refine(hk _ (by omega) _).trans ((hp.block _ (by simp)).trans ?_)
   have:=Qv (w.alloc (.cells #[jA 0,jA 0,.bool false] 356)) (.cells #[jA 0,jA 0,.bool false] 356)
   simpa using this
  ·refine(hk _ (by omega) _).trans ((hp.block _ (by simp;omega)).trans ((Qs _ _ _ (by simp)).trans (Qv _ _)))
  ·exact hP.keep λg hg=>((hk g (by have:=(QE hP g hg).2;omega) _).trans (hB.block g (QE hP g hg).2))
 case round=>
  obtain⟨t,gt,gF,vl,F,ls,f,tu,rfl,ht,rfl,Q⟩:=hrel;have x0:=Q.cells.three;have u0:=Q.res.three
  by_cases gc:t<=s.size
  ·have d1:decide ((t:Int)<=(s.size:Int))=true:=by simp;omega
   have g2:=Q.below.size;obtain⟨l1,l2,l3⟩:=Q.low;have A:gt<wr.heap.size:=by obtain⟨_,hb⟩:=Q.thm.blk;exact zaG hb
   have h7:gF<wr.heap.size:=zaG Q.thm.frm;have HR:=hIx Q;have HA:=hIx (ztI P h9 h4 s t 0 t h0 (by omega) F ls gt gF _ vl wr Q.thm Q.prg h7 A);clear Q
   go_upto_if 30 with fail
   go_cut [8,9]from 22 to 106 (λs8 s9 wx=>s8=.pointer gt/\s9=jA ((t:Nat):Int)/\∃hG G J,MidR P s (.slice gp P.length cp) w t wx gt gF hG G J false f tu)
   case first=>
    go_wp2_with fail;refine HA.out.mono ?_;rintro e w2 ⟨G,J,r,rfl,g1,g7,gv,gu⟩;have d:=HR.out.added g1 g7 gv gu;go_wp2;go_meet;exact⟨rfl,rfl,_,_,_,d⟩
   case rest=>
    obtain⟨rfl,rfl,hG,G,J,hM⟩:=hcut;obtain⟨wx,rfl⟩:∃wx:World,wx=wc:=⟨_,rfl⟩
    clear x0 u0 HR HA g2 l1 l2 l3 A h7;obtain⟨A1,cl,gr⟩:=hM.thm.lst.form;subst gr;have A:gt<wx.heap.size:=by obtain⟨_,hb⟩:=hM.thm.blk;exact zaG hb
    have hQ:=hM.thm.blk;have d:=hIx hM;clear hM;go_wp2_with (at_make;refine zfM rfl _ _ rfl P.length wx.heap.size rfl rfl rfl (by omega) ?_;intro w5 hu N ge;have ⟨p0,p1,⟨_,p2⟩,p3,p4⟩:=(hQ.keep (N.block gt A)).cells;have gz:gt<w5.heap.size:=Qw A N.size)
    go_loopw [47] (λvq wq=>zzu P s (.slice gp P.length cp) w t wx G J f w5.heap.size wx.heap.size vq wq) (λvq _=>J.length-(intOf vq).toNat)
    case atStart=>
     have gn:ThM (w5.alloc (.cells #[.slice gp P.length cp,.string s,.slice (some ⟨wx.heap.size,0,none⟩) P.length P.length,jD 0 0] 370)) w5.heap.size (.slice gp P.length cp) s wx.heap.size P.length (jD 0 0) (λ_=>0) []:=
      ThM.fresh ⟨P.length,Qv _ _⟩ (hu.keep (Qs _ _ _ ge))
     exact⟨0,_,_,_,_,_,rfl,Qn _,d.out.start gn (N.alloc N.size _) N.size (Qd _)⟩
    case round=>
     obtain⟨q,r,H,Z,m,u,rfl,hq,hI⟩:=hrel;have K:=hIx hI;have l:=hI.now d.out;obtain⟨m0,m1,⟨_,m2⟩,m3,m4⟩:=l.blk.cells;clear p0 p1 p2 p3 p4
     by_cases hf:q<J.length
     ·have d2:decide ((q:Int)<(J.length:Int))=true:=by simp;omega
      obtain⟨gl,gC,e,gA⟩:=l.lst.head (by omega);injection e with e1 _ e2
      subst e1;subst e2
      have hd:=l.lst.cell q hf;have X:Hid (J[q]? = some J[q]):=hIx (Qe hf);have U:G J[q]≠0:=(d.out.thr.mem _).1 (QC hf);generalize J[q]=n at hd X U;obtain⟨k,hk,hy⟩:=d.out.thr.real n U;have hC:=hIx hy;have S:n<P.length:=d.out.thr.lt h9 h0 U;have hV:=d.out.max n;have ho:=(l.frm.cell n S).1;rw[hk]at ho;have HK:=hIx hk;have B:=K.out.prg d.out hP;have hx:=hL.out n S;have v:Hid (P[n]? = some P[n]):=hIx (Qe S);have ⟨z0,z1,z2,z3,z4,z5,z6⟩:Ins7 wr gp (n*7) P[n]:=⟨(B.spot n S 0 (by decide)).1,(B.spot n S 1 (by decide)).1,(B.spot n S 2 (by decide)).1,(B.spot n S 3 (by decide)).1,(B.spot n S 4 (by decide)).1,(B.spot n S 5 (by decide)).1,(B.spot n S 6 (by decide)).1⟩
      have z:=ga.out n S;have D:=gk.out n S;generalize P[n]=x at hx v z0 z1 z2 z3 z4 z5 z6 z D;obtain⟨kd,xa,xb,⟨sa,sb,sc,V⟩⟩:=x;dsimp only at hx z D z0 z1 z2 z3 z4 z5 z6;have HX:=hIx hx;have gg:=hIx z;clear hx z;have gD:w.heap.size+1<wr.heap.size:=zaG hI.cells;have x0:=hI.cells.three;have i6:wrap64 (k:Int)=(k:Int):=IntWalk.wrap64_in _ (by omega);have i7:IntKind.i64.wrap ((q:Int)+1)=(q:Int)+1:=Qz _ (by have:=d.out.thm.len;omega);have j4:(n:Int)<(P.length:Int):=by omega
      have hU:k<=8192:=Ql (Nat.le_of_succ_le_succ (Ql (Nat.le_of_eq hk.symm) hV)) (Ql gc hs)
      have Y:Hid (∀w4,n+1<P.length->wr w4->Calls prog 295 #[.pointer (some ⟨w5.heap.size,0,none⟩),jA ((n:Int)+1),jA ((t:Int)+1),jA (k:Int)] w4 (AddW P s (t+1) (n+1) k H Z w5.heap.size wx.heap.size (.slice gp P.length cp) r w4)):=
       λw4 h1 h2=>hI.call d.out hP hL.out h4 h1 hU h2
      clear l hI B U hy hk hU
      ·have I:false=true->k<=m:=λe=>by cases e
       have HC:=hIx I;go_upto_region 13 with fail
       go_cut [12,13,47,67]from 47 to 105 (λgj gi gh gq wx=>gj=jA (n:Int)/\gi=jA (k:Int)/\gh=jA (q:Int)/\gq=.bool false/\wx=wr)
       case first=>
        go_wp2;go_meet;exact⟨rfl,rfl,rfl,rfl,rfl⟩
       case rest=>
        obtain⟨rfl,rfl,rfl,rfl,rfl⟩:=hcut;clear I;have z:=gg.out
        rcases HX.out with ⟨rfl,_⟩|⟨rfl,_⟩|⟨rfl|rfl|rfl,hi⟩|rfl
        ·have a:n=P.length-1->false=true/\m+1<G n:=λe=>absurd (z.2 e) (by decide)
         have b:zcF P s.data.toList t n->false=true/\m+1<G n:=λhb=>by
          obtain⟨y,_,h1,h2,_⟩:=hb;rw[v.out]at h1;injection h1 with h1;subst h1
          dsimp only at h2;omega
         have L:=hIx a;have HB:=hIx b;clear a b z;go_wp2_with fail
         go_region
         go_wp2;exact⟨⟨q+1,r,H,Z,m,u,rfl,by omega,K.out.pass (zaG d.out.cells) X.out WaL.drew HB.out L.out⟩,by dsimp only[intOf];omega⟩
        ·have a:n=P.length-1->false=true/\m+1<G n:=λe=>absurd (z.2 e) (by decide)
         have b:zcF P s.data.toList t n->false=true/\m+1<G n:=λhb=>by
          obtain⟨y,_,h1,h2,_⟩:=hb;rw[v.out]at h1;injection h1 with h1;subst h1
          dsimp only at h2;omega
         have L:=hIx a;have HB:=hIx b;clear a b z;go_wp2_with fail
         go_region
         go_wp2;exact⟨⟨q+1,r,H,Z,m,u,rfl,by omega,K.out.pass (zaG d.out.cells) X.out WaL.drew HB.out L.out⟩,by dsimp only[intOf];omega⟩
        ·have a:n≠P.length-1:=λe=>absurd (z.2 e) (by decide)
         have L:=hIx a;clear a z
         by_cases hO:t<s.size
         ·have i9:(t:Int)<(s.size:Int):=by omega
          obtain⟨c,hv⟩:∃c,s[t]=c:=⟨_,rfl⟩
          have hw:Hid (s.data.toList[t]? = some c):=by
           unfold Hid;rw[<-hv,Qe (by simpa using hO)]
           rfl
          have hZ:=HK.out;have E:=λx W=>zrz ⟨sa,sb,sc,V⟩ x W D
          unfold setV at E;dsimp only at E;have h6:=hIx E;have g8:=hIx hi;clear hi;clear E hZ;go_wp2_with fail;have T:=Qv wc (.cells #[jA 1,jA xa,jA xb,jB sa,jB sb,jB sc,jB V] 136);have hX:wc (wc.alloc (.cells #[jA 1,jA xa,jA xb,jB sa,jB sb,jB sc,jB V] 136)):=WaL;generalize wc.alloc (.cells #[jA 1,jA xa,jA xb,jB sa,jB sb,jB sc,jB V] 136)=W at *;have g0:=Qo _ wc.heap.size 0 _ _ _ T;have g3:=Qo _ wc.heap.size 3 _ _ _ T;have g4:=Qo _ wc.heap.size 4 _ _ _ T;have g5:=Qo _ wc.heap.size 5 _ _ _ T;have g6:=Qo _ wc.heap.size 6 _ _ _ T;simp only[Z1,Z5,XB]at g0 g3 g4 g5 g6;have O:=hIx hX;clear T hX
          go_region_held3 (λw'=>w'.cell? wc.heap.size=some (jA 1)/\w'.cell? ⟨wc.heap.size,3,none⟩=some (jB sa)/\w'.cell? ⟨wc.heap.size,4,none⟩=some (jB sb)/\w'.cell? ⟨wc.heap.size,5,none⟩=some (jB sc)/\w'.cell? ⟨wc.heap.size,6,none⟩=some (jB V))
           (first|go_keep|(refine⟨zaa C ?_,zaa C ?_,zaa C ?_,zaa C ?_,zaa C ?_⟩ <;> assumption))
           (first|(go_at_call 273;refine(h6.out _ _).mono ?_;rintro e w8 ⟨rfl,C⟩))
          have hH:W w8:=undrew C;have hc:Hid (wc w8):=O.out.trans (hH.mono O.out.size);clear C hH g0 g3 g4 g5 g6 O;cases hh:hasB ⟨sa,sb,sc,V⟩ c with
          |false=>
           have he:Hid (zcF P s.data.toList t n->false=true/\m+1<G n):=λhb=>by
            obtain⟨y,c',h1,h2,h3,h5⟩:=hb;rw[v.out]at h1;injection h1 with h1;subst h1
            rw[hw.out]at h3;injection h3 with h3;subst h3
            rw[hh]at h5;cases h5
           clear hh;go_wp2;exact⟨⟨q+1,r,H,Z,m,u,rfl,by omega,K.out.pass (zaG d.out.cells) X.out hc.out he.out (λe=>absurd e L.out)⟩,by dsimp only[intOf];omega⟩
          |true=>
           have hY:Hid (zcF P s.data.toList t n):=⟨_,c,v.out,rfl,hw.out,hh⟩
           clear hh m0 m1 m2 m3 m4 hd ho z0 z1 z2 z3 z4 z5 z6 x0 hv i9 hQ hu N i6 D h6;go_wp2_with fail;refine(Y.out _ (g8.out) hc.out).mono ?_;rintro e w9 ⟨H',gy,gx,rfl,hT,hA,_,hK⟩;have ha:=hIx (K.out.push d.out X.out hY.out L.out HK.out hc.out hT hA hK);clear hT hA hK Y;go_wp2;exact⟨⟨q+1,gx,H',gy,m,u,rfl,by omega,ha.out⟩,by dsimp only[intOf];omega⟩
         ·have he:Hid (zcF P s.data.toList t n->false=true/\m+1<G n):=λhb=>by
           obtain⟨y,_,h1,h2,h3,_⟩:=hb;exact absurd h3 (by rw[List.getElem?_eq_none (by simpa using hO)];intro e;cases e)
          have i9:decide ((t:Int)<(s.size:Int))=false:=by simp;omega
          go_wp2_with fail
          go_region
          go_wp2;exact⟨⟨q+1,r,H,Z,m,u,rfl,by omega,K.out.pass (zaG d.out.cells) X.out WaL.drew he.out (λe=>absurd e L.out)⟩,by dsimp only[intOf];omega⟩
        ·have a:n=P.length-1->false=true/\m+1<G n:=λe=>absurd (z.2 e) (by decide)
         have b:zcF P s.data.toList t n->false=true/\m+1<G n:=λhb=>by
          obtain⟨y,_,h1,h2,_⟩:=hb;rw[v.out]at h1;injection h1 with h1;subst h1
          dsimp only at h2;omega
         have L:=hIx a;have HB:=hIx b;clear a b z;go_wp2_with fail
         go_region
         go_wp2;exact⟨⟨q+1,r,H,Z,m,u,rfl,by omega,K.out.pass (zaG d.out.cells) X.out WaL.drew HB.out L.out⟩,by dsimp only[intOf];omega⟩
        ·have a:n=P.length-1->false=true/\m+1<G n:=λe=>absurd (z.2 e) (by decide)
         have b:zcF P s.data.toList t n->false=true/\m+1<G n:=λhb=>by
          obtain⟨y,_,h1,h2,_⟩:=hb;rw[v.out]at h1;injection h1 with h1;subst h1
          dsimp only at h2;omega
         have L:=hIx a;have HB:=hIx b;clear a b z;go_wp2_with fail
         go_region
         go_wp2;exact⟨⟨q+1,r,H,Z,m,u,rfl,by omega,K.out.pass (zaG d.out.cells) X.out WaL.drew HB.out L.out⟩,by dsimp only[intOf];omega⟩
        ·have hr:n=P.length-1:=z.1 rfl
         have L:=hIx hr
         have b:¬zcF P s.data.toList t n:=λhb=>by
          obtain⟨y,_,h1,h2,_⟩:=hb;rw[v.out]at h1;injection h1 with h1;subst h1
          dsimp only at h2;omega
         have HB:=hIx b;clear b z hr;have gw:=hC;have hN:Hid (BestB wc (w.heap.size+1) m u false):=K.out.cells;have hJ:Hid (BestB wc w.heap.size 0 0 false):=(K.out.keep _ (by have:=zaG d.out.cells;omega) (by omega)).trans d.out.res;have O:=hIx K.out.below;go_upto_region 18 with fail
         have HT:=zpy hN.out k t (.cells #[jA 6,jA xa,jA xb,jB sa,jB sb,jB sc,jB V] 136);obtain⟨W,h8⟩:∃W:World,(((wc.setCell (w.heap.size+1:) (jA (k:Int))).setCell ⟨w.heap.size+1,1,none⟩ (jA (t:Int))).setCell ⟨w.heap.size+1,2,none⟩ (.bool true)).alloc (.cells #[jA 6,jA xa,jA xb,jB sa,jB sb,jB sc,jB V] 136)=W:=⟨_,rfl⟩
         rw[h8]at HT ⊢;have gd:BestB W (w.heap.size+1) k t true:=HT.1;have hD:BestB W w.heap.size 0 0 false:=(HT.2.1 _ (by omega) (by omega)).trans hJ.out
         have g9:w W:=by
          rw[<-h8];exact(((O.out.setCell (p:=⟨w.heap.size+1,0,none⟩) (Zd _) _).setCell (p:=⟨w.heap.size+1,1,none⟩) (Zd _) _).setCell (p:=⟨w.heap.size+1,2,none⟩) (Zd _) _).alloc (by simp;omega) _
         have hS:Hid (zi4 P s.data.toList s.size):=⟨k,t,by omega,L.out ▸ gw.out⟩
         clear HT h8 m0 m1 m2 m3 m4 hd ho z0 z1 z2 z3 z4 z5 z6 x0 hN hJ O;have x0:=gd.three;have z0:=hD.three;go_wp2_with fail;have T:=((g9.setCell (p:=⟨w.heap.size,0,none⟩) (Qd _) (jA (k:Int))).setCell (p:=⟨w.heap.size,1,none⟩) (Qd _) (jA (t:Int))).setCell (p:=⟨w.heap.size,2,none⟩) (Qd _) (.bool true);have hE:BestB _ w.heap.size k t true:=hD.setAll;generalize (((W.setCell w.heap.size (jA (k:Int))).setCell ⟨w.heap.size,1,none⟩ (jA (t:Int))).setCell ⟨w.heap.size,2,none⟩ (.bool true))=WF at *;obtain⟨⟨z0,z1,z2⟩,_⟩:=hE.three;exact zad ⟨true,k,t,rfl,⟨λ_=>hS.out,λ_=>rfl⟩,T⟩
     ·have d2:decide ((q:Int)<(J.length:Int))=false:=by simp;omega
      obtain rfl:q=J.length:=by omega
      have hz:IntKind.i64.wrap ((t:Int)+1)=(t:Int)+1:=Qz _ (by omega);have gf:=K.out.stop d.out hP;clear l hI K d;go_wp2;exact⟨⟨t+1,w5.heap.size,wx.heap.size,r,H,Z,m,u,rfl,by omega,rfl,gf⟩,by dsimp only[intOf];omega⟩
  ·obtain rfl:t=s.size+1:=by omega
   have d1:decide (((s.size+1:Nat):Int)<=(s.size:Int))=false:=by simp;omega
   go_wp2_with fail;have T:=((Q.below.setCell (p:=⟨w.heap.size,0,none⟩) (Qd _) (jA (f:Int))).setCell (p:=⟨w.heap.size,1,none⟩) (Qd _) (jA (tu:Int))).setCell (p:=⟨w.heap.size,2,none⟩) (Qd _) (.bool false);have hE:BestB _ w.heap.size f tu false:=Q.res.setAll;generalize (((wr.setCell w.heap.size (jA (f:Int))).setCell ⟨w.heap.size,1,none⟩ (jA (tu:Int))).setCell ⟨w.heap.size,2,none⟩ (.bool false))=WF at *;obtain⟨⟨z0,z1,z2⟩,_⟩:=hE.three;exact zad ⟨false,f,tu,rfl,⟨λe=>(by cases e),λ⟨i,j,h1,h2⟩=>absurd h2 ((Q.best.2 rfl).1 i j h1)⟩,T⟩
attribute [go_sem] results130 results89 results128 results214
structure RS where
 pos:Nat
 op:Nat
 e:Int
def RdAt(g:Nat)(s:ByteArray)(r:RS)(w:World):Prop:=w.heap[g]? = some (.cells #[.string s,jA r.pos,jA r.op,jA r.e] 130 (0,0))
theorem RdAt.cells{g:Nat}{s:ByteArray}{r:RS}{w:World}(h:RdAt g s r w):w.cell? g=some (.string s)/\w.cell? ⟨g,1,none⟩=some (jA r.pos)/\w.cell? ⟨g,2,none⟩=some (jA r.op)/\w.cell? ⟨g,3,none⟩=some (jA r.e):=
 ⟨Qo w g 0 _ _ _ h,Qo w g 1 _ _ _ h,Qo w g 2 _ _ _ h,Qo w g 3 _ _ _ h⟩
theorem RdAt.free{g:Nat}{s:ByteArray}{r:RS}{w:World}(h:RdAt g s r w)(j:Nat):w.frozen? ⟨g,j,none⟩=false:=by
 unfold RdAt at h;simp[World.frozen?, h]
theorem RdAt.lt{g:Nat}{s:ByteArray}{r:RS}{w:World}(h:RdAt g s r w):g<w.heap.size:=by
 rcases ZJ g w.heap.size with a|a
 ·exact a
 ·unfold RdAt at h;simp[ZV a]at h
theorem RdAt.drew{g:Nat}{s:ByteArray}{r:RS}{w:World}(h:RdAt g s r w)(n:Nat):RdAt g s r (w.drewN n):=h
theorem RdAt.below{g:Nat}{s:ByteArray}{r:RS}{w w':World}(h:RdAt g s r w)(hb:w w'):RdAt g s r w':=(hb.block g h.lt).trans h
theorem RdAt.setPos{g:Nat}{s:ByteArray}{r:RS}{w:World}(h:RdAt g s r w)(n:Nat):RdAt g s {r with pos:=n} (w.setCell ⟨g,1,none⟩ (jA n)):=by
 unfold RdAt at h ⊢;simp only[World.setCell,Q5,h]
 rfl
theorem RdAt.setE{g:Nat}{s:ByteArray}{r:RS}{w:World}(h:RdAt g s r w)(n:Int):RdAt g s {r with e:=n} (w.setCell ⟨g,3,none⟩ (jA n)):=by
 unfold RdAt at h ⊢;simp only[World.setCell,Q5,h]
 rfl
theorem RdAt.setOp{g:Nat}{s:ByteArray}{r:RS}{w:World}(h:RdAt g s r w)(n:Nat):RdAt g s {r with op:=n} (w.setCell ⟨g,2,none⟩ (jA n)):=by
 unfold RdAt at h ⊢;simp only[World.setCell,Q5,h]
 rfl
def RdEnd(g:Nat)(s:ByteArray)(r:RS)(w w':World):Prop:=RdAt g s r w'/\w.grownBy w' (some g)
theorem RdEnd.drew{g:Nat}{s:ByteArray}{r:RS}{w:World}(h:RdAt g s r w)(n:Nat):RdEnd g s r w (w.drewN n):=⟨h,rfl,rfl,rfl,Qd _,λ_ _ _=>rfl⟩
theorem zaZ(w:World)(row:Option Nat):w.grownBy w row:=⟨rfl,rfl,rfl,Qd _,λ_ _ _=>rfl⟩
def zaf(s:jE)(r:RS):Int:=if r.e=0 then (match s[r.pos]? with|some b=>(b.toNat:Int)|none=>-1)else -1
def zaF(r:RS)(e:Int):RS:=if r.e=0 then {r with e:=e}else r
def zaR(s:jE)(r:RS)(b:Int):Bool × RS:=if zaf s r=b then (true,{r with pos:=r.pos+1})else (false,r)
def zgq(s:jE)(r:RS):Bool:=decide (zaf s r<0)||(decide (zaf s r=124)||decide (zaf s r=41))
theorem zf5(g:Nat)(s:ByteArray)(r:RS)(w:World)(h:RdAt g s r w)(t:r.pos<=s.size):
 Calls prog 130 #[.pointer g] w λe w'=>e=jC (jA (zaf s.data.toList r))/\∃n,w'=w.drewN n:=by
 have c0:=h.cells;have H:=hIx h
 by_cases c:r.e=0
 ·have m:(r.e != 0)=false:=by rw[c];rfl
  rcases ZJ r.pos s.size with i|l
  ·have k:((r.pos:Int)==(s.size:Int))=false:=by rw[Qc];omega
   have f:Hid (zaf s.data.toList r=(s[r.pos].toNat:Int)):=by
    unfold Hid zaf;rw[Qj c,Xt s r.pos i]
   clear h c
   go_in
   go_wp2_with fail
   go_quiet (fail)
   obtain⟨b,a⟩:∃b,w.drewN nq=b:=⟨_,rfl⟩
   have d:Hid (RdAt g s r b/\∃n,b=w.drewN n):=by rw[<-a];exact⟨H.out.drew nq,nq,rfl⟩
   rw[a];have c0:=d.out.1.cells;clear a;go_wp2_with fail
   go_quiet (fail)
   go_wp2;exact QD (v:=jA (s[r.pos].toNat:Int)) (by simp[results,results130,go_sem];exact IntWalk.wrap64_in (s[r.pos].toNat:Int) (by have:=s[r.pos].toNat_lt;omega)) rfl ⟨by rw[f.out],by obtain⟨n,q⟩:=d.out.2;exact⟨n+nq,by rw[q,World.drewN_drewN]⟩⟩
  ·obtain j:r.pos=s.size:=by omega
   have k:((r.pos:Int)==(s.size:Int))=true:=by rw[Zn];omega
   have f:Hid (zaf s.data.toList r=-1):=by
    unfold Hid zaf;rw[Qj c,List.getElem?_eq_none (by simp;omega)]
   clear h c j
   go_in
   go_wp2_with fail
   go_quiet (fail)
   obtain⟨b,a⟩:∃b,w.drewN nq=b:=⟨_,rfl⟩
   have d:Hid (RdAt g s r b/\∃n,b=w.drewN n):=by rw[<-a];exact⟨H.out.drew nq,nq,rfl⟩
   rw[a];have c0:=d.out.1.cells;clear a;go_wp2;exact zad ⟨by rw[f.out],d.out.2⟩
 ·have m:(r.e != 0)=true:=Q6.2 c
  have f:Hid (zaf s.data.toList r=-1):=by
   unfold Hid zaf;rw[Qf c]
  clear h c
  go_in
  by_cases o:r.pos=s.size
  have k:((r.pos:Int)==(s.size:Int))=true:=by rw[Zn];omega
  rotate_left
  have k:((r.pos:Int)==(s.size:Int))=false:=by rw[Qc];omega
  all_goals
   clear o;go_wp2_with fail
   go_quiet (fail)
   obtain⟨b,a⟩:∃b,w.drewN nq=b:=⟨_,rfl⟩
   have d:Hid (RdAt g s r b/\∃n,b=w.drewN n):=by rw[<-a];exact⟨H.out.drew nq,nq,rfl⟩
   rw[a];have c0:=d.out.1.cells;clear a;go_wp2;exact zad ⟨by rw[f.out],d.out.2⟩
theorem zeI(g:Nat)(s:ByteArray)(r:RS)(w:World)(h:RdAt g s r w)(a:r.pos<=s.size):
 Calls prog 130 #[.pointer g] w λe w'=>e=jC (jA (zaf s.data.toList r))/\RdEnd g s r w w':=
 (zf5 g s r w h a).mono λe w' ⟨h1,n,h2⟩=>⟨h1,by rw[h2];exact RdEnd.drew h n⟩
theorem zda(g:Nat)(s:ByteArray)(r:RS)(x:Int)(w:World)(h:RdAt g s r w):
 Calls prog 62 #[.pointer g,jA x] w λe w'=>e=jC (.tuple #[])/\RdEnd g s (zaF r x) w w':=by
 have c0:=h.cells;have d:=h.free 3
 by_cases a:r.e=0
 have c:(r.e==0)=true:=by rw[a];rfl
 have b:Hid (RdEnd g s (zaF r x) w (w.setCell ⟨g,3,none⟩ (jA x))):=by unfold Hid zaF;rw[Qj a];exact⟨h.setE x,zao (zaZ w _) 3 _⟩
 rotate_left
 have c:(r.e==0)=false:=Qc.2 a;have b:Hid (RdEnd g s (zaF r x) w w):=by unfold Hid zaF;rw[Qf a];exact⟨h,zaZ w _⟩
 all_goals
  clear h a
  go_in
  go_wp2;exact bodyPost_end (v:=.tuple #[]) (by simp[results,results62,go_sem]) rfl ⟨rfl,b.out⟩
theorem RdEnd.trans{g:Nat}{s:ByteArray}{b:RS}{w a w2:World}(h:w.grownBy a (some g))(k:RdEnd g s b a w2):RdEnd g s b w w2:=⟨k.1,zay h k.2⟩
theorem zaU{s:jE}{r:RS}{b:Int}(h:zaf s r=b)(hb:0<=b):r.pos<s.length/\r.e=0:=by
 unfold zaf at h
 split at h
 ·rename_i c
  cases a:s[r.pos]? with
  |none=>rw[a]at h;dsimp only at h;omega
  |some y=>exact⟨(Qy.1 a).1,c⟩
 ·omega
theorem zdR(g:Nat)(s:ByteArray)(r:RS)(b:Int)(w:World)(h:RdAt g s r w)(k:r.pos<=s.size)(n:s.size<=4096):
 Calls prog 89 #[.pointer g,jA b] w λe w'=>e=jC (.bool (zaR s.data.toList r b).1)/\RdEnd g s (zaR s.data.toList r b).2 w w':=by
 have c:=hIx (zeI g s r w h k);clear h
 by_cases hb:zaf s.data.toList r=b
 ·have j:(zaf s.data.toList r != b)=false:=by rw[hb];simp
  have m:IntKind.i64.wrap ((r.pos:Int)+1)=((r.pos+1:Nat):Int):=Qz _ (by omega);have a:Hid (zaR s.data.toList r b=(true,{r with pos:=r.pos+1})):=by unfold Hid zaR;rw[Qj hb]
  go_in
  go_wp2_with (go_at_call 130;apply Hid.out);refine WhM c ?_;rintro e f ⟨rfl,h1,i⟩;have c0:=h1.cells;have l:=h1.free 1;have d:Hid (RdEnd g s {r with pos:=r.pos+1} w (f.setCell ⟨g,1,none⟩ (jA ((r.pos+1:Nat):Int)))):=⟨h1.setPos _,zao i 1 _⟩
  clear hb h1 i c;go_wp2;exact zad ⟨by rw[a.out],by rw[a.out];exact d.out⟩
 ·have j:(zaf s.data.toList r != b)=true:=Q6.2 hb
  have a:Hid (zaR s.data.toList r b=(false,r)):=by unfold Hid zaR;rw[Qf hb]
  clear hb
  go_in
  go_wp2_with (go_at_call 130;apply Hid.out);refine WhM c ?_;rintro e f ⟨rfl,h1⟩;have d:=hIx h1;clear h1 c;go_wp2;exact zad ⟨by rw[a.out],by rw[a.out];exact d.out⟩
theorem zmR(g:Nat)(s:ByteArray)(r:RS)(w:World)(h:RdAt g s r w)(k:r.pos<=s.size):
 Calls prog 128 #[.pointer g] w λe w'=>e=jC (.bool (zgq s.data.toList r))/\RdEnd g s r w w':=by
 have i:=hIx (zeI g s r w h k);have a:Hid (zgq s.data.toList r=(decide (zaf s.data.toList r<0)||(decide (zaf s.data.toList r=124)||decide (zaf s.data.toList r=41)))):=rfl;generalize zgq s.data.toList r=R at *;generalize zaf s.data.toList r=N at *;clear h
 go_in
 go_wp2_with (go_at_call 130;apply Hid.out);refine WhM i ?_;rintro e l ⟨rfl,h1⟩;have f:=hIx h1;clear h1 i
 by_cases c:N<0
 ·have d:decide (N<0)=true:=Qx c
  rw[d,Bool.true_or]at a;clear c;go_wp2;exact zad ⟨by rw[a.out],f.out⟩
 ·have d:decide (N<0)=false:=Qt c
  rw[d,Bool.false_or]at a;clear c
  by_cases b:N=124
  ·have j:(N==124)=true:=by rw[b];rfl
   rw[Qx b,Bool.true_or]at a;clear b;go_wp2;exact zad ⟨by rw[a.out],f.out⟩
  ·have j:(N==124)=false:=Qc.2 b
   rw[Qt b,Bool.false_or]at a;clear b;go_wp2;exact QD (v:=.bool (N==41)) (by simp[results,results128,go_sem]) rfl ⟨by rw[a.out,Bool.beq_eq_decide_eq],f.out⟩
def hexL:jE:=[48,49,50,51,52,53,54,55,56,57,97,98,99,100,101,102]
def zaS(s:jE)(r:RS):Int × RS:=
 if zaf s r<0 then (0,zaF r 3)
 else if Lib.indexByte hexL (zaf s r).toNat.toUInt8<0 then (0,zaF r 3)
 else (Lib.indexByte hexL (zaf s r).toNat.toUInt8,{r with pos:=r.pos+1})
theorem zdl{s:jE}{r:RS}:-1<=zaf s r/\zaf s r<=255:=by
 unfold zaf
 split
 ·cases s[r.pos]? with
  |none=>dsimp only;omega
  |some b=>dsimp only;have:=b.toNat_lt;omega
 ·omega
theorem zjK(g:Nat)(s:ByteArray)(r:RS)(w:World)(h:RdAt g s r w)(v:r.pos<=s.size)(B:s.size<=4096):
 Calls prog 214 #[.pointer g] w λe w'=>e=jC (jA (zaS s.data.toList r).1)/\RdEnd g s (zaS s.data.toList r).2 w w':=by
 have n:=hIx (zeI g s r w h v);have x:=zdl (s:=s.data.toList) (r:=r);have a:0<=zaf s.data.toList r->r.pos<s.size:=λh=>by have:=(zaU rfl h).1;simpa using this
 have b:Hid (zaS s.data.toList r=if zaf s.data.toList r<0 then (0,zaF r 3)
 else if Lib.indexByte hexL (zaf s.data.toList r).toNat.toUInt8<0 then (0,zaF r 3)
 else (Lib.indexByte hexL (zaf s.data.toList r).toNat.toUInt8,{r with pos:=r.pos+1})):=rfl
 have f:Hid (∀W,RdAt g s r W->Calls prog 62 #[.pointer g,jA 3] W λe w'=>e=jC (.tuple #[])/\RdEnd g s (zaF r 3) W w'):=λW h=>zda g s r 3 W h
 generalize zaS s.data.toList r=R at *;generalize zaf s.data.toList r=N at *;clear h
 go_in
 go_wp2_with (go_at_call 130;apply Hid.out);refine WhM n ?_;rintro e l ⟨rfl,h1,m⟩;have k:=hIx m;clear n m
 by_cases i:N<0
 ·have u:decide (N<0)=true:=Qx i
  rw[Qj i]at b;have c:=hIx (f.out l h1);clear i h1 f a;go_wp2_with (go_at_call 62;apply Hid.out);refine WhM c ?_;rintro e w2 ⟨rfl,h2⟩;have j:=hIx (RdEnd.trans k.out h2);clear h2;go_wp2;exact zad ⟨by rw[b.out],by rw[b.out];exact j.out⟩
 have u:decide (N<0)=false:=Qt i;rw[Qf i]at b;have q:=a (by omega);have y:IntKind.u8.wrap N=N:=by rw[show IntKind.u8.wrap N=N % 256 from rfl];omega
 have t:Hid (∀W,Calls prog 111 #[.string (.mk #[48,49,50,51,52,53,54,55,56,57,97,98,99,100,101,102]),.int .u8 N] W λe w'=>e=jC (jA (Lib.indexByte hexL N.toNat.toUInt8))/\w'=W):=λW=>strings_IndexByte _ N W
 generalize Lib.indexByte hexL N.toNat.toUInt8=K at *;go_wp2_with (go_at_call 111;apply Hid.out);unfold Hid;refine(t.out l).mono ?_;rintro e w2 ⟨rfl,rfl⟩
 by_cases d:K<0
 ·have o:decide (K<0)=true:=Qx d
  rw[Qj d]at b;have c:=hIx (f.out w2 h1);clear d h1 f a;go_wp2_with (go_at_call 62;apply Hid.out);refine WhM c ?_;rintro e w3 ⟨rfl,h2⟩;have j:=hIx (RdEnd.trans k.out h2);clear h2;go_wp2;exact zad ⟨by rw[b.out],by rw[b.out];exact j.out⟩
 ·have o:decide (K<0)=false:=Qt d
  rw[Qf d]at b;have A:IntKind.i64.wrap ((r.pos:Int)+1)=((r.pos+1:Nat):Int):=Qz _ (by omega);have c0:=h1.cells;have z:=h1.free 1;have j:Hid (RdEnd g s {r with pos:=r.pos+1} w (w2.setCell ⟨g,1,none⟩ (jA ((r.pos+1:Nat):Int)))):=⟨h1.setPos _,zao k.out 1 _⟩
  clear d h1 f a;go_wp2;exact zad ⟨by rw[b.out],by rw[b.out];exact j.out⟩
