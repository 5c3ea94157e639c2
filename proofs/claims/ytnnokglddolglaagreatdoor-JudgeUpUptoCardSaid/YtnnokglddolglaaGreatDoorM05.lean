/- Lemmas for the last texts. -/
import Derived.Test.YtnnokglddolglaaGreatDoorM04
import Derived.Deep.CutRange
set_option maxHeartbeats 1600000
set_option maxRecDepth 100000
namespace Go.Proofs.YtnnokglddolglaaGreatDoor
open Go.RowKit Go.Proofs.Tryz
def BestB(w:World)(g:Nat)(f a:Nat)(found:Bool):Prop:=w.heap[g]? = some (.cells #[.int .i64 (f:Int),.int .i64 (a:Int),.bool found] 351 (0,0))
structure RunR(P:List Ins)(s:ByteArray)(pv:Value)(w:World)(t:Nat)(wr:World)(gt gF:Nat)(vl:Value)(F:Nat->Nat)(ls:List Nat)(found:Bool)(f tq:Nat):Prop where
 thm:ThM wr gt pv s gF P.length vl F ls
 thr:Thr P s.data.toList t F ls
 clt:zp4 P s.data.toList t F found f
 max:∀m,F m<=t
 best:zox P s.data.toList (P.length-1) (λj=>j<t) found f tq
 cells:BestB wr (w.heap.size+1) f tq found
 res:BestB wr w.heap.size 0 0 false
 prg:OwnP wr 0 pv P
 low:w.heap.size+1<gt/\w.heap.size+1<gF/\∀g,vl.ownBlock=some g->w.heap.size+1<g
 below:Below w.heap.size w wr
theorem BestB.setAll{w:World}{g a b f d:Nat}{c found:Bool}(h:BestB w g a b c):BestB (((w.setCell ⟨g,0,none⟩ (.int .i64 (f:Int))).setCell ⟨g,1,none⟩ (.int .i64 (d:Int))).setCell ⟨g,2,none⟩ (.bool found)) g f d found:=
 Q2 _ g 2 _ _ _ (Q2 _ g 1 _ _ _ (Q2 w g 0 _ _ _ h))
theorem BestB.three{w:World}{g f a:Nat}{found:Bool}(h:BestB w g f a found):(w.cell? ⟨g,0,none⟩=some (.int .i64 (f:Int))/\w.cell? ⟨g,1,none⟩=some (.int .i64 (a:Int))/\w.cell? ⟨g,2,none⟩=some (.bool found))/\w.frozen? ⟨g,0,none⟩=false/\w.frozen? ⟨g,1,none⟩=false/\w.frozen? ⟨g,2,none⟩=false:=
 ⟨⟨Qf w g 0 _ _ _ h,Qf w g 1 _ _ _ h,Qf w g 2 _ _ _ h⟩,ZJ w g 0 _ _ h,ZJ w g 1 _ _ h,ZJ w g 2 _ _ h⟩
theorem Path.lt{P:List Ins}{s:List UInt8}(a:OkP P){N j L n i:Nat}(h:Path P s N j L n i):n<P.length->N<P.length:=by
 have at_:∀m x,P[m]? = some x->∃h:m<P.length,P[m]=x:=λm x h=>Qw.1 h
 induction h with
 |here=>exact λh=>h
 |eps _ n m i f _ ih=>
  intro e;refine ih ?_;cases f with
  |one x h1 h2=>obtain⟨d,b⟩:=at_ _ _ h1;have:=a n d;rw[b]at this;omega
  |two x h1 h2=>obtain⟨d,b⟩:=at_ _ _ h1;have:=a n d;rw[b]at this;omega
  |jump x h1 h2=>obtain⟨d,b⟩:=at_ _ _ h1;have:=a n d;rw[b]at this;omega
  |begin x h1 h2=>obtain⟨d,b⟩:=at_ _ _ h1;have:=a n d;rw[b]at this;omega
  |finish x h1 h2=>obtain⟨d,b⟩:=at_ _ _ h1;have:=a n d;rw[b]at this;omega
 |byte _ n i hb _ ih=>
  intro e;refine ih ?_;obtain⟨x,c,h1,h2,_⟩:=hb;obtain⟨d,b⟩:=at_ _ _ h1;have:=a n d;rw[b]at this;omega
theorem Thr.lt{P:List Ins}{s:List UInt8}(a:OkP P)(d:0<P.length){t:Nat}{F:Nat->Nat}{e:List Nat}(h:Thr P s t F e){n:Nat}(c:F n≠0):n<P.length:=by
 obtain⟨k,_,L,b⟩:=h.real n c;exact b.lt a d
structure MidR(P:List Ins)(s:ByteArray)(pv:Value)(w:World)(t:Nat)(wx:World)(gt gF:Nat)(vl:Value)(G:Nat->Nat)(lg:List Nat)(found:Bool)(f tq:Nat):Prop where
 thm:ThM wx gt pv s gF P.length vl G lg
 thr:Thr P s.data.toList t G lg
 cmp:Comp P s.data.toList t G found f
 max:∀m,G m<=t+1
 best:zox P s.data.toList (P.length-1) (λj=>j<t) found f tq
 cells:BestB wx (w.heap.size+1) f tq found
 res:BestB wx w.heap.size 0 0 false
 prg:OwnP wx 0 pv P
 low:w.heap.size+1<gt/\w.heap.size+1<gF/\∀g,vl.ownBlock=some g->w.heap.size+1<g
 below:Below w.heap.size w wx
section
variable {P:List Ins} {s:ByteArray} {pv:Value} {w:World} {t:Nat}
theorem RunR.added{wr w2:World}{c d:Nat}{n a:Value}{F G:Nat->Nat}{j i:List Nat}{f m:Nat}(h:RunR P s pv w t wr c d n F j false f m)(q:ThM w2 c pv s d P.length a G i)
 (r:AddPost P s.data.toList t 0 t F j G i) (v:OwnP w2 0 pv P) (b:Kept wr w2 c d n a):MidR P s pv w t w2 c d a G i false f m:=by
 obtain⟨h1,h2,u⟩:=zt2 h.clt h.thr h.max r;obtain⟨x,y,l⟩:=h.low;have z:w.heap.size+1<wr.heap.size:=zaq h.cells;have keep:∀k,k<w.heap.size+1+1->w2.heap[k]? = wr.heap[k]? := λk p=>b.blocks k (by omega) (by omega) (by omega) λe=>by have:=l k e;omega
 refine⟨q,h2,h1,u,h.best,(keep _ (by omega)).trans h.cells,(keep _ (by omega)).trans h.res,v,⟨x,y,λg o=>?_⟩,?_⟩
 ·rcases b.own g o with e|e
  ·exact l g e
  ·omega
 ·exact h.below.trans ⟨b.below.os,b.below.tape,b.below.output,b.below.size,λk p=>keep k (by omega)⟩
structure InRT(P:List Ins)(s:ByteArray)(pv:Value)(w:World)(t:Nat)(wx:World)(G:Nat->Nat)(lg:List Nat)(found:Bool)(f:Nat)(q:Nat)(wr:World)(gt gF:Nat)(vl:Value)(H:Nat->Nat)(lh:List Nat)(found1:Bool)(f1 to1:Nat):Prop where
 thm:ThM wr gt pv s gF P.length vl H lh
 thr:Thr P s.data.toList (t+1) H lh
 far:wx.heap.size<=gt/\wx.heap.size<=gF/\∀g,vl.ownBlock=some g->wx.heap.size<=g
 keep:∀k,k<wx.heap.size->k≠w.heap.size+1->wr.heap[k]? = wx.heap[k]?
 below:Below w.heap.size w wr
 size:wx.heap.size<=wr.heap.size
 cells:BestB wr (w.heap.size+1) f1 to1 found1
 max:∀m,H m<=t+1
 sort:∀r n,lg[r]? = some n->q<=r->∀m,H m<=G n
 done:∀r n,lg[r]? = some n->r<q->zcE P s.data.toList t n->(found1=true->G n<=f1+1)->H (n+1)≠0/\H (n+1)<=G n
 old:found=true->found1=true/\f1<=f
 best:(zox P s.data.toList (P.length-1) (λj=>j<t) found1 f1 to1/\∀r n,lg[r]? = some n->r<q->n=P.length-1->found1=true/\f1+1<G n)\/
  (zox P s.data.toList (P.length-1) (λj=>j<t+1) true f1 t/\found1=true/\to1=t/\G (P.length-1)=f1+1)
section
variable {wx:World} {gt gF:Nat} {vl:Value} {G:Nat->Nat} {lg:List Nat} {found:Bool} {f tq:Nat}
theorem MidR.start(h:MidR P s pv w t wx gt gF vl G lg found f tq){i:World}{b a:Nat}(l:ThM i b pv s a P.length (.slice none 0 0) (λ_=>0) [])(c:Below wx.heap.size wx i)(h1:wx.heap.size<=b)(h2:wx.heap.size<=a):
 InRT P s pv w t wx G lg found f 0 i b a (.slice none 0 0) (λ_=>0) [] found f tq:=
 ⟨l,Thr.zero _,⟨h1,h2,λg m=>by cases m⟩,λk j _=>c.block k j,h.below.trans (c.mono h.below.size),c.size,(c.block _ (zaq h.cells)).trans h.cells,λ_=>Qm _,λ_ _ _ _ _=>Qm _,λr n _ d=>absurd d (by omega),λe=>⟨e,Qd _⟩,.inl ⟨h.best,λr n _ d=>absurd d (by omega)⟩⟩
section
variable {wr:World} {q gt2 gF2:Nat} {vl2:Value} {H:Nat->Nat} {lh:List Nat} {found1:Bool} {f1 to1:Nat}
theorem InRT.now(h:InRT P s pv w t wx G lg found f q wr gt2 gF2 vl2 H lh found1 f1 to1)(hM:MidR P s pv w t wx gt gF vl G lg found f tq):ThM wr gt pv s gF P.length vl G lg:=by
 obtain⟨e,i,d⟩:=hM.low;have a:gt<wx.heap.size:=by obtain⟨_,hb⟩:=hM.thm.blk;exact zaq hb
 have b:gF<wx.heap.size:=zaq hM.thm.frm;exact hM.thm.keep (h.keep _ a (by omega)) (h.keep _ b (by omega)) λg c=>h.keep _ (hM.thm.lst.lt g c) (by have:=d g c;omega)
theorem InRT.prg(h:InRT P s pv w t wx G lg found f q wr gt2 gF2 vl2 H lh found1 f1 to1)(hM:MidR P s pv w t wx gt gF vl G lg found f tq)(b:OwnP w 0 pv P):OwnP wr 0 pv P:=
 hM.prg.keep λg a=>h.keep g (QK hM.prg g a).2 (by have:=(QK b g a).2;omega)
theorem InRT.stop(h:InRT P s pv w t wx G lg found f lg.length wr gt2 gF2 vl2 H lh found1 f1 to1)(hM:MidR P s pv w t wx gt gF vl G lg found f tq)(l:OwnP w 0 pv P):RunR P s pv w (t+1) wr gt2 gF2 vl2 H lh found1 f1 to1:=by
 have o:w.heap.size+1<wx.heap.size:=zaq hM.cells
 have b:∀n,G n≠0->∃r,r<lg.length/\lg[r]? = some n:=λn c=>by
  obtain⟨r,a,e⟩:=Z4 ((hM.thr.mem n).2 c);exact⟨r,a,by rw[<-e];exact Qc a⟩
 obtain⟨p,q,i⟩:=h.far;refine⟨h.thm,h.thr,ztD hM.cmp h.old h.thr λn c hb j=>?_,h.max,?_,h.cells,(h.keep _ (by omega) (by omega)).trans hM.res,h.prg hM l,⟨by omega,by omega,λg d=>by have:=i g d;omega⟩,h.below⟩
 ·obtain⟨r,a,e⟩:=b n c
  exact h.done r n e a hb j
 ·rcases h.best with ⟨h1,h2⟩|⟨h1,h2,k,m⟩
  ·exact ztd h1 hM.cmp h.old λc=>by
    obtain⟨r,a,e⟩:=b _ c;exact h2 r _ e a rfl
  ·rw[h2,k];exact h1
theorem InRT.pass(h:InRT P s pv w t wx G lg found f q wr gt2 gF2 vl2 H lh found1 f1 to1)(B:w.heap.size+1<wx.heap.size){n:Nat}(m:lg[q]? = some n){d:World}(a:Below wr.heap.size wr d)
 (hb:zcE P s.data.toList t n->found1=true/\f1+1<G n) (y:n=P.length-1->found1=true/\f1+1<G n):InRT P s pv w t wx G lg found f (q+1) d gt2 gF2 vl2 H lh found1 f1 to1:=by
 have C:=h.size;have j:gt2<wr.heap.size:=by obtain⟨_,hb⟩:=h.thm.blk;exact zaq hb
 have l:gF2<wr.heap.size:=zaq h.thm.frm;refine⟨h.thm.keep (a.block _ j) (a.block _ l) λg v=>a.block _ (h.thm.lst.lt g v),h.thr,h.far,λk x e=>(a.block k (by omega)).trans (h.keep k x e),h.below.trans (a.mono h.below.size),Qn h.size a.size,(a.block _ (by omega)).trans h.cells,h.max,λr b e p=>h.sort r b e (by omega),λr b e p i o=>?_,h.old,?_⟩
 ·by_cases c:r<q
  ·exact h.done r b e c i o
  ·obtain rfl:r=q:=by omega
   rw[m]at e;injection e with e;subst e
   obtain⟨z,A⟩:=hb i;have:=o z;omega
 ·rcases h.best with ⟨h1,h2⟩|h1
  ·refine .inl ⟨h1,λr b e p u=>?_⟩
   by_cases c:r<q
   ·exact h2 r b e c u
   ·obtain rfl:r=q:=by omega
    rw[m]at e;injection e with e;subst e
    exact y u
  ·exact .inr h1
theorem InRT.push(h:InRT P s pv w t wx G lg found f q wr gt2 gF2 vl2 H lh found1 f1 to1)(hM:MidR P s pv w t wx gt gF vl G lg found f tq){n k:Nat}(u:lg[q]? = some n)(hb:zcE P s.data.toList t n)(T:n≠P.length-1)(S:G n=k+1)
 {B y:World} (o:Below wr.heap.size wr B) {i:Value} {A:Nat->Nat} {l:List Nat} (I:ThM y gt2 pv s gF2 P.length i A l) (v:AddPost P s.data.toList (t+1) (n+1) k H lh A l) (d:Kept B y gt2 gF2 vl2 i):
 InRT P s pv w t wx G lg found f (q+1) y gt2 gF2 i A l found1 f1 to1:=by
 have X:=h.size;have N:w.heap.size+1<wx.heap.size:=zaq hM.cells;obtain⟨U,V,C⟩:=h.far;have J:=o.size;have keep:∀j,j<wx.heap.size->y.heap[j]? = wr.heap[j]? := λj x=>(d.blocks j (by omega) (by omega) (by omega) λe=>by have:=C j e;omega).trans (o.block j (by omega))
 have b:∀m,H m<=k+1:=λm=>by rw[<-S];exact h.sort q n u (Qd _) m
 obtain⟨K,Y,L⟩:=hM.thr.real n (by omega);obtain rfl:K=k:=by omega
 have W:=hM.max n;have a:=v.le b;have Q:=h.below.size;refine⟨I,v.thr h.thr b (L.byte hb),⟨U,V,λg F=>?_⟩,λj x e=>(keep j x).trans (h.keep j x e),?_,by have:=d.below.size;omega,(keep _ N).trans h.cells,λm=>by have:=a m;omega,λr p e D m=>?_,λr p e D z O=>?_,h.old,?_⟩
 ·rcases d.own g F with e|e
  ·exact C g e
  ·omega
 ·exact h.below.trans ⟨d.below.os.trans o.os,d.below.tape.trans o.tape,d.below.output.trans o.output,Qn o.size d.below.size,λj x=>keep j (by omega)⟩
 ·have h1:G n<=G p:=by
   obtain⟨c1,c2⟩:=Qw.1 u;obtain⟨c3,c4⟩:=Qw.1 e;have:=List.pairwise_iff_getElem.1 hM.thr.sorted q r c1 c3 (by omega);rw[c2,c4]at this;exact this
  have:=a m;omega
 ·by_cases c:r<q
  ·have h1:=h.done r p e c z O
   rw[v.keep _ h1.1];exact h1
  ·obtain rfl:r=q:=by omega
   rw[u]at e;injection e with e;subst e
   exact⟨v.at_,by have:=a (n+1);omega⟩
 ·rcases h.best with ⟨h1,h2⟩|h1
  ·refine .inl ⟨h1,λr p e D E=>?_⟩
   by_cases c:r<q
   ·exact h2 r p e c E
   ·obtain rfl:r=q:=by omega
    rw[u]at e;injection e with e;subst e
    exact absurd E T
  ·exact .inr h1
end
end
end
theorem zql{wc:World}{g f d:Nat}{a:Bool}(h:BestB wc g f d a)(k t:Nat)(o:Obj):
 BestB ((((wc.setCell ⟨g,0,none⟩ (.int .i64 (k:Int))).setCell ⟨g,1,none⟩ (.int .i64 (t:Int))).setCell ⟨g,2,none⟩ (.bool true)).alloc o).drew g k t true/\
 (∀j,j<wc.heap.size->j≠g->((((wc.setCell ⟨g,0,none⟩ (.int .i64 (k:Int))).setCell ⟨g,1,none⟩ (.int .i64 (t:Int))).setCell ⟨g,2,none⟩ (.bool true)).alloc o).drew.heap[j]? = wc.heap[j]?)/\
 ∀B,B<=g->B<=wc.heap.size->Below B wc ((((wc.setCell ⟨g,0,none⟩ (.int .i64 (k:Int))).setCell ⟨g,1,none⟩ (.int .i64 (t:Int))).setCell ⟨g,2,none⟩ (.bool true)).alloc o).drew:=by
 have q:=zaq h;have h1:BestB _ g k t true:=h.setAll
 have h2:∀j,j≠g->(((wc.setCell ⟨g,0,none⟩ (.int .i64 (k:Int))).setCell ⟨g,1,none⟩ (.int .i64 (t:Int))).setCell ⟨g,2,none⟩ (.bool true)).heap[j]? = wc.heap[j]? := λj b=>
  (Ql _ ⟨g,2,none⟩ _ j b).trans ((Ql _ ⟨g,1,none⟩ _ j b).trans (Ql _ ⟨g,0,none⟩ _ j b))
 have m:∀B,B<=g->Below B wc (((wc.setCell ⟨g,0,none⟩ (.int .i64 (k:Int))).setCell ⟨g,1,none⟩ (.int .i64 (t:Int))).setCell ⟨g,2,none⟩ (.bool true)):=λB e=>(((Qg _ _).setCell (p:=⟨g,0,none⟩) e _).setCell (p:=⟨g,1,none⟩) e _).setCell (p:=⟨g,2,none⟩) e _
 have l:(((wc.setCell ⟨g,0,none⟩ (.int .i64 (k:Int))).setCell ⟨g,1,none⟩ (.int .i64 (t:Int))).setCell ⟨g,2,none⟩ (.bool true)).heap.size=wc.heap.size:=by simp
 generalize (((wc.setCell ⟨g,0,none⟩ (.int .i64 (k:Int))).setCell ⟨g,1,none⟩ (.int .i64 (t:Int))).setCell ⟨g,2,none⟩ (.bool true))=W at *;exact⟨(Qt W o g (by omega)).trans h1,λj b c=>(Qt W o j (by omega)).trans (h2 j c),λB i n=>((m B i).alloc (by omega) o).drew⟩
theorem InRT.call{P:List Ins}{s:ByteArray}{e:Value}{w:World}{t:Nat}{x:World}{E F:Nat}{D:Value}{G:Nat->Nat}{v:List Nat}{found:Bool}{f z:Nat}{wr:World}{q a b:Nat}{d:Value}{H:Nat->Nat}{p:List Nat}{c:Bool}{B r:Nat}
 (h:InRT P s e w t x G v found f q wr a b d H p c B r) (hM:MidR P s e w t x E F D G v found f z) (J:OwnP w 0 e P) (u:OkP P) (C:P.length<=400) {n k:Nat} (I:n+1<P.length) (A:k<=8192) {j:World} (i:Below wr.heap.size wr j):
 Calls prog 303 #[.pointer (some ⟨a,0,none⟩),.int .i64 ((n:Int)+1),.int .i64 ((t:Int)+1),.int .i64 (k:Int)] j (AddW P s (t+1) (n+1) k H p a b e d j):=by
 have m:a<wr.heap.size:=by obtain⟨_,hb⟩:=h.thm.blk;exact zaq hb
 have o:b<wr.heap.size:=zaq h.thm.frm;have y:=h.prg hM J;have K:=i.size;exact zur P u C s (t+1) (n+1) k I A H p a b e d j (h.thm.keep (i.block _ m) (i.block _ o) λg l=>i.block _ (h.thm.lst.lt g l)) (y.keep λg l=>i.block g (QK y g l).2) (by omega) (by omega)
mutual
theorem ztI:∀(t:Tree) (a n:Int),n<=80->n<=(chk t a n).1/\(chk t a n).1<=81/\((chk t a n).2=0->(chk t a n).1<=80)
 |.node k s b,a,n,h=>by
  rw[chk]
  by_cases c1:80<n+1
  ·rw[Qi c1];exact⟨by show n<=n+1;omega,by show n+1<=81;omega,λe=>absurd (show (2:Int)=0 from e) (by decide)⟩
  ·rw[Qe c1]
   by_cases c2:20<a
   ·rw[Qi c2];exact⟨by show n<=n+1;omega,by show n+1<=81;omega,λe=>absurd (show (11:Int)=0 from e) (by decide)⟩
   ·rw[Qe c2]
    by_cases c3:badT k s b.length=true
    ·rw[Qi c3];exact⟨by show n<=n+1;omega,by show n+1<=81;omega,λe=>absurd (show (1:Int)=0 from e) (by decide)⟩
    ·rw[Qe c3]
     have:=zpN b (a+1) (n+1) (by omega);exact⟨by omega,this.2⟩
theorem zpN:∀(b:List Tree) (a n:Int),n<=80->n<=(chkL b a n).1/\(chkL b a n).1<=81/\((chkL b a n).2=0->(chkL b a n).1<=80)
 | [],a,n,h=>by rw[chkL];exact⟨Zw _,by show n<=81;omega,λ_=>h⟩
 |t::b,a,n,h=>by
  rw[chkL];have h1:=ztI t a n h
  by_cases c:(chk t a n).2≠0
  ·rw[Qi c];exact h1
  ·rw[Qe c]
   have h2:=zpN b a _ (h1.2.2 (Z6.1 c));exact⟨by omega,h2.2⟩
end
theorem zun(b:List Tree)(i:Nat)(h:i<b.length)(a n:Int):chkL (b.drop i) a n=if (chk b[i] a n).2≠0 then chk b[i] a n else chkL (b.drop (i+1)) a (chk b[i] a n).1:=by
 rw[Zf h,chkL]
theorem zu9(k:Int)(s:Set4)(b:List Tree)(a n:Int):chk (.node k s b) a n=
 if 80<n+1 then (n+1,2)else if 20<a then (n+1,11)else if badT k s b.length=true then (n+1,1)else chkL b (a+1) (n+1):=by rw[chk]
def Cnt(w:World)(g:Nat)(n:Int):Prop:=w.heap[g]? = some (.cells #[.int .i64 n] 3 (0,0))
theorem Cnt.cell{w:World}{g:Nat}{n:Int}(h:Cnt w g n):w.cell? ⟨g,0,none⟩=some (.int .i64 n):=Qf w g 0 _ _ (0,0) h
theorem Cnt.free{w:World}{g:Nat}{n:Int}(h:Cnt w g n):w.frozen? ⟨g,0,none⟩=false:=by unfold Cnt at h;simp[World.frozen?, h]
theorem Cnt.lt{w:World}{g:Nat}{n:Int}(h:Cnt w g n):g<w.heap.size:=by
 rcases ZN g w.heap.size with b|a
 ·exact b
 ·unfold Cnt at h;rw[Z1 a]at h;cases h
theorem Cnt.set{w:World}{g:Nat}{n:Int}(h:Cnt w g n)(m:Int):Cnt (w.setCell ⟨g,0,none⟩ (.int .i64 m)) g m:=by unfold Cnt at h ⊢;simp[World.setCell,Q8,h]
theorem Cnt.alloc{w:World}{g:Nat}{n:Int}(h:Cnt w g n)(o:Obj):Cnt (w.alloc o) g n:=(Qt w o g h.lt).trans h
theorem Cnt.drewN{w:World}{g:Nat}{n:Int}(h:Cnt w g n)(q:Nat):Cnt (w.drewN q) g n:=h
theorem zeN{a w:World}{row:Option Nat}(h:a.grownBy w row)(o:Obj):a.grownBy (w.alloc o) row:=
 zjG h ((Qg _ _).alloc (Qd _) o)
theorem LT.only{w w':World}{g:Nat}{t:Tree}{cs:List Value}(h:LT w g t cs)(hb:w.grownBy w' (some g))(c:g<w.heap.size):LT w' g t cs:=
 LT.keep (Qd _) (λb o a=>World.cell?_of_block (hb.block b (by omega) (λe=>by injection e with e;omega))) t cs h
theorem LK.only{w w':World}{g:Nat}{a:List Tree}{A:Option Addr}(h:LK w g a A)(hb:w.grownBy w' (some g))(d:g<w.heap.size):LK w' g a A:=
 LK.keep (Qd _) (λb o c=>World.cell?_of_block (hb.block b (by omega) (λe=>by injection e with e;omega))) a A h
def zhJ(g:Nat)(r:Int × Int)(w:World)(e:Ending)(w':World):Prop:=e=.returned (.int .i64 r.2)/\Cnt w' g r.1/\w.grownBy w' (some g)
def zst(t:Tree):Prop:=∀(cs:List Value) (w:World) (g:Nat) (a n:Int),LT w g t cs->Cnt w g n->0<=n->n<=80->1<=a->a<=21->
 Calls prog 177 #[.agg cs.toArray,.int .i64 a,.pointer (some ⟨g,0,none⟩)] w (zhJ g (chk t a n) w)
def zAr(g:Nat)(w c:World)(b:List Tree)(a n:Int)(i:Value)(wr:World):Prop:=
 ∃(k:Nat) (m:Int),k<=b.length/\i=.int .i64 k/\0<=m/\m<=80/\Hid (chkL (b.drop k) a m=chkL b a n)/\Cnt wr g m/\c.grownBy wr (some g)/\w.grownBy wr (some g)
theorem zqH(k:Int)(s:Set4)(q:List Tree)(ih:∀i (h:i<q.length),zst q[i]):zst (.node k s q):=by
 intro cs w g f n z U h0 h1 d0 d1;rw[LT]at z;obtain⟨A,c,rfl,hs,hk⟩:=z;have IH:=hIx ih;have HR:=hIx (zu9 k s q f n);have hc:=U.cell;have hd:=U.free;have h6:=U.lt;have x:∀W,_:=λW=>zfe s Set4.zero W
 unfold setV Set4.zero at x;dsimp only at x;obtain⟨F,J,I,E⟩:=s;unfold zap;dsimp only at x ⊢;have HC:=hIx U;have h5:n+1<=9223372036854775807:=by omega
 clear ih U
 have L:∀m:Int,Cnt ((w.setCell ⟨g,0,none⟩ (.int .i64 m)).alloc (.cells #[.int .i64 k,.int .u64 F,.int .u64 J,.int .u64 I,.int .u64 E,.slice A q.length c] 185)) g m/\w.grownBy ((w.setCell ⟨g,0,none⟩ (.int .i64 m)).alloc (.cells #[.int .i64 k,.int .u64 F,.int .u64 J,.int .u64 I,.int .u64 E,.slice A q.length c] 185)) (some g):=λm=>
  ⟨(HC.out.set m).alloc _,zeN (zan (World.grownBy.refl _ _) 0 _) _⟩
 have r:=hIx L;clear L
 by_cases c1:80<n+1
 ·have l:=hIx (HR.out.trans (Qi c1))
  clear x
  go_in
  go_wp2;go_ret;exact⟨by rw[l.out];rfl,by rw[l.out];exact r.out _⟩
 ·by_cases c2:20<f
  ·have l:=hIx ((HR.out.trans (Qe c1)).trans (Qi c2))
   clear x
   go_in
   go_wp2;go_ret;exact⟨by rw[l.out];rfl,by rw[l.out];exact r.out _⟩
  ·have N:=hIx ((HR.out.trans (Qe c1)).trans (Qe c2))
   go_in
   go_wp2_with fail;have h3:n+1<=80:=by omega
   have hh:f<=20:=by omega
   clear hc hd h5 c1 c2;cases Y:(zhZ k != (q.length:Int))with
   |true=>
    have l:Hid (chk (.node k ⟨F,J,I,E⟩ q) f n=(n+1,1)):=N.out.trans (Qi (by unfold badT;rw[Y];rfl));clear x
    go_quiet ((go_at_call 219;exact Za (zk8 _ _)))
    go_wp2;go_ret;have H:=r.out (n+1);exact⟨by rw[l.out];rfl,by rw[l.out];exact⟨H.1.drewN nq,zgn H.2 nq⟩⟩
   |false=>
    cases q2:(k==3)==zvO ⟨F,J,I,E⟩ ⟨0,0,0,0⟩with
    |true=>
     have l:Hid (chk (.node k ⟨F,J,I,E⟩ q) f n=(n+1,1)):=N.out.trans (Qi (by have:((k==3)==decide ((⟨F,J,I,E⟩:Set4)=Set4.zero))=true:=q2;unfold badT;rw[Y,this];rfl))
     go_quiet ((go_at_call 219;exact Za (zk8 _ _)))
     go_wp2;go_ret;have H:=r.out (n+1);exact⟨by rw[l.out];rfl,by rw[l.out];exact⟨H.1.drewN nq,zgn H.2 nq⟩⟩
    |false=>
     have l:Hid (chk (.node k ⟨F,J,I,E⟩ q) f n=chkL q (f+1) (n+1)):=N.out.trans (Qe (by have:((k==3)==decide ((⟨F,J,I,E⟩:Set4)=Set4.zero))=false:=q2;unfold badT;rw[Y,this];decide));have T:Hid (zhZ k=q.length):=by simpa[Hid]using Y
     go_quiet ((go_at_call 219;exact Za (zk8 _ _)))
     go_wp2_with fail
     have ht:q.length<=2:=by
      have:=T.out;have:zhZ k<=2:=by unfold zhZ;split <;> (try split) <;> (try split) <;> omega
      omega
     have H:=r.out (n+1);have P:∃W:World,W=((w.setCell ⟨g,0,none⟩ (.int .i64 (n+1))).alloc (.cells #[.int .i64 k,.int .u64 F,.int .u64 J,.int .u64 I,.int .u64 E,.slice A q.length c] 185)).drewN nq:=⟨_,rfl⟩
     obtain⟨W,P⟩:=P;have e1:Cnt W g (n+1):=by rw[P];exact H.1.drewN nq
     have e2:w.grownBy W (some g):=by rw[P];exact zgn H.2 nq
     rw[<-P];clear H P x Y q2 r HC
     go_loopw [44] (λi wr=>zAr g w W q (f+1) (n+1) i wr) (λi _=>q.length-(intOf i).toNat)
     case atStart=>exact⟨0,n+1,Qm _,rfl,by omega,h3,rfl,e1,World.grownBy.refl _ _,e2⟩
     case round=>
      obtain⟨j,m,hj,rfl,h8,Z,HM,S,hf,D⟩:=hrel
      by_cases z:j<q.length
      ·have h7:=hk.only D h6
       obtain⟨b,h9,hu,rfl,hm,Q,O⟩:=h7.at j z;have V:=IH.out j z;have y:=hIx (zun q j z (f+1) m);have t:=ztI q[j] (f+1) m Z;generalize q[j]=v at *;obtain⟨A2,c2,C,ha⟩:=O.parts;have ⟨y0,y1,y2,y3,y4,y5⟩:=(C ▸ Q:CellsAt wr b (h9+j*6) (zap v.kind v.set A2 v.kids.length c2)).six;have hq:w.heap.size<=wr.heap.size:=D.size;have hv:b<wr.heap.size:=by omega
       have hn:g<wr.heap.size:=by omega
       have HQ:Hid (∀W,Calls prog 177 #[.agg #[.int .i64 v.kind,.int .u64 v.set.a,.int .u64 v.set.b,.int .u64 v.set.c,.int .u64 v.set.d,.slice A2 v.kids.length c2],.int .i64 (f+1),.pointer (some ⟨g,0,none⟩)] (wr.alloc W) (zhJ g (chk v (f+1) m) (wr.alloc W))):=λW=>
        V _ (wr.alloc W) g (f+1) m ((C ▸ O:LT wr g v (zap v.kind v.set A2 v.kids.length c2)).keep (Qd _) (λbb o hp=>((Qg wr.heap.size wr).alloc (Qd _) W).cell (p:=⟨bb,o,none⟩) (by show bb<wr.heap.size;omega))) (S.alloc W) h8 Z (by omega) (by omega)
       have ho:f+1<=9223372036854775807:=by omega
       clear V O Q C ha;cases hr:chk v (f+1) m with
       |mk rn re=>
        rw[hr]at t HQ y;have u:=y.out;dsimp only at t u;clear y
        by_cases K:re=0
        ·subst K
         rw[Qe (by simp)]at u;have y:=hIx u;have h4:=t.2.2 rfl;have hi:=t.1;clear hr u t;go_wp2_with fail;refine(HQ.out _).mono ?_;rintro e w2 ⟨rfl,B,G⟩;clear y0 y1 y2 y3 y4 y5;go_wp2_with fail
         go_roundw
         case rel=>exact⟨j+1,rn,by omega,by go_num,by omega,h4,y.out.symm.trans HM.out,B,zay (zeN hf _) G,zay (zeN D _) G⟩
         case measure=>simp[intOf] <;> omega
        ·rw[Qi K]at u
         have y:=hIx u;have qe:(re != 0)=true:=Q6.2 K;clear hr K u;go_wp2_with fail;refine(HQ.out _).mono ?_;rintro e w2 ⟨rfl,B,G⟩;clear y0 y1 y2 y3 y4 y5;go_wp2;go_ret;have HF:=l.out.trans (HM.out.symm.trans y.out);exact⟨by rw[HF];rfl,by rw[HF];exact⟨B,zay (zeN D _) G⟩⟩
      ·obtain rfl:j=q.length:=by omega
       have X:Hid (chkL q (f+1) (n+1)=(m,0)):=by
        unfold Hid;rw[<-HM.out,List.drop_length,chkL]
       go_wp2;go_ret;exact⟨by rw[l.out,X.out];rfl,by rw[l.out,X.out];exact⟨S,D⟩⟩
theorem zma(t:Tree):zst t:=
 match t with
 |.node k s a=>zqH k s a λi h=>zma a[i]
termination_by SizeOf.sizeOf t
decreasing_by
 have:=List.sizeOf_lt_of_mem (Qy h);simp only[Tree.node.sizeOf_spec];omega
def zbj(t:Tree):Int:=(chk t 1 0).2
theorem zke(t:Tree)(cs:List Value)(w:World)(h:LT w w.heap.size t cs):
 Calls prog 139 #[.agg cs.toArray] w λe w'=>e=.returned (.int .i64 (zbj t))/\Below w.heap.size w w':=by
 obtain⟨m,c2,rfl,_⟩:=h.parts
 have k:Hid (∀(o:Obj),Calls prog 177 #[.agg #[.int .i64 t.kind,.int .u64 t.set.a,.int .u64 t.set.b,.int .u64 t.set.c,.int .u64 t.set.d,.slice m t.kids.length c2],.int .i64 1,.pointer (some ⟨w.heap.size+1,0,none⟩)] ((w.alloc o).alloc (.cells #[.int .i64 0] 3)) (zhJ (w.heap.size+1) (chk t 1 0) ((w.alloc o).alloc (.cells #[.int .i64 0] 3)))):=λo=>
  zma t _ _ (w.heap.size+1) 1 0 (h.keep (Zg _) (λb g l=>(((Qg w.heap.size w).alloc (Qd _) o).alloc (by simp) _).cell (p:=⟨b,g,none⟩) l)) (by have:=Qp (w.alloc o) (.cells #[.int .i64 0] 3);simpa[Cnt]using this) (by decide) (by decide) (by decide) (by decide)
 clear h;unfold zap
 go_in
 go_wp2_with fail;refine(k.out _).mono ?_;rintro e w2 ⟨rfl,_,f⟩;go_wp2;go_ret;have j:∀o g,Below w.heap.size w ((w.alloc o).alloc g):=λo g=>((Qg _ _).alloc (Qd _) o).alloc (by simp) g
 exact⟨rfl,(j _ _).trans ⟨f.os,f.tape,f.output,f.size,λi n=>f.block i (by simp;omega) (λe=>by injection e with e;omega)⟩⟩
def Two(w:World)(g:Nat)(a b:Value):Prop:=w.heap[g]? = some (.cells #[a,b] 349 (0,0))
theorem zge:Set4.zero.Wf:=⟨⟨by decide,by decide⟩,⟨by decide,by decide⟩,⟨by decide,by decide⟩,⟨by decide,by decide⟩⟩
mutual
def WfT:Tree->Prop
 |.node _ s a=>s.Wf/\WfL a
def WfL:List Tree->Prop
 | []=>True
 |t::a=>WfT t/\WfL a
end
mutual
theorem LT.wf{w:World}{B:Nat}:∀(t:Tree) (cs:List Value),LT w B t cs->WfT t
 |.node k s a,cs,h=>by
  rw[LT]at h;obtain⟨A,c,_,h2,b⟩:=h;rw[WfT];exact⟨h2,LK.wf a A b⟩
theorem LK.wf{w:World}{B:Nat}:∀(a:List Tree) (A:Option Addr),LK w B a A->WfL a
 | [],_,_=>by rw[WfL];trivial
 |t::a,A,h=>by
  rw[LK]at h;obtain⟨b,d,cs,_,_,_,_,e,c⟩:=h;rw[WfL];exact⟨LT.wf t cs e,LK.wf a _ c⟩
end
theorem zyw{t:Tree}{at_:Nat}{l:List Ins}(h:Code t at_ l):WfT t->∀x∈l,x.set.Wf:=by
 induction h with
 |none S at_|byte S at_=>intro d x c;rw[WfT]at d;rw[QE]at c;subst c;exact d.1
 |begin S at_|finish S at_=>intro d x c;rw[QE]at c;subst c;exact zge
 |empty=>intro _ x c;simp at c
 |cat S a b at_ e f _ _ h1 h2=>
  intro d x c;rw[WfT,WfL,WfL,WfL]at d
  rcases QN.1 c with h|h
  ·exact h1 d.2.1 x h
  ·exact h2 d.2.2.1 x h
 |alt S a b at_ e f _ _ h1 h2=>
  intro d x c;rw[WfT,WfL,WfL,WfL]at d
  rcases QJ.1 c with h|c
  ·subst h;exact zge
  ·rcases QN.1 c with h|c
   ·exact h1 d.2.1 x h
   ·rcases QJ.1 c with h|h
    ·subst h;exact zge
    ·exact h2 d.2.2.1 x h
 |star S a at_ e _ h1=>
  intro d x c;rw[WfT,WfL,WfL]at d
  rcases QJ.1 c with h|c
  ·subst h;exact zge
  ·rcases QN.1 c with h|c
   ·exact h1 d.2.1 x h
   ·rw[QE]at c
    subst c;exact zge
theorem zyc{t:Tree}{l:List Ins}(h:Code t 0 l)(b:WfT t):∀n (a:n<(l++[(⟨6,0,0,.zero⟩:Ins)]).length),(l++[(⟨6,0,0,.zero⟩:Ins)])[n].set.Wf:=λn a=>by
 have c:=Qy a
 rcases QN.1 c with h1|h1
 ·exact zyw h b _ h1
 ·rw[QE.1 h1];exact zge
theorem zuS{t:Tree}{l:List Ins}(h:Code t 0 l):∀n (a:n<(l++[(⟨6,0,0,.zero⟩:Ins)]).length),(l++[(⟨6,0,0,.zero⟩:Ins)])[n].kind=6↔n=(l++[(⟨6,0,0,.zero⟩:Ins)]).length-1:=λn a=>by
 have hl:(l++[(⟨6,0,0,.zero⟩:Ins)]).length=l.length+1:=by simp
 rw[hl]at a ⊢
 by_cases c:n<l.length
 ·rw[ZA c]
  have:=zpO h l[n] (Qy c);unfold Tgt at this
  constructor
  ·intro e;omega
  ·intro e;omega
 ·obtain rfl:n=l.length:=by omega
  simp
theorem zsr(P:List Ins)(A:Option Addr)(c:Nat)(s:ByteArray)(w:World)(h:Sl w w.heap.size 7 A P.length (P.flatMap zbk))(a:OkP P)(j:0<P.length)(g:P.length<=400):
 Calls prog 280 #[.slice A P.length c,.string s] w λe w'=>e=.returned (.int .i64 (if 8192<s.size then 2 else 0))/\Below w.heap.size w w':=by
 have d:=hIx (zgM P A c w h a j g);clear a h
 by_cases b:8192<s.size
 ·have i:decide (8192<(s.size:Int))=true:=by simp;omega
  rw[Qi b]
  go_in
  go_wp2_with fail;refine d.out.mono ?_;rintro e f ⟨rfl,hb⟩;go_wp2;go_ret;exact⟨rfl,hb⟩
 ·have i:decide (8192<(s.size:Int))=false:=by simp;omega
  rw[Qe b]
  go_in
  go_wp2_with fail;refine d.out.mono ?_;rintro e f ⟨rfl,hb⟩;go_wp2;go_ret;exact⟨rfl,hb⟩
theorem OwnP.sl{w:World}{b g n c:Nat}{l:List Ins}(h:OwnP w b (.slice (some ⟨g,0,none⟩) n c) l):Sl w w.heap.size 7 (some ⟨g,0,none⟩) l.length (l.flatMap zbk):=by
 obtain⟨A,f,e,d⟩:=h.form;injection e with a _ _
 rw[a];exact d
def zji(P:List Ins)(s:List UInt8)(n:Nat):Prop:=∃i j,j<n+1/\R P s i (P.length-1) j
def zzR(P:List Ins)(s:ByteArray)(h:Value)(w:World)(t:Nat)(j:World)(G:Nat->Nat)(e:List Nat)(f a c:Nat)(k:Value)(g:World):Prop:=
 ∃q d H l i b,k=.int .i64 ((q:Nat):Int)/\q<=e.length/\InRT P s h w t j G e false f q g a c d H l false i b
def zyH(P:List Ins)(s:ByteArray)(i:Value)(w:World)(b c:Value)(wr:World):Prop:=
 ∃t a d e F h f g,c=.int .i64 ((t:Nat):Int)/\t<=s.size+1/\b=.pointer (some ⟨a,0,none⟩)/\RunR P s i w t wr a d e F h false f g
def zoW(P:List Ins)(s:ByteArray)(w:World)(e:Ending)(w':World):Prop:=
 ∃found f a,e=.returned (.agg #[.int .i64 ((f:Nat):Int),.int .i64 ((a:Nat):Int),.bool found])/\(found=true↔zji P s.data.toList s.size)/\Below w.heap.size w w'
theorem zvw(P:List Ins)(ha:OkP P)(hG:∀n (h:n<P.length),P[n].kind=6↔n=P.length-1)(E:∀n (h:n<P.length),P[n].set.Wf)(h0:0<P.length)(h4:P.length<=400)(s:ByteArray)(hs:s.size<=8192)(pv:Value)(w:World)(hP:OwnP w 0 pv P):
 Calls prog 281 #[pv,.string s,.bool true] w (zoW P s w):=by
 obtain⟨gp,cp,rfl,gB⟩:=OwnP.head hP h0;have hN:=hIx ha;have gb:=hIx hG;have gk:=hIx E;clear hG E
 go_in
 go_wp2_with (at_make;refine zfP rfl _ _ rfl P.length (w.heap.size+1+1) (by simp) rfl rfl (by omega) ?_;intro w1 gm hr gs)
 go_loopw [8,9] (λvn vt wr=>zyH P s (.slice (some ⟨gp,0,none⟩) P.length cp) w vn vt wr) (λ_ vt _=>s.size+1-(intOf vt).toNat)
 case atStart=>
  have hz:w.heap.size+1+1<w1.heap.size:=gs;have hk:∀j,j<w.heap.size+1+1->∀o,(w1.alloc o).heap[j]? = w1.heap[j]? := λj hj o=>Qt _ _ _ (by omega)
  have hB:Below w.heap.size w w1:=(WaL.alloc (by simp) _).trans (hr.mono (by simp;omega));refine⟨0,w1.heap.size,w.heap.size+1+1,.slice none 0 0,λ_=>0,[],0,0,rfl,Qm _,rfl,⟨ThM.fresh ⟨P.length,Qp _ _⟩ (gm.keep (Qt _ _ _ hz)),Thr.zero 0,λ_ k _ h=>absurd h (by omega),λ_=>Qd _,zsx _,?_,?_,?_,⟨by omega,by omega,λg hg=>by cases hg⟩,hB.alloc hB.size _⟩⟩
  ·refine(hk _ (by omega) _).trans ((hr.block _ (by simp)).trans ?_)
   have:=Qp (w.alloc (.cells #[.int .i64 0,.int .i64 0,.bool false] 351)) (.cells #[.int .i64 0,.int .i64 0,.bool false] 351)
   simpa using this
  ·refine(hk _ (by omega) _).trans ((hr.block _ (by simp;omega)).trans ((Qt _ _ _ (by simp)).trans (Qp _ _)))
  ·exact hP.keep λg hg=>((hk g (by have:=(QK hP g hg).2;omega) _).trans (hB.block g (QK hP g hg).2))
 case round=>
  obtain⟨t,gt,gF,vl,F,ls,f,tu,rfl,ht,rfl,T⟩:=hrel;obtain⟨⟨x0,x1,x2⟩,y0,y1,y2⟩:=T.cells.three;obtain⟨⟨u0,u1,u2⟩,v0,v1,v2⟩:=T.res.three
  by_cases gc:t<=s.size
  ·have d1:decide ((t:Int)<=(s.size:Int))=true:=by simp;omega
   have g7:=T.below.size;obtain⟨l1,l2,l3⟩:=T.low;have B:gt<wr.heap.size:=by obtain⟨_,hb⟩:=T.thm.blk;exact zaq hb
   have h8:gF<wr.heap.size:=zaq T.thm.frm;have HR:=hIx T;have HA:=hIx (zur P ha h4 s t 0 t h0 (by omega) F ls gt gF _ vl wr T.thm T.prg h8 B);clear T
   go_upto_if 30 with fail
   go_cut [8,9]from 22 to 106 (λs8 s9 I=>s8=.pointer (some ⟨gt,0,none⟩)/\s9=.int .i64 ((t:Nat):Int)/\∃hH G L,MidR P s (.slice (some ⟨gp,0,none⟩) P.length cp) w t I gt gF hH G L false f tu)
   case first=>
    go_wp2_with fail;refine HA.out.mono ?_;rintro e w2 ⟨G,L,r,rfl,g2,g8,gv,gu⟩;have d:=HR.out.added g2 g8 gv gu;go_wp2;go_meet;exact⟨rfl,rfl,_,_,_,d⟩
   case rest=>
    obtain⟨rfl,rfl,hH,G,L,hM⟩:=hcut;obtain⟨I,rfl⟩:∃I:World,I=wc:=⟨_,rfl⟩
    clear x0 x1 x2 y0 y1 y2 u0 u1 u2 v0 v1 v2 HR HA g7 l1 l2 l3 B h8;obtain⟨A1,cl,gr⟩:=hM.thm.lst.form;subst gr;have B:gt<I.heap.size:=by obtain⟨_,hb⟩:=hM.thm.blk;exact zaq hb
    have hS:=hM.thm.blk;have d:=hIx hM;clear hM;go_wp2_with (at_make;refine zfP rfl _ _ rfl P.length I.heap.size rfl rfl rfl (by omega) ?_;intro w5 hv Q ge;have ⟨p0,p1,⟨_,p2⟩,p3,p4⟩:=(hS.keep (Q.block gt B)).cells;have gz:gt<w5.heap.size:=Qv B Q.size)
    go_loopw [47] (λvq wq=>zzR P s (.slice (some ⟨gp,0,none⟩) P.length cp) w t I G L f w5.heap.size I.heap.size vq wq) (λvq _=>L.length-(intOf vq).toNat)
    case atStart=>
     have gn:ThM (w5.alloc (.cells #[.slice (some ⟨gp,0,none⟩) P.length cp,.string s,.slice (some ⟨I.heap.size,0,none⟩) P.length P.length,.slice none 0 0] 374)) w5.heap.size (.slice (some ⟨gp,0,none⟩) P.length cp) s I.heap.size P.length (.slice none 0 0) (λ_=>0) []:=
      ThM.fresh ⟨P.length,Qp _ _⟩ (hv.keep (Qt _ _ _ ge))
     exact⟨0,_,_,_,_,_,rfl,Qm _,d.out.start gn (Q.alloc Q.size _) Q.size (Qd _)⟩
    case round=>
     obtain⟨q,r,H,lh,m,u,rfl,hq,hI⟩:=hrel;have N:=hIx hI;have l:=hI.now d.out;obtain⟨m0,m1,⟨_,m2⟩,m3,m4⟩:=l.blk.cells;clear p0 p1 p2 p3 p4
     by_cases ho:q<L.length
     ·have d2:decide ((q:Int)<(L.length:Int))=true:=by simp;omega
      obtain⟨gl,gC,e,gA⟩:=l.lst.head (by omega);injection e with e1 _ e2
      subst e1;subst e2
      have he:=l.lst.cell q ho;have HQ:Hid (L[q]? = some L[q]):=hIx (Qc ho);have Y:G L[q]≠0:=(d.out.thr.mem _).1 (Qy ho);generalize L[q]=n at he HQ Y;obtain⟨k,hk,hC⟩:=d.out.thr.real n Y;have hD:=hIx hC;have U:n<P.length:=d.out.thr.lt ha h0 Y;have hX:=d.out.max n;have hp:=(l.frm.cell n U).1;rw[hk]at hp;have HK:=hIx hk;have C:=N.out.prg d.out hP;have hx:=hN.out n U;have z:Hid (P[n]? = some P[n]):=hIx (Qc U);have ⟨X,Z,z2,z3,z4,z5,z6⟩:Ins7 wr gp (n*7) P[n]:=⟨(C.spot n U 0 (by decide)).1,(C.spot n U 1 (by decide)).1,(C.spot n U 2 (by decide)).1,(C.spot n U 3 (by decide)).1,(C.spot n U 4 (by decide)).1,(C.spot n U 5 (by decide)).1,(C.spot n U 6 (by decide)).1⟩
      have A:=gb.out n U;have E:=gk.out n U;generalize P[n]=x at hx z X Z z2 z3 z4 z5 z6 A E;obtain⟨kd,xa,xb,⟨sa,sb,sc,sd⟩⟩:=x;dsimp only at hx A E X Z z2 z3 z4 z5 z6;have HX:=hIx hx;have gg:=hIx A;clear hx A;have gD:w.heap.size+1<wr.heap.size:=zaq hI.cells;obtain⟨⟨x0,x1,x2⟩,y0,y1,y2⟩:=hI.cells.three;have i6:wrap64 (k:Int)=(k:Int):=IntWalk.wrap64_in _ (by omega);have i7:IntKind.i64.wrap ((q:Int)+1)=(q:Int)+1:=Qx _ (by have:=d.out.thm.len;omega);have j4:(n:Int)<(P.length:Int):=by omega
      have hV:k<=8192:=Qn (Nat.le_of_succ_le_succ (Qn (Nat.le_of_eq hk.symm) hX)) (Qn gc hs)
      have h6:Hid (∀w4,n+1<P.length->Below wr.heap.size wr w4->Calls prog 303 #[.pointer (some ⟨w5.heap.size,0,none⟩),.int .i64 ((n:Int)+1),.int .i64 ((t:Int)+1),.int .i64 (k:Int)] w4 (AddW P s (t+1) (n+1) k H lh w5.heap.size I.heap.size (.slice (some ⟨gp,0,none⟩) P.length cp) r w4)):=
       λw4 h1 h2=>hI.call d.out hP hN.out h4 h1 hV h2
      clear l hI C Y hC hk hV
      ·have K:false=true->k<=m:=λe=>by cases e
       have HC:=hIx K;go_upto_region 13 with fail
       go_cut [12,13,47,67]from 47 to 105 (λgj gi gh gq I=>gj=.int .i64 (n:Int)/\gi=.int .i64 (k:Int)/\gh=.int .i64 (q:Int)/\gq=.bool false/\I=wr)
       case first=>
        go_wp2;go_meet;exact⟨rfl,rfl,rfl,rfl,rfl⟩
       case rest=>
        obtain⟨rfl,rfl,rfl,rfl,rfl⟩:=hcut;clear K;have A:=gg.out
        rcases HX.out with ⟨rfl,_⟩|⟨rfl,_⟩|⟨rfl|rfl|rfl,hi⟩|rfl
        ·have a:n=P.length-1->false=true/\m+1<G n:=λe=>absurd (A.2 e) (by decide)
         have b:zcE P s.data.toList t n->false=true/\m+1<G n:=λhb=>by
          obtain⟨y,_,h1,h2,_⟩:=hb;rw[z.out]at h1;injection h1 with h1;subst h1
          dsimp only at h2;omega
         have O:=hIx a;have HB:=hIx b;clear a b A;go_wp2_with fail
         go_region
         go_wp2;exact⟨⟨q+1,r,H,lh,m,u,rfl,by omega,N.out.pass (zaq d.out.cells) HQ.out WaL.drew HB.out O.out⟩,by dsimp only[intOf];omega⟩
        ·have a:n=P.length-1->false=true/\m+1<G n:=λe=>absurd (A.2 e) (by decide)
         have b:zcE P s.data.toList t n->false=true/\m+1<G n:=λhb=>by
          obtain⟨y,_,h1,h2,_⟩:=hb;rw[z.out]at h1;injection h1 with h1;subst h1
          dsimp only at h2;omega
         have O:=hIx a;have HB:=hIx b;clear a b A;go_wp2_with fail
         go_region
         go_wp2;exact⟨⟨q+1,r,H,lh,m,u,rfl,by omega,N.out.pass (zaq d.out.cells) HQ.out WaL.drew HB.out O.out⟩,by dsimp only[intOf];omega⟩
        ·have a:n≠P.length-1:=λe=>absurd (A.2 e) (by decide)
         have O:=hIx a;clear a A
         by_cases hQ:t<s.size
         ·have i9:(t:Int)<(s.size:Int):=by omega
          obtain⟨c,hw⟩:∃c,s[t]=c:=⟨_,rfl⟩
          have hy:Hid (s.data.toList[t]? = some c):=by
           unfold Hid;rw[<-hw,Qc (by simpa using hQ)]
           rfl
          have g1:=HK.out;have J:=λx W=>zsp ⟨sa,sb,sc,sd⟩ x W E
          unfold setV at J;dsimp only at J;have h7:=hIx J;have g9:=hIx hi;clear hi;clear J g1;go_wp2_with fail;have V:=Qp wc (.cells #[.int .i64 1,.int .i64 xa,.int .i64 xb,.int .u64 sa,.int .u64 sb,.int .u64 sc,.int .u64 sd] 235);have hY:Below wc.heap.size wc (wc.alloc (.cells #[.int .i64 1,.int .i64 xa,.int .i64 xb,.int .u64 sa,.int .u64 sb,.int .u64 sc,.int .u64 sd] 235)):=WaL;generalize wc.alloc (.cells #[.int .i64 1,.int .i64 xa,.int .i64 xb,.int .u64 sa,.int .u64 sb,.int .u64 sc,.int .u64 sd] 235)=W at *;have g0:=Qf _ wc.heap.size 0 _ _ _ V;have g3:=Qf _ wc.heap.size 3 _ _ _ V;have g4:=Qf _ wc.heap.size 4 _ _ _ V;have g5:=Qf _ wc.heap.size 5 _ _ _ V;have g6:=Qf _ wc.heap.size 6 _ _ _ V;simp only[Z7,Xe,XQ]at g0 g3 g4 g5 g6;have S:=hIx hY;clear V hY
          go_region_held3 (λw'=>w'.cell? ⟨wc.heap.size,0,none⟩=some (.int .i64 1)/\w'.cell? ⟨wc.heap.size,3,none⟩=some (.int .u64 sa)/\w'.cell? ⟨wc.heap.size,4,none⟩=some (.int .u64 sb)/\w'.cell? ⟨wc.heap.size,5,none⟩=some (.int .u64 sc)/\w'.cell? ⟨wc.heap.size,6,none⟩=some (.int .u64 sd))
           (first|go_keep|(refine⟨zaa D ?_,zaa D ?_,zaa D ?_,zaa D ?_,zaa D ?_⟩ <;> assumption))
           (first|(go_at_call 255;refine(h7.out _ _).mono ?_;rintro e w8 ⟨rfl,D⟩))
          have hJ:Below W.heap.size W w8:=undrew D;have hd:Hid (Below wc.heap.size wc w8):=S.out.trans (hJ.mono S.out.size);clear D hJ g0 g3 g4 g5 g6 S;cases hh:hasB ⟨sa,sb,sc,sd⟩ c with
          |false=>
           have hf:Hid (zcE P s.data.toList t n->false=true/\m+1<G n):=λhb=>by
            obtain⟨y,c',h1,h2,h3,h5⟩:=hb;rw[z.out]at h1;injection h1 with h1;subst h1
            rw[hy.out]at h3;injection h3 with h3;subst h3
            rw[hh]at h5;cases h5
           clear hh;go_wp2;exact⟨⟨q+1,r,H,lh,m,u,rfl,by omega,N.out.pass (zaq d.out.cells) HQ.out hd.out hf.out (λe=>absurd e O.out)⟩,by dsimp only[intOf];omega⟩
          |true=>
           have hZ:Hid (zcE P s.data.toList t n):=⟨_,c,z.out,rfl,hy.out,hh⟩
           clear hh m0 m1 m2 m3 m4 he hp X Z z2 z3 z4 z5 z6 x0 x1 x2 y0 y1 y2 hw i9 hS hv Q i6 E h7;go_wp2_with fail;refine(h6.out _ (g9.out) hd.out).mono ?_;rintro e w9 ⟨H',gy,gx,rfl,hT,hA,_,hK⟩;have hc:=hIx (N.out.push d.out HQ.out hZ.out O.out HK.out hd.out hT hA hK);clear hT hA hK h6;go_wp2;exact⟨⟨q+1,gx,H',gy,m,u,rfl,by omega,hc.out⟩,by dsimp only[intOf];omega⟩
         ·have hf:Hid (zcE P s.data.toList t n->false=true/\m+1<G n):=λhb=>by
           obtain⟨y,_,h1,h2,h3,_⟩:=hb;exact absurd h3 (by rw[List.getElem?_eq_none (by simpa using hQ)];intro e;cases e)
          have i9:decide ((t:Int)<(s.size:Int))=false:=by simp;omega
          go_wp2_with fail
          go_region
          go_wp2;exact⟨⟨q+1,r,H,lh,m,u,rfl,by omega,N.out.pass (zaq d.out.cells) HQ.out WaL.drew hf.out (λe=>absurd e O.out)⟩,by dsimp only[intOf];omega⟩
        ·have a:n=P.length-1->false=true/\m+1<G n:=λe=>absurd (A.2 e) (by decide)
         have b:zcE P s.data.toList t n->false=true/\m+1<G n:=λhb=>by
          obtain⟨y,_,h1,h2,_⟩:=hb;rw[z.out]at h1;injection h1 with h1;subst h1
          dsimp only at h2;omega
         have O:=hIx a;have HB:=hIx b;clear a b A;go_wp2_with fail
         go_region
         go_wp2;exact⟨⟨q+1,r,H,lh,m,u,rfl,by omega,N.out.pass (zaq d.out.cells) HQ.out WaL.drew HB.out O.out⟩,by dsimp only[intOf];omega⟩
        ·have a:n=P.length-1->false=true/\m+1<G n:=λe=>absurd (A.2 e) (by decide)
         have b:zcE P s.data.toList t n->false=true/\m+1<G n:=λhb=>by
          obtain⟨y,_,h1,h2,_⟩:=hb;rw[z.out]at h1;injection h1 with h1;subst h1
          dsimp only at h2;omega
         have O:=hIx a;have HB:=hIx b;clear a b A;go_wp2_with fail
         go_region
         go_wp2;exact⟨⟨q+1,r,H,lh,m,u,rfl,by omega,N.out.pass (zaq d.out.cells) HQ.out WaL.drew HB.out O.out⟩,by dsimp only[intOf];omega⟩
        ·have hu:n=P.length-1:=A.1 rfl
         have O:=hIx hu
         have b:¬zcE P s.data.toList t n:=λhb=>by
          obtain⟨y,_,h1,h2,_⟩:=hb;rw[z.out]at h1;injection h1 with h1;subst h1
          dsimp only at h2;omega
         have HB:=hIx b;clear b A hu;have gw:=hD;have hO:Hid (BestB wc (w.heap.size+1) m u false):=N.out.cells;have hL:Hid (BestB wc w.heap.size 0 0 false):=(N.out.keep _ (by have:=zaq d.out.cells;omega) (by omega)).trans d.out.res;have S:=hIx N.out.below;go_upto_region 18 with fail
         have HT:=zql hO.out k t (.cells #[.int .i64 6,.int .i64 xa,.int .i64 xb,.int .u64 sa,.int .u64 sb,.int .u64 sc,.int .u64 sd] 235);obtain⟨W,h9⟩:∃W:World,(((wc.setCell ⟨w.heap.size+1,0,none⟩ (.int .i64 (k:Int))).setCell ⟨w.heap.size+1,1,none⟩ (.int .i64 (t:Int))).setCell ⟨w.heap.size+1,2,none⟩ (.bool true)).alloc (.cells #[.int .i64 6,.int .i64 xa,.int .i64 xb,.int .u64 sa,.int .u64 sb,.int .u64 sc,.int .u64 sd] 235)=W:=⟨_,rfl⟩
         rw[h9]at HT ⊢;have gd:BestB W (w.heap.size+1) k t true:=HT.1;have hF:BestB W w.heap.size 0 0 false:=(HT.2.1 _ (by omega) (by omega)).trans hL.out
         have ga:Below w.heap.size w W:=by
          rw[<-h9];exact(((S.out.setCell (p:=⟨w.heap.size+1,0,none⟩) (Zg _) _).setCell (p:=⟨w.heap.size+1,1,none⟩) (Zg _) _).setCell (p:=⟨w.heap.size+1,2,none⟩) (Zg _) _).alloc (by simp;omega) _
         have hU:Hid (zji P s.data.toList s.size):=⟨k,t,by omega,O.out ▸ gw.out⟩
         clear HT h9 m0 m1 m2 m3 m4 he hp X Z z2 z3 z4 z5 z6 x0 x1 x2 y0 y1 y2 hO hL S;obtain⟨⟨x0,x1,x2⟩,y0,y1,y2⟩:=gd.three;obtain⟨⟨X,Z,z2⟩,v0,v1,v2⟩:=hF.three;go_wp2_with fail;have V:=((ga.setCell (p:=⟨w.heap.size,0,none⟩) (Qd _) (.int .i64 (k:Int))).setCell (p:=⟨w.heap.size,1,none⟩) (Qd _) (.int .i64 (t:Int))).setCell (p:=⟨w.heap.size,2,none⟩) (Qd _) (.bool true);have hE:BestB _ w.heap.size k t true:=hF.setAll;generalize (((W.setCell ⟨w.heap.size,0,none⟩ (.int .i64 (k:Int))).setCell ⟨w.heap.size,1,none⟩ (.int .i64 (t:Int))).setCell ⟨w.heap.size,2,none⟩ (.bool true))=WF at *;obtain⟨⟨X,Z,z2⟩,_⟩:=hE.three;exact Qj (v:=.agg #[.int .i64 (k:Int),.int .i64 (t:Int),.bool true]) (by simp[results,results281,go_sem,X,Z,z2]) rfl ⟨true,k,t,rfl,⟨λ_=>hU.out,λ_=>rfl⟩,V⟩
     ·have d2:decide ((q:Int)<(L.length:Int))=false:=by simp;omega
      obtain rfl:q=L.length:=by omega
      have hz:IntKind.i64.wrap ((t:Int)+1)=(t:Int)+1:=Qx _ (by omega);have gf:=N.out.stop d.out hP;clear l hI N d;go_wp2;exact⟨⟨t+1,w5.heap.size,I.heap.size,r,H,lh,m,u,rfl,by omega,rfl,gf⟩,by dsimp only[intOf];omega⟩
  ·obtain rfl:t=s.size+1:=by omega
   have d1:decide (((s.size+1:Nat):Int)<=(s.size:Int))=false:=by simp;omega
   go_wp2_with fail;have V:=((T.below.setCell (p:=⟨w.heap.size,0,none⟩) (Qd _) (.int .i64 (f:Int))).setCell (p:=⟨w.heap.size,1,none⟩) (Qd _) (.int .i64 (tu:Int))).setCell (p:=⟨w.heap.size,2,none⟩) (Qd _) (.bool false);have hE:BestB _ w.heap.size f tu false:=T.res.setAll;generalize (((wr.setCell ⟨w.heap.size,0,none⟩ (.int .i64 (f:Int))).setCell ⟨w.heap.size,1,none⟩ (.int .i64 (tu:Int))).setCell ⟨w.heap.size,2,none⟩ (.bool false))=WF at *;obtain⟨⟨X,Z,z2⟩,_⟩:=hE.three;exact Qj (v:=.agg #[.int .i64 (f:Int),.int .i64 (tu:Int),.bool false]) (by simp[results,results281,go_sem,X,Z,z2]) rfl ⟨false,f,tu,rfl,⟨λe=>(by cases e),λ⟨i,j,h1,h2⟩=>absurd h2 ((T.best.2 rfl).1 i j h1)⟩,V⟩
