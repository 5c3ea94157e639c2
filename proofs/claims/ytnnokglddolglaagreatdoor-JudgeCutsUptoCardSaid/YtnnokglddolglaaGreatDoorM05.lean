/- Lemmas for the last texts. -/
import Derived.Test.YtnnokglddolglaaGreatDoorM04
import Derived.Deep.CutRange
set_option maxHeartbeats 1600000
set_option maxRecDepth 100000
namespace Go.Proofs.YtnnokglddolglaaGreatDoor
open Go.RowKit Go.Proofs.Tryz
theorem ThM.fresh{w:World}{b:Nat}{c:Value}{s:ByteArray}{a n:Nat}(hb:ThB w b c s a n (jD 0 0))(d:FromN w a n (λ_=>0)):ThM w b c s a n (jD 0 0) (λ_=>0) []:=
 ⟨hb,d,OwnNT.nil w,by simp[Value.ownBlock],by have:=zoH n (λ_=>0);simpa using this⟩
theorem ThM.keep{w w':World}{b:Nat}{e:Value}{s:ByteArray}{a n:Nat}{c:Value}{G:Nat->Nat}{d:List Nat}(h:ThM w b e s a n c G d)(h1:w'.heap[b]? = w.heap[b]?)(h2:w'.heap[a]? = w.heap[a]?)(f:∀g,c.ownBlock=some g->w'.heap[g]? = w.heap[g]?):ThM w' b e s a n c G d:=
 ⟨h.blk.keep h1,h.frm.keep h2,h.lst.keep f,h.far,h.len⟩
theorem FromN.made{w:World}{g n:Nat}(h:w.ownsRow w.heap.size 3 1 (.slice g n n) n (List.replicate n (jA 0))\/w.ownsRow 0 3 1 (.slice g n n) n (List.replicate n (jA 0))):FromN w g n (λ_=>0):=by
 have c:∀base,w.ownsRow base 3 1 (.slice g n n) n (List.replicate n (jA 0))->FromN w g n (λ_=>0):=λbase h=>by
  rcases h.2 with ⟨h1,_⟩|⟨l,cap,d,h1,_,k,_,_,j,f⟩
  ·cases h1
  ·injection h1 with h1 _ h2
   injection h1 with h1
   injection h1 with h1
   subst h1;subst h2
   unfold FromN;rw[k]
   have e:d.toList=(List.range n).map λ_=>natV 0:=by
    rw[Nat.mul_one]at j f;rw[QF (by rw[Zy];omega)]at f;rw[f]
    apply List.ext_getElem (by simp)
    intro i a b;simp[natV]
   rw[<-e]
 exact h.elim (c _) (c _)
section
variable {ops:Array Oper} {rest:List Oper} {o:Oper} {a:Act} {Q:Exit->Act->World->Prop} {w:World}
theorem zfA(b:o.guard=none)(x y:Operand)(d:o.op=.makeSlice 31 x y)(n g:Nat)(j:w.heap.size=g)(q:a.eval x=jA (n:Int))(m:a.eval y=jA (n:Int))(r:n<=1048576)
 (k:∀w',FromN w' g n (λ_=>0)->w w'->g<w'.heap.size->wpList prog ops Q rest (a.put o.dst (.slice g n n)) w'):
 wpList prog ops Q (o::rest) a w:=by
 subst j;obtain⟨l,p,c,f,h⟩:=ZG zml;refine wpList_make_full w b x y 31 d 0 3 l (jA 0) 1 underlying31 p c f .i64 .i64 _ _ n q m rfl rfl (by rw[h];omega) (by unfold maxLen;omega) (Qm _) λw' h1 h2=>?_
 rw[Nat.mul_one]at h1;have e:(madeCells (jA 0).cells n).toList=List.replicate n (jA 0):=toList_madeCells_one (jA 0) n;rw[e]at h1;have i:=FromN.made (.inr h1);exact k w' i (zqf h2) (zaz i)
end
theorem ztk{P:List Ins}{sl:jE}{t f:Nat}{F:Nat->Nat}{c:List Nat}{G:Nat->Nat}{d:List Nat}(g:zpx P sl t F false f)(b:Thr P sl t F c)(e:∀m,F m<=t)(a:AddPost P sl t 0 t F c G d):
 Comp P sl t G false f/\Thr P sl t G d/\∀m,G m<=t+1:=
 have h1:∀m,F m<=t+1:=λm=>XU (e m)
 ⟨zpH g b h1 a,a.thr b h1 (R.start t),a.le h1⟩
def BestB(w:World)(g:Nat)(f a:Nat)(found:Bool):Prop:=w.heap[g]? = some (.cells #[jA (f:Int),jA (a:Int),.bool found] 351 (0,0))
structure RunR(P:List Ins)(s:ByteArray)(pv:Value)(w:World)(t:Nat)(wr:World)(gt gF:Nat)(vl:Value)(F:Nat->Nat)(ls:List Nat)(found:Bool)(f tq:Nat):Prop where
 thm:ThM wr gt pv s gF P.length vl F ls
 thr:Thr P s.data.toList t F ls
 clt:zpx P s.data.toList t F found f
 max:∀m,F m<=t
 best:zn2 P s.data.toList (P.length-1) (λj=>j<t) found f tq
 cells:BestB wr (w.heap.size+1) f tq found
 res:BestB wr w.heap.size 0 0 false
 prg:OwnP wr 0 pv P
 low:w.heap.size+1<gt/\w.heap.size+1<gF/\∀g,vl.ownBlock=some g->w.heap.size+1<g
 below:w wr
theorem BestB.setAll{w:World}{g a b f d:Nat}{c found:Bool}(h:BestB w g a b c):BestB (((w.setCell g (jA (f:Int))).setCell ⟨g,1,none⟩ (jA (d:Int))).setCell ⟨g,2,none⟩ (.bool found)) g f d found:=
 Q3 _ g 2 _ _ _ (Q3 _ g 1 _ _ _ (Q3 w g 0 _ _ _ h))
theorem BestB.three{w:World}{g f a:Nat}{found:Bool}(h:BestB w g f a found):(w.cell? g=some (jA (f:Int))/\w.cell? ⟨g,1,none⟩=some (jA (a:Int))/\w.cell? ⟨g,2,none⟩=some (.bool found))/\w.frozen? ⟨g,0,none⟩=false/\w.frozen? ⟨g,1,none⟩=false/\w.frozen? ⟨g,2,none⟩=false:=
 ⟨⟨Qf w g 0 _ _ _ h,Qf w g 1 _ _ _ h,Qf w g 2 _ _ _ h⟩,Z4 w g 0 _ _ h,Z4 w g 1 _ _ h,Z4 w g 2 _ _ h⟩
theorem Path.lt{P:List Ins}{s:jE}(a:OkP P){N j L n i:Nat}(h:Path P s N j L n i):n<P.length->N<P.length:=by
 have at_:∀m x,P[m]? = some x->∃h:m<P.length,P[m]=x:=λm x h=>Qw.1 h
 induction h with
 |here=>exact λh=>h
 |eps _ n m i f _ ih=>
  intro e;refine ih ?_;cases f with
  |one x h1 h2=>obtain⟨d,b⟩:=at_ _ _ h1;have:=a n d;rw[b]at this;omega
  |two x h1 h2=>obtain⟨d,b⟩:=at_ _ _ h1;have:=a n d;rw[b]at this;omega
  |jump x h1 h2=>obtain⟨d,b⟩:=at_ _ _ h1;have:=a n d;rw[b]at this;omega
  |begin x h1 h2=>obtain⟨d,b⟩:=at_ _ _ h1;have:=a n d;rw[b]at this;omega
  |finish x h1 h2=>obtain⟨d,b⟩:=at_ _ _ h1;have:=a n d;rw[b]at this;omega
 |byte _ n i hb _ ih=>
  intro e;refine ih ?_;obtain⟨x,c,h1,h2,_⟩:=hb;obtain⟨d,b⟩:=at_ _ _ h1;have:=a n d;rw[b]at this;omega
theorem Thr.lt{P:List Ins}{s:jE}(a:OkP P)(d:0<P.length){t:Nat}{F:Nat->Nat}{e:List Nat}(h:Thr P s t F e){n:Nat}(c:F n≠0):n<P.length:=by
 obtain⟨k,_,L,b⟩:=h.real n c;exact b.lt a d
structure MidR(P:List Ins)(s:ByteArray)(pv:Value)(w:World)(t:Nat)(wx:World)(gt gF:Nat)(vl:Value)(G:Nat->Nat)(lg:List Nat)(found:Bool)(f tq:Nat):Prop where
 thm:ThM wx gt pv s gF P.length vl G lg
 thr:Thr P s.data.toList t G lg
 cmp:Comp P s.data.toList t G found f
 max:∀m,G m<=t+1
 best:zn2 P s.data.toList (P.length-1) (λj=>j<t) found f tq
 cells:BestB wx (w.heap.size+1) f tq found
 res:BestB wx w.heap.size 0 0 false
 prg:OwnP wx 0 pv P
 low:w.heap.size+1<gt/\w.heap.size+1<gF/\∀g,vl.ownBlock=some g->w.heap.size+1<g
 below:w wx
section
variable {P:List Ins} {s:ByteArray} {pv:Value} {w:World} {t:Nat}
theorem RunR.added{wr w2:World}{c d:Nat}{n a:Value}{F G:Nat->Nat}{j i:List Nat}{f m:Nat}(h:RunR P s pv w t wr c d n F j false f m)(q:ThM w2 c pv s d P.length a G i)
 (r:AddPost P s.data.toList t 0 t F j G i) (v:OwnP w2 0 pv P) (b:Kept wr w2 c d n a):MidR P s pv w t w2 c d a G i false f m:=by
 obtain⟨h1,h2,u⟩:=ztk h.clt h.thr h.max r;obtain⟨x,y,l⟩:=h.low;have z:w.heap.size+1<wr.heap.size:=zaz h.cells;have keep:∀k,k<w.heap.size+1+1->w2.heap[k]? = wr.heap[k]? := λk p=>b.blocks k (by omega) (by omega) (by omega) λe=>by have:=l k e;omega
 refine⟨q,h2,h1,u,h.best,(keep _ (by omega)).trans h.cells,(keep _ (by omega)).trans h.res,v,⟨x,y,λg o=>?_⟩,?_⟩
 ·rcases b.own g o with e|e
  ·exact l g e
  ·omega
 ·exact h.below.trans ⟨b.below.os,b.below.tape,b.below.output,b.below.size,λk p=>keep k (by omega)⟩
structure InRT(P:List Ins)(s:ByteArray)(pv:Value)(w:World)(t:Nat)(wx:World)(G:Nat->Nat)(lg:List Nat)(found:Bool)(f:Nat)(q:Nat)(wr:World)(gt gF:Nat)(vl:Value)(H:Nat->Nat)(lh:List Nat)(found1:Bool)(f1 to1:Nat):Prop where
 thm:ThM wr gt pv s gF P.length vl H lh
 thr:Thr P s.data.toList (t+1) H lh
 far:wx.heap.size<=gt/\wx.heap.size<=gF/\∀g,vl.ownBlock=some g->wx.heap.size<=g
 keep:∀k,k<wx.heap.size->k≠w.heap.size+1->wr.heap[k]? = wx.heap[k]?
 below:w wr
 size:wx.heap.size<=wr.heap.size
 cells:BestB wr (w.heap.size+1) f1 to1 found1
 max:∀m,H m<=t+1
 sort:∀r n,lg[r]? = some n->q<=r->∀m,H m<=G n
 done:∀r n,lg[r]? = some n->r<q->zcB P s.data.toList t n->(found1=true->G n<=f1+1)->H (n+1)≠0/\H (n+1)<=G n
 old:found=true->found1=true/\f1<=f
 best:(zn2 P s.data.toList (P.length-1) (λj=>j<t) found1 f1 to1/\∀r n,lg[r]? = some n->r<q->n=P.length-1->found1=true/\f1+1<G n)\/
  (zn2 P s.data.toList (P.length-1) (λj=>j<t+1) true f1 t/\found1=true/\to1=t/\G (P.length-1)=f1+1)
section
variable {wx:World} {gt gF:Nat} {vl:Value} {G:Nat->Nat} {lg:List Nat} {found:Bool} {f tq:Nat}
theorem MidR.start(h:MidR P s pv w t wx gt gF vl G lg found f tq){i:World}{b a:Nat}(l:ThM i b pv s a P.length (jD 0 0) (λ_=>0) [])(c:wx i)(h1:wx.heap.size<=b)(h2:wx.heap.size<=a):
 InRT P s pv w t wx G lg found f 0 i b a (jD 0 0) (λ_=>0) [] found f tq:=
 ⟨l,Thr.zero _,⟨h1,h2,λg m=>by cases m⟩,λk j _=>c.block k j,h.below.trans (c.mono h.below.size),c.size,(c.block _ (zaz h.cells)).trans h.cells,λ_=>Qm _,λ_ _ _ _ _=>Qm _,λr n _ d=>absurd d (by omega),λe=>⟨e,Qc _⟩,.inl ⟨h.best,λr n _ d=>absurd d (by omega)⟩⟩
section
variable {wr:World} {q gt2 gF2:Nat} {vl2:Value} {H:Nat->Nat} {lh:List Nat} {found1:Bool} {f1 to1:Nat}
theorem InRT.now(h:InRT P s pv w t wx G lg found f q wr gt2 gF2 vl2 H lh found1 f1 to1)(hM:MidR P s pv w t wx gt gF vl G lg found f tq):ThM wr gt pv s gF P.length vl G lg:=by
 obtain⟨e,i,d⟩:=hM.low;have a:gt<wx.heap.size:=by obtain⟨_,hb⟩:=hM.thm.blk;exact zaz hb
 have b:gF<wx.heap.size:=zaz hM.thm.frm;exact hM.thm.keep (h.keep _ a (by omega)) (h.keep _ b (by omega)) λg c=>h.keep _ (hM.thm.lst.lt g c) (by have:=d g c;omega)
theorem InRT.prg(h:InRT P s pv w t wx G lg found f q wr gt2 gF2 vl2 H lh found1 f1 to1)(hM:MidR P s pv w t wx gt gF vl G lg found f tq)(b:OwnP w 0 pv P):OwnP wr 0 pv P:=
 hM.prg.keep λg a=>h.keep g (QK hM.prg g a).2 (by have:=(QK b g a).2;omega)
theorem InRT.stop(h:InRT P s pv w t wx G lg found f lg.length wr gt2 gF2 vl2 H lh found1 f1 to1)(hM:MidR P s pv w t wx gt gF vl G lg found f tq)(l:OwnP w 0 pv P):RunR P s pv w (t+1) wr gt2 gF2 vl2 H lh found1 f1 to1:=by
 have o:w.heap.size+1<wx.heap.size:=zaz hM.cells
 have b:∀n,G n≠0->∃r,r<lg.length/\lg[r]? = some n:=λn c=>by
  obtain⟨r,a,e⟩:=Xk ((hM.thr.mem n).2 c);exact⟨r,a,by rw[<-e];exact Qd a⟩
 obtain⟨p,q,i⟩:=h.far;refine⟨h.thm,h.thr,zsV hM.cmp h.old h.thr λn c hb j=>?_,h.max,?_,h.cells,(h.keep _ (by omega) (by omega)).trans hM.res,h.prg hM l,⟨by omega,by omega,λg d=>by have:=i g d;omega⟩,h.below⟩
 ·obtain⟨r,a,e⟩:=b n c
  exact h.done r n e a hb j
 ·rcases h.best with ⟨h1,h2⟩|⟨h1,h2,k,m⟩
  ·exact zsx h1 hM.cmp h.old λc=>by
    obtain⟨r,a,e⟩:=b _ c;exact h2 r _ e a rfl
  ·rw[h2,k];exact h1
theorem InRT.pass(h:InRT P s pv w t wx G lg found f q wr gt2 gF2 vl2 H lh found1 f1 to1)(B:w.heap.size+1<wx.heap.size){n:Nat}(m:lg[q]? = some n){d:World}(a:wr d)
 (hb:zcB P s.data.toList t n->found1=true/\f1+1<G n) (y:n=P.length-1->found1=true/\f1+1<G n):InRT P s pv w t wx G lg found f (q+1) d gt2 gF2 vl2 H lh found1 f1 to1:=by
 have C:=h.size;have j:gt2<wr.heap.size:=by obtain⟨_,hb⟩:=h.thm.blk;exact zaz hb
 have l:gF2<wr.heap.size:=zaz h.thm.frm;refine⟨h.thm.keep (a.block _ j) (a.block _ l) λg v=>a.block _ (h.thm.lst.lt g v),h.thr,h.far,λk x e=>(a.block k (by omega)).trans (h.keep k x e),h.below.trans (a.mono h.below.size),Ql h.size a.size,(a.block _ (by omega)).trans h.cells,h.max,λr b e p=>h.sort r b e (by omega),λr b e p i o=>?_,h.old,?_⟩
 ·by_cases c:r<q
  ·exact h.done r b e c i o
  ·obtain rfl:r=q:=by omega
   rw[m]at e;injection e with e;subst e
   obtain⟨z,A⟩:=hb i;have:=o z;omega
 ·rcases h.best with ⟨h1,h2⟩|h1
  ·refine .inl ⟨h1,λr b e p u=>?_⟩
   by_cases c:r<q
   ·exact h2 r b e c u
   ·obtain rfl:r=q:=by omega
    rw[m]at e;injection e with e;subst e
    exact y u
  ·exact .inr h1
theorem InRT.push(h:InRT P s pv w t wx G lg found f q wr gt2 gF2 vl2 H lh found1 f1 to1)(hM:MidR P s pv w t wx gt gF vl G lg found f tq){n k:Nat}(u:lg[q]? = some n)(hb:zcB P s.data.toList t n)(T:n≠P.length-1)(S:G n=k+1)
 {B y:World} (o:wr B) {i:Value} {A:Nat->Nat} {l:List Nat} (I:ThM y gt2 pv s gF2 P.length i A l) (v:AddPost P s.data.toList (t+1) (n+1) k H lh A l) (d:Kept B y gt2 gF2 vl2 i):
 InRT P s pv w t wx G lg found f (q+1) y gt2 gF2 i A l found1 f1 to1:=by
 have X:=h.size;have N:w.heap.size+1<wx.heap.size:=zaz hM.cells;obtain⟨U,V,C⟩:=h.far;have J:=o.size;have keep:∀j,j<wx.heap.size->y.heap[j]? = wr.heap[j]? := λj x=>(d.blocks j (by omega) (by omega) (by omega) λe=>by have:=C j e;omega).trans (o.block j (by omega))
 have b:∀m,H m<=k+1:=λm=>by rw[<-S];exact h.sort q n u (Qc _) m
 obtain⟨K,Y,L⟩:=hM.thr.real n (by omega);obtain rfl:K=k:=by omega
 have W:=hM.max n;have a:=v.le b;have Q:=h.below.size;refine⟨I,v.thr h.thr b (L.byte hb),⟨U,V,λg F=>?_⟩,λj x e=>(keep j x).trans (h.keep j x e),?_,by have:=d.below.size;omega,(keep _ N).trans h.cells,λm=>by have:=a m;omega,λr p e D m=>?_,λr p e D z O=>?_,h.old,?_⟩
 ·rcases d.own g F with e|e
  ·exact C g e
  ·omega
 ·exact h.below.trans ⟨d.below.os.trans o.os,d.below.tape.trans o.tape,d.below.output.trans o.output,Ql o.size d.below.size,λj x=>keep j (by omega)⟩
 ·have h1:G n<=G p:=by
   obtain⟨c1,c2⟩:=Qw.1 u;obtain⟨c3,c4⟩:=Qw.1 e;have:=List.pairwise_iff_getElem.1 hM.thr.sorted q r c1 c3 (by omega);rw[c2,c4]at this;exact this
  have:=a m;omega
 ·by_cases c:r<q
  ·have h1:=h.done r p e c z O
   rw[v.keep _ h1.1];exact h1
  ·obtain rfl:r=q:=by omega
   rw[u]at e;injection e with e;subst e
   exact⟨v.at_,by have:=a (n+1);omega⟩
 ·rcases h.best with ⟨h1,h2⟩|h1
  ·refine .inl ⟨h1,λr p e D E=>?_⟩
   by_cases c:r<q
   ·exact h2 r p e c E
   ·obtain rfl:r=q:=by omega
    rw[u]at e;injection e with e;subst e
    exact absurd E T
  ·exact .inr h1
end
end
end
theorem zpP{wc:World}{g f d:Nat}{a:Bool}(h:BestB wc g f d a)(k t:Nat)(o:Obj):
 BestB ((((wc.setCell g (jA (k:Int))).setCell ⟨g,1,none⟩ (jA (t:Int))).setCell ⟨g,2,none⟩ (.bool true)).alloc o).drew g k t true/\
 (∀j,j<wc.heap.size->j≠g->((((wc.setCell g (jA (k:Int))).setCell ⟨g,1,none⟩ (jA (t:Int))).setCell ⟨g,2,none⟩ (.bool true)).alloc o).drew.heap[j]? = wc.heap[j]?)/\
 ∀B,B<=g->B<=wc.heap.size->Below B wc ((((wc.setCell g (jA (k:Int))).setCell ⟨g,1,none⟩ (jA (t:Int))).setCell ⟨g,2,none⟩ (.bool true)).alloc o).drew:=by
 have q:=zaz h;have h1:BestB _ g k t true:=h.setAll
 have h2:∀j,j≠g->(((wc.setCell g (jA (k:Int))).setCell ⟨g,1,none⟩ (jA (t:Int))).setCell ⟨g,2,none⟩ (.bool true)).heap[j]? = wc.heap[j]? := λj b=>
  (Qk _ ⟨g,2,none⟩ _ j b).trans ((Qk _ ⟨g,1,none⟩ _ j b).trans (Qk _ ⟨g,0,none⟩ _ j b))
 have m:∀B,B<=g->Below B wc (((wc.setCell g (jA (k:Int))).setCell ⟨g,1,none⟩ (jA (t:Int))).setCell ⟨g,2,none⟩ (.bool true)):=λB e=>(((Qj _ _).setCell (p:=⟨g,0,none⟩) e _).setCell (p:=⟨g,1,none⟩) e _).setCell (p:=⟨g,2,none⟩) e _
 have l:(((wc.setCell g (jA (k:Int))).setCell ⟨g,1,none⟩ (jA (t:Int))).setCell ⟨g,2,none⟩ (.bool true)).heap.size=wc.heap.size:=by simp
 generalize (((wc.setCell g (jA (k:Int))).setCell ⟨g,1,none⟩ (jA (t:Int))).setCell ⟨g,2,none⟩ (.bool true))=W at *;exact⟨(Qr W o g (by omega)).trans h1,λj b c=>(Qr W o j (by omega)).trans (h2 j c),λB i n=>((m B i).alloc (by omega) o).drew⟩
theorem InRT.call{P:List Ins}{s:ByteArray}{e:Value}{w:World}{t:Nat}{x:World}{E F:Nat}{D:Value}{G:Nat->Nat}{v:List Nat}{found:Bool}{f z:Nat}{wr:World}{q a b:Nat}{d:Value}{H:Nat->Nat}{p:List Nat}{c:Bool}{B r:Nat}
 (h:InRT P s e w t x G v found f q wr a b d H p c B r) (hM:MidR P s e w t x E F D G v found f z) (J:OwnP w 0 e P) (u:OkP P) (C:P.length<=400) {n k:Nat} (I:n+1<P.length) (A:k<=8192) {j:World} (i:wr j):
 Calls prog 303 #[.pointer a,jA ((n:Int)+1),jA ((t:Int)+1),jA (k:Int)] j (AddW P s (t+1) (n+1) k H p a b e d j):=by
 have m:a<wr.heap.size:=by obtain⟨_,hb⟩:=h.thm.blk;exact zaz hb
 have o:b<wr.heap.size:=zaz h.thm.frm;have y:=h.prg hM J;have K:=i.size;exact ztG P u C s (t+1) (n+1) k I A H p a b e d j (h.thm.keep (i.block _ m) (i.block _ o) λg l=>i.block _ (h.thm.lst.lt g l)) (y.keep λg l=>i.block g (QK y g l).2) (by omega) (by omega)
mutual
theorem zsZ:∀(t:Tree) (a n:Int),n<=80->n<=(chk t a n).1/\(chk t a n).1<=81/\((chk t a n).2=0->(chk t a n).1<=80)
 |.node k s b,a,n,h=>by
  rw[chk]
  by_cases c1:80<n+1
  ·rw[Qg c1];exact⟨by show n<=n+1;omega,by show n+1<=81;omega,λe=>absurd (show (2:Int)=0 from e) (by decide)⟩
  ·rw[Qe c1]
   by_cases c2:20<a
   ·rw[Qg c2];exact⟨by show n<=n+1;omega,by show n+1<=81;omega,λe=>absurd (show (11:Int)=0 from e) (by decide)⟩
   ·rw[Qe c2]
    by_cases c3:badT k s b.length=true
    ·rw[Qg c3];exact⟨by show n<=n+1;omega,by show n+1<=81;omega,λe=>absurd (show (1:Int)=0 from e) (by decide)⟩
    ·rw[Qe c3]
     have:=zpg b (a+1) (n+1) (by omega);exact⟨by omega,this.2⟩
theorem zpg:∀(b:List Tree) (a n:Int),n<=80->n<=(chkL b a n).1/\(chkL b a n).1<=81/\((chkL b a n).2=0->(chkL b a n).1<=80)
 | [],a,n,h=>by rw[chkL];exact⟨ZD _,by show n<=81;omega,λ_=>h⟩
 |t::b,a,n,h=>by
  rw[chkL];have h1:=zsZ t a n h
  by_cases c:(chk t a n).2≠0
  ·rw[Qg c];exact h1
  ·rw[Qe c]
   have h2:=zpg b a _ (h1.2.2 (Z2.1 c));exact⟨by omega,h2.2⟩
end
theorem ztC(b:List Tree)(i:Nat)(h:i<b.length)(a n:Int):chkL (b.drop i) a n=if (chk b[i] a n).2≠0 then chk b[i] a n else chkL (b.drop (i+1)) a (chk b[i] a n).1:=by
 rw[Zb h,chkL]
theorem zuo(k:Int)(s:Set4)(b:List Tree)(a n:Int):chk (.node k s b) a n=
 if 80<n+1 then (n+1,2)else if 20<a then (n+1,11)else if badT k s b.length=true then (n+1,1)else chkL b (a+1) (n+1):=by rw[chk]
def Cnt(w:World)(g:Nat)(n:Int):Prop:=w.heap[g]? = some (.cells #[jA n] 3 (0,0))
theorem Cnt.cell{w:World}{g:Nat}{n:Int}(h:Cnt w g n):w.cell? g=some (jA n):=Qf w g 0 _ _ (0,0) h
theorem Cnt.free{w:World}{g:Nat}{n:Int}(h:Cnt w g n):w.frozen? ⟨g,0,none⟩=false:=by unfold Cnt at h;simp[World.frozen?, h]
theorem Cnt.lt{w:World}{g:Nat}{n:Int}(h:Cnt w g n):g<w.heap.size:=by
 rcases ZI g w.heap.size with b|a
 ·exact b
 ·unfold Cnt at h;rw[ZZ a]at h;cases h
theorem Cnt.set{w:World}{g:Nat}{n:Int}(h:Cnt w g n)(m:Int):Cnt (w.setCell g (jA m)) g m:=by unfold Cnt at h ⊢;simp[World.setCell,Q4,h]
theorem Cnt.alloc{w:World}{g:Nat}{n:Int}(h:Cnt w g n)(o:Obj):Cnt (w.alloc o) g n:=(Qr w o g h.lt).trans h
theorem Cnt.drewN{w:World}{g:Nat}{n:Int}(h:Cnt w g n)(q:Nat):Cnt (w.drewN q) g n:=h
theorem zez{a w:World}{row:Option Nat}(h:a.grownBy w row)(o:Obj):a.grownBy (w.alloc o) row:=
 zjq h ((Qj _ _).alloc (Qc _) o)
theorem LT.only{w w':World}{g:Nat}{t:Tree}{cs:List Value}(h:LT w g t cs)(hb:w.grownBy w' (some g))(c:g<w.heap.size):LT w' g t cs:=
 LT.keep (Qc _) (λb o a=>World.cell?_of_block (hb.block b (by omega) (λe=>by injection e with e;omega))) t cs h
theorem LK.only{w w':World}{g:Nat}{a:List Tree}{A:Option Addr}(h:LK w g a A)(hb:w.grownBy w' (some g))(d:g<w.heap.size):LK w' g a A:=
 LK.keep (Qc _) (λb o c=>World.cell?_of_block (hb.block b (by omega) (λe=>by injection e with e;omega))) a A h
def zhr(g:Nat)(r:Int × Int)(w:World)(e:Ending)(w':World):Prop:=e=jC (jA r.2)/\Cnt w' g r.1/\w.grownBy w' (some g)
def zrK(t:Tree):Prop:=∀(cs:List Value) (w:World) (g:Nat) (a n:Int),LT w g t cs->Cnt w g n->0<=n->n<=80->1<=a->a<=21->
 Calls prog 177 #[.agg cs.toArray,jA a,.pointer g] w (zhr g (chk t a n) w)
def zzZ(g:Nat)(w c:World)(b:List Tree)(a n:Int)(i:Value)(wr:World):Prop:=
 ∃(k:Nat) (m:Int),k<=b.length/\i=jA k/\0<=m/\m<=80/\Hid (chkL (b.drop k) a m=chkL b a n)/\Cnt wr g m/\c.grownBy wr (some g)/\w.grownBy wr (some g)
theorem zqc(k:Int)(s:Set4)(q:List Tree)(ih:∀i (h:i<q.length),zrK q[i]):zrK (.node k s q):=by
 intro cs w g f n z U h0 h1 d0 d1;rw[LT]at z;obtain⟨A,c,rfl,hs,hk⟩:=z;have IH:=hIx ih;have HR:=hIx (zuo k s q f n);have ha:=U.cell;have hc:=U.free;have h6:=U.lt;have x:∀W,_:=λW=>zio s Set4.zero W
 unfold setV Set4.zero at x;dsimp only at x;obtain⟨F,J,I,E⟩:=s;unfold zan;dsimp only at x ⊢;have HC:=hIx U;have h5:n+1<=9223372036854775807:=by omega
 clear ih U
 have L:∀m:Int,Cnt ((w.setCell ⟨g,0,none⟩ (jA m)).alloc (.cells #[jA k,jB F,jB J,jB I,jB E,.slice A q.length c] 185)) g m/\w.grownBy ((w.setCell ⟨g,0,none⟩ (jA m)).alloc (.cells #[jA k,jB F,jB J,jB I,jB E,.slice A q.length c] 185)) (some g):=λm=>
  ⟨(HC.out.set m).alloc _,zez (zak (World.grownBy.refl _ _) 0 _) _⟩
 have r:=hIx L;clear L
 by_cases c1:80<n+1
 ·have l:=hIx (HR.out.trans (Qg c1))
  clear x
  go_in
  go_wp2;go_ret;exact⟨by rw[l.out];rfl,by rw[l.out];exact r.out _⟩
 ·by_cases c2:20<f
  ·have l:=hIx ((HR.out.trans (Qe c1)).trans (Qg c2))
   clear x
   go_in
   go_wp2;go_ret;exact⟨by rw[l.out];rfl,by rw[l.out];exact r.out _⟩
  ·have N:=hIx ((HR.out.trans (Qe c1)).trans (Qe c2))
   go_in
   go_wp2_with fail;have h3:n+1<=80:=by omega
   have hf:f<=20:=by omega
   clear ha hc h5 c1 c2;cases Y:(zhM k != (q.length:Int))with
   |true=>
    have l:Hid (chk (.node k ⟨F,J,I,E⟩ q) f n=(n+1,1)):=N.out.trans (Qg (by unfold badT;rw[Y];rfl));clear x
    go_quiet ((go_at_call 219;exact Q9 (zkJ _ _)))
    go_wp2;go_ret;have H:=r.out (n+1);exact⟨by rw[l.out];rfl,by rw[l.out];exact⟨H.1.drewN nq,zf9 H.2 nq⟩⟩
   |false=>
    cases q2:(k==3)==zxv ⟨F,J,I,E⟩ ⟨0,0,0,0⟩with
    |true=>
     have l:Hid (chk (.node k ⟨F,J,I,E⟩ q) f n=(n+1,1)):=N.out.trans (Qg (by have:((k==3)==decide ((⟨F,J,I,E⟩:Set4)=Set4.zero))=true:=q2;unfold badT;rw[Y,this];rfl))
     go_quiet ((go_at_call 219;exact Q9 (zkJ _ _)))
     go_wp2;go_ret;have H:=r.out (n+1);exact⟨by rw[l.out];rfl,by rw[l.out];exact⟨H.1.drewN nq,zf9 H.2 nq⟩⟩
    |false=>
     have l:Hid (chk (.node k ⟨F,J,I,E⟩ q) f n=chkL q (f+1) (n+1)):=N.out.trans (Qe (by have:((k==3)==decide ((⟨F,J,I,E⟩:Set4)=Set4.zero))=false:=q2;unfold badT;rw[Y,this];decide));have T:Hid (zhM k=q.length):=by simpa[Hid]using Y
     go_quiet ((go_at_call 219;exact Q9 (zkJ _ _)))
     go_wp2_with fail
     have hq:q.length<=2:=by
      have:=T.out;have:zhM k<=2:=by unfold zhM;split <;> (try split) <;> (try split) <;> omega
      omega
     have H:=r.out (n+1);have P:∃W:World,W=((w.setCell g (jA (n+1))).alloc (.cells #[jA k,jB F,jB J,jB I,jB E,.slice A q.length c] 185)).drewN nq:=⟨_,rfl⟩
     obtain⟨W,P⟩:=P;have e1:Cnt W g (n+1):=by rw[P];exact H.1.drewN nq
     have e2:w.grownBy W (some g):=by rw[P];exact zf9 H.2 nq
     rw[<-P];clear H P x Y q2 r HC
     go_loopw [44] (λi wr=>zzZ g w W q (f+1) (n+1) i wr) (λi _=>q.length-(intOf i).toNat)
     case atStart=>exact⟨0,n+1,Qm _,rfl,by omega,h3,rfl,e1,World.grownBy.refl _ _,e2⟩
     case round=>
      obtain⟨j,m,hj,rfl,h8,Z,HM,S,hd,D⟩:=hrel
      by_cases z:j<q.length
      ·have h7:=hk.only D h6
       obtain⟨b,off,ht,rfl,hi,Q,O⟩:=h7.at j z;have V:=IH.out j z;have y:=hIx (ztC q j z (f+1) m);have t:=zsZ q[j] (f+1) m Z;generalize q[j]=v at *;obtain⟨A2,c2,C,h9⟩:=O.parts;have ⟨y0,y1,y2,y3,y4,y5⟩:=(C ▸ Q:CellsAt wr b (off+j*6) (zan v.kind v.set A2 v.kids.length c2)).six;have ho:w.heap.size<=wr.heap.size:=D.size;have hu:b<wr.heap.size:=by omega
       have hm:g<wr.heap.size:=by omega
       have HQ:Hid (∀W,Calls prog 177 #[.agg #[jA v.kind,jB v.set.a,jB v.set.b,jB v.set.c,jB v.set.d,.slice A2 v.kids.length c2],jA (f+1),.pointer g] (wr.alloc W) (zhr g (chk v (f+1) m) (wr.alloc W))):=λW=>
        V _ (wr.alloc W) g (f+1) m ((C ▸ O:LT wr g v (zan v.kind v.set A2 v.kids.length c2)).keep (Qc _) (λbb o hp=>((Qj wr.heap.size wr).alloc (Qc _) W).cell (p:=⟨bb,o,none⟩) (by show bb<wr.heap.size;omega))) (S.alloc W) h8 Z (by omega) (by omega)
       have hn:f+1<=9223372036854775807:=by omega
       clear V O Q C h9;cases hr:chk v (f+1) m with
       |mk rn re=>
        rw[hr]at t HQ y;have u:=y.out;dsimp only at t u;clear y
        by_cases K:re=0
        ·subst K
         rw[Qe (by simp)]at u;have y:=hIx u;have h4:=t.2.2 rfl;have hh:=t.1;clear hr u t;go_wp2_with fail;refine(HQ.out _).mono ?_;rintro e w2 ⟨rfl,B,G⟩;clear y0 y1 y2 y3 y4 y5;go_wp2_with fail
         go_roundw
         case rel=>exact⟨j+1,rn,by omega,by go_num,by omega,h4,y.out.symm.trans HM.out,B,zax (zez hd _) G,zax (zez D _) G⟩
         case measure=>simp[intOf] <;> omega
        ·rw[Qg K]at u
         have y:=hIx u;have qe:(re != 0)=true:=Q7.2 K;clear hr K u;go_wp2_with fail;refine(HQ.out _).mono ?_;rintro e w2 ⟨rfl,B,G⟩;clear y0 y1 y2 y3 y4 y5;go_wp2;go_ret;have HF:=l.out.trans (HM.out.symm.trans y.out);exact⟨by rw[HF];rfl,by rw[HF];exact⟨B,zax (zez D _) G⟩⟩
      ·obtain rfl:j=q.length:=by omega
       have X:Hid (chkL q (f+1) (n+1)=(m,0)):=by
        unfold Hid;rw[<-HM.out,List.drop_length,chkL]
       go_wp2;go_ret;exact⟨by rw[l.out,X.out];rfl,by rw[l.out,X.out];exact⟨S,D⟩⟩
theorem zlF(t:Tree):zrK t:=
 match t with
 |.node k s a=>zqc k s a λi h=>zlF a[i]
termination_by SizeOf.sizeOf t
decreasing_by
 have:=List.sizeOf_lt_of_mem (Qz h);simp only[Tree.node.sizeOf_spec];omega
def zbh(t:Tree):Int:=(chk t 1 0).2
theorem zjU(t:Tree)(cs:List Value)(w:World)(h:LT w w.heap.size t cs):
 Calls prog 139 #[.agg cs.toArray] w λe w'=>e=jC (jA (zbh t))/\w w':=by
 obtain⟨m,c2,rfl,_⟩:=h.parts
 have k:Hid (∀(o:Obj),Calls prog 177 #[.agg #[jA t.kind,jB t.set.a,jB t.set.b,jB t.set.c,jB t.set.d,.slice m t.kids.length c2],jA 1,.pointer (w.heap.size+1:)] ((w.alloc o).alloc (.cells #[jA 0] 3)) (zhr (w.heap.size+1) (chk t 1 0) ((w.alloc o).alloc (.cells #[jA 0] 3)))):=λo=>
  zlF t _ _ (w.heap.size+1) 1 0 (h.keep (Zc _) (λb g l=>(((Qj w.heap.size w).alloc (Qc _) o).alloc (by simp) _).cell (p:=⟨b,g,none⟩) l)) (by have:=Qt (w.alloc o) (.cells #[jA 0] 3);simpa[Cnt]using this) (by decide) (by decide) (by decide) (by decide)
 clear h;unfold zan
 go_in
 go_wp2_with fail;refine(k.out _).mono ?_;rintro e w2 ⟨rfl,_,f⟩;go_wp2;go_ret;have j:∀o g,w ((w.alloc o).alloc g):=λo g=>((Qj _ _).alloc (Qc _) o).alloc (by simp) g
 exact⟨rfl,(j _ _).trans ⟨f.os,f.tape,f.output,f.size,λi n=>f.block i (by simp;omega) (λe=>by injection e with e;omega)⟩⟩
def Two(w:World)(g:Nat)(a b:Value):Prop:=w.heap[g]? = some (.cells #[a,b] 349 (0,0))
theorem zfZ:Set4.zero.Wf:=⟨⟨by decide,by decide⟩,⟨by decide,by decide⟩,⟨by decide,by decide⟩,⟨by decide,by decide⟩⟩
mutual
def WfT:Tree->Prop
 |.node _ s a=>s.Wf/\WfL a
def WfL:List Tree->Prop
 | []=>True
 |t::a=>WfT t/\WfL a
end
mutual
theorem LT.wf{w:World}{B:Nat}:∀(t:Tree) (cs:List Value),LT w B t cs->WfT t
 |.node k s a,cs,h=>by
  rw[LT]at h;obtain⟨A,c,_,h2,b⟩:=h;rw[WfT];exact⟨h2,LK.wf a A b⟩
theorem LK.wf{w:World}{B:Nat}:∀(a:List Tree) (A:Option Addr),LK w B a A->WfL a
 | [],_,_=>by rw[WfL];trivial
 |t::a,A,h=>by
  rw[LK]at h;obtain⟨b,off,cs,_,_,_,_,d,c⟩:=h;rw[WfL];exact⟨LT.wf t cs d,LK.wf a _ c⟩
end
theorem zxQ{t:Tree}{at_:Nat}{l:List Ins}(h:Code t at_ l):WfT t->∀x∈l,x.set.Wf:=by
 induction h with
 |none S at_|byte S at_=>intro d x c;rw[WfT]at d;rw[Qy]at c;subst c;exact d.1
 |begin S at_|finish S at_=>intro d x c;rw[Qy]at c;subst c;exact zfZ
 |empty=>intro _ x c;simp at c
 |cat S a b at_ e f _ _ h1 h2=>
  intro d x c;rw[WfT,WfL,WfL,WfL]at d
  rcases QO.1 c with h|h
  ·exact h1 d.2.1 x h
  ·exact h2 d.2.2.1 x h
 |alt S a b at_ e f _ _ h1 h2=>
  intro d x c;rw[WfT,WfL,WfL,WfL]at d
  rcases QI.1 c with h|c
  ·subst h;exact zfZ
  ·rcases QO.1 c with h|c
   ·exact h1 d.2.1 x h
   ·rcases QI.1 c with h|h
    ·subst h;exact zfZ
    ·exact h2 d.2.2.1 x h
 |star S a at_ e _ h1=>
  intro d x c;rw[WfT,WfL,WfL]at d
  rcases QI.1 c with h|c
  ·subst h;exact zfZ
  ·rcases QO.1 c with h|c
   ·exact h1 d.2.1 x h
   ·rw[Qy]at c
    subst c;exact zfZ
theorem zxu{t:Tree}{l:List Ins}(h:Code t 0 l)(b:WfT t):∀n (a:n<(l++[(⟨6,0,0,.zero⟩:Ins)]).length),(l++[(⟨6,0,0,.zero⟩:Ins)])[n].set.Wf:=λn a=>by
 have c:=Qz a
 rcases QO.1 c with h1|h1
 ·exact zxQ h b _ h1
 ·rw[Qy.1 h1];exact zfZ
theorem zt7{t:Tree}{l:List Ins}(h:Code t 0 l):∀n (a:n<(l++[(⟨6,0,0,.zero⟩:Ins)]).length),(l++[(⟨6,0,0,.zero⟩:Ins)])[n].kind=6↔n=(l++[(⟨6,0,0,.zero⟩:Ins)]).length-1:=λn a=>by
 have hl:(l++[(⟨6,0,0,.zero⟩:Ins)]).length=l.length+1:=by simp
 rw[hl]at a ⊢
 by_cases c:n<l.length
 ·rw[Zw c]
  have:=zph h l[n] (Qz c);unfold Tgt at this
  constructor
  ·intro e;omega
  ·intro e;omega
 ·obtain rfl:n=l.length:=by omega
  simp
theorem zrJ(P:List Ins)(A:Option Addr)(c:Nat)(s:ByteArray)(w:World)(h:Sl w w.heap.size 7 A P.length (P.flatMap zbi))(a:OkP P)(g:0<P.length)(d:P.length<=400):
 Calls prog 280 #[.slice A P.length c,.string s] w λe w'=>e=jC (jA (if 8192<s.size then 2 else 0))/\w w':=by
 have i:=hIx (zgw P A c w h a g d);clear a h
 by_cases b:8192<s.size
 have f:decide (8192<(s.size:Int))=true:=by simp;omega
 rw[Qg b]
 rotate_left
 have f:decide (8192<(s.size:Int))=false:=by simp;omega
 rw[Qe b]
 all_goals
  go_in
  go_wp2_with fail;refine i.out.mono ?_;rintro e j ⟨rfl,hb⟩;go_wp2;go_ret;exact⟨rfl,hb⟩
theorem OwnP.sl{w:World}{b g n c:Nat}{l:List Ins}(h:OwnP w b (.slice g n c) l):Sl w w.heap.size 7 (some ⟨g,0,none⟩) l.length (l.flatMap zbi):=by
 obtain⟨A,f,e,d⟩:=h.form;injection e with a _ _
 rw[a];exact d
