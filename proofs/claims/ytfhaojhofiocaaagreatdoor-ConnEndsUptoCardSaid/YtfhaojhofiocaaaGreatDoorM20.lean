/- Lemmas for the last texts. -/
import Derived.Test.YtfhaojhofiocaaaGreatDoorM19
import Derived.Lib.IndexMore
import Derived.Lib.IndexAny
set_option maxHeartbeats 6400000
set_option maxRecDepth 100000
namespace Go.Proofs.YtfhaojhofiocaaaGreatDoor
open Go.RowKit Go.Proofs.Tryz
def rowZ:RowT Int where
 e:=3
 t:=54
 size:=1
 bytes:=8
 z:=jA 0
 cells x:=[jA x]
 hsz _:=rfl
 hpos:=by decide
 under:=underlying54
 info:=by kernel_rfl
 hz:=rfl
 one x u hu:=by
  rw[QF]at hu;rw[hu];rfl
 hbytes:=by decide
section
variable {P:Program} {w:World}
theorem zrV(base:Nat)(t H e:TypeId)(i:TypeInfo)(z:Value)(size o:Nat)(I:P.underlying t=some (.slice e))(K:P.info? e=some i)(O:i.zero=some z)
 (r:i.size=size) (D:i.bytes=o)
 (v:Value) (n:Nat) (F:List Value) (d:w.ownsRow base e size v n F) (T:v≠jD 0 0)
 (a:Addr) (m c:Nat) (b:List Value) (hl:b.length=m*size) (l:∀j u,b[j]? = some u->w.cell? (a.add j)=some u) (h1:∀u∈b,u.oneCell'=true)
 (C:n+m<=maxLen) (q:(n+m)*o<=140737488355328) {v':Value} {w':World} (J:(Builtin.append_ #[t,t] H #[v,.slice (some a) m c]).run P w=.ok v' w'):
 ∀k,v'.ownBlock=some k->v.ownBlock=some k\/w.heap.size<=k:=by
 subst r;subst D;have A:n+m<=9223372036854775807:=by simp only[maxLen]at C;omega
 rcases d.2 with ⟨rfl,rfl⟩|⟨g,cap,x,rfl,Q,N,S,L,G,E⟩
 ·exact absurd rfl T
 ·by_cases h:n+m<=cap
  ·have y:n*i.size+b.length<=x.size:=by rw[hl,G,<-Nat.add_mul];exact Xu _ h
   have f:=run_append_room (P:=P) w t H e i I K g n cap x N a m c b hl l h1 h y;rw[J]at f;injection f with h2 _
   subst h2;exact λk B=>.inl B
  ·have s:∀j u,F[j]? = some u->w.cell? ((⟨g,0,none⟩:Addr).add j)=some u:=d.cells (g:=g) rfl
   have f:=run_append_grow (P:=P) w t H e i z I K O ⟨g,0,none⟩ n cap F d.1 s a m c b hl l (by omega) (by omega) (growslice_fits (by omega) q);rw[J]at f;injection f with h2 _
   subst h2;intro k B;simp only[Value.ownBlock,Option.some.injEq]at B;exact .inr (by omega)
end
section
variable {ops:Array Oper} {o:Oper} {a:Act} {Q:Exit->Act->World->Prop} {w:World}
theorem zji{m:Type}(R:RowT m){K:Act->World->Prop}{E:Prop}(i:o.guard=none)(s x:Operand)(r:o.op=.call {callee:=.builtin .append,args:=#[s,x],argTypes:=#[R.t,R.t]})
 (base:Nat) (v:Value) (l:List m) (y:a.eval s=v) (f:OwnG R w base v l) (d:base<=w.heap.size)
 (j:List Value) (new:m) (A:j=R.cells new) (k:Nat) (n:w.heap.size=k) (c:Nat) (z:a.eval x=.slice k 1 c)
 (b:l.length<=1048576)
 (h:∀v' w',OwnG R w' base v' (l++[new])->Below base w w'->(∀g,g<w.heap.size->v.ownBlock≠some g->w'.heap[g]? = w.heap[g]?)->w.heap.size<w'.heap.size->K (a.put o.dst v') w'):
 if Region.wanted o (yielded ops a.tmps)=true then Oper.wp prog o a ((w.alloc (.cells j.toArray R.e)).drew) K Q else E:=
 zkF (w:=w.drew) R i s x r base v l y f.drew d j new A k n c z b λv' w' h1 h2 u q=>h v' w' h1 ⟨h2.os,h2.tape,h2.output,h2.size,h2.block⟩ u q
theorem zjg{L:Type}(R:RowT L){K:Act->World->Prop}{E:Prop}(n:o.guard=none)(s x:Operand)(T:o.op=.call {callee:=.builtin .append,args:=#[s,x],argTypes:=#[R.t,R.t]})
 (base:Nat) (v:Value) (l:List L) (V:a.eval s=v) (f:OwnG R w base v l) (b:base<=w.heap.size)
 (G:List Value) (new:L) (Y:G=R.cells new) (H:Nat) (B:w.heap.size=H) (c:Nat) (X:a.eval x=.slice H 1 c)
 (d:l.length<=1048576)
 (h:∀v' w',OwnG R w' base v' (l++[new])->Below base w w'->(∀g,g<w.heap.size->v.ownBlock≠some g->w'.heap[g]? = w.heap[g]?)->w.heap.size<=w'.heap.size->(∀k,v'.ownBlock=some k->v.ownBlock=some k\/w.heap.size<=k)->K (a.put o.dst v') w'):
 if Region.wanted o (yielded ops a.tmps)=true then Oper.wp prog o a ((w.alloc (.cells G.toArray R.e)).drew) K Q else E:=by
 rcases f.cases with ⟨I,F⟩|⟨gv,cv,O,_,_⟩
 ·subst F
  exact zji R n s x T w.heap.size v [] V (by rw[I];exact OwnG.nil _ _ _) (Qd _) G new Y H B c X d λv' w' h1 h2 N h4=>h v' w' (h1.low b) (h2.mono b) N (QZ h4) λk r=>.inr (h1.lt k r).1
 ·have hw:Region.wanted o (yielded ops a.tmps)=true:=by simp[Region.wanted,n]
  rw[Qj hw];subst Y;subst B
  obtain⟨S,W,q,u,y⟩:=ZG R.info;have hn:v≠jD 0 0:=by rw[O];intro e;cases e
  have i:=World.ownsRow.alloc (show w.drew.ownsRow base R.e R.size v l.length (l.flatMap R.cells)from f) (.cells (R.cells new).toArray R.e);have j:=zd6 w.drew (R.cells new) R.e;have hb:=R.hbytes;have A:(l.length+1)*R.bytes<=140737488355328:=Ql (Nat.mul_le_mul (Nat.add_le_add_right d 1) hb) (by decide)
  obtain⟨v',w',U,h2,N,_⟩:=run_append_own (P:=prog) (w.drew.alloc (.cells (R.cells new).toArray R.e)) base R.t o.type R.e S R.z R.size R.bytes R.under W q u y R.hz R.hpos v l.length (l.flatMap R.cells) i
   ⟨w.heap.size,0,none⟩ 1 c (R.cells new) (by rw[R.hsz,Nat.one_mul]) j (R.one new) (by unfold maxLen;omega) A (by simp;omega)
  have J:=zrV (P:=prog) (w:=w.drew.alloc (.cells (R.cells new).toArray R.e)) base R.t o.type R.e S R.z R.size R.bytes R.under W q u y v l.length (l.flatMap R.cells) i hn
   ⟨w.heap.size,0,none⟩ 1 c (R.cells new) (by rw[R.hsz,Nat.one_mul]) j (R.one new) (by unfold maxLen;omega) A U
  have C:=zay (World.grownBy_alloc w.drew (.cells (R.cells new).toArray R.e) v.ownBlock) N;have m:w.grownBy w' v.ownBlock:=⟨C.os,C.tape,C.output,C.size,C.block⟩
  show Oper.wp prog o a (w.drew.alloc (.cells (R.cells new).toArray R.e)) K Q
  unfold Oper.wp execOp;simp only[T,resolve,invoke,builtin,Xj,Sem.run_pure,ZY,List.map_toArray,Q8,ZE,V,X,U];refine h v' w' (by unfold OwnG;rw[Qb,Q7];simpa using h2) ((Qi _ _).grown m b λk r=>(f.lt k r).1) (λg Z D=>m.block g Z λe=>D e.symm) m.size λk r=>?_
  rcases J k r with h|h
  ·exact .inl h
  ·exact .inr (by simp at h;omega)
end
def GM(u:Nat)(a:Value)(k:Nat):Prop:=k=u\/a.ownBlock=some k
def idsB(a:List RuB):List Int:=a.map λp=>p.2.r.id
structure D1(u:Nat)(c:zeb)(S0 B:Nat)(s:RunS)(mv:Value)(ps:List RuB)(w:World)(k:Nat)(v:Value)(wr:World):Prop where
 box:UBox u c {s with mt:=s.mt++idsB (ps.take k)} v wr
 own:OwnG rowZ wr S0 v (s.mt++idsB (ps.take k))
 apart:Apart (GM u mv) B w wr
 fresh:∀g,v.ownBlock=some g->mv.ownBlock=some g\/w.heap.size<=g
theorem D1.push{u:Nat}{c:zeb}{b B:Nat}{s:RunS}{f:Value}{a:List RuB}{w wr d:World}{k:Nat}{v i:Value}{x:Int}(h:D1 u c b B s f a w k v wr)(F:idsB (a.take (k+1))=idsB (a.take k)++[x])(m:B<=u/\u<b)(H:b<=w.heap.size)(_:∀g,f.ownBlock=some g->g<w.heap.size)
 (y:OwnG rowZ d b i ((s.mt++idsB (a.take k))++[x])) (hb:Below b wr d) (t:∀g,g<wr.heap.size->v.ownBlock≠some g->d.heap[g]? = wr.heap[g]?) (E:∀g,i.ownBlock=some g->v.ownBlock=some g\/wr.heap.size<=g):
 D1 u c b B s f a w (k+1) i (d.setCell ⟨u,10,none⟩ i):=by
 have C:u<w.heap.size:=by omega
 have o:=h.box.lt;have D:=h.apart.below.size;have l:v.ownBlock≠some u:=λe=>by have:=(h.own.lt u e).1;omega
 have e:s.mt++idsB (a.take (k+1))=(s.mt++idsB (a.take k))++[x]:=by rw[F,Q4]
 have A:Apart (GM u f) B wr d->Apart (GM u f) B w d:=λh1=>h.apart.trans h1
 refine⟨?_,?_,?_,λg n=>?_⟩
 ·rw[e]
  exact(h.box.keep (t u o l)).putMt _ _
 ·rw[e]
  exact y.keep λg n=>by
   have h1:=(y.lt g n).1;rw[Qm _ _ _ _ (by show g≠u;omega)]
 ·refine⟨?_,λj G r=>?_⟩
  ·exact(h.apart.below.trans (hb.mono (by omega))).setCell (p:=⟨u,10,none⟩) m.1 _
  ·have q:j≠u:=λe=>r (.inl e)
   rw[Qm _ _ _ _ q];refine(t j (by omega) λe=>?_).trans (h.apart.keep j G r)
   rcases h.fresh j e with h1|h1
   ·exact r (.inr h1)
   ·omega
 ·rcases E g n with h1|h1
  ·exact h.fresh g h1
  ·exact .inr (by omega)
def zyt(u:Nat)(c:zeb)(d B:Nat)(s:RunS)(b:Value)(a:List RuB)(w:World)(i:Value)(wr:World):Prop:=
 ∃k v,k<=a.length/\i=jA (k:Int)/\D1 u c d B s b a w k v wr
def zgX(s:RunS)(a:List RuB):RunS:=(a.map λp=>p.2.r).foldl zeR s
def zzK(u:Nat)(c:zeb)(B:Nat)(s:RunS)(v:Value)(a:List RuB)(w:World)(i:Value)(wr:World):Prop:=
 ∃k:Nat,k<=a.length/\i=jA k/\UBox u c (zgX s (a.take k)) v wr/\Apart (λj=>j=u) B w wr
def zz2(u:Nat)(c:zeb)(B:Nat)(b:Int)(s:RunS)(v:Value)(a:List zcL)(w:World)(i:Value)(wr:World):Prop:=
 ∃j:Nat,j<=a.length/\i=jA j/\UBox u c ((a.take j).foldl (actS b) s) v wr/\Apart (λj=>j=u) B w wr
theorem zpo(s:RunS)(a:List RuB)(k:Nat)(b:k<a.length):zgX s (a.take (k+1))=zeR (zgX s (a.take k)) a[k].2.r:=by
 unfold zgX;rw[Qu b,Q2,XM]
 rfl
theorem ztx(a:Int)(s:RunS)(l:List zcL)(j:Nat)(b:j<l.length):(l.take (j+1)).foldl (actS a) s=actS a ((l.take j).foldl (actS a) s) l[j]:=by
 rw[Qu b,XM]
 rfl
theorem zvr(a:List RuB)(k:Nat)(b:k<a.length):idsB (a.take (k+1))=idsB (a.take k)++[a[k].2.r.id]:=by
 unfold idsB;rw[Qu b,Q2]
 rfl
theorem ztK(b:Int)(s:RunS)(a:zcL)(h:s.dn=true):actS b s a=s:=by unfold actS;rw[Qj h]
theorem znN{c:List RuB}{s:RunS}(h:∀p∈c,∀a∈p.2.r.acts,0<=a.n/\a.n<=1000)(e:0<=s.sc/\s.sc<=1000000)(k:Nat):0<=(zgX s (c.take k)).sc/\(zgX s (c.take k)).sc<=1000000:=by
 have b:Adds ((c.take k).map λp=>p.2.r):=λr i a d=>by
  obtain⟨p,f,rfl⟩:=QS.1 i;have:=h p (Z7 f) a d;unfold zdU
  split <;> omega
 obtain⟨_,_,_,_,_,g,j⟩:=zdN _ s b;exact⟨g e.1,j e.2⟩
theorem zni{l:List zcL}{s:RunS}(b:Int)(f:∀a∈l,0<=a.n/\a.n<=1000)(d:0<=s.sc/\s.sc<=1000000)(j:Nat):0<=((l.take j).foldl (actS b) s).sc/\((l.take j).foldl (actS b) s).sc<=1000000:=by
 obtain⟨_,_,_,_,_,e,g⟩:=zfX b (l.take j) s λa c=>by
  have:=f a (Z7 c);unfold zdU
  split <;> omega
 exact⟨e d.1,g d.2⟩
def zsX(u:Nat)(c:zeb)(d B:Nat)(S:RunS)(b:Value)(w:World)(e:Ending)(w':World):Prop:=
 e=jC (.tuple #[])/\∃a,UBox u c S a w'/\OwnG rowZ w' d a S.mt/\Apart (GM u b) B w w'/\∀g,a.ownBlock=some g->b.ownBlock=some g\/w.heap.size<=g
theorem zzO{B u:Nat}{hI:List RuB}{q:RunQ}{F:World}(cx:zgU B u hI q F)(s:RunS)(D:Value)(c:List RuB)(H:∀p∈c,p∈hI)(gB:c.length<=4096)(gA:s.mt.length<=4096)(Ap:Option Addr)(cp:Nat)(w:World)
 (hz:F.heap.size<=w.heap.size) (g2:Below B F w) (hu:UBox u q.uc s D w) (h0:OwnG rowZ w F.heap.size D s.mt) (hJ:0<=s.sc/\s.sc<=1000000)
 (hc:∀p∈c,w.cell? ⟨p.1,0,none⟩=some (jA p.2.r.id)/\w.cell? ⟨p.1,7,none⟩=some (.slice p.2.aA p.2.r.acts.length p.2.ac))
 (f:∀W,Apart (GM u D) B w W->Sl W W.heap.size 1 Ap c.length (c.map λp=>ptrV p.1)):
 Calls prog 159 #[.pointer u,.slice Ap c.length cp] w (zsX u q.uc F.heap.size B (doS s (c.map λp=>p.2.r)) D w):=by
 have P:Hid (∀p∈c,∀W,Apart (GM u D) B w W->W.cell? ⟨p.1,0,none⟩=some (jA p.2.r.id)/\W.cell? ⟨p.1,7,none⟩=some (.slice p.2.aA p.2.r.acts.length p.2.ac)):=λp Q W hW=>by
  obtain⟨h1,h2⟩:=hc p Q;have hb:=cx.base p (H p Q)
  have hk:=hW.keep p.1 (by omega) λhh=>by
   rcases hh with e|e
   ·exact hb.2.2 e
   ·have:=(h0.lt _ e).1;omega
  exact⟨za0 hk 0 h1,za0 hk 7 h2⟩
 have g3:Hid (∀p∈c,∀W,Below B F W->Sl W W.heap.size 2 p.2.aA p.2.r.acts.length (p.2.r.acts.flatMap zbP)):=λp Q W hW=>((cx.rin p (H p Q)).acts.below hW).more (Ql cx.ub.1 (QZ (Qw cx.ub.2 hW.size)))
 have hf:Hid (∀p∈c,∀a∈p.2.r.acts,0<=a.n/\a.n<=1000):=λp Q=>cx.acts p (H p Q)
 have hi:Hid (∀p∈c,p.2.r.acts.length<=1048576):=λp Q=>(cx.small p (H p Q)).acts
 have h8:=hIx f;have hT:=cx.ub
 have V:Hid (doS s (c.map λp=>p.2.r)=zgX {s with mt:=s.mt++idsB c} c):=by
  unfold Hid doS zgX idsB;rw[Xn];rfl
 have gs:=hIx hJ;have ga:=hIx g2;generalize doS s (c.map λp=>p.2.r)=S at *;unfold zsX;have gk:Hid (∀g,D.ownBlock=some g->g<w.heap.size):=λg hg=>(h0.lt g hg).2
 have hV:zyt u q.uc F.heap.size B s D c w (jA 0) w:=⟨0,D,Qn _,rfl,by
  have e:idsB (c.take 0)=[]:=rfl
  constructor
  ·rw[e,QO];exact hu
  ·rw[e,QO];exact h0
  ·exact Apart.refl _ _ _
  ·exact λg hg=>.inl hg⟩
 have hC:=hIx hV;clear hc f H hV hu h0 cx hJ g2
 go_in
 go_wp2
 go_loopw [12] (λi wr=>zyt u q.uc F.heap.size B s D c w i wr) (λi _=>c.length-(intOf i).toNat)
 case atStart=>exact hC.out
 case round=>
  obtain⟨k,v,hk,rfl,l⟩:=hrel
  by_cases x:k<c.length
  ·have d1:decide ((k:Int)<(c.length:Int))=true:=by simp;omega
   have i7:IntKind.i64.wrap ((k:Int)+1)=(k:Int)+1:=Qz _ (by omega);obtain⟨b,ge,rfl,x0⟩:=zpb (h8.out wr l.apart) k x;have ⟨y0,_⟩:=P.out c[k] (QC x) wr l.apart;have ho:=hIx (zvr c k x);generalize c[k]=p at *;obtain⟨p1,d⟩:=p;dsimp only at *;have hN:=l.box.out.2.2.2.1;have gr:=l.box.free 10;have gm:=Ql hz l.apart.below.size
   have hH:(s.mt++idsB (c.take k)).length<=1048576:=by
    rw[Qb];unfold idsB;rw[Qk];have:=ZN k c;omega
   have hF:=l.box.lt;have HD:=hIx l;obtain⟨Av,cv,rfl,_⟩:=l.own.form;have hs:=hIx l.own;obtain⟨t,z⟩:∃t,s.mt++idsB (c.take k)=t:=⟨_,rfl⟩
   rw[z]at hH hs hN;have gl:Hid ((Value.slice Av t.length cv).ownBlock≠some u):=λe=>by have:=(hs.out.lt u e).1;omega
   clear l;go_upto_region 3 with fail
   go_region_law (first|(refine zjg rowZ rfl (.tmp 21) (.tmp 27) rfl F.heap.size (.slice Av t.length cv) t rfl (by exact hs.out) (by exact gm) _ d.r.id rfl _ rfl 1 rfl hH ?_;intro v6 w6 hv hU hn gz hB;obtain⟨g6,c6,rfl,_,_⟩:=hv.head (by simp);have ht:=hn u hF gl.out;have gj:w6.cell? ⟨u,10,none⟩=some (.slice Av t.length cv):=za0 ht 10 hN;have gp:w6.frozen? ⟨u,10,none⟩=false:=zms ht 10 ▸ gr)|fail "arm")
   all_goals
    have g8:Hid (zyt u q.uc F.heap.size B s D c w (jA ((k:Int)+1)) (w6.setCell ⟨u,10,none⟩ (.slice g6 (t.length+1) c6))):=⟨k+1,_,by omega,rfl,HD.out.push ho.out hT hz gk.out (by rw[z];have h:=hv;rw[Qb]at h;exact h) hU (by rw[z];exact hn) (by rw[z];intro g hg;exact hB g (by rw[Qb];exact hg))⟩
    clear hv hU hn hB ht gj gp;go_wp2;exact⟨g8.out,by dsimp only[intOf];omega⟩
  ·obtain rfl:k=c.length:=by omega
   have d1:decide ((c.length:Int)<(c.length:Int))=false:=by simp
   have e9:c.take c.length=c:=Q0;have gi:=l;have G:=l.box;have hw:=l.own;rw[e9]at G hw;obtain⟨y,Y⟩:∃y:RunS,{s with mt:=s.mt++idsB c}=y:=⟨_,rfl⟩
   rw[Y]at G V;have h9:0<=y.sc/\y.sc<=1000000:=by rw[<-Y];exact gs.out
   have ha:y.mt=s.mt++idsB c:=by rw[<-Y]
   have N:Hid ((zgX y c).mt=y.mt):=by
    have hm:Adds (c.map λp=>p.2.r):=λr hr a g7=>by
     obtain⟨p,Q,rfl⟩:=QS.1 hr;have:=hf.out p Q a g7;unfold zdU
     split <;> omega
    exact(zdN _ y hm).2.1
   have I:Hid (OwnG rowZ wr F.heap.size v S.mt):=by unfold Hid;rw[V.out,N.out,ha];exact hw
   have gq:=hIx l.apart;have gt:=hIx l.fresh;have gf:=hIx (znN hf.out h9);have g9:=hIx (zpo y c);have gc:Hid (S=zgX y c):=V;have gE:=l.apart.below.size;have hF:=G.lt;have gn:=hIx G;clear l gi hw G e9 Y ha V N hC h9;obtain⟨w1,rfl⟩:∃w1:World,w1=wr:=⟨_,rfl⟩
   go_wp2
   go_loopw [35] (λi wr=>zzK u q.uc B y v c w1 i wr) (λi _=>c.length-(intOf i).toNat)
   case atStart=>exact⟨0,Qn _,rfl,gn.out,Apart.refl _ _ _⟩
   case round=>
    obtain⟨k,hk,rfl,E,L⟩:=hrel;have A:Apart (GM u D) B w wr:=gq.out.trans (L.mono λj hj=>.inl hj)
    by_cases x:k<c.length
    ·have d2:decide ((k:Int)<(c.length:Int))=true:=by simp;omega
     have i7:IntKind.i64.wrap ((k:Int)+1)=(k:Int)+1:=Qz _ (by omega);obtain⟨b,ge,rfl,x0⟩:=zpb (h8.out wr A) k x;have m:=QC x;have ⟨y0,y7⟩:=P.out c[k] m wr A;have hX:=hIx (P.out c[k] m);have hR:=hIx (g3.out c[k] m);have h7:=hIx (hf.out c[k] m);have gy:=hi.out c[k] m;have hZ:=hIx (g9.out k x);have hy:=gf.out k;generalize c[k]=p at *;obtain⟨p1,d⟩:=p;dsimp only at *;obtain⟨aA,hP⟩:∃aA,d.aA=aA:=⟨_,rfl⟩
     rw[hP]at y7 hX hR;clear hP;obtain⟨T,O⟩:∃T,zgX y (c.take k)=T:=⟨_,rfl⟩
     rw[O]at E hy;have hG:Hid (zgX y (c.take (k+1))=d.r.acts.foldl (actS d.r.id) T):=by unfold Hid;rw[hZ.out,O];rfl
     have gg:=hIx A;have hO:=hIx L;have g0:=hIx E;clear E L A O hZ;obtain⟨wo,rfl⟩:∃wo:World,wo=wr:=⟨_,rfl⟩
     go_wp2
     go_loopw [45] (λi wr=>zz2 u q.uc B d.r.id T v d.r.acts wo i wr) (λi _=>d.r.acts.length-(intOf i).toNat)
     case atStart=>exact⟨0,Qn _,rfl,g0.out,Apart.refl _ _ _⟩
     case round=>
      obtain⟨j,hj,rfl,o,J⟩:=hrel;have U:Apart (GM u D) B w wr:=gg.out.trans (J.mono λj hj=>.inl hj)
      by_cases he:j<d.r.acts.length
      ·have d3:decide ((j:Int)<(d.r.acts.length:Int))=true:=by simp;omega
       have i8:IntKind.i64.wrap ((j:Int)+1)=(j:Int)+1:=Qz _ (by omega);have hQ:=hR.out wr (ga.out.trans U.below);obtain⟨b',gx,rfl,_,x1,x2⟩:=zwU hQ j he;have ⟨y0,_⟩:=hX.out wr U;have hE:=hIx (ztx d.r.id T d.r.acts j he);have hK:=zni d.r.id h7.out hy j;have g5:=h7.out d.r.acts[j] (QC he);generalize d.r.acts[j]=a at *;obtain⟨Z,an⟩:=a;dsimp only at *;obtain⟨sj,hx⟩:∃sj,(d.r.acts.take j).foldl (actS d.r.id) T=sj:=⟨_,rfl⟩
       rw[hx]at o hK;have h6:Hid ((d.r.acts.take (j+1)).foldl (actS d.r.id) T=actS d.r.id sj ⟨Z,an⟩):=by unfold Hid;rw[hE.out,hx]
       have gC:=o.lt;have gd:B<=wr.heap.size:=by omega
       obtain⟨K,h5⟩:∃K,wr.alloc (.cells #[jA Z,jA an] 65)=K:=⟨_,rfl⟩
       have h4:wr K:=by rw[<-h5];exact WaL
       have f:K.heap[wr.heap.size]? = some (.cells #[jA Z,jA an] 65 (0,0)):=by rw[<-h5];exact Qv wr _
       have a0:K.cell? ⟨wr.heap.size,0,none⟩=some (jA Z):=Qo _ _ 0 _ _ _ f;have a1:K.cell? ⟨wr.heap.size,1,none⟩=some (jA an):=Qo _ _ 1 _ _ _ f;have hd:=o.below h4;have hL:=hd.out.2.2.2.2.2;have hY:=zaG f;have hq:=zaa h4 y0;have hS:=hIx hd;have hA:Hid (Apart (λj=>j=u) B wo K):=J.trans (Apart.of h4 gd);have gD:=QT wr _ y0
       have gv:p1≠u:=by
        intro e;have h1:=Qo wr u 0 _ _ _ o;rw[e]at y0;rw[y0]at h1;cases h1
       have gu:=hIx h5;clear hx hE o J U h5 h4 hd hQ;go_upto_region 11 with fail
       rw[gu.out];cases C:sj.dn with
       |true=>
        rw[C]at hL;have ho:Hid ((d.r.acts.take (j+1)).foldl (actS d.r.id) T=sj):=by unfold Hid;rw[h6.out];exact ztK _ _ _ C
        clear C;go_wp2;exact⟨⟨j+1,by omega,rfl,by rw[ho.out];exact hS.out,hA.out⟩,by dsimp only[intOf];omega⟩
       |false=>
        rw[C]at hL
        have HC:Hid (Calls prog 190 #[.pointer u,jA d.r.id,.agg #[jA Z,jA an]] K.drew λe X=>e=jC (.tuple #[])/\(UBox u q.uc (actS d.r.id sj ⟨Z,an⟩) v X/\Oth B u K.drew X)/\X.cell? p1=some (jA d.r.id)/\X.cell? wr.heap.size=some (jA Z)/\X.cell? ⟨wr.heap.size,1,none⟩=some (jA an)):=
         (zu7 B u q.uc sj v d.r.id ⟨Z,an⟩ K.drew (hS.out.below (Qi _ _).drew) hT.1 C hK g5).mono λe X ⟨h1,h2,h3⟩=>⟨h1,⟨h2,h3⟩,za0 (h3.keep p1 (QT K _ hq) gv) 0 hq,za0 (h3.keep wr.heap.size hY (by omega)) 0 a0,za0 (h3.keep wr.heap.size hY (by omega)) 1 a1⟩
        clear C;go_upto_region 12 with fail
        go_region_held3 (λw'=>w'.cell? p1=some (jA d.r.id)/\w'.cell? wr.heap.size=some (jA Z)/\w'.cell? ⟨wr.heap.size,1,none⟩=some (jA an))
         (first|exact⟨hq,a0,a1⟩|exact K9|go_keep|fail "keep")
         (first|(go_at_call 190;(with_reducible refine HC.out.mono ?_);rintro e X ⟨rfl,⟨g4,g1⟩,K9⟩)|fail "arm")
        have gh:Hid (Apart (λj=>j=u) B wo X):=(hA.out.trans (Apart.of (Qi _ _).drew (by omega))).trans (g1.apart rfl);have gw:Hid (UBox u q.uc ((d.r.acts.take (j+1)).foldl (actS d.r.id) T) v X):=by unfold Hid;rw[h6.out];exact g4
        clear g4 g1 K9 HC;go_wp2;exact⟨⟨j+1,by omega,rfl,gw.out,gh.out⟩,by dsimp only[intOf];omega⟩
      ·obtain rfl:j=d.r.acts.length:=by omega
       have d3:decide ((d.r.acts.length:Int)<(d.r.acts.length:Int))=false:=by simp
       rw[Q0,<-hG.out]at o;have HF:Hid (zzK u q.uc B y v c w1 (jA ((k:Int)+1)) wr):=⟨k+1,by omega,rfl,o,hO.out.trans J⟩
       clear o J U;go_wp2;exact⟨HF.out,by dsimp only[intOf];omega⟩
    ·obtain rfl:k=c.length:=by omega
     have d2:decide ((c.length:Int)<(c.length:Int))=false:=by simp
     rw[Q0,<-gc.out]at E;have HF:Hid (zsX u q.uc F.heap.size B S D w (jC (.tuple #[])) wr):=⟨rfl,v,E,I.out.keep λg hg=>L.keep g (I.out.lt g hg).2 λe=>by have:=(I.out.lt g hg).1;omega,A,gt.out⟩
     clear E L A;go_wp2_with fail
     go_end0
     exact HF.out
def SkOk(s:RunS):Prop:=0<=s.sk/\s.sk<=1000
def ActsOk(l:List zaz):Prop:=∀r∈l,∀a∈r.acts,0<=a.n/\a.n<=1000
theorem ActsOk.adds{l:List zaz}(h:ActsOk l):Adds l:=λr c a b=>by
 have:=h r c a b;unfold zdU
 split <;> omega
theorem zxp(b:Int)(s:RunS)(a:zcL)(h:SkOk s)(c:0<=a.n/\a.n<=1000):SkOk (actS b s a):=by
 unfold actS
 split
 ·exact h
 split
 ·exact h
 split
 ·exact c
 split
 ·exact h
 split
 ·exact h
 ·exact h
theorem zso(b:Int):∀(l:List zcL) (s:RunS),SkOk s->(∀a∈l,0<=a.n/\a.n<=1000)->SkOk (l.foldl (actS b) s)
 | [],_,h,_=>h
 |a::l,s,h,c=>zso b l _ (zxp b s a h (c a Zk)) λx d=>c x (Zl _ d)
theorem zoH:∀(c:List zaz) (s:RunS),SkOk s->ActsOk c->SkOk (c.foldl zeR s)
 | [],_,h,_=>h
 |r::c,s,h,a=>zoH c _ (zso r.id r.acts s h (a r Zk)) λx b=>a x (Zl _ b)
theorem zvb(hit:Int->zaz->Bool)(s:RunS)(c:List zaz)(h:SkOk s)(a:ActsOk c):SkOk (zfD hit s c):=by
 unfold zfD
 split
 ·exact h
 split
 ·exact⟨by show 0<=s.sk-1;omega,by show s.sk-1<=1000;have:=h.2;omega⟩
 split
 ·exact zoH c _ h a
 ·exact h
theorem zrO(hit:Int->zaz->Bool)(b:Int):∀(l:List zaz) (x:RunS × List zaz),SkOk x.1->ActsOk x.2->ActsOk l->SkOk (l.foldl (phS hit b) x).1
 | [],_,h,_,_=>h
 |r::l,x,h,h2,hl=>by
  rw[XK]
  have c:ActsOk (x.2++[r]):=λy a=>by
   rcases QY.1 a with a|a
   ·exact h2 y a
   ·rw[QF.1 a];exact hl r Zk
  refine zrO hit b l _ ?_ ?_ λy a=>hl y (Zl _ a)
  ·unfold phS
   split
   ·exact h
   split
   ·exact h
   ·exact zvb hit _ _ h c
  ·unfold phS
   split
   ·exact h2
   split
   ·exact c
   ·exact λy a=>(by cases a)
def zfY(hit:Int->zaz->Bool)(a:Int)(s:RunS)(l:List zaz):RunS × List zaz:=l.foldl (phS hit a) ({s with sk:=0},[])
theorem zqR(hit:Int->zaz->Bool)(a:Int)(s:RunS)(l:List zaz)(k:Nat)(b:k<l.length):zfY hit a s (l.take (k+1))=phS hit a (zfY hit a s (l.take k)) l[k]:=by
 unfold zfY;rw[Qu b,XM]
 rfl
structure zzU(s:RunS)(n:Nat)(x:RunS × List zaz):Prop where
 lo:0<=x.1.sc
 hi:x.1.sc<=1000000
 len:x.1.mt.length+x.2.length<=s.mt.length+n
 sk:SkOk x.1
theorem zhz(hit:Int->zaz->Bool)(b:Int)(s:RunS)(l:List zaz)(g:ActsOk l)(d:0<=s.sc/\s.sc<=1000000)(k:Nat):zzU s l.length (zfY hit b s (l.take k)):=by
 have a:ActsOk (l.take k):=λr c=>g r (Z7 c)
 have h:=zt0 hit b {s with sk:=0} (l.take k) [] ({s with sk:=0},[]) ⟨ZB _,List.Sublist.refl _,.inl rfl,λ_ h=>h,λr c=>(by cases c),λ_=>⟨rfl,rfl⟩,λh=>h,λh=>h⟩ a.adds;rw[List.nil_append]at h;have hl:=h.mt.length_le;rw[Qb,Qb,Qk,Qk]at hl;have h1:((l.take k).filter λr=>r.phase==b).length<=(l.take k).length:=Zh _ _;have h2:=List.length_take_le' k l;have e:({s with sk:=0}:RunS).mt=s.mt:=rfl;rw[e]at hl;refine⟨h.lo d.1,h.hi d.2,?_,zrO hit b _ _ ⟨ZB _,by show (0:Int)<=1000;decide⟩ (λy f=>(by cases f)) a⟩;unfold zfY;omega
def FF(a:Nat)(b:Value)(k:Nat):Prop:=k<a\/b.ownBlock=some k
structure RunAt(B u:Nat)(all:List RuB)(q:RunQ)(wS:World)(s:RunS)(mv:Value)(w:World):Prop where
 ap:Apart (GU u all) B wS w
 box:UBox u q.uc s mv w
 own:OwnG rowZ w wS.heap.size mv s.mt
 st:AllSt (FF wS.heap.size mv) all w
section
variable {B u:Nat} {all:List RuB} {q:RunQ} {wS:World} {s:RunS} {mv:Value} {w W:World}
theorem RunAt.next(h:RunAt B u all q wS s mv w)(a:B<=w.heap.size)(hb:w W):RunAt B u all q wS s mv W:=
 ⟨h.ap.trans (Apart.of hb a),h.box.below hb,h.own.below hb,h.st.next hb⟩
theorem RunAt.size(h:RunAt B u all q wS s mv w):wS.heap.size<=w.heap.size:=h.ap.below.size
theorem RunAt.skip(h:RunAt B u all q wS s mv w)(b:zgU B u all q wS)(k:Int):RunAt B u all q wS {s with sk:=k} mv (w.setCell ⟨u,11,none⟩ (jA k)):=by
 have a:∀j,j≠u->(w.setCell ⟨u,11,none⟩ (jA k)).heap[j]? = w.heap[j]? := λj f=>Qm _ _ _ _ f
 refine⟨h.ap.trans ⟨(Qi _ _).setCell (p:=⟨u,11,none⟩) b.ub.1 _,λj _ c=>a j λe=>c (.inl e)⟩,h.box.putSk k,h.own.keep λg i=>a g ?_,h.st.keep (by rw[ZT];exact Qd _) (λp d=>a _ (b.base p d).2.2) λj _ c=>a j λe=>c (.inl (by rw[e];exact b.ub.2))⟩;have:=(h.own.lt g i).1;have:=b.ub.2;omega
theorem RunAt.asked(h:RunAt B u all q wS s mv w)(c:zgU B u all q wS)(i:AllSt (FF wS.heap.size mv) all W)(b:Apart (ze2 all) B w W):RunAt B u all q wS s mv W:=by
 refine⟨h.ap.trans (b.mono λk f=>.inr f),h.box.keep (b.keep u h.box.lt λ⟨p,a,e⟩=>(c.base p a).2.2 e),h.own.keep λg d=>b.keep g (h.own.lt g d).2 λ⟨p,a,e⟩=>?_,i⟩;have:=(h.own.lt g d).1;have:=(c.base p a).2.1;omega
theorem RunAt.did{S:RunS}{a:Value}(h:RunAt B u all q wS s mv w)(f:zgU B u all q wS)(hb:UBox u q.uc S a W)(t:OwnG rowZ W wS.heap.size a S.mt)(i:Apart (GM u mv) B w W)(r:∀g,a.ownBlock=some g->mv.ownBlock=some g\/w.heap.size<=g):RunAt B u all q wS S a W:=by
 have b:∀g,mv.ownBlock=some g->wS.heap.size<=g:=λg o=>(h.own.lt g o).1
 have l:∀p∈all,¬GM u mv p.1:=λp d n=>by
  rcases n with e|e
  ·exact(f.base p d).2.2 e
  ·have:=b _ e
   have:=(f.base p d).2.1;omega
 refine⟨h.ap.then i λj x=>?_,hb,t,?_⟩
 ·rcases x with e|e
  ·exact .inl (.inl e)
  ·exact .inr (b j e)
 ·have h1:AllSt (λk=>k<wS.heap.size\/mv.ownBlock=some k\/a.ownBlock=some k) all w:=h.st.more λk c=>by
   rcases c with e|e|e
   ·exact .inl (.inl e)
   ·exact .inl (.inr e)
   ·rcases r k e with m|m
    ·exact .inl (.inr m)
    ·exact .inr m
  have h2:=h1.keep (W:=W) i.below.size (λp d=>i.keep p.1 (Qw (f.base p d).2.1 h.size) (l p d)) λk c v=>i.keep k c λn=>v (by
   rcases n with e|e
   ·exact .inl (by rw[e];exact f.ub.2)
   ·exact .inr (.inl e))
  exact h2.more λk c=>by
   rcases c with e|e
   ·exact .inl (.inl e)
   ·exact .inl (.inr (.inr e))
end
def zr7(B u:Nat)(a:List RuB)(q:RunQ)(f:World)(d:Int)(s:RunS)(v i:Value)(wr:World):Prop:=
 ∃(k:Nat) (b:World) (e:Value) (c:List RuB),k<=a.length/\i=jA (k:Int)/\RunAt B u a q f (zfY q.hit d s ((a.map λp=>p.2.r).take k)).1 e b/\b wr/\OwnG rowP wr b.heap.size v (c.map (·.1))/\
  (c.map λp=>p.2.r)=(zfY q.hit d s ((a.map λp=>p.2.r).take k)).2/\∀p∈c,p∈a
def ziM(B u:Nat)(a:List RuB)(q:RunQ)(c:World)(S:RunS)(e:Ending)(w':World):Prop:=
 e=jC (.tuple #[])/\∃b,RunAt B u a q c S b w'
theorem zl5{B u:Nat}{a:List RuB}{q:RunQ}{H:World}(cx:zgU B u a q H)(C:Int)(s:RunS)(z:Value)(gc:a.length<=1000)(ge:s.mt.length<=1000)(g4:0<=s.sc/\s.sc<=1000000)(Ap:Option Addr)(cp:Nat)(w:World)(hQ:RunAt B u a q H s z w)
 (hE:∀W,Apart (GU u a) B H W->Sl W W.heap.size 1 Ap a.length (a.map λp=>ptrV p.1)):
 Calls prog 120 #[.pointer u,.slice Ap a.length cp,jA C] w (ziM B u a q H (zfv q.hit C (a.map λp=>p.2.r) s)):=by
 have hu:=hQ.box;have hn:=hu.out.2.2.2.2.1;have hc:=hu.free 11
 have he:ActsOk (a.map λp=>p.2.r):=λr hr=>by
  obtain⟨p,G,rfl⟩:=QS.1 hr;exact cx.acts p G
 have g2:=hIx (zhz q.hit C s (a.map λp=>p.2.r) he g4);have hW:=hIx (zqR q.hit C s (a.map λp=>p.2.r));have hY:=hIx hE;have E:=hIx cx
 have hU:Hid (zfv q.hit C (a.map λp=>p.2.r) s=(zfY q.hit C s ((a.map λp=>p.2.r).take a.length)).1):=by
  unfold Hid;rw[show (a.map λp=>p.2.r).take a.length=a.map λp=>p.2.r from QR (by rw[Qk];exact Qd _)]
  rfl
 have g8:Hid (zr7 B u a q H C s (jD 0 0) (jA 0) (w.setCell ⟨u,11,none⟩ (jA 0))):=
  ⟨0,w.setCell ⟨u,11,none⟩ (jA 0),z,[],Qn _,rfl,hQ.skip cx 0,Qi _ _,OwnG.nil _ _ _,rfl,λp G=>by cases G⟩
 generalize zfv q.hit C (a.map λp=>p.2.r) s=S at *;have hR:Hid ((a.map λp=>p.2.r).length=a.length):=Qk _;unfold ziM;clear hE he hu hQ
 go_in
 go_wp2
 go_loopw [6,14] (λv i wr=>zr7 B u a q H C s v i wr) (λ_ i _=>a.length-(intOf i).toNat)
 case atStart=>exact g8.out
 case round=>
  obtain⟨k,y,z,o,hk,rfl,t,hb,P,ht,hB⟩:=hrel;clear hn hc;have ho:B<=y.heap.size:=Ql cx.ub.1 (QZ (Qw cx.ub.2 t.size));have D:=t.next ho hb
  by_cases hv:k<a.length
  ·have d1:decide ((k:Int)<(a.length:Int))=true:=by simp;omega
   have i7:IntKind.i64.wrap ((k:Int)+1)=(k:Int)+1:=Qz _ (by omega);obtain⟨b,gd,rfl,x0⟩:=zpb (hY.out wr D.ap) k hv;have Y:=QC hv;have h5:=D.st.five a[k] Y;have HN:=hIx (hW.out k (by rw[hR.out];exact hv));have g0:(a.map λp=>p.2.r)[k]'(by rw[hR.out];exact hv)=a[k].2.r:=Zo _;rw[g0]at HN;have HF:=g2.out k;generalize a[k]=p at *;obtain⟨d,l⟩:=p;dsimp only at *;obtain⟨y0,y1,y2,y7,y8⟩:=h5;obtain⟨X,hX⟩:∃X,zfY q.hit C s ((a.map λp=>p.2.r).take k)=X:=⟨_,rfl⟩
   rw[hX]at t ht HN D HF;obtain⟨c,gh⟩:=X;dsimp only at t ht D;subst ht;obtain⟨hH,hJ,h8,hS⟩:=HF;dsimp only at hH hJ h8 hS;rw[Qk,hR.out]at h8;have gf:o.length<=2000:=by omega
   have gg:c.mt.length<=2000:=by omega
   clear h8 hX g2 hW;obtain⟨n,hi⟩:∃n,o.map (·.1)=n:=⟨_,rfl⟩
   have hV:n.length=o.length:=by rw[<-hi,Qk]
   have ga:n.length<=2000:=by omega
   rw[hi]at P;obtain⟨Av,cv,rfl,_⟩:=P.form
   by_cases L:l.r.phase=C
   rotate_left
   ·have q1:(l.r.phase != C)=true:=Q6.2 L
    have HR:Hid (zr7 B u a q H C s (.slice Av n.length cv) (jA ((k:Int)+1)) wr):=by
     refine⟨k+1,y,z,o,by omega,rfl,?_,hb,by rw[hi];exact P,?_,hB⟩
     ·rw[HN.out];unfold phS;rw[Qj L];exact t
     ·rw[HN.out];unfold phS;rw[Qj L]
    clear t D hb P L HN;go_wp2;exact⟨HR.out,by dsimp only[intOf];omega⟩
   have q1:(l.r.phase != C)=false:=bne_eq_false_iff_eq.2 L
   have h0:Hid (zfY q.hit C s ((a.map λp=>p.2.r).take (k+1))=if l.r.chain=true then (c,(o++[(d,l)]).map λp=>p.2.r)else (zfD q.hit c ((o++[(d,l)]).map λp=>p.2.r),[])):=by
    unfold Hid;rw[HN.out,Q2];unfold phS;rw[Qf (λh=>h L)]
    rfl
   have hs:=Ql (Qd _) hb.size;have HO:=hIx P;have HA:=hIx t;have HB:=hIx hb
   have O:∀p∈o++[(d,l)],p∈a:=λp G=>by
    rcases QY.1 G with G|G
    ·exact hB p G
    ·rw[QF.1 G];exact Y
   clear L HN P t hb D y7 y0 y2;have hz:∀g:List Nat,g=n++[d]->g=(o++[(d,l)]).map (·.1):=λg hg=>by rw[hg,Q2,hi];rfl
   have hD:=hIx (hz _ rfl);have hF:(n++[d]).length=n.length+1:=by rw[Qb];rfl
   have g3:=hIx hV;have hC:=hIx hF;clear hz hV hF hi g0;cases h7:l.r.chain with
   |true=>
    rw[h7]at h0;have hf:Hid (zfY q.hit C s ((a.map λp=>p.2.r).take (k+1))=(c,(o++[(d,l)]).map λp=>p.2.r)):=by unfold Hid;rw[h0.out,Qj rfl]
    clear h0;go_wp2_with (at_builtin;refine zaL rowP rfl (.tmp 25) (.tmp 27) rfl y.heap.size (.slice Av n.length cv) n rfl (by exact HO.out) (by exact hs) _ d rfl _ rfl 1 rfl (by omega) ?_;intro v1 w1 m x K N;obtain⟨g1,c1,rfl,hK,_⟩:=m.head (by simp);have h9:=hIx m;have F:Hid (y w1):=HB.out.trans x;have f:=hIx (HA.out.next ho F.out);have ⟨_,_,_,_,J⟩:=f.out.st.five (d,l) Y;rw[h7]at J;have ⟨_,_,_,_,hn,Z⟩:=f.out.box.out;have hc:=f.out.box.free 11;clear m x K N)
    have HR:Hid (zr7 B u a q H C s (.slice g1 (n.length+1) c1) (jA ((k:Int)+1)) w1):=by
     refine⟨k+1,y,z,o++[(d,l)],by omega,rfl,by rw[hf.out];exact HA.out,F.out,?_,by rw[hf.out],O⟩;rw[<-hD.out,<-hC.out];exact h9.out
    exact⟨HR.out,by dsimp only[intOf];omega⟩
   |false=>
    rw[h7]at h0;have hf:Hid (zfY q.hit C s ((a.map λp=>p.2.r).take (k+1))=(zfD q.hit c ((o++[(d,l)]).map λp=>p.2.r),[])):=by unfold Hid;rw[h0.out,Qf (by decide)]
    clear h0
    have U:Hid (∀(W:World) (A:Value),RunAt B u a q H (zfD q.hit c ((o++[(d,l)]).map λp=>p.2.r)) A W->zr7 B u a q H C s (jD 0 0) (jA ((k:Int)+1)) W):=λW A h=>
     ⟨k+1,W,A,[],by omega,rfl,by rw[hf.out];exact h,Qi _ _,OwnG.nil _ _ _,by rw[hf.out];rfl,λp G=>by cases G⟩
    have hy:Hid (zfD q.hit c ((o++[(d,l)]).map λp=>p.2.r)=if c.dn=true then c else if 0<c.sk then {c with sk:=c.sk-1}else if ((o++[(d,l)]).map λp=>p.2.r).all (q.hit c.sc)=true then doS c ((o++[(d,l)]).map λp=>p.2.r)else c):=rfl;have h6:Hid ((o++[(d,l)]).length=n.length+1):=by rw[Qb,<-g3.out];rfl
    generalize zfD q.hit c ((o++[(d,l)]).map λp=>p.2.r)=SX at *;cases ha:c.dn with
    |true=>
     have I:Hid (SX=c):=by unfold Hid;rw[hy.out,Qj ha]
     clear hy;go_wp2_with (at_builtin;refine zaL rowP rfl (.tmp 25) (.tmp 27) rfl y.heap.size (.slice Av n.length cv) n rfl (by exact HO.out) (by exact hs) _ d rfl _ rfl 1 rfl (by omega) ?_;intro v1 w1 m x K N;obtain⟨g1,c1,rfl,hK,_⟩:=m.head (by simp);have h9:=hIx m;have F:Hid (y w1):=HB.out.trans x;have f:=hIx (HA.out.next ho F.out);have ⟨_,_,_,_,J⟩:=f.out.st.five (d,l) Y;rw[h7]at J;have ⟨_,_,_,_,hn,Z⟩:=f.out.box.out;have hc:=f.out.box.free 11;clear m x K N;rw[ha]at Z);exact⟨U.out w1 z (by rw[I.out];exact f.out),by dsimp only[intOf];omega⟩
    |false=>
     have V:Hid (SX=if 0<c.sk then {c with sk:=c.sk-1}else if ((o++[(d,l)]).map λp=>p.2.r).all (q.hit c.sc)=true then doS c ((o++[(d,l)]).map λp=>p.2.r)else c):=by unfold Hid;rw[hy.out,Qf (by rw[ha];decide)]
     clear hy
     by_cases Q:0<c.sk
     ·have d2:decide ((0:Int)<c.sk)=true:=Qx Q
      have i8:IntKind.i64.wrap (c.sk-1)=c.sk-1:=Qz _ (by have:=hS.2;omega);have I:Hid (SX={c with sk:=c.sk-1}):=by unfold Hid;rw[V.out,Qj Q]
      clear V;go_wp2_with (at_builtin;refine zaL rowP rfl (.tmp 25) (.tmp 27) rfl y.heap.size (.slice Av n.length cv) n rfl (by exact HO.out) (by exact hs) _ d rfl _ rfl 1 rfl (by omega) ?_;intro v1 w1 m x K N;obtain⟨g1,c1,rfl,hK,_⟩:=m.head (by simp);have h9:=hIx m;have F:Hid (y w1):=HB.out.trans x;have f:=hIx (HA.out.next ho F.out);have ⟨_,_,_,_,J⟩:=f.out.st.five (d,l) Y;rw[h7]at J;have ⟨_,_,_,_,hn,Z⟩:=f.out.box.out;have hc:=f.out.box.free 11;clear m x K N;rw[ha]at Z);exact⟨U.out _ z (by rw[I.out];exact f.out.skip E.out _),by dsimp only[intOf];omega⟩
     ·have d2:decide ((0:Int)<c.sk)=false:=Qt Q
      have T:Hid (SX=if (o++[(d,l)]).all (λp=>q.hit c.sc p.2.r)=true then doS c ((o++[(d,l)]).map λp=>p.2.r)else c):=by
       unfold Hid;rw[V.out,Qf Q,List.all_map]
       rfl
      clear V
      have hm:Hid (∀(W W':World) (g c1:Nat),OwnG rowP W y.heap.size (.slice (some ⟨g,0,none⟩) (n++[d]).length c1) (n++[d])->W'.heap[g]? = W.heap[g]? -> Sl W' W'.heap.size 1 (some ⟨g,0,none⟩) (n.length+1) ((o++[(d,l)]).map λp=>ptrV p.1)):=λW W' g c1 h hk=>by
       have h2:=h.keep (w':=W') λg' hI=>by
        have e:g=g':=QG hI;rw[<-e];exact hk
       obtain⟨A',c',e',hN⟩:=h2.form;injection e' with e1 _ _
       rw[<-e1,hC.out]at hN;have e2:(n++[d]).flatMap rowP.cells=(o++[(d,l)]).map λp=>ptrV p.1:=by rw[hD.out,zlZ,Xn];rfl
       rw[e2]at hN;exact hN
      have hd:Hid (∀(W:World) (g c1:Nat),OwnG rowP W y.heap.size (.slice (some ⟨g,0,none⟩) (n++[d]).length c1) (n++[d])->RunAt B u a q H c z W->Calls prog 158 #[.pointer u,.slice (some ⟨g,0,none⟩) (n.length+1) c1] W λe w'=>e=jC (.bool ((o++[(d,l)]).all λp=>q.hit c.sc p.2.r))/\RunAt B u a q H c z w'/\OwnG rowP w' y.heap.size (.slice (some ⟨g,0,none⟩) (n++[d]).length c1) (n++[d])):=λW g c1 P t=>by
       have hx:=P.lt g rfl;have hw:¬ze2 a g:=λ⟨p,G,e⟩=>by have:=(E.out.base p G).2.1;have:=HA.out.size;omega
       have h:=ztv E.out (FF H.heap.size z) (λp G=>.inl (E.out.base p G).2.1) c z (o++[(d,l)]) O (by rw[h6.out];omega) (some ⟨g,0,none⟩) c1 W t.ap t.box ⟨hH,hJ⟩ t.st
        (λk hk=>by
         rcases hk with hk|hk
         ·exact Qw hk t.size
         ·exact(t.own.lt k hk).2)
        λW' hP=>by rw[h6.out];exact hm.out W W' g c1 P (hP.keep g hx.2 hw)
       rw[h6.out]at h
       exact h.mono λe w' ⟨h1,h2,h3⟩=>⟨h1,t.asked E.out h2 h3,P.keep λg' hI=>by
        have e:g=g':=QG hI;rw[<-e];exact h3.keep g hx.2 hw⟩
      have hL:Hid (∀(W:World) (g c1:Nat),OwnG rowP W y.heap.size (.slice (some ⟨g,0,none⟩) (n++[d]).length c1) (n++[d])->RunAt B u a q H c z W->(∀j,z.ownBlock=some j->j<y.heap.size)->Calls prog 159 #[.pointer u,.slice (some ⟨g,0,none⟩) (n.length+1) c1] W λe w'=>e=jC (.tuple #[])/\∃A,RunAt B u a q H (doS c ((o++[(d,l)]).map λp=>p.2.r)) A w'):=λW g c1 P t g9=>by
       have hx:=P.lt g rfl
       have hw:¬GM u z g:=λhh=>by
        rcases hh with e|e
        ·have:=E.out.ub.2;have:=HA.out.size;omega
        ·have:=g9 g e;omega
       have h:=zzO E.out c z (o++[(d,l)]) O (by rw[h6.out];omega) (by omega) (some ⟨g,0,none⟩) c1 W t.size t.ap.below t.box t.own ⟨hH,hJ⟩ (λp G=>by
        obtain⟨z0,_,_,z7,_⟩:=t.st.five p (O p G);exact⟨z0,z7⟩)
        λW' hP=>by rw[h6.out];exact hm.out W W' g c1 P (hP.keep g hx.2 hw)
       rw[h6.out]at h;exact h.mono λe w' ⟨h1,A,h2,h3,h4,h5⟩=>⟨h1,A,t.did E.out h2 h3 h4 h5⟩
      have hT:Hid (∀j,z.ownBlock=some j->j<y.heap.size):=λj hj=>(HA.out.own.lt j hj).2
      generalize (o++[(d,l)]).all (λp=>q.hit c.sc p.2.r)=g5 at *;generalize doS c ((o++[(d,l)]).map λp=>p.2.r)=SD at *;clear hm;go_wp2_with (at_builtin;refine zaL rowP rfl (.tmp 25) (.tmp 27) rfl y.heap.size (.slice Av n.length cv) n rfl (by exact HO.out) (by exact hs) _ d rfl _ rfl 1 rfl (by omega) ?_;intro v1 w1 m x K N;obtain⟨g1,c1,rfl,hK,_⟩:=m.head (by simp);have h9:=hIx m;have F:Hid (y w1):=HB.out.trans x;have f:=hIx (HA.out.next ho F.out);have ⟨_,_,_,_,J⟩:=f.out.st.five (d,l) Y;rw[h7]at J;have ⟨_,_,_,_,hn,Z⟩:=f.out.box.out;have hc:=f.out.box.free 11;clear m x K N;rw[ha]at Z);refine(hd.out w1 g1 c1 h9.out f.out).mono ?_;rintro e w2 ⟨rfl,hq,hG⟩;cases g5 with
      |true=>
       have I:Hid (SX=SD):=by unfold Hid;rw[T.out,Qj rfl]
       have HD:=hIx (hL.out w2 g1 c1 hG hq hT.out);clear hq hG T hL hd;go_wp2_with (go_at_call 159;apply Hid.out);refine WhM HD ?_;rintro e w3 ⟨rfl,A,hZ⟩;have g7:=hIx hZ;clear hZ;go_wp2;exact⟨U.out w3 A (by rw[I.out];exact g7.out),by dsimp only[intOf];omega⟩
      |false=>
       have I:Hid (SX=c):=by unfold Hid;rw[T.out,Qf (by decide)]
       have g6:=hIx hq;clear hq hG T hL hd;go_wp2;exact⟨U.out w2 z (by rw[I.out];exact g6.out),by dsimp only[intOf];omega⟩
  ·obtain rfl:k=a.length:=by omega
   have d1:decide ((a.length:Int)<(a.length:Int))=false:=by simp
   rw[<-hU.out]at D;have HF:Hid (∃z,RunAt B u a q H S z wr):=⟨z,D⟩
   clear D t P hb ht;go_wp2_with fail
   go_end0
   exact⟨rfl,HF.out⟩
def bndB(b:UInt8):Bool:=letB b||decide (0<=Lib.indexByte [39,43,95,45,46] b)
def zbW(l:jE):Bool:=l.all bndB&&(decide (1<=l.length)&&decide (l.length<=70))
def zdZ:jE:=[99,111,110,116,101,110,116,45,100,105,115,112,111,115,105,116,105,111,110,58,32,102,111,114,109,45,100,97,116,97,59,32,110,97,109,101,61,34]
def zef:jE:=[34,13,10]
def nlL:jE:=[13,10]
def zbD(b:jE):jE:=45::45::b
def za5(s p:jE):jE × Bool:=if s.length<p.length\/zaB (s.take p.length)≠p then (s,false)else (s.drop p.length,true)
abbrev zht:=jE × jE
def badP(b:jE)(a:zht):Bool:=Lib.containsAny a.1 zef||Lib.contains (nlL++a.2) (nlL++zbD b)
def zhQ:Nat->jE->Option jE
 |0,_=>none
 |f+1,s=>if (Lib.cut s nlL).2.2=false then none else if (Lib.cut s nlL).1=[]then some (Lib.cut s nlL).2.1 else zhQ f (Lib.cut s nlL).2.1
def zgA(s:jE):Option jE:=zhQ (s.length+1) s
def zxN(first:jE):jE:=Lib.trimSuffix (za5 first zdZ).1 [34]
def zo1(s:jE):Bool:=(Lib.cut s nlL).2.2&&(za5 (Lib.cut s nlL).1 zdZ).2&&Lib.hasSuffix (za5 (Lib.cut s nlL).1 zdZ).1 [34]&&!Lib.containsAny (zxN (Lib.cut s nlL).1) zef
def zkL(s b:jE):Option (zht × jE):=
 if zo1 s=false then none
 else match zgA (Lib.cut s nlL).2.1 with
  |none=>none
  |some r=>if (Lib.cut (nlL++r) (nlL++zbD b)).2.2=false then none
   else some ((zxN (Lib.cut s nlL).1,Lib.trimPrefix (Lib.cut (nlL++r) (nlL++zbD b)).1 nlL),(Lib.cut (nlL++r) (nlL++zbD b)).2.1)
def zgS:Nat->jE->jE->Int->List zht->Int × List zht
 |0,_,_,_,_=>(4,[])
 |f+1,s,b,most,out=>
  if s=[45,45,13,10]then (0,out)
  else if Lib.hasPrefix s nlL=false then (4,[])
  else match zkL (s.drop 2) b with
   |none=>(4,[])
   |some (a,r)=>if most<=(out.length:Int)then (2,[])else zgS f r b most (out++[a])
def zbn(s b:jE)(most:Int):Int × List zht:=
 if zbW b=false then (1,[])else if 4096<s.length then (2,[])else if Lib.hasPrefix s (zbD b)=false then (4,[])else zgS (s.length+1) (s.drop (zbD b).length) b most []
theorem zzA{a p r:jE}{j:Nat}(h:j+p.length<=a.length):Lib.occAt (a++r) p j=Lib.occAt a p j:=by
 unfold Lib.occAt;rw[Z0 (by omega),Bool.eq_iff_iff,Zg,Zg];exact⟨λb=>List.prefix_of_prefix_length_le b (Xr _ _) (by rw[QJ];omega),λb=>b.trans (Xr _ _)⟩
theorem zd3{a p:jE}(h:∀j,j<=a.length->Lib.occAt a p j=false):Lib.contains a p=false:=by
 rcases Lib.index_spec a p with ⟨h1,_⟩|⟨i,_,h2,b,_⟩
 ·unfold Lib.contains;rw[h1];rfl
 ·rw[h i h2]at b;cases b
theorem zgQ{s p:jE}(h:(Lib.cut s p).2.2=true):s=(Lib.cut s p).1++p++(Lib.cut s p).2.1/\(p≠[]->Lib.contains (Lib.cut s p).1 p=false):=by
 unfold Lib.cut at h ⊢
 by_cases e:0<=Lib.index s p
 ·rw[Qj e]
  rcases Lib.index_spec s p with ⟨h1,_⟩|⟨i,h1,h2,a,g⟩
  ·omega
  ·rw[h1,Q9]
   have n:=Lib.occAt_room a;dsimp only;unfold Lib.occAt at a;rw[Zg]at a;obtain⟨z,c⟩:=a;refine⟨?_,λd=>?_⟩
   ·have l:s.drop (i+p.length)=z:=by rw[<-Zw,<-c,Xa]
    rw[l,Q4,c,Zt]
   ·refine zd3 λj m=>?_
    rw[QK]at m
    rcases ZJ (s.take i).length (j+p.length)with hl|hl
    ·cases k:Lib.occAt (s.take i) p j with
     |false=>rfl
     |true=>
      rcases Lib.occAt_room k with b|b
      ·omega
      ·exact absurd b d
    ·have f:0<p.length:=List.length_pos_iff.2 d
     have:=zzA (r:=s.drop i) hl;rw[Zt]at this;rw[<-this];rw[QK]at hl;exact g j (by omega)
 ·rw[Qf e]at h;cases h
theorem zh2{b:jE}(h:zbW b=true):1<=b.length/\b.length<=70:=by
 unfold zbW at h;simp only[Q3,QX]at h;exact h.2
theorem zxP(v:jE):Lib.trimPrefix (nlL++v) nlL=v:=by
 have h:Lib.hasPrefix (nlL++v) nlL=true:=by unfold Lib.hasPrefix;rw[Zg];exact Xr _ _
 unfold Lib.trimPrefix;rw[Qj h,Xa]
theorem zd9{s p:jE}(h:(Lib.cut s p).2.2=true):(Lib.cut s p).2.1.length+p.length<=s.length:=by
 have:=Zm List.length (zgQ h).1;rw[Qb,Qb]at this;omega
theorem zlR:∀(f:Nat) {s r:jE},zhQ f s=some r->r.length<=s.length
 |0,s,r,h=>by unfold zhQ at h;cases h
 |f+1,s,r,h=>by
  unfold zhQ at h;cases a:(Lib.cut s nlL).2.2 with
  |false=>rw[a,Qj rfl]at h;cases h
  |true=>
   rw[a,Qf (by decide)]at h;have h1:=zd9 a
   split at h
   ·injection h with h;subst h;omega
   ·have:=zlR f h;omega
theorem zwp{s r:jE}(h:zgA s=some r):r.length<=s.length:=zlR _ h
theorem zrJ{s b:jE}{a:zht}{r:jE}(hb:zbW b=true)(h:zkL s b=some (a,r)):badP b a=false/\r.length<s.length:=by
 unfold zkL at h;cases d:zo1 s with
 |false=>rw[d,Qj rfl]at h;cases h
 |true=>
  rw[d,Qf (by decide)]at h;cases l:zgA (Lib.cut s nlL).2.1 with
  |none=>rw[l]at h;cases h
  |some g=>
   rw[l]at h;dsimp only at h;cases m:(Lib.cut (nlL++g) (nlL++zbD b)).2.2 with
   |false=>rw[m,Qj rfl]at h;cases h
   |true=>
    rw[m,Qf (by decide)]at h;injection h with h
    injection h with h1 h2
    unfold zo1 at d;simp only[Q3,Bool.not_eq_true']at d;obtain⟨⟨⟨q,C⟩,y⟩,x⟩:=d;obtain⟨o,k⟩:=zgQ m;have k:=k (by unfold nlL;simp);obtain⟨r1,r2⟩:=zh2 hb;have i:(nlL++zbD b).length=b.length+4:=by unfold nlL zbD;simp
    subst h1;subst h2
    refine⟨?_,?_⟩
    ·unfold badP
     rw[Xx];refine⟨x,?_⟩;show Lib.contains (nlL++Lib.trimPrefix (Lib.cut (nlL++g) (nlL++zbD b)).1 nlL) (nlL++zbD b)=false
     generalize (Lib.cut (nlL++g) (nlL++zbD b)).1=V at *;cases f:Lib.hasPrefix V nlL with
     |true=>
      have c:=f;unfold Lib.hasPrefix at c;rw[Zg]at c;obtain⟨z,rfl⟩:=c;rw[zxP];exact k
     |false=>
      have w:Lib.trimPrefix V nlL=V:=by unfold Lib.trimPrefix;rw[f,Qf (by decide)]
      rw[w]
      have t:V.length<2:=by
       rcases ZJ V.length 2 with h|h
       ·exact h
       ·exfalso
        have v:nlL <+:V:=by
         have n:nlL <+:(V++(nlL++zbD b)++(Lib.cut (nlL++g) (nlL++zbD b)).2.1):=by rw[<-o];exact Xr _ _
         rw[Q4]at n;exact List.prefix_of_prefix_length_le n (Xr _ _) h
        unfold Lib.hasPrefix at f;rw[Zg.2 v]at f;cases f
      refine zd3 λj _=>?_
      cases u:Lib.occAt (nlL++V) (nlL++zbD b) j with
      |false=>rfl
      |true=>
       exfalso
       rcases Lib.occAt_room u with e|e
       ·rw[i,Qb]at e
        have:nlL.length=2:=rfl;omega
       ·rw[e]at i;simp at i
    ·have e:=Zm List.length o
     rw[Qb,Qb,Qb,i]at e;have B:=zwp l;have A:=zd9 q;have:nlL.length=2:=rfl;omega
