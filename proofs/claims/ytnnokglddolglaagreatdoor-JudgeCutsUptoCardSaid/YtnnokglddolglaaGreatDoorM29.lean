/- Lemmas for the last texts. -/
import Derived.Test.YtnnokglddolglaaGreatDoorM28
set_option maxHeartbeats 6400000
set_option maxRecDepth 100000
namespace Go.Proofs.YtnnokglddolglaaGreatDoor
open Go.RowKit Go.Proofs.Tryz
def rowZ:RowT Int where
 e:=3
 t:=31
 size:=1
 bytes:=8
 z:=jA 0
 cells x:=[jA x]
 hsz _:=rfl
 hpos:=by decide
 under:=underlying31
 info:=by kernel_rfl
 hz:=rfl
 one x u hu:=by
  rw[Qy]at hu;rw[hu];rfl
 hbytes:=by decide
section
variable {P:Program} {w:World}
theorem zr3(base:Nat)(t F e:TypeId)(i:TypeInfo)(z:Value)(size o:Nat)(G:P.underlying t=some (.slice e))(I:P.info? e=some i)(L:i.zero=some z)
 (q:i.size=size) (C:i.bytes=o)
 (v:Value) (n:Nat) (xs:List Value) (d:w.ownsRow base e size v n xs) (Q:v≠jD 0 0)
 (a:Addr) (m c:Nat) (b:List Value) (hl:b.length=m*size) (l:∀j u,b[j]? = some u->w.cell? (a.add j)=some u) (h1:∀u∈b,u.oneCell'=true)
 (B:n+m<=maxLen) (p:(n+m)*o<=140737488355328) {v':Value} {w':World} (H:(Builtin.append_ #[t,t] F #[v,.slice (some a) m c]).run P w=.ok v' w'):
 ∀k,v'.ownBlock=some k->v.ownBlock=some k\/w.heap.size<=k:=by
 subst q;subst C;have y:n+m<=9223372036854775807:=by simp only[maxLen]at B;omega
 rcases d.2 with ⟨rfl,rfl⟩|⟨g,cap,s,rfl,N,K,O,J,E,D⟩
 ·exact absurd rfl Q
 ·by_cases h:n+m<=cap
  ·have x:n*i.size+b.length<=s.size:=by rw[hl,E,<-Nat.add_mul];exact Xs _ h
   have f:=run_append_room (P:=P) w t F e i G I g n cap s K a m c b hl l h1 h x;rw[H]at f;injection f with h2 _
   subst h2;exact λk A=>.inl A
  ·have r:∀j u,xs[j]? = some u->w.cell? ((⟨g,0,none⟩:Addr).add j)=some u:=d.cells (g:=g) rfl
   have f:=run_append_grow (P:=P) w t F e i z G I L ⟨g,0,none⟩ n cap xs d.1 r a m c b hl l (by omega) (by omega) (growslice_fits (by omega) p);rw[H]at f;injection f with h2 _
   subst h2;intro k A;simp only[Value.ownBlock,Option.some.injEq]at A;exact .inr (by omega)
end
section
variable {ops:Array Oper} {o:Oper} {a:Act} {Q:Exit->Act->World->Prop} {w:World}
theorem zjj{m:Type}(R:RowT m){K:Act->World->Prop}{E:Prop}(i:o.guard=none)(s x:Operand)(q:o.op=.call {callee:=.builtin .append,args:=#[s,x],argTypes:=#[R.t,R.t]})
 (base:Nat) (v:Value) (l:List m) (u:a.eval s=v) (f:OwnG R w base v l) (d:base<=w.heap.size)
 (j:List Value) (new:m) (z:j=R.cells new) (k:Nat) (n:w.heap.size=k) (c:Nat) (y:a.eval x=.slice k 1 c)
 (b:l.length<=1048576)
 (h:∀v' w',OwnG R w' base v' (l++[new])->Below base w w'->(∀g,g<w.heap.size->v.ownBlock≠some g->w'.heap[g]? = w.heap[g]?)->w.heap.size<w'.heap.size->K (a.put o.dst v') w'):
 if Region.wanted o (yielded ops a.tmps)=true then Oper.wp prog o a ((w.alloc (.cells j.toArray R.e)).drew) K Q else E:=
 zkP (w:=w.drew) R i s x q base v l u f.drew d j new z k n c y b λv' w' h1 h2 r p=>h v' w' h1 ⟨h2.os,h2.tape,h2.output,h2.size,h2.block⟩ r p
theorem zjf{J:Type}(R:RowT J){K:Act->World->Prop}{E:Prop}(n:o.guard=none)(s x:Operand)(S:o.op=.call {callee:=.builtin .append,args:=#[s,x],argTypes:=#[R.t,R.t]})
 (base:Nat) (v:Value) (l:List J) (U:a.eval s=v) (f:OwnG R w base v l) (b:base<=w.heap.size)
 (F:List Value) (new:J) (X:F=R.cells new) (G:Nat) (A:w.heap.size=G) (c:Nat) (W:a.eval x=.slice G 1 c)
 (d:l.length<=1048576)
 (h:∀v' w',OwnG R w' base v' (l++[new])->Below base w w'->(∀g,g<w.heap.size->v.ownBlock≠some g->w'.heap[g]? = w.heap[g]?)->w.heap.size<=w'.heap.size->(∀k,v'.ownBlock=some k->v.ownBlock=some k\/w.heap.size<=k)->K (a.put o.dst v') w'):
 if Region.wanted o (yielded ops a.tmps)=true then Oper.wp prog o a ((w.alloc (.cells F.toArray R.e)).drew) K Q else E:=by
 rcases f.cases with ⟨H,D⟩|⟨gv,cv,N,_,_⟩
 ·subst D
  exact zjj R n s x S w.heap.size v [] U (by rw[H];exact OwnG.nil _ _ _) (Qc _) F new X G A c W d λv' w' h1 h2 L Z=>h v' w' (h1.low b) (h2.mono b) L (QX Z) λk q=>.inr (h1.lt k q).1
 ·have hw:Region.wanted o (yielded ops a.tmps)=true:=by simp[Region.wanted,n]
  rw[Qg hw];subst X;subst A
  obtain⟨O,V,p,r,u⟩:=ZG R.info;have hn:v≠jD 0 0:=by rw[N];intro e;cases e
  have i:=World.ownsRow.alloc (show w.drew.ownsRow base R.e R.size v l.length (l.flatMap R.cells)from f) (.cells (R.cells new).toArray R.e);have j:=zd2 w.drew (R.cells new) R.e;have hb:=R.hbytes;have y:(l.length+1)*R.bytes<=140737488355328:=Ql (Nat.mul_le_mul (Nat.add_le_add_right d 1) hb) (by decide)
  obtain⟨v',w',T,h2,L,_⟩:=run_append_own (P:=prog) (w.drew.alloc (.cells (R.cells new).toArray R.e)) base R.t o.type R.e O R.z R.size R.bytes R.under V p r u R.hz R.hpos v l.length (l.flatMap R.cells) i
   ⟨w.heap.size,0,none⟩ 1 c (R.cells new) (by rw[R.hsz,Nat.one_mul]) j (R.one new) (by unfold maxLen;omega) y (by simp;omega)
  have I:=zr3 (P:=prog) (w:=w.drew.alloc (.cells (R.cells new).toArray R.e)) base R.t o.type R.e O R.z R.size R.bytes R.under V p r u v l.length (l.flatMap R.cells) i hn
   ⟨w.heap.size,0,none⟩ 1 c (R.cells new) (by rw[R.hsz,Nat.one_mul]) j (R.one new) (by unfold maxLen;omega) y T
  have B:=zax (World.grownBy_alloc w.drew (.cells (R.cells new).toArray R.e) v.ownBlock) L;have m:w.grownBy w' v.ownBlock:=⟨B.os,B.tape,B.output,B.size,B.block⟩
  show Oper.wp prog o a (w.drew.alloc (.cells (R.cells new).toArray R.e)) K Q
  unfold Oper.wp execOp;simp only[S,resolve,invoke,builtin,Xf,Sem.run_pure,Zx,List.map_toArray,QW,Zu,U,W,T];refine h v' w' (by unfold OwnG;rw[Qa,Q6];simpa using h2) ((Qj _ _).grown m b λk q=>(f.lt k q).1) (λg Y C=>m.block g Y λe=>C e.symm) m.size λk q=>?_
  rcases I k q with h|h
  ·exact .inl h
  ·exact .inr (by simp at h;omega)
end
def GM(u:Nat)(a:Value)(k:Nat):Prop:=k=u\/a.ownBlock=some k
def idsB(a:List RuB):List Int:=a.map λp=>p.2.r.id
structure D1(u:Nat)(c:zd4)(S0 B:Nat)(s:RunS)(mv:Value)(ps:List RuB)(w:World)(k:Nat)(v:Value)(wr:World):Prop where
 box:UBox u c {s with mt:=s.mt++idsB (ps.take k)} v wr
 own:OwnG rowZ wr S0 v (s.mt++idsB (ps.take k))
 apart:Apart (GM u mv) B w wr
 fresh:∀g,v.ownBlock=some g->mv.ownBlock=some g\/w.heap.size<=g
theorem D1.push{u:Nat}{c:zd4}{b B:Nat}{s:RunS}{f:Value}{a:List RuB}{w wr d:World}{k:Nat}{v i:Value}{x:Int}(h:D1 u c b B s f a w k v wr)(F:idsB (a.take (k+1))=idsB (a.take k)++[x])(m:B<=u/\u<b)(H:b<=w.heap.size)(_:∀g,f.ownBlock=some g->g<w.heap.size)
 (y:OwnG rowZ d b i ((s.mt++idsB (a.take k))++[x])) (hb:Below b wr d) (t:∀g,g<wr.heap.size->v.ownBlock≠some g->d.heap[g]? = wr.heap[g]?) (E:∀g,i.ownBlock=some g->v.ownBlock=some g\/wr.heap.size<=g):
 D1 u c b B s f a w (k+1) i (d.setCell ⟨u,10,none⟩ i):=by
 have C:u<w.heap.size:=by omega
 have o:=h.box.lt;have D:=h.apart.below.size;have l:v.ownBlock≠some u:=λe=>by have:=(h.own.lt u e).1;omega
 have e:s.mt++idsB (a.take (k+1))=(s.mt++idsB (a.take k))++[x]:=by rw[F,QG]
 have A:Apart (GM u f) B wr d->Apart (GM u f) B w d:=λh1=>h.apart.trans h1
 refine⟨?_,?_,?_,λg n=>?_⟩
 ·rw[e]
  exact(h.box.keep (t u o l)).putMt _ _
 ·rw[e]
  exact y.keep λg n=>by
   have h1:=(y.lt g n).1;rw[Qk _ _ _ _ (by show g≠u;omega)]
 ·refine⟨?_,λj G r=>?_⟩
  ·exact(h.apart.below.trans (hb.mono (by omega))).setCell (p:=⟨u,10,none⟩) m.1 _
  ·have q:j≠u:=λe=>r (.inl e)
   rw[Qk _ _ _ _ q];refine(t j (by omega) λe=>?_).trans (h.apart.keep j G r)
   rcases h.fresh j e with h1|h1
   ·exact r (.inr h1)
   ·omega
 ·rcases E g n with h1|h1
  ·exact h.fresh g h1
  ·exact .inr (by omega)
def zym(u:Nat)(c:zd4)(d B:Nat)(s:RunS)(b:Value)(a:List RuB)(w:World)(i:Value)(wr:World):Prop:=
 ∃k v,k<=a.length/\i=jA (k:Int)/\D1 u c d B s b a w k v wr
def zgS(s:RunS)(a:List RuB):RunS:=(a.map λp=>p.2.r).foldl zeW s
def zzy(u:Nat)(c:zd4)(B:Nat)(s:RunS)(v:Value)(a:List RuB)(w:World)(i:Value)(wr:World):Prop:=
 ∃k:Nat,k<=a.length/\i=jA k/\UBox u c (zgS s (a.take k)) v wr/\Apart (λj=>j=u) B w wr
def zzR(u:Nat)(c:zd4)(B:Nat)(b:Int)(s:RunS)(v:Value)(a:List zcZ)(w:World)(i:Value)(wr:World):Prop:=
 ∃j:Nat,j<=a.length/\i=jA j/\UBox u c ((a.take j).foldl (actS b) s) v wr/\Apart (λj=>j=u) B w wr
theorem zpE(s:RunS)(a:List RuB)(k:Nat)(b:k<a.length):zgS s (a.take (k+1))=zeW (zgS s (a.take k)) a[k].2.r:=by
 unfold zgS;rw[Qs b,Q2,XV]
 rfl
theorem ztx(a:Int)(s:RunS)(l:List zcZ)(j:Nat)(b:j<l.length):(l.take (j+1)).foldl (actS a) s=actS a ((l.take j).foldl (actS a) s) l[j]:=by
 rw[Qs b,XV]
 rfl
theorem zvn(a:List RuB)(k:Nat)(b:k<a.length):idsB (a.take (k+1))=idsB (a.take k)++[a[k].2.r.id]:=by
 unfold idsB;rw[Qs b,Q2]
 rfl
theorem ztI(b:Int)(s:RunS)(a:zcZ)(h:s.dn=true):actS b s a=s:=by unfold actS;rw[Qg h]
theorem zn0{c:List RuB}{s:RunS}(h:∀p∈c,∀a∈p.2.r.acts,0<=a.n/\a.n<=1000)(e:0<=s.sc/\s.sc<=1000000)(k:Nat):0<=(zgS s (c.take k)).sc/\(zgS s (c.take k)).sc<=1000000:=by
 have b:Adds ((c.take k).map λp=>p.2.r):=λr i a d=>by
  obtain⟨p,f,rfl⟩:=QR.1 i;have:=h p (Xd f) a d;unfold zdh
  split <;> omega
 obtain⟨_,_,_,_,_,g,j⟩:=zdL _ s b;exact⟨g e.1,j e.2⟩
theorem znv{l:List zcZ}{s:RunS}(b:Int)(f:∀a∈l,0<=a.n/\a.n<=1000)(d:0<=s.sc/\s.sc<=1000000)(j:Nat):0<=((l.take j).foldl (actS b) s).sc/\((l.take j).foldl (actS b) s).sc<=1000000:=by
 obtain⟨_,_,_,_,_,e,g⟩:=zfL b (l.take j) s λa c=>by
  have:=f a (Xd c);unfold zdh
  split <;> omega
 exact⟨e d.1,g d.2⟩
def zs3(u:Nat)(c:zd4)(d B:Nat)(S:RunS)(b:Value)(w:World)(e:Ending)(w':World):Prop:=
 e=jC (.tuple #[])/\∃a,UBox u c S a w'/\OwnG rowZ w' d a S.mt/\Apart (GM u b) B w w'/\∀g,a.ownBlock=some g->b.ownBlock=some g\/w.heap.size<=g
theorem zzD{B u:Nat}{hI:List RuB}{q:RunQ}{F:World}(cx:zgN B u hI q F)(s:RunS)(D:Value)(c:List RuB)(H:∀p∈c,p∈hI)(gz:c.length<=4096)(gy:s.mt.length<=4096)(Ap:Option Addr)(cp:Nat)(w:World)
 (hz:F.heap.size<=w.heap.size) (g2:Below B F w) (hu:UBox u q.uc s D w) (h0:OwnG rowZ w F.heap.size D s.mt) (hJ:0<=s.sc/\s.sc<=1000000)
 (hc:∀p∈c,w.cell? ⟨p.1,0,none⟩=some (jA p.2.r.id)/\w.cell? ⟨p.1,7,none⟩=some (.slice p.2.aA p.2.r.acts.length p.2.ac))
 (f:∀W,Apart (GM u D) B w W->Sl W W.heap.size 1 Ap c.length (c.map λp=>ptrV p.1)):
 Calls prog 54 #[.pointer u,.slice Ap c.length cp] w (zs3 u q.uc F.heap.size B (doS s (c.map λp=>p.2.r)) D w):=by
 have P:Hid (∀p∈c,∀W,Apart (GM u D) B w W->W.cell? ⟨p.1,0,none⟩=some (jA p.2.r.id)/\W.cell? ⟨p.1,7,none⟩=some (.slice p.2.aA p.2.r.acts.length p.2.ac)):=λp Q W hW=>by
  obtain⟨h1,h2⟩:=hc p Q;have hb:=cx.base p (H p Q)
  have hk:=hW.keep p.1 (by omega) λhh=>by
   rcases hh with e|e
   ·exact hb.2.2 e
   ·have:=(h0.lt _ e).1;omega
  exact⟨zaX hk 0 h1,zaX hk 7 h2⟩
 have g3:Hid (∀p∈c,∀W,Below B F W->Sl W W.heap.size 2 p.2.aA p.2.r.acts.length (p.2.r.acts.flatMap zck)):=λp Q W hW=>((cx.rin p (H p Q)).acts.below hW).more (Ql cx.ub.1 (QX (Qv cx.ub.2 hW.size)))
 have hf:Hid (∀p∈c,∀a∈p.2.r.acts,0<=a.n/\a.n<=1000):=λp Q=>cx.acts p (H p Q)
 have hi:Hid (∀p∈c,p.2.r.acts.length<=1048576):=λp Q=>(cx.small p (H p Q)).acts
 have h8:=hIx f;have hT:=cx.ub
 have V:Hid (doS s (c.map λp=>p.2.r)=zgS {s with mt:=s.mt++idsB c} c):=by
  unfold Hid doS zgS idsB;rw[Xr];rfl
 have gq:=hIx hJ;have ga:=hIx g2;generalize doS s (c.map λp=>p.2.r)=S at *;unfold zs3;have gi:Hid (∀g,D.ownBlock=some g->g<w.heap.size):=λg hg=>(h0.lt g hg).2
 have hV:zym u q.uc F.heap.size B s D c w (jA 0) w:=⟨0,D,Qm _,rfl,by
  have e:idsB (c.take 0)=[]:=rfl
  constructor
  ·rw[e,QE];exact hu
  ·rw[e,QE];exact h0
  ·exact Apart.refl _ _ _
  ·exact λg hg=>.inl hg⟩
 have hC:=hIx hV;clear hc f H hV hu h0 cx hJ g2
 go_in
 go_wp2
 go_loopw [12] (λi wr=>zym u q.uc F.heap.size B s D c w i wr) (λi _=>c.length-(intOf i).toNat)
 case atStart=>exact hC.out
 case round=>
  obtain⟨k,v,hk,rfl,l⟩:=hrel
  by_cases x:k<c.length
  ·have d1:decide ((k:Int)<(c.length:Int))=true:=by simp;omega
   have i7:IntKind.i64.wrap ((k:Int)+1)=(k:Int)+1:=Qx _ (by omega);obtain⟨b,off,rfl,x0⟩:=zpo (h8.out wr l.apart) k x;have ⟨y0,_⟩:=P.out c[k] (Qz x) wr l.apart;have ho:=hIx (zvn c k x);generalize c[k]=p at *;obtain⟨p1,d⟩:=p;dsimp only at *;have hN:=l.box.out.2.2.2.1;have gp:=l.box.free 10;have gk:=Ql hz l.apart.below.size
   have hH:(s.mt++idsB (c.take k)).length<=1048576:=by
    rw[Qa];unfold idsB;rw[Qh];have:=ZS k c;omega
   have hF:=l.box.lt;have HD:=hIx l;obtain⟨Av,cv,rfl,_⟩:=l.own.form;have hs:=hIx l.own;obtain⟨t,z⟩:∃t,s.mt++idsB (c.take k)=t:=⟨_,rfl⟩
   rw[z]at hH hs hN;have gj:Hid ((Value.slice Av t.length cv).ownBlock≠some u):=λe=>by have:=(hs.out.lt u e).1;omega
   clear l;go_upto_region 3 with fail
   go_region_law (first|(refine zjf rowZ rfl (.tmp 21) (.tmp 27) rfl F.heap.size (.slice Av t.length cv) t rfl (by exact hs.out) (by exact gk) _ d.r.id rfl _ rfl 1 rfl hH ?_;intro v6 w6 hv hU hn gx hB;obtain⟨g6,c6,rfl,_,_⟩:=hv.head (by simp);have ht:=hn u hF gj.out;have gh:w6.cell? ⟨u,10,none⟩=some (.slice Av t.length cv):=zaX ht 10 hN;have gm:w6.frozen? ⟨u,10,none⟩=false:=zmx ht 10 ▸ gp)|fail "arm")
   all_goals
    have g8:Hid (zym u q.uc F.heap.size B s D c w (jA ((k:Int)+1)) (w6.setCell ⟨u,10,none⟩ (.slice g6 (t.length+1) c6))):=⟨k+1,_,by omega,rfl,HD.out.push ho.out hT hz gi.out (by rw[z];have h:=hv;rw[Qa]at h;exact h) hU (by rw[z];exact hn) (by rw[z];intro g hg;exact hB g (by rw[Qa];exact hg))⟩
    clear hv hU hn hB ht gh gm;go_wp2;exact⟨g8.out,by dsimp only[intOf];omega⟩
  ·obtain rfl:k=c.length:=by omega
   have d1:decide ((c.length:Int)<(c.length:Int))=false:=by simp
   have e9:c.take c.length=c:=QZ;have gg:=l;have G:=l.box;have hw:=l.own;rw[e9]at G hw;obtain⟨y,Y⟩:∃y:RunS,{s with mt:=s.mt++idsB c}=y:=⟨_,rfl⟩
   rw[Y]at G V;have h9:0<=y.sc/\y.sc<=1000000:=by rw[<-Y];exact gq.out
   have ha:y.mt=s.mt++idsB c:=by rw[<-Y]
   have N:Hid ((zgS y c).mt=y.mt):=by
    have hm:Adds (c.map λp=>p.2.r):=λr hr a g7=>by
     obtain⟨p,Q,rfl⟩:=QR.1 hr;have:=hf.out p Q a g7;unfold zdh
     split <;> omega
    exact(zdL _ y hm).2.1
   have I:Hid (OwnG rowZ wr F.heap.size v S.mt):=by unfold Hid;rw[V.out,N.out,ha];exact hw
   have gn:=hIx l.apart;have gr:=hIx l.fresh;have gd:=hIx (zn0 hf.out h9);have g9:=hIx (zpE y c);have gb:Hid (S=zgS y c):=V;have gC:=l.apart.below.size;have hF:=G.lt;have gl:=hIx G;clear l gg hw G e9 Y ha V N hC h9;obtain⟨w1,rfl⟩:∃w1:World,w1=wr:=⟨_,rfl⟩
   go_wp2
   go_loopw [35] (λi wr=>zzy u q.uc B y v c w1 i wr) (λi _=>c.length-(intOf i).toNat)
   case atStart=>exact⟨0,Qm _,rfl,gl.out,Apart.refl _ _ _⟩
   case round=>
    obtain⟨k,hk,rfl,E,L⟩:=hrel;have A:Apart (GM u D) B w wr:=gn.out.trans (L.mono λj hj=>.inl hj)
    by_cases x:k<c.length
    ·have d2:decide ((k:Int)<(c.length:Int))=true:=by simp;omega
     have i7:IntKind.i64.wrap ((k:Int)+1)=(k:Int)+1:=Qx _ (by omega);obtain⟨b,off,rfl,x0⟩:=zpo (h8.out wr A) k x;have m:=Qz x;have ⟨y0,y7⟩:=P.out c[k] m wr A;have hX:=hIx (P.out c[k] m);have hR:=hIx (g3.out c[k] m);have h7:=hIx (hf.out c[k] m);have gw:=hi.out c[k] m;have hZ:=hIx (g9.out k x);have hy:=gd.out k;generalize c[k]=p at *;obtain⟨p1,d⟩:=p;dsimp only at *;obtain⟨aA,hP⟩:∃aA,d.aA=aA:=⟨_,rfl⟩
     rw[hP]at y7 hX hR;clear hP;obtain⟨T,O⟩:∃T,zgS y (c.take k)=T:=⟨_,rfl⟩
     rw[O]at E hy;have hG:Hid (zgS y (c.take (k+1))=d.r.acts.foldl (actS d.r.id) T):=by unfold Hid;rw[hZ.out,O];rfl
     have ge:=hIx A;have hO:=hIx L;have g0:=hIx E;clear E L A O hZ;obtain⟨wo,rfl⟩:∃wo:World,wo=wr:=⟨_,rfl⟩
     go_wp2
     go_loopw [45] (λi wr=>zzR u q.uc B d.r.id T v d.r.acts wo i wr) (λi _=>d.r.acts.length-(intOf i).toNat)
     case atStart=>exact⟨0,Qm _,rfl,g0.out,Apart.refl _ _ _⟩
     case round=>
      obtain⟨j,hj,rfl,o,J⟩:=hrel;have U:Apart (GM u D) B w wr:=ge.out.trans (J.mono λj hj=>.inl hj)
      by_cases he:j<d.r.acts.length
      ·have d3:decide ((j:Int)<(d.r.acts.length:Int))=true:=by simp;omega
       have i8:IntKind.i64.wrap ((j:Int)+1)=(j:Int)+1:=Qx _ (by omega);have hQ:=hR.out wr (ga.out.trans U.below);obtain⟨b',gv,rfl,_,x1,x2⟩:=zwU hQ j he;have ⟨y0,_⟩:=hX.out wr U;have hE:=hIx (ztx d.r.id T d.r.acts j he);have hK:=znv d.r.id h7.out hy j;have g5:=h7.out d.r.acts[j] (Qz he);generalize d.r.acts[j]=a at *;obtain⟨Z,an⟩:=a;dsimp only at *;obtain⟨sj,hx⟩:∃sj,(d.r.acts.take j).foldl (actS d.r.id) T=sj:=⟨_,rfl⟩
       rw[hx]at o hK;have h6:Hid ((d.r.acts.take (j+1)).foldl (actS d.r.id) T=actS d.r.id sj ⟨Z,an⟩):=by unfold Hid;rw[hE.out,hx]
       have gA:=o.lt;have gc:B<=wr.heap.size:=by omega
       obtain⟨K,h5⟩:∃K,wr.alloc (.cells #[jA Z,jA an] 44)=K:=⟨_,rfl⟩
       have h4:wr K:=by rw[<-h5];exact WaL
       have f:K.heap[wr.heap.size]? = some (.cells #[jA Z,jA an] 44 (0,0)):=by rw[<-h5];exact Qt wr _
       have a0:K.cell? ⟨wr.heap.size,0,none⟩=some (jA Z):=Qf _ _ 0 _ _ _ f;have a1:K.cell? ⟨wr.heap.size,1,none⟩=some (jA an):=Qf _ _ 1 _ _ _ f;have hd:=o.below h4;have hL:=hd.out.2.2.2.2.2;have hY:=zaz f;have hq:=zaa h4 y0;have hS:=hIx hd;have hA:Hid (Apart (λj=>j=u) B wo K):=J.trans (Apart.of h4 gc);have gB:=QQ wr _ y0
       have gt:p1≠u:=by
        intro e;have h1:=Qf wr u 0 _ _ _ o;rw[e]at y0;rw[y0]at h1;cases h1
       have gs:=hIx h5;clear hx hE o J U h5 h4 hd hQ;go_upto_region 11 with fail
       rw[gs.out];cases C:sj.dn with
       |true=>
        rw[C]at hL;have ho:Hid ((d.r.acts.take (j+1)).foldl (actS d.r.id) T=sj):=by unfold Hid;rw[h6.out];exact ztI _ _ _ C
        clear C;go_wp2;exact⟨⟨j+1,by omega,rfl,by rw[ho.out];exact hS.out,hA.out⟩,by dsimp only[intOf];omega⟩
       |false=>
        rw[C]at hL
        have HC:Hid (Calls prog 85 #[.pointer u,jA d.r.id,.agg #[jA Z,jA an]] K.drew λe X=>e=jC (.tuple #[])/\(UBox u q.uc (actS d.r.id sj ⟨Z,an⟩) v X/\Oth B u K.drew X)/\X.cell? p1=some (jA d.r.id)/\X.cell? wr.heap.size=some (jA Z)/\X.cell? ⟨wr.heap.size,1,none⟩=some (jA an)):=
         (zuZ B u q.uc sj v d.r.id ⟨Z,an⟩ K.drew (hS.out.below (Qj _ _).drew) hT.1 C hK g5).mono λe X ⟨h1,h2,h3⟩=>⟨h1,⟨h2,h3⟩,zaX (h3.keep p1 (QQ K _ hq) gt) 0 hq,zaX (h3.keep wr.heap.size hY (by omega)) 0 a0,zaX (h3.keep wr.heap.size hY (by omega)) 1 a1⟩
        clear C;go_upto_region 12 with fail
        go_region_held3 (λw'=>w'.cell? p1=some (jA d.r.id)/\w'.cell? wr.heap.size=some (jA Z)/\w'.cell? ⟨wr.heap.size,1,none⟩=some (jA an))
         (first|exact⟨hq,a0,a1⟩|exact K9|go_keep|fail "keep")
         (first|(go_at_call 85;(with_reducible refine HC.out.mono ?_);rintro e X ⟨rfl,⟨g4,g1⟩,K9⟩)|fail "arm")
        have gf:Hid (Apart (λj=>j=u) B wo X):=(hA.out.trans (Apart.of (Qj _ _).drew (by omega))).trans (g1.apart rfl);have gu:Hid (UBox u q.uc ((d.r.acts.take (j+1)).foldl (actS d.r.id) T) v X):=by unfold Hid;rw[h6.out];exact g4
        clear g4 g1 K9 HC;go_wp2;exact⟨⟨j+1,by omega,rfl,gu.out,gf.out⟩,by dsimp only[intOf];omega⟩
      ·obtain rfl:j=d.r.acts.length:=by omega
       have d3:decide ((d.r.acts.length:Int)<(d.r.acts.length:Int))=false:=by simp
       rw[QZ,<-hG.out]at o;have HF:Hid (zzy u q.uc B y v c w1 (jA ((k:Int)+1)) wr):=⟨k+1,by omega,rfl,o,hO.out.trans J⟩
       clear o J U;go_wp2;exact⟨HF.out,by dsimp only[intOf];omega⟩
    ·obtain rfl:k=c.length:=by omega
     have d2:decide ((c.length:Int)<(c.length:Int))=false:=by simp
     rw[QZ,<-gb.out]at E;have HF:Hid (zs3 u q.uc F.heap.size B S D w (jC (.tuple #[])) wr):=⟨rfl,v,E,I.out.keep λg hg=>L.keep g (I.out.lt g hg).2 λe=>by have:=(I.out.lt g hg).1;omega,A,gr.out⟩
     clear E L A;go_wp2_with fail
     go_end0
     exact HF.out
def SkOk(s:RunS):Prop:=0<=s.sk/\s.sk<=1000
def ActsOk(l:List zat):Prop:=∀r∈l,∀a∈r.acts,0<=a.n/\a.n<=1000
theorem ActsOk.adds{l:List zat}(h:ActsOk l):Adds l:=λr c a b=>by
 have:=h r c a b;unfold zdh
 split <;> omega
theorem zxm(b:Int)(s:RunS)(a:zcZ)(h:SkOk s)(c:0<=a.n/\a.n<=1000):SkOk (actS b s a):=by
 unfold actS
 split
 ·exact h
 split
 ·exact h
 split
 ·exact c
 split
 ·exact h
 split
 ·exact h
 ·exact h
theorem zsw(b:Int):∀(l:List zcZ) (s:RunS),SkOk s->(∀a∈l,0<=a.n/\a.n<=1000)->SkOk (l.foldl (actS b) s)
 | [],_,h,_=>h
 |a::l,s,h,c=>zsw b l _ (zxm b s a h (c a Zg)) λx d=>c x (Ze _ d)
theorem zoU:∀(c:List zat) (s:RunS),SkOk s->ActsOk c->SkOk (c.foldl zeW s)
 | [],_,h,_=>h
 |r::c,s,h,a=>zoU c _ (zsw r.id r.acts s h (a r Zg)) λx b=>a x (Ze _ b)
theorem zu3(hit:Int->zat->Bool)(s:RunS)(c:List zat)(h:SkOk s)(a:ActsOk c):SkOk (zd8 hit s c):=by
 unfold zd8
 split
 ·exact h
 split
 ·exact⟨by show 0<=s.sk-1;omega,by show s.sk-1<=1000;have:=h.2;omega⟩
 split
 ·exact zoU c _ h a
 ·exact h
theorem zrW(hit:Int->zat->Bool)(b:Int):∀(l:List zat) (x:RunS × List zat),SkOk x.1->ActsOk x.2->ActsOk l->SkOk (l.foldl (phS hit b) x).1
 | [],_,h,_,_=>h
 |r::l,x,h,h2,hl=>by
  rw[List.foldl_cons]
  have c:ActsOk (x.2++[r]):=λy a=>by
   rcases QO.1 a with a|a
   ·exact h2 y a
   ·rw[Qy.1 a];exact hl r Zg
  refine zrW hit b l _ ?_ ?_ λy a=>hl y (Ze _ a)
  ·unfold phS
   split
   ·exact h
   split
   ·exact h
   ·exact zu3 hit _ _ h c
  ·unfold phS
   split
   ·exact h2
   split
   ·exact c
   ·exact λy a=>(by cases a)
def zfO(hit:Int->zat->Bool)(a:Int)(s:RunS)(l:List zat):RunS × List zat:=l.foldl (phS hit a) ({s with sk:=0},[])
theorem zqZ(hit:Int->zat->Bool)(a:Int)(s:RunS)(l:List zat)(k:Nat)(b:k<l.length):zfO hit a s (l.take (k+1))=phS hit a (zfO hit a s (l.take k)) l[k]:=by
 unfold zfO;rw[Qs b,XV]
 rfl
structure zzK(s:RunS)(n:Nat)(x:RunS × List zat):Prop where
 lo:0<=x.1.sc
 hi:x.1.sc<=1000000
 len:x.1.mt.length+x.2.length<=s.mt.length+n
 sk:SkOk x.1
theorem zhs(hit:Int->zat->Bool)(b:Int)(s:RunS)(l:List zat)(g:ActsOk l)(d:0<=s.sc/\s.sc<=1000000)(k:Nat):zzK s l.length (zfO hit b s (l.take k)):=by
 have a:ActsOk (l.take k):=λr c=>g r (Xd c)
 have h:=zof hit b {s with sk:=0} (l.take k) [] ({s with sk:=0},[]) ⟨ZD _,List.Sublist.refl _,.inl rfl,λ_ h=>h,λr c=>(by cases c),λ_=>⟨rfl,rfl⟩,λh=>h,λh=>h⟩ a.adds;rw[Xu]at h;have hl:=h.mt.length_le;rw[Qa,Qa,Qh,Qh]at hl;have h1:((l.take k).filter λr=>r.phase==b).length<=(l.take k).length:=Zn _ _;have h2:=List.length_take_le' k l;have e:({s with sk:=0}:RunS).mt=s.mt:=rfl;rw[e]at hl;refine⟨h.lo d.1,h.hi d.2,?_,zrW hit b _ _ ⟨ZD _,by show (0:Int)<=1000;decide⟩ (λy f=>(by cases f)) a⟩;unfold zfO;omega
def FF(a:Nat)(b:Value)(k:Nat):Prop:=k<a\/b.ownBlock=some k
structure RunAt(B u:Nat)(all:List RuB)(q:RunQ)(wS:World)(s:RunS)(mv:Value)(w:World):Prop where
 ap:Apart (GU u all) B wS w
 box:UBox u q.uc s mv w
 own:OwnG rowZ w wS.heap.size mv s.mt
 st:AllSt (FF wS.heap.size mv) all w
section
variable {B u:Nat} {all:List RuB} {q:RunQ} {wS:World} {s:RunS} {mv:Value} {w W:World}
theorem RunAt.next(h:RunAt B u all q wS s mv w)(a:B<=w.heap.size)(hb:w W):RunAt B u all q wS s mv W:=
 ⟨h.ap.trans (Apart.of hb a),h.box.below hb,h.own.below hb,h.st.next hb⟩
theorem RunAt.size(h:RunAt B u all q wS s mv w):wS.heap.size<=w.heap.size:=h.ap.below.size
theorem RunAt.skip(h:RunAt B u all q wS s mv w)(b:zgN B u all q wS)(k:Int):RunAt B u all q wS {s with sk:=k} mv (w.setCell ⟨u,11,none⟩ (jA k)):=by
 have a:∀j,j≠u->(w.setCell ⟨u,11,none⟩ (jA k)).heap[j]? = w.heap[j]? := λj f=>Qk _ _ _ _ f
 refine⟨h.ap.trans ⟨(Qj _ _).setCell (p:=⟨u,11,none⟩) b.ub.1 _,λj _ c=>a j λe=>c (.inl e)⟩,h.box.putSk k,h.own.keep λg i=>a g ?_,h.st.keep (by rw[Z8];exact Qc _) (λp d=>a _ (b.base p d).2.2) λj _ c=>a j λe=>c (.inl (by rw[e];exact b.ub.2))⟩;have:=(h.own.lt g i).1;have:=b.ub.2;omega
theorem RunAt.asked(h:RunAt B u all q wS s mv w)(c:zgN B u all q wS)(i:AllSt (FF wS.heap.size mv) all W)(b:Apart (zeP all) B w W):RunAt B u all q wS s mv W:=by
 refine⟨h.ap.trans (b.mono λk f=>.inr f),h.box.keep (b.keep u h.box.lt λ⟨p,a,e⟩=>(c.base p a).2.2 e),h.own.keep λg d=>b.keep g (h.own.lt g d).2 λ⟨p,a,e⟩=>?_,i⟩;have:=(h.own.lt g d).1;have:=(c.base p a).2.1;omega
theorem RunAt.did{S:RunS}{a:Value}(h:RunAt B u all q wS s mv w)(f:zgN B u all q wS)(hb:UBox u q.uc S a W)(t:OwnG rowZ W wS.heap.size a S.mt)(i:Apart (GM u mv) B w W)(r:∀g,a.ownBlock=some g->mv.ownBlock=some g\/w.heap.size<=g):RunAt B u all q wS S a W:=by
 have b:∀g,mv.ownBlock=some g->wS.heap.size<=g:=λg o=>(h.own.lt g o).1
 have l:∀p∈all,¬GM u mv p.1:=λp d n=>by
  rcases n with e|e
  ·exact(f.base p d).2.2 e
  ·have:=b _ e
   have:=(f.base p d).2.1;omega
 refine⟨h.ap.then i λj x=>?_,hb,t,?_⟩
 ·rcases x with e|e
  ·exact .inl (.inl e)
  ·exact .inr (b j e)
 ·have h1:AllSt (λk=>k<wS.heap.size\/mv.ownBlock=some k\/a.ownBlock=some k) all w:=h.st.more λk c=>by
   rcases c with e|e|e
   ·exact .inl (.inl e)
   ·exact .inl (.inr e)
   ·rcases r k e with m|m
    ·exact .inl (.inr m)
    ·exact .inr m
  have h2:=h1.keep (W:=W) i.below.size (λp d=>i.keep p.1 (Qv (f.base p d).2.1 h.size) (l p d)) λk c v=>i.keep k c λn=>v (by
   rcases n with e|e
   ·exact .inl (by rw[e];exact f.ub.2)
   ·exact .inr (.inl e))
  exact h2.more λk c=>by
   rcases c with e|e
   ·exact .inl (.inl e)
   ·exact .inl (.inr (.inr e))
end
def zse(B u:Nat)(a:List RuB)(q:RunQ)(f:World)(d:Int)(s:RunS)(v i:Value)(wr:World):Prop:=
 ∃(k:Nat) (b:World) (e:Value) (c:List RuB),k<=a.length/\i=jA (k:Int)/\RunAt B u a q f (zfO q.hit d s ((a.map λp=>p.2.r).take k)).1 e b/\b wr/\OwnG rowP wr b.heap.size v (c.map (·.1))/\
  (c.map λp=>p.2.r)=(zfO q.hit d s ((a.map λp=>p.2.r).take k)).2/\∀p∈c,p∈a
def ziM(B u:Nat)(a:List RuB)(q:RunQ)(c:World)(S:RunS)(e:Ending)(w':World):Prop:=
 e=jC (.tuple #[])/\∃b,RunAt B u a q c S b w'
theorem zl8{B u:Nat}{a:List RuB}{q:RunQ}{H:World}(cx:zgN B u a q H)(C:Int)(s:RunS)(z:Value)(gb:a.length<=1000)(gc:s.mt.length<=1000)(g4:0<=s.sc/\s.sc<=1000000)(Ap:Option Addr)(cp:Nat)(w:World)(hQ:RunAt B u a q H s z w)
 (hE:∀W,Apart (GU u a) B H W->Sl W W.heap.size 1 Ap a.length (a.map λp=>ptrV p.1)):
 Calls prog 29 #[.pointer u,.slice Ap a.length cp,jA C] w (ziM B u a q H (zaY q.hit C (a.map λp=>p.2.r) s)):=by
 have hu:=hQ.box;have hn:=hu.out.2.2.2.2.1;have hc:=hu.free 11
 have he:ActsOk (a.map λp=>p.2.r):=λr hr=>by
  obtain⟨p,G,rfl⟩:=QR.1 hr;exact cx.acts p G
 have g2:=hIx (zhs q.hit C s (a.map λp=>p.2.r) he g4);have hW:=hIx (zqZ q.hit C s (a.map λp=>p.2.r));have hY:=hIx hE;have E:=hIx cx
 have hU:Hid (zaY q.hit C (a.map λp=>p.2.r) s=(zfO q.hit C s ((a.map λp=>p.2.r).take a.length)).1):=by
  unfold Hid;rw[show (a.map λp=>p.2.r).take a.length=a.map λp=>p.2.r from QF (by rw[Qh];exact Qc _)]
  rfl
 have g8:Hid (zse B u a q H C s (jD 0 0) (jA 0) (w.setCell ⟨u,11,none⟩ (jA 0))):=
  ⟨0,w.setCell ⟨u,11,none⟩ (jA 0),z,[],Qm _,rfl,hQ.skip cx 0,Qj _ _,OwnG.nil _ _ _,rfl,λp G=>by cases G⟩
 generalize zaY q.hit C (a.map λp=>p.2.r) s=S at *;have hR:Hid ((a.map λp=>p.2.r).length=a.length):=Qh _;unfold ziM;clear hE he hu hQ
 go_in
 go_wp2
 go_loopw [6,14] (λv i wr=>zse B u a q H C s v i wr) (λ_ i _=>a.length-(intOf i).toNat)
 case atStart=>exact g8.out
 case round=>
  obtain⟨k,y,z,o,hk,rfl,t,hb,P,ht,hB⟩:=hrel;clear hn hc;have ho:B<=y.heap.size:=Ql cx.ub.1 (QX (Qv cx.ub.2 t.size));have D:=t.next ho hb
  by_cases hv:k<a.length
  ·have d1:decide ((k:Int)<(a.length:Int))=true:=by simp;omega
   have i7:IntKind.i64.wrap ((k:Int)+1)=(k:Int)+1:=Qx _ (by omega);obtain⟨b,off,rfl,x0⟩:=zpo (hY.out wr D.ap) k hv;have Y:=Qz hv;have h5:=D.st.five a[k] Y;have HN:=hIx (hW.out k (by rw[hR.out];exact hv));have g0:(a.map λp=>p.2.r)[k]'(by rw[hR.out];exact hv)=a[k].2.r:=Zm _;rw[g0]at HN;have HF:=g2.out k;generalize a[k]=p at *;obtain⟨d,l⟩:=p;dsimp only at *;obtain⟨y0,y1,y2,y7,y8⟩:=h5;obtain⟨X,hX⟩:∃X,zfO q.hit C s ((a.map λp=>p.2.r).take k)=X:=⟨_,rfl⟩
   rw[hX]at t ht HN D HF;obtain⟨c,gf⟩:=X;dsimp only at t ht D;subst ht;obtain⟨hH,hJ,h8,hS⟩:=HF;dsimp only at hH hJ h8 hS;rw[Qh,hR.out]at h8;have gd:o.length<=2000:=by omega
   have ge:c.mt.length<=2000:=by omega
   clear h8 hX g2 hW;obtain⟨n,hi⟩:∃n,o.map (·.1)=n:=⟨_,rfl⟩
   have hV:n.length=o.length:=by rw[<-hi,Qh]
   have ga:n.length<=2000:=by omega
   rw[hi]at P;obtain⟨Av,cv,rfl,_⟩:=P.form
   by_cases L:l.r.phase=C
   rotate_left
   ·have q1:(l.r.phase != C)=true:=Q7.2 L
    have HR:Hid (zse B u a q H C s (.slice Av n.length cv) (jA ((k:Int)+1)) wr):=by
     refine⟨k+1,y,z,o,by omega,rfl,?_,hb,by rw[hi];exact P,?_,hB⟩
     ·rw[HN.out];unfold phS;rw[Qg L];exact t
     ·rw[HN.out];unfold phS;rw[Qg L]
    clear t D hb P L HN;go_wp2;exact⟨HR.out,by dsimp only[intOf];omega⟩
   have q1:(l.r.phase != C)=false:=bne_eq_false_iff_eq.2 L
   have h0:Hid (zfO q.hit C s ((a.map λp=>p.2.r).take (k+1))=if l.r.chain=true then (c,(o++[(d,l)]).map λp=>p.2.r)else (zd8 q.hit c ((o++[(d,l)]).map λp=>p.2.r),[])):=by
    unfold Hid;rw[HN.out,Q2];unfold phS;rw[Qe (λh=>h L)]
    rfl
   have hs:=Ql (Qc _) hb.size;have HO:=hIx P;have HA:=hIx t;have HB:=hIx hb
   have O:∀p∈o++[(d,l)],p∈a:=λp G=>by
    rcases QO.1 G with G|G
    ·exact hB p G
    ·rw[Qy.1 G];exact Y
   clear L HN P t hb D y7 y0 y2;have hz:∀g:List Nat,g=n++[d]->g=(o++[(d,l)]).map (·.1):=λg hg=>by rw[hg,Q2,hi];rfl
   have hD:=hIx (hz _ rfl);have hF:(n++[d]).length=n.length+1:=by rw[Qa];rfl
   have g3:=hIx hV;have hC:=hIx hF;clear hz hV hF hi g0;cases h7:l.r.chain with
   |true=>
    rw[h7]at h0;have hf:Hid (zfO q.hit C s ((a.map λp=>p.2.r).take (k+1))=(c,(o++[(d,l)]).map λp=>p.2.r)):=by unfold Hid;rw[h0.out,Qg rfl]
    clear h0;go_wp2_with (at_builtin;refine zaw rowP rfl (.tmp 25) (.tmp 27) rfl y.heap.size (.slice Av n.length cv) n rfl (by exact HO.out) (by exact hs) _ d rfl _ rfl 1 rfl (by omega) ?_;intro v1 w1 m x K N;obtain⟨g1,c1,rfl,hK,_⟩:=m.head (by simp);have h9:=hIx m;have F:Hid (y w1):=HB.out.trans x;have f:=hIx (HA.out.next ho F.out);have ⟨_,_,_,_,J⟩:=f.out.st.five (d,l) Y;rw[h7]at J;have ⟨_,_,_,_,hn,Z⟩:=f.out.box.out;have hc:=f.out.box.free 11;clear m x K N)
    have HR:Hid (zse B u a q H C s (.slice g1 (n.length+1) c1) (jA ((k:Int)+1)) w1):=by
     refine⟨k+1,y,z,o++[(d,l)],by omega,rfl,by rw[hf.out];exact HA.out,F.out,?_,by rw[hf.out],O⟩;rw[<-hD.out,<-hC.out];exact h9.out
    exact⟨HR.out,by dsimp only[intOf];omega⟩
   |false=>
    rw[h7]at h0;have hf:Hid (zfO q.hit C s ((a.map λp=>p.2.r).take (k+1))=(zd8 q.hit c ((o++[(d,l)]).map λp=>p.2.r),[])):=by unfold Hid;rw[h0.out,Qe (by decide)]
    clear h0
    have U:Hid (∀(W:World) (A:Value),RunAt B u a q H (zd8 q.hit c ((o++[(d,l)]).map λp=>p.2.r)) A W->zse B u a q H C s (jD 0 0) (jA ((k:Int)+1)) W):=λW A h=>
     ⟨k+1,W,A,[],by omega,rfl,by rw[hf.out];exact h,Qj _ _,OwnG.nil _ _ _,by rw[hf.out];rfl,λp G=>by cases G⟩
    have hy:Hid (zd8 q.hit c ((o++[(d,l)]).map λp=>p.2.r)=if c.dn=true then c else if 0<c.sk then {c with sk:=c.sk-1}else if ((o++[(d,l)]).map λp=>p.2.r).all (q.hit c.sc)=true then doS c ((o++[(d,l)]).map λp=>p.2.r)else c):=rfl;have h6:Hid ((o++[(d,l)]).length=n.length+1):=by rw[Qa,<-g3.out];rfl
    generalize zd8 q.hit c ((o++[(d,l)]).map λp=>p.2.r)=SX at *;cases ha:c.dn with
    |true=>
     have I:Hid (SX=c):=by unfold Hid;rw[hy.out,Qg ha]
     clear hy;go_wp2_with (at_builtin;refine zaw rowP rfl (.tmp 25) (.tmp 27) rfl y.heap.size (.slice Av n.length cv) n rfl (by exact HO.out) (by exact hs) _ d rfl _ rfl 1 rfl (by omega) ?_;intro v1 w1 m x K N;obtain⟨g1,c1,rfl,hK,_⟩:=m.head (by simp);have h9:=hIx m;have F:Hid (y w1):=HB.out.trans x;have f:=hIx (HA.out.next ho F.out);have ⟨_,_,_,_,J⟩:=f.out.st.five (d,l) Y;rw[h7]at J;have ⟨_,_,_,_,hn,Z⟩:=f.out.box.out;have hc:=f.out.box.free 11;clear m x K N;rw[ha]at Z);exact⟨U.out w1 z (by rw[I.out];exact f.out),by dsimp only[intOf];omega⟩
    |false=>
     have V:Hid (SX=if 0<c.sk then {c with sk:=c.sk-1}else if ((o++[(d,l)]).map λp=>p.2.r).all (q.hit c.sc)=true then doS c ((o++[(d,l)]).map λp=>p.2.r)else c):=by unfold Hid;rw[hy.out,Qe (by rw[ha];decide)]
     clear hy
     by_cases Q:0<c.sk
     ·have d2:decide ((0:Int)<c.sk)=true:=Qu Q
      have i8:IntKind.i64.wrap (c.sk-1)=c.sk-1:=Qx _ (by have:=hS.2;omega);have I:Hid (SX={c with sk:=c.sk-1}):=by unfold Hid;rw[V.out,Qg Q]
      clear V;go_wp2_with (at_builtin;refine zaw rowP rfl (.tmp 25) (.tmp 27) rfl y.heap.size (.slice Av n.length cv) n rfl (by exact HO.out) (by exact hs) _ d rfl _ rfl 1 rfl (by omega) ?_;intro v1 w1 m x K N;obtain⟨g1,c1,rfl,hK,_⟩:=m.head (by simp);have h9:=hIx m;have F:Hid (y w1):=HB.out.trans x;have f:=hIx (HA.out.next ho F.out);have ⟨_,_,_,_,J⟩:=f.out.st.five (d,l) Y;rw[h7]at J;have ⟨_,_,_,_,hn,Z⟩:=f.out.box.out;have hc:=f.out.box.free 11;clear m x K N;rw[ha]at Z);exact⟨U.out _ z (by rw[I.out];exact f.out.skip E.out _),by dsimp only[intOf];omega⟩
     ·have d2:decide ((0:Int)<c.sk)=false:=Qq Q
      have T:Hid (SX=if (o++[(d,l)]).all (λp=>q.hit c.sc p.2.r)=true then doS c ((o++[(d,l)]).map λp=>p.2.r)else c):=by
       unfold Hid;rw[V.out,Qe Q,List.all_map]
       rfl
      clear V
      have hm:Hid (∀(W W':World) (g c1:Nat),OwnG rowP W y.heap.size (.slice (some ⟨g,0,none⟩) (n++[d]).length c1) (n++[d])->W'.heap[g]? = W.heap[g]? -> Sl W' W'.heap.size 1 (some ⟨g,0,none⟩) (n.length+1) ((o++[(d,l)]).map λp=>ptrV p.1)):=λW W' g c1 h hk=>by
       have h2:=h.keep (w':=W') λg' hI=>by
        have e:g=g':=QD hI;rw[<-e];exact hk
       obtain⟨A',c',e',hN⟩:=h2.form;injection e' with e1 _ _
       rw[<-e1,hC.out]at hN;have e2:(n++[d]).flatMap rowP.cells=(o++[(d,l)]).map λp=>ptrV p.1:=by rw[hD.out,zl2,Xr];rfl
       rw[e2]at hN;exact hN
      have hd:Hid (∀(W:World) (g c1:Nat),OwnG rowP W y.heap.size (.slice (some ⟨g,0,none⟩) (n++[d]).length c1) (n++[d])->RunAt B u a q H c z W->Calls prog 53 #[.pointer u,.slice (some ⟨g,0,none⟩) (n.length+1) c1] W λe w'=>e=jC (.bool ((o++[(d,l)]).all λp=>q.hit c.sc p.2.r))/\RunAt B u a q H c z w'/\OwnG rowP w' y.heap.size (.slice (some ⟨g,0,none⟩) (n++[d]).length c1) (n++[d])):=λW g c1 P t=>by
       have hx:=P.lt g rfl;have hw:¬zeP a g:=λ⟨p,G,e⟩=>by have:=(E.out.base p G).2.1;have:=HA.out.size;omega
       have h:=ztw E.out (FF H.heap.size z) (λp G=>.inl (E.out.base p G).2.1) c z (o++[(d,l)]) O (by rw[h6.out];omega) (some ⟨g,0,none⟩) c1 W t.ap t.box ⟨hH,hJ⟩ t.st
        (λk hk=>by
         rcases hk with hk|hk
         ·exact Qv hk t.size
         ·exact(t.own.lt k hk).2)
        λW' hP=>by rw[h6.out];exact hm.out W W' g c1 P (hP.keep g hx.2 hw)
       rw[h6.out]at h
       exact h.mono λe w' ⟨h1,h2,h3⟩=>⟨h1,t.asked E.out h2 h3,P.keep λg' hI=>by
        have e:g=g':=QD hI;rw[<-e];exact h3.keep g hx.2 hw⟩
      have hL:Hid (∀(W:World) (g c1:Nat),OwnG rowP W y.heap.size (.slice (some ⟨g,0,none⟩) (n++[d]).length c1) (n++[d])->RunAt B u a q H c z W->(∀j,z.ownBlock=some j->j<y.heap.size)->Calls prog 54 #[.pointer u,.slice (some ⟨g,0,none⟩) (n.length+1) c1] W λe w'=>e=jC (.tuple #[])/\∃A,RunAt B u a q H (doS c ((o++[(d,l)]).map λp=>p.2.r)) A w'):=λW g c1 P t g9=>by
       have hx:=P.lt g rfl
       have hw:¬GM u z g:=λhh=>by
        rcases hh with e|e
        ·have:=E.out.ub.2;have:=HA.out.size;omega
        ·have:=g9 g e;omega
       have h:=zzD E.out c z (o++[(d,l)]) O (by rw[h6.out];omega) (by omega) (some ⟨g,0,none⟩) c1 W t.size t.ap.below t.box t.own ⟨hH,hJ⟩ (λp G=>by
        obtain⟨z0,_,_,z7,_⟩:=t.st.five p (O p G);exact⟨z0,z7⟩)
        λW' hP=>by rw[h6.out];exact hm.out W W' g c1 P (hP.keep g hx.2 hw)
       rw[h6.out]at h;exact h.mono λe w' ⟨h1,A,h2,h3,h4,h5⟩=>⟨h1,A,t.did E.out h2 h3 h4 h5⟩
      have hT:Hid (∀j,z.ownBlock=some j->j<y.heap.size):=λj hj=>(HA.out.own.lt j hj).2
      generalize (o++[(d,l)]).all (λp=>q.hit c.sc p.2.r)=g5 at *;generalize doS c ((o++[(d,l)]).map λp=>p.2.r)=SD at *;clear hm;go_wp2_with (at_builtin;refine zaw rowP rfl (.tmp 25) (.tmp 27) rfl y.heap.size (.slice Av n.length cv) n rfl (by exact HO.out) (by exact hs) _ d rfl _ rfl 1 rfl (by omega) ?_;intro v1 w1 m x K N;obtain⟨g1,c1,rfl,hK,_⟩:=m.head (by simp);have h9:=hIx m;have F:Hid (y w1):=HB.out.trans x;have f:=hIx (HA.out.next ho F.out);have ⟨_,_,_,_,J⟩:=f.out.st.five (d,l) Y;rw[h7]at J;have ⟨_,_,_,_,hn,Z⟩:=f.out.box.out;have hc:=f.out.box.free 11;clear m x K N;rw[ha]at Z);refine(hd.out w1 g1 c1 h9.out f.out).mono ?_;rintro e w2 ⟨rfl,hq,hG⟩;cases g5 with
      |true=>
       have I:Hid (SX=SD):=by unfold Hid;rw[T.out,Qg rfl]
       have HD:=hIx (hL.out w2 g1 c1 hG hq hT.out);clear hq hG T hL hd;go_wp2_with (go_at_call 54;apply Hid.out);refine WhM HD ?_;rintro e w3 ⟨rfl,A,hZ⟩;have g7:=hIx hZ;clear hZ;go_wp2;exact⟨U.out w3 A (by rw[I.out];exact g7.out),by dsimp only[intOf];omega⟩
      |false=>
       have I:Hid (SX=c):=by unfold Hid;rw[T.out,Qe (by decide)]
       have g6:=hIx hq;clear hq hG T hL hd;go_wp2;exact⟨U.out w2 z (by rw[I.out];exact g6.out),by dsimp only[intOf];omega⟩
  ·obtain rfl:k=a.length:=by omega
   have d1:decide ((a.length:Int)<(a.length:Int))=false:=by simp
   rw[<-hU.out]at D;have HF:Hid (∃z,RunAt B u a q H S z wr):=⟨z,D⟩
   clear D t P hb ht;go_wp2_with fail
   go_end0
   exact⟨rfl,HF.out⟩
