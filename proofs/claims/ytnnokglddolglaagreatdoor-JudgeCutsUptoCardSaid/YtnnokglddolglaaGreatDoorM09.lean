/- Lemmas for the last texts. -/
import Derived.Test.YtnnokglddolglaaGreatDoorM08
import Derived.Deep.RegionWith
set_option maxHeartbeats 6400000
set_option maxRecDepth 100000
namespace Go.Proofs.YtnnokglddolglaaGreatDoor
open Go.RowKit Go.Proofs.Tryz
def zfm{a:Type}(step:a->Option a):Nat->a->a
 |0,x=>x
 |n+1,x=>match step x with
  |none=>x
  |some y=>zfm step n y
def fixI{a:Type}(step:a->Option a)(m:a->Nat)(x:a):a:=zfm step (m x) x
structure znz{α:Type}(I:α->Prop)(step:α->Option α)(m:α->Nat):Prop where
 keep:∀x y,I x->step x=some y->I y
 less:∀x y,I x->step x=some y->m y<m x
theorem zj2{c:Type}{I:c->Prop}{step:c->Option c}{m:c->Nat}(h:znz I step m):∀(n k:Nat) (x:c),I x->m x<=n->m x<=k->zfm step n x=zfm step k x
 |0,0,_,_,_,_=>rfl
 |0,k+1,x,b,h1,_=>by
  rw[zfm,zfm];cases a:step x with
  |none=>rfl
  |some y=>exact absurd (h.less x y b a) (by omega)
 |n+1,0,x,b,_,h2=>by
  rw[zfm,zfm];cases a:step x with
  |none=>rfl
  |some y=>exact absurd (h.less x y b a) (by omega)
 |n+1,k+1,x,b,h1,h2=>by
  rw[zfm,zfm];cases a:step x with
  |none=>rfl
  |some y=>
   have:=h.less x y b a;exact zj2 h n k y (h.keep x y b a) (by omega) (by omega)
theorem ztg{a:Type}{I:a->Prop}{step:a->Option a}{m:a->Nat}(h:znz I step m){x:a}(c:I x):fixI step m x=match step x with|none=>x|some y=>fixI step m y:=by
 unfold fixI;cases b:step x with
 |none=>
  cases m x with
  |zero=>rfl
  |succ k=>rw[zfm,b]
 |some y=>
  have h1:=h.less x y c b;obtain⟨k,d⟩:∃k,m x=k+1:=⟨m x-1,by omega⟩
  rw[d,zfm,b];exact zj2 h k (m y) y (h.keep x y c b) (by omega) (Qc _)
theorem zhf{a:Type}{I:a->Prop}{step:a->Option a}{m:a->Nat}(h:znz I step m){x:a}(c:I x)(b:step x=none):fixI step m x=x:=by rw[ztg h c,b]
theorem zid{a:Type}{I:a->Prop}{step:a->Option a}{m:a->Nat}(h:znz I step m){x y:a}(c:I x)(b:step x=some y):fixI step m x=fixI step m y:=by rw[ztg h c,b]
theorem zhp{a:Type}{Q:a->Prop}{step:a->Option a}(h:∀x y,Q x->step x=some y->Q y):∀(n:Nat) (x:a),Q x->Q (zfm step n x)
 |0,_,b=>b
 |n+1,x,b=>by
  rw[zfm];cases c:step x with
  |none=>exact b
  |some y=>exact zhp h n y (h x y b c)
theorem zgr{a:Type}{Q:a->Prop}{step:a->Option a}{m:a->Nat}(h:∀x y,Q x->step x=some y->Q y){x:a}(b:Q x):Q (fixI step m x):=zhp h _ _ b
abbrev TR:=Tree × RS
def emT:Tree:=.node 2 .zero []
def kT(k:Int):Tree:=.node k .zero []
def byT(f:Nat->Bool):Tree:=.node 3 (setF f) []
def onR(r:RS):RS:={r with pos:=r.pos+1}
def zbM(t:Tree):Tree:=if zeF t 0<=80 then t else emT
def stT(t:Tree):Tree:=.node 6 .zero [t]
def jnT(t u:Tree):Tree:=.node 4 .zero [t,u]
def orT(t u:Tree):Tree:=.node 5 .zero [t,u]
def zeR(s:jE)(x:TR):Nat:=zbR s x.2
def zgP(s:jE)(T:TR):TR:=
 (T.1,if (zaL s {T.2 with op:=T.2.op-1} 41).1=true then (zaL s {T.2 with op:=T.2.op-1} 41).2 else zaF {T.2 with op:=T.2.op-1} 3)
def zol(s:jE)(r:RS):TR:=
 match (zbp s r).1 with
 |some f=>(byT f,(zbp s r).2)
 |none=>(byT (rgF (zbo s r).1.toNat (zbo s r).1.toNat),(zbo s r).2)
def zhh(s:jE)(A:RS->TR)(r:RS):TR:=
 if zad s r=40 then (if r.op=20 then (kT 0,zaF r 11)else zgP s (A {r with pos:=r.pos+1,op:=r.op+1}))
 else if zad s r=46 then (byT (λx=>!(rgF 10 10 x)),onR r)
 else if zad s r=94 then (kT 7,onR r)
 else if zad s r=36 then (kT 8,onR r)
 else if zad s r=91 then (byT (zeJ s (onR r)).1,(zeJ s (onR r)).2)
 else zol s r
def zcN(s:jE)(x:TR):Option TR:=
 if zad s x.2=42 then some (stT x.1,onR x.2)
 else if zad s x.2=63 then some (orT x.1 emT,onR x.2)
 else if zad s x.2=43 then some (jnT x.1 (stT (zbM x.1)),onR x.2)
 else none
def zfB(s:jE)(A:RS->TR)(r:RS):TR:=fixI (zcN s) (zeR s) (zhh s A r)
def rowS(s:jE)(P:RS->TR)(x:TR):Option TR:=if zgj s x.2=true then none else some (jnT x.1 (P x.2).1,(P x.2).2)
def rowR(s:jE)(P:RS->TR)(r:RS):TR:=if zgj s r=true then (emT,r)else fixI (rowS s P) (zeR s) (P r)
def altS(s:jE)(R:RS->TR)(x:TR):Option TR:=if zad s x.2=124 then some (orT x.1 (R (onR x.2)).1,(R (onR x.2)).2)else none
def altR(s:jE)(R:RS->TR)(r:RS):TR:=fixI (altS s R) (zeR s) (R r)
def altD(s:jE):Nat->RS->TR
 |0,r=>(kT 0,r)
 |d+1,r=>altR s (rowR s (zfB s (altD s d))) r
def zwN(s:jE)(d:Nat):RS->TR:=zfB s (altD s d)
def rowD(s:jE)(d:Nat):RS->TR:=rowR s (zwN s d)
mutual
def NoN:Tree->Prop
 |.node k _ a=>k≠1/\NoNK a
def NoNK:List Tree->Prop
 | []=>True
 |t::a=>NoN t/\NoNK a
end
structure zfK(s:jE)(r:RS)(T:TR):Prop where
 step:Step s r T.2
 few:FewT T.1
 non:NoN T.1
def ziD(s:jE)(A:RS->TR):Prop:=∀r:RS,r.pos<=s.length->zfK s r (A r)
theorem zcE(k:Int)(S:Set4):FewT (.node k S []):=by rw[FewT,FewK];exact⟨by simp,trivial⟩
theorem zcF{k:Int}(S:Set4)(h:k≠1):NoN (.node k S []):=by rw[NoN,NoNK];exact⟨h,trivial⟩
theorem zt4{k:Int}{S:Set4}{t:Tree}(h:FewT t):FewT (.node k S [t]):=by rw[FewT,FewK,FewK];exact⟨by simp,h,trivial⟩
theorem zr5{k:Int}{S:Set4}{t:Tree}(a:k≠1)(h:NoN t):NoN (.node k S [t]):=by rw[NoN,NoNK,NoNK];exact⟨a,h,trivial⟩
theorem zkq{k:Int}{S:Set4}{t u:Tree}(h:FewT t)(h2:FewT u):FewT (.node k S [t,u]):=by rw[FewT,FewK,FewK,FewK];exact⟨by simp,h,h2,trivial⟩
theorem zk4{k:Int}{S:Set4}{t u:Tree}(a:k≠1)(h:NoN t)(h2:NoN u):NoN (.node k S [t,u]):=by rw[NoN,NoNK,NoNK,NoNK];exact⟨a,h,h2,trivial⟩
theorem zsA{t:Tree}(h:FewT t):FewT (zbM t):=by unfold zbM;split;exact h;exact zcE _ _
theorem zr6{t:Tree}(h:NoN t):NoN (zbM t):=by unfold zbM;split;exact h;exact zcF _ (by decide)
theorem zde{s:jE}{r:RS}{b:Int}(h:zad s r=b)(hb:0<=b):Step s r (onR r)/\r.pos<(onR r).pos/\r.e=0:=by
 obtain⟨h1,h2⟩:=zaO h hb;exact⟨zeV h1,ZB _,h2⟩
theorem zza{s:jE}{r:RS}(h:zgj s r=false):r.e=0:=by
 by_cases a:r.e=0
 ·exact a
 ·have:zad s r=-1:=by unfold zad;rw[Qe a]
  unfold zgj at h;rw[this]at h;exact absurd h (by decide)
theorem zqK{s:jE}{r:RS}{T:TR}(i:zad s r=40)(h:zfK s {r with pos:=r.pos+1,op:=r.op+1} T):zfK s r (zgP s T)/\(r.pos<(zgP s T).2.pos\/(zgP s T).2.e≠0):=by
 obtain⟨j,f⟩:=zaO i (by decide);have a:=h.step;have c:T.2.op-1=r.op:=by have:T.2.op=r.op+1:=a.op;omega
 have g:r.pos+1<=T.2.pos:=a.le;have h1:Step s r {T.2 with op:=T.2.op-1}:=⟨a.inn,by show r.pos<=T.2.pos;omega,c,λe=>absurd f e⟩
 have h2:=(zdr h1.inn (b:=41) (by decide)).1
 have d:Step s r (zgP s T).2/\r.pos<(zgP s T).2.pos:=by
  unfold zgP;dsimp only
  split
  ·exact⟨h1.trans h2,Qv (show r.pos<T.2.pos by omega) h2.le⟩
  ·exact⟨h1.trans (zdu h1.inn 3 (by decide)),by rw[(zcg _ 3 (by decide)).1];show r.pos<T.2.pos;omega⟩
 exact⟨⟨d.1,h.few,h.non⟩,.inl d.2⟩
theorem zsd{s:jE}{r:RS}(h:r.pos<=s.length):zfK s r (zol s r)/\(r.pos<(zol s r).2.pos\/(zol s r).2.e≠0):=by
 obtain⟨a,d,c⟩:=zey h;obtain⟨c1,c2,c3⟩:=zdt h;unfold zol;cases b:(zbp s r).1 with
 |some f=>exact⟨⟨a,zcE _ _,zcF _ (by decide)⟩,.inl (c f b).1⟩
 |none=>exact⟨⟨c1,zcE _ _,zcF _ (by decide)⟩,c2⟩
theorem zmn{s:jE}{A:RS->TR}(l:ziD s A){r:RS}(h:r.pos<=s.length):zfK s r (zhh s A r)/\(r.pos<(zhh s A r).2.pos\/(zhh s A r).2.e≠0):=by
 unfold zhh
 by_cases h1:zad s r=40
 ·rw[Qg h1]
  by_cases h2:r.op=20
  ·rw[Qg h2]
   exact⟨⟨zdu h 11 (by decide),zcE _ _,zcF _ (by decide)⟩,.inr (zcg r 11 (by decide)).2.2⟩
  ·rw[Qe h2]
   exact zqK h1 (l _ (zaO h1 (by decide)).1)
 rw[Qe h1]
 have leaf:∀(b k:Int) (S:Set4),0<=b->k≠1->zad s r=b->zfK s r (.node k S [],onR r)/\(r.pos<(onR r).pos\/(onR r).e≠0):=λb k S hb j i=>
  ⟨⟨(zde i hb).1,zcE _ _,zcF _ j⟩,.inl (zde i hb).2.1⟩
 by_cases h2:zad s r=46
 ·rw[Qg h2];exact leaf 46 _ _ (by decide) (by decide) h2
 rw[Qe h2]
 by_cases f:zad s r=94
 ·rw[Qg f];exact leaf 94 _ _ (by decide) (by decide) f
 rw[Qe f]
 by_cases a:zad s r=36
 ·rw[Qg a];exact leaf 36 _ _ (by decide) (by decide) a
 rw[Qe a]
 by_cases d:zad s r=91
 ·rw[Qg d]
  obtain⟨g,m,_⟩:=zde d (by decide);have c:=zqO g.inn;exact⟨⟨g.trans c,zcE _ _,zcF _ (by decide)⟩,.inl (Qv m c.le)⟩
 ·rw[Qe d];exact zsd h
theorem zrC{s:jE}{r:RS}{b:Int}(h:zad s r=b)(hb:0<=b):zbR s (onR r)<zbR s r:=by
 obtain⟨h1,h2⟩:=zaO h hb;unfold zbR;rw[Qg h2,Qg (show (onR r).e=0 from h2)];show s.length-(r.pos+1)+1<_
 omega
theorem zs5{s:jE}{a b:RS}(h:Step s a b):zbR s b<=zbR s a:=by
 have h1:=h.le;have h2:=h.inn;unfold zbR
 by_cases c:a.e=0
 ·rw[Qg c]
  by_cases hb:b.e=0
  ·rw[Qg hb];omega
  ·rw[Qe hb];omega
 ·rw[Qe c,Qe (h.keep c)];exact Qc _
theorem ztD{s:jE}{a b:RS}(h:Step s a b)(d:a.e=0)(c:a.pos<b.pos\/b.e≠0):zbR s b<zbR s a:=by
 have h2:=h.inn;unfold zbR;rw[Qg d]
 by_cases hb:b.e=0
 ·rw[Qg hb]
  rcases c with c|c
  ·omega
  ·exact absurd hb c
 ·rw[Qe hb];omega
def InR(s:jE)(x:TR):Prop:=x.2.pos<=s.length
theorem zc2{s:jE}{x y:TR}(h:zcN s x=some y):∃b,0<=b/\zad s x.2=b/\y.2=onR x.2/\(FewT x.1->FewT y.1)/\(NoN x.1->NoN y.1):=by
 unfold zcN at h
 by_cases h1:zad s x.2=42
 ·rw[Qg h1]at h
  obtain rfl:=QD h;exact⟨42,by decide,h1,rfl,zt4,zr5 (by decide)⟩
 rw[Qe h1]at h
 by_cases h2:zad s x.2=63
 ·rw[Qg h2]at h
  obtain rfl:=QD h;exact⟨63,by decide,h2,rfl,λq=>zkq q (zcE _ _),λq=>zk4 (by decide) q (zcF _ (by decide))⟩
 rw[Qe h2]at h
 by_cases a:zad s x.2=43
 ·rw[Qg a]at h
  obtain rfl:=QD h;exact⟨43,by decide,a,rfl,λq=>zkq q (zt4 (zsA q)),λq=>zk4 (by decide) q (zr5 (by decide) (zr6 q))⟩
 ·rw[Qe a]at h;cases h
theorem zgG(s:jE):znz (InR s) (zcN s) (zeR s) where
 keep x y hx h:=by
  obtain⟨b,hb,c,a,_⟩:=zc2 h;unfold InR;rw[a];exact(zde c hb).1.inn
 less x y hx h:=by
  obtain⟨b,hb,c,a,_⟩:=zc2 h;unfold zeR;rw[a];exact zrC c hb
theorem znt{s:jE}{r:RS}{x y:TR}(g:zfK s r x)(h:zcN s x=some y):zfK s r y/\x.2.pos<y.2.pos:=by
 obtain⟨b,hb,d,a,h1,h2⟩:=zc2 h;obtain⟨e,c,_⟩:=zde d hb;refine⟨⟨?_,h1 g.few,h2 g.non⟩,by rw[a];exact c⟩;rw[a];exact g.step.trans e
theorem zjB{s:jE}{A:RS->TR}(f:ziD s A){r:RS}(h:r.pos<=s.length):zfK s r (zfB s A r)/\(r.pos<(zfB s A r).2.pos\/(zfB s A r).2.e≠0):=by
 have g:=zmn f h;unfold zfB;refine zgr (Q:=λT=>zfK s r T/\(r.pos<T.2.pos\/T.2.e≠0)) (λx y a d=>?_) g;obtain⟨c,b⟩:=znt a.1 d;exact⟨c,.inl (Nat.lt_of_le_of_lt a.1.step.le b)⟩
def zoJ(s:jE)(P:RS->TR):Prop:=∀r:RS,r.pos<=s.length->zfK s r (P r)/\(r.pos<(P r).2.pos\/(P r).2.e≠0)
theorem ziP{s:jE}{P:RS->TR}{x y:TR}(h:rowS s P x=some y):zgj s x.2=false/\y=(jnT x.1 (P x.2).1,(P x.2).2):=by
 unfold rowS at h;cases a:zgj s x.2 with
 |true=>rw[a,Qg rfl]at h;cases h
 |false=>rw[a,Qe (by decide)]at h;exact⟨rfl,(QD h).symm⟩
theorem zgv{s:jE}{P:RS->TR}(a:zoJ s P):znz (InR s) (rowS s P) (zeR s) where
 keep x y hx h:=by
  obtain⟨_,rfl⟩:=ziP h;exact(a x.2 hx).1.step.inn
 less x y hx h:=by
  obtain⟨b,rfl⟩:=ziP h;exact ztD (a x.2 hx).1.step (zza b) (a x.2 hx).2
theorem zo4{s:jE}{P:RS->TR}(b:zoJ s P):ziD s (rowR s P):=by
 intro r h;unfold rowR;cases d:zgj s r with
 |true=>rw[Qg rfl];exact⟨Step.refl h,zcE _ _,zcF _ (by decide)⟩
 |false=>
  rw[Qe (by decide)];refine zgr (Q:=zfK s r) (λx y a c=>?_) (b r h).1;obtain⟨_,rfl⟩:=ziP c;have:=(b x.2 a.step.inn).1;exact⟨a.step.trans this.step,zkq a.few this.few,zk4 (by decide) a.non this.non⟩
theorem zhI{s:jE}{R:RS->TR}{x y:TR}(h:altS s R x=some y):zad s x.2=124/\y=(orT x.1 (R (onR x.2)).1,(R (onR x.2)).2):=by
 unfold altS at h
 by_cases a:zad s x.2=124
 ·rw[Qg a]at h;exact⟨a,(QD h).symm⟩
 ·rw[Qe a]at h;cases h
theorem zf3{s:jE}{R:RS->TR}(b:ziD s R):znz (InR s) (altS s R) (zeR s) where
 keep x y hx h:=by
  obtain⟨a,rfl⟩:=zhI h;exact(b _ (zde a (by decide)).1.inn).step.inn
 less x y hx h:=by
  obtain⟨a,rfl⟩:=zhI h;have o:=zde a (by decide);exact Nat.lt_of_le_of_lt (zs5 (b _ o.1.inn).step) (zrC a (by decide))
theorem zwn{s:jE}{R:RS->TR}(b:ziD s R):ziD s (altR s R):=by
 intro r h;unfold altR;refine zgr (Q:=zfK s r) (λx y a c=>?_) (b r h);obtain⟨d,rfl⟩:=zhI c;have o:=zde d (by decide);have:=b _ o.1.inn;exact⟨a.step.trans (o.1.trans this.step),zkq a.few this.few,zk4 (by decide) a.non this.non⟩
theorem zcO(s:jE):∀d,ziD s (altD s d)
 |0=>λr h=>⟨Step.refl h,zcE _ _,zcF _ (by decide)⟩
 |d+1=>zwn (zo4 λr h=>zjB (zcO s d) h)
theorem ze1(s:jE)(d:Nat):zoJ s (zwN s d):=λ_ h=>zjB (zcO s d) h
theorem zmM(s:jE)(d:Nat):ziD s (rowD s d):=zo4 (ze1 s d)
section
open Go.RowKit
theorem FourW.grown{w w':World}{g k:Nat}{S:Set4}(h:FourW w k S)(b:w.grownBy w' (some g))(a:k≠g):FourW w' k S:=(b.block k h.lt (λe=>a (QD e))).trans h
def ZeroX(w:World)(k:Nat):Prop:=w.heap[k]? = some (.cells #[jA 0,jB 0,jB 0,jB 0,jB 0,jD 0 0] 185 (0,0))
theorem ZeroX.lt{w:World}{k:Nat}(h:ZeroX w k):k<w.heap.size:=by
 rcases ZI k w.heap.size with a|a
 ·exact a
 ·unfold ZeroX at h;simp[ZZ a]at h
theorem ZeroX.grown{w w':World}{g k:Nat}(h:ZeroX w k)(b:w.grownBy w' (some g))(a:k≠g):ZeroX w' k:=(b.block k h.lt (λe=>a (QD e))).trans h
theorem ZeroX.new(w:World):ZeroX (w.alloc (.cells #[jA 0,jB 0,jB 0,jB 0,jB 0,jD 0 0] 185)) w.heap.size:=Qt w _
theorem ZeroX.cells{w:World}{k:Nat}(h:ZeroX w k):w.cell? k=some (jA 0)/\w.cell? ⟨k,1,none⟩=some (jB 0)/\w.cell? ⟨k,2,none⟩=some (jB 0)/\w.cell? ⟨k,3,none⟩=some (jB 0)/\w.cell? ⟨k,4,none⟩=some (jB 0)/\w.cell? ⟨k,5,none⟩=some (jD 0 0):=
 ⟨Qf w k 0 _ _ _ h,Qf w k 1 _ _ _ h,Qf w k 2 _ _ _ h,Qf w k 3 _ _ _ h,Qf w k 4 _ _ _ h,Qf w k 5 _ _ _ h⟩
theorem ZeroX.free{w:World}{k:Nat}(h:ZeroX w k)(j:Nat):w.frozen? ⟨k,j,none⟩=false:=by
 unfold ZeroX at h;simp[World.frozen?, h]
def PutX(w:World)(k:Nat)(cs:List Value):Prop:=w.heap[k]? = some (.cells cs.toArray 185 (0,0))
def zai(W:World)(k:Nat)(a b c d e f:Value):World:=(((((W.setCell k a).setCell ⟨k,1,none⟩ b).setCell ⟨k,2,none⟩ c).setCell ⟨k,3,none⟩ d).setCell ⟨k,4,none⟩ e).setCell ⟨k,5,none⟩ f
theorem ZeroX.fill{W:World}{k:Nat}(h:ZeroX W k)(a b c d e f:Value):PutX (zai W k a b c d e f) k [a,b,c,d,e,f]:=by
 unfold ZeroX at h;unfold PutX zai;simp only[World.setCell,Q4,h]
 rfl
theorem PutX.cells{w:World}{k:Nat}{a b c d e f:Value}(h:PutX w k [a,b,c,d,e,f]):w.cell? k=some a/\w.cell? ⟨k,1,none⟩=some b/\w.cell? ⟨k,2,none⟩=some c/\w.cell? ⟨k,3,none⟩=some d/\w.cell? ⟨k,4,none⟩=some e/\w.cell? ⟨k,5,none⟩=some f:=
 ⟨Qf w k 0 _ _ _ h,Qf w k 1 _ _ _ h,Qf w k 2 _ _ _ h,Qf w k 3 _ _ _ h,Qf w k 4 _ _ _ h,Qf w k 5 _ _ _ h⟩
theorem zbD{W w:World}{B k:Nat}(h:Below B w W)(g:B<=k)(a b c d e f:Value):Below B w (zai W k a b c d e f):=
 (((((h.setCell (p:=⟨k,0,none⟩) g _).setCell (p:=⟨k,1,none⟩) g _).setCell (p:=⟨k,2,none⟩) g _).setCell (p:=⟨k,3,none⟩) g _).setCell (p:=⟨k,4,none⟩) g _).setCell (p:=⟨k,5,none⟩) g _
theorem zds{w wr w':World}{row:Option Nat}{k:Nat}(h:w.grownBy wr row)(c:w.heap.size<=k)(hb:Below k wr w'):w.grownBy w' row:=
 ⟨hb.os.trans h.os,hb.tape.trans h.tape,hb.output.trans h.output,Ql h.size hb.size,λi b a=>(hb.block i (by omega)).trans (h.block i b a)⟩
end
section
open Go.RowKit
mutual
def LX(w:World)(p:Nat->Prop):Tree->List Value->Prop
 |.node k s a,cs=>∃A c,cs=zan k s A a.length c/\s.Wf/\LXK w p a A
def LXK(w:World)(p:Nat->Prop):List Tree->Option Addr->Prop
 | [],_=>True
 |t::a,A=>∃b off cs,A=some ⟨b,off,none⟩/\p b/\cs.length=6/\CellsAt w b off cs/\LX w p t cs/\LXK w p a (some ⟨b,off+6,none⟩)
end
mutual
theorem LX.keep{w w':World}{p q:Nat->Prop}(d:∀b,p b->q b)(a:∀b o,p b->w'.cell? ⟨b,o,none⟩=w.cell? ⟨b,o,none⟩):∀(t:Tree) (cs:List Value),LX w p t cs->LX w' q t cs
 |.node k s f,cs,h=>by
  rw[LX]at h ⊢;obtain⟨A,c,h1,h2,e⟩:=h;exact⟨A,c,h1,h2,LXK.keep d a f A e⟩
theorem LXK.keep{w w':World}{p q:Nat->Prop}(d:∀b,p b->q b)(c:∀b o,p b->w'.cell? ⟨b,o,none⟩=w.cell? ⟨b,o,none⟩):∀(a:List Tree) (A:Option Addr),LXK w p a A->LXK w' q a A
 | [],_,_=>by rw[LXK];trivial
 |t::a,A,h=>by
  rw[LXK]at h ⊢;obtain⟨b,off,cs,h1,h2,g,e,f,i⟩:=h;exact⟨b,off,cs,h1,d b h2,g,λj k=>(c b _ h2).trans (e j k),LX.keep d c t cs f,LXK.keep d c a _ i⟩
end
mutual
theorem LX.lt{w:World}{p:Nat->Prop}{B:Nat}(a:∀b,p b->b<B):∀(t:Tree) (cs:List Value),LX w p t cs->LT w B t cs
 |.node k s d,cs,h=>by
  rw[LX]at h;rw[LT];obtain⟨A,c,h1,h2,e⟩:=h;exact⟨A,c,h1,h2,LXK.lt a d A e⟩
theorem LXK.lt{w:World}{p:Nat->Prop}{B:Nat}(c:∀b,p b->b<B):∀(a:List Tree) (A:Option Addr),LXK w p a A->LK w B a A
 | [],_,_=>by rw[LK];trivial
 |t::a,A,h=>by
  rw[LXK]at h;rw[LK];obtain⟨b,off,cs,h1,h2,g,e,f,d⟩:=h;exact⟨b,off,cs,h1,c b h2,g,e,LX.lt c t cs f,LXK.lt c a _ d⟩
end
theorem LXK.nil(w:World)(p:Nat->Prop)(A:Option Addr):LXK w p [] A:=by rw[LXK];trivial
theorem LX.leaf(w:World)(p:Nat->Prop)(k:Int)(S:Set4)(A:Option Addr)(c:Nat)(h:S.Wf):LX w p (.node k S []) (zan k S A 0 c):=by
 rw[LX];exact⟨A,c,rfl,h,LXK.nil _ _ _⟩
def ziB(a b:Nat)(x:Nat):Prop:=a<=x/\x<b
def NewX(w w':World)(t:Tree)(A:Option Addr)(c:Nat):Prop:=LX w' (ziB w.heap.size w'.heap.size) t (zan t.kind t.set A t.kids.length c)
def zjD(g:Nat)(s:ByteArray)(T:TR)(w:World)(e:Ending)(w':World):Prop:=
 ∃A c,e=jC (argX T.1 A c)/\NewX w w' T.1 A c/\RdEnd g s T.2 w w'
theorem PutX.fill{W:World}{k:Nat}{cs:List Value}(h:PutX W k cs)(hl:cs.length=6)(a b c d e f:Value):PutX (zai W k a b c d e f) k [a,b,c,d,e,f]:=by
 obtain⟨g,j,m,l,i,n,rfl⟩:=zvH hl;unfold PutX at h;unfold PutX zai;simp only[World.setCell,Q4,h]
 rfl
theorem PutX.lt{w:World}{k:Nat}{cs:List Value}(h:PutX w k cs):k<w.heap.size:=by
 rcases ZI k w.heap.size with a|a
 ·exact a
 ·unfold PutX at h;simp[ZZ a]at h
theorem PutX.free{w:World}{k:Nat}{cs:List Value}(h:PutX w k cs)(j:Nat):w.frozen? ⟨k,j,none⟩=false:=by
 unfold PutX at h;simp[World.frozen?, h]
theorem PutX.grown{w w':World}{g k:Nat}{cs:List Value}(h:PutX w k cs)(b:w.grownBy w' (some g))(a:k≠g):PutX w' k cs:=(b.block k h.lt (λe=>a (QD e))).trans h
theorem PutX.new(w:World)(cs:List Value):PutX (w.alloc (.cells cs.toArray 185)) w.heap.size cs:=Qt w _
def znN(k:Int)(d a:Tree)(p:Nat->Prop)(w:World)(e:Ending)(w':World):Prop:=
 ∃A c,e=jC (argX (.node k .zero [d,a]) A c)/\LX w' (λb=>p b\/ziB w.heap.size w'.heap.size b) (.node k .zero [d,a]) (zan k .zero A 2 c)/\w w'
theorem zg3(k:Int)(e f:Tree)(l q:Option Addr)(c1 c2:Nat)(p:Nat->Prop)(w:World)(z:∀b,p b->b<w.heap.size)
 (h1:LX w p e (zan e.kind e.set l e.kids.length c1)) (h2:LX w p f (zan f.kind f.set q f.kids.length c2)):
 Calls prog 176 #[jA k,argX e l c1,argX f q c2] w (znN k e f p w):=by
 have A:Hid (∀s r u,∀W,W=(((w.alloc s).alloc r).alloc u).alloc (.cells #[jA e.kind,jB e.set.a,jB e.set.b,jB e.set.c,jB e.set.d,.slice l e.kids.length c1,jA f.kind,jB f.set.a,jB f.set.b,jB f.set.c,jB f.set.d,.slice q f.kids.length c2] 185)->
  LXK W (λb=>p b\/ziB w.heap.size W.heap.size b) [e,f] (some ⟨w.heap.size+1+1+1,0,none⟩)/\w W):=λs r u W x=>by
  have m:w W:=by rw[x];exact(((((Qj _ _).alloc (Qc _) s).alloc (by simp) r).alloc (by simp;omega) u).alloc (by simp;omega) _)
  have B:W.heap.size=w.heap.size+1+1+1+1:=by rw[x];simp
  have g:W.heap[w.heap.size+1+1+1]? = some (.cells #[jA e.kind,jB e.set.a,jB e.set.b,jB e.set.c,jB e.set.d,.slice l e.kids.length c1,jA f.kind,jB f.set.a,jB f.set.b,jB f.set.c,jB f.set.d,.slice q f.kids.length c2] 185 (0,0)):=by
   rw[x];have:=Qt (((w.alloc s).alloc r).alloc u) (.cells #[jA e.kind,jB e.set.a,jB e.set.b,jB e.set.c,jB e.set.d,.slice l e.kids.length c1,jA f.kind,jB f.set.a,jB f.set.b,jB f.set.c,jB f.set.d,.slice q f.kids.length c2] 185)
   simpa using this
  have i:∀(t:Tree) (cs:List Value),LX w p t cs->LX W (λb=>p b\/ziB w.heap.size W.heap.size b) t cs:=λt cs h=>
   LX.keep (λb hb=>.inl hb) (λb o hb=>m.cell (p:=⟨b,o,none⟩) (z b hb)) t cs h
  have n:p (w.heap.size+1+1+1)\/ziB w.heap.size W.heap.size (w.heap.size+1+1+1):=.inr ⟨by omega,by omega⟩;refine⟨?_,m⟩;rw[LXK];refine⟨_,0,_,rfl,n,rfl,λj y=>?_,i _ _ h1,?_⟩
  ·rw[Zh,Qf W _ j _ _ _ g]
   match j,y with
   |0,_=>rfl
   |1,_=>rfl
   |2,_=>rfl
   |3,_=>rfl
   |4,_=>rfl
   |5,_=>rfl
  ·rw[LXK]
   refine⟨_,6,_,rfl,n,rfl,λj y=>?_,i _ _ h2,LXK.nil _ _ _⟩;rw[Qf W _ (6+j) _ _ _ g]
   match j,y with
   |0,_=>rfl
   |1,_=>rfl
   |2,_=>rfl
   |3,_=>rfl
   |4,_=>rfl
   |5,_=>rfl
 unfold argX;clear h1 h2 z
 go_in
 go_wp2_with fail;refine Qi (v:=argX (.node k .zero [e,f]) (some ⟨w.heap.size+1+1+1,0,none⟩) 2) (by simp[results,results176,go_sem,argX,Tree.kind,Tree.set,Tree.kids,Set4.zero]) rfl ⟨_,_,rfl,?_,(A.out _ _ _ _ rfl).2⟩;rw[LX];exact⟨_,_,rfl,zbE,(A.out _ _ _ _ rfl).1⟩
structure OutSt(g:Nat)(s:ByteArray)(w:World)(k:Nat)(x:TR)(A:Option Addr)(c:Nat)(wr:World):Prop where
 rd:RdAt g s x.2 wr
 out:PutX wr k (zan x.1.kind x.1.set A x.1.kids.length c)
 tree:LX wr (λb=>w.heap.size<b/\b≠k/\b<wr.heap.size) x.1 (zan x.1.kind x.1.set A x.1.kids.length c)
 zero:ZeroX wr w.heap.size
 frame:w.grownBy wr (some g)
 far:w.heap.size<k
theorem OutSt.lt{g:Nat}{s:ByteArray}{w:World}{k:Nat}{x:TR}{A:Option Addr}{c:Nat}{wr:World}(h:OutSt g s w k x A c wr):LT wr wr.heap.size x.1 (zan x.1.kind x.1.set A x.1.kids.length c):=LX.lt (λ_ hb=>hb.2.2) _ _ h.tree
theorem OutSt.call{g:Nat}{s:ByteArray}{w:World}{k:Nat}{x:TR}{q:RS}{A:Option Addr}{c:Nat}{wr w':World}(a:g<w.heap.size)(h:OutSt g s w k x A c wr)(e:RdEnd g s q wr w'):OutSt g s w k (x.1,q) A c w':=
 ⟨e.1,h.out.grown e.2 (by have:=h.far;omega),
  LX.keep (λb hb=>⟨hb.1,hb.2.1,Qv hb.2.2 e.2.size⟩) (λb o hb=>zgo e.2 hb.2.2 (by have:=hb.1;omega)) _ _ h.tree,
  h.zero.grown e.2 (by omega),zax h.frame e.2,h.far⟩
theorem OutSt.low{g:Nat}{s:ByteArray}{w:World}{k:Nat}{x:TR}{A:Option Addr}{c:Nat}{wr w':World}(a:g<w.heap.size)(h:OutSt g s w k x A c wr)(hb:wr w'):OutSt g s w k x A c w':=
 h.call a (zfl h.rd hb)
theorem OutSt.put{g:Nat}{s:ByteArray}{w:World}{k:Nat}{x:TR}{A:Option Addr}{c:Nat}{wr:World}(p:g<w.heap.size)(h:OutSt g s w k x A c wr)(t:Tree)(j:Option Addr)(f:Nat)
 (n:LX wr (λb=>w.heap.size<b/\b≠k/\b<wr.heap.size) t (zan t.kind t.set j t.kids.length f)):
 OutSt g s w k (t,x.2) j f (zai wr k (jA t.kind) (jB t.set.a) (jB t.set.b) (jB t.set.c) (jB t.set.d) (.slice j t.kids.length f)):=by
 have h1:=h.far;have hb:Below k wr (zai wr k (jA t.kind) (jB t.set.a) (jB t.set.b) (jB t.set.c) (jB t.set.d) (.slice j t.kids.length f)):=zbD (Qj _ _) (Qc _) _ _ _ _ _ _
 have l:∀i,i≠k->(zai wr k (jA t.kind) (jB t.set.a) (jB t.set.b) (jB t.set.c) (jB t.set.d) (.slice j t.kids.length f)).heap[i]? = wr.heap[i]? := λi e=>by
  unfold zai;rw[Qk _ _ _ _ e,Qk _ _ _ _ e,Qk _ _ _ _ e,Qk _ _ _ _ e,Qk _ _ _ _ e,Qk _ _ _ _ e]
 have m:=hb.size;refine⟨(hb.block g (by omega)).trans h.rd,h.out.fill rfl _ _ _ _ _ _,LX.keep (λb hb=>⟨hb.1,hb.2.1,Qv hb.2.2 m⟩) (λb o hb=>?_) _ _ n,(hb.block _ (by omega)).trans h.zero,zds h.frame (by omega) hb,h1⟩;simp only[World.cell?, l b hb.2.1]
theorem OutSt.done{g:Nat}{s:ByteArray}{w:World}{k:Nat}{x:TR}{A:Option Addr}{c:Nat}{wr:World}(n:g<w.heap.size)(h:OutSt g s w k x A c wr):
 PutX (zai wr w.heap.size (jA x.1.kind) (jB x.1.set.a) (jB x.1.set.b) (jB x.1.set.c) (jB x.1.set.d) (.slice A x.1.kids.length c)) w.heap.size (zan x.1.kind x.1.set A x.1.kids.length c)/\
 NewX w (zai wr w.heap.size (jA x.1.kind) (jB x.1.set.a) (jB x.1.set.b) (jB x.1.set.c) (jB x.1.set.d) (.slice A x.1.kids.length c)) x.1 A c/\
 RdEnd g s x.2 w (zai wr w.heap.size (jA x.1.kind) (jB x.1.set.a) (jB x.1.set.b) (jB x.1.set.c) (jB x.1.set.d) (.slice A x.1.kids.length c)):=by
 have hb:Below w.heap.size wr (zai wr w.heap.size (jA x.1.kind) (jB x.1.set.a) (jB x.1.set.b) (jB x.1.set.c) (jB x.1.set.d) (.slice A x.1.kids.length c)):=zbD (Qj _ _) (Qc _) _ _ _ _ _ _
 have l:∀i,i≠w.heap.size->(zai wr w.heap.size (jA x.1.kind) (jB x.1.set.a) (jB x.1.set.b) (jB x.1.set.c) (jB x.1.set.d) (.slice A x.1.kids.length c)).heap[i]? = wr.heap[i]? := λi f=>by
  unfold zai;rw[Qk _ _ _ _ f,Qk _ _ _ _ f,Qk _ _ _ _ f,Qk _ _ _ _ f,Qk _ _ _ _ f,Qk _ _ _ _ f]
 have m:=hb.size;refine⟨h.zero.fill _ _ _ _ _ _,LX.keep (λb hb=>⟨QX hb.1,Qv hb.2.2 m⟩) (λb o hb=>?_) _ _ h.tree,(hb.block g n).trans h.rd,zds h.frame (Qc _) hb⟩;have j:b≠w.heap.size:=λe=>by have:=hb.1;omega
 simp only[World.cell?, l b j]
end
section
open Go.RowKit
def zfG(f:Nat)(s:ByteArray)(op:Nat)(P:RS->TR):Prop:=
 ∀(g:Nat) (q:RS) (W:World),RdAt g s q W->q.pos<=s.size->q.op=op->Calls prog f #[.pointer g] W (zjD g s (P q) W)
def zia(g n:Nat)(w:World):Nat:=match w.cell? ⟨g,3,none⟩,w.cell? ⟨g,1,none⟩with
 |some (.int _ e),some (.int _ p)=>if e=0 then n-p.toNat+1 else 0
 |_,_=>0
theorem zeB{g:Nat}{s:ByteArray}{r:RS}{w:World}(h:RdAt g s r w):zia g s.size w=zbR s.data.toList r:=by
 obtain⟨_,c1,_,c3⟩:=h.cells;have a:s.data.toList.length=s.size:=by simp
 unfold zia zbR;rw[c3,c1,a]
 rfl
theorem OutSt.start{g:Nat}{s:ByteArray}{w d w2:World}{x:TR}{A:Option Addr}{c:Nat}(_:g<w.heap.size)(f:ZeroX w2 w.heap.size)(i:w.grownBy w2 (some g))(e:w.heap.size<d.heap.size)
 (k:NewX d w2 x.1 A c) (j:RdAt g s x.2 w2) (h:d.heap.size<=w2.heap.size):
 OutSt g s w w2.heap.size x A c (w2.alloc (.cells (zan x.1.kind x.1.set A x.1.kids.length c).toArray 185)):=by
 have a:w2 (w2.alloc (.cells (zan x.1.kind x.1.set A x.1.kids.length c).toArray 185)):=WaL;refine⟨j.below a,PutX.new w2 _,LX.keep (λb hb=>⟨Qv e hb.1,?_,?_⟩) (λb o hb=>a.cell (p:=⟨b,o,none⟩) hb.2) _ _ k,(a.block _ f.lt).trans f,zax i (zci (zaW w2 _) a),by omega⟩
 ·have:=hb.2;omega
 ·have:=hb.2;have:=a.size;omega
def zql(g:Nat)(s:ByteArray)(w:World)(k op:Nat)(step:TR->Option TR)(R:TR)(wr:World):Prop:=
 ∃(x:TR) (A:Option Addr) (c:Nat),fixI step (zeR s.data.toList) x=R/\x.2.pos<=s.size/\x.2.op=op/\OutSt g s w k x A c wr
theorem zsJ(s:ByteArray)(op:Nat)(P:RS->TR)(_:s.size<=4096)(hP:zoJ s.data.toList P)(hC:zfG 217 s op P):
 zfG 174 s op (rowR s.data.toList P):=by
 intro g r w h hp hf;have hz:s.data.toList.length=s.size:=by simp
 have D:=h.lt;have h3:=hIx hC;have G:=hIx hP;obtain⟨S,F⟩:∃S,w.alloc (.cells #[jA 0,jB 0,jB 0,jB 0,jB 0,jD 0 0] 185)=S:=⟨_,rfl⟩
 have O:w S:=by rw[<-F];exact WaL
 have N:ZeroX S w.heap.size:=by rw[<-F];exact ZeroX.new w
 have hv:w.heap.size<S.heap.size:=N.lt;have hd:=h.below O;have C:=hIx (zmY g s r S hd hp);have h9:Hid (w.grownBy S (some g)):=zci (zaW w _) O;have hj:=hIx N;have HR:Hid (rowR s.data.toList P r=if zgj s.data.toList r=true then (emT,r)else fixI (rowS s.data.toList P) (zeR s.data.toList) (P r)):=rfl;have K:=hIx (hP r (by omega)).1.step;generalize hR:rowR s.data.toList P r=R at *;have ht:=hIx F;clear h hC hP O F hd N hR
 go_in
 go_upto_region 1 with fail
 rw[ht.out];cases f:zgj s.data.toList r with
 |true=>
  rw[f]at C HR;have H:Hid (R=(emT,r)):=by unfold Hid;rw[HR.out];rfl
  go_wp2_with (go_at_call 216;apply Hid.out);refine WhM C ?_;rintro e V ⟨rfl,h1⟩;have i:=hj.out.grown h1.2 (by omega);have HX:=hIx (i.fill (jA 2) (jB 0) (jB 0) (jB 0) (jB 0) (jD 0 0));have U:Below w.heap.size V (zai V w.heap.size (jA 2) (jB 0) (jB 0) (jB 0) (jB 0) (jD 0 0)):=zbD (Qj _ _) (Qc _) _ _ _ _ _ _;have hh:Hid (RdEnd g s r w (zai V w.heap.size (jA 2) (jB 0) (jB 0) (jB 0) (jB 0) (jD 0 0))):=⟨(U.block g D).trans h1.1,zds (zax h9.out h1.2) (Qc _) U⟩
  have ⟨z0,z1,z2,z3,z4,z5⟩:=i.cells;have y0:=i.free 0;have y1:=i.free 1;have y2:=i.free 2;have y3:=i.free 3;have y4:=i.free 4;have y5:=i.free 5;clear h1 U i;go_wp2_with fail;have ⟨s0,s1,s2,s3,s4,s5⟩:=HX.out.cells;unfold zai at s0 s1 s2 s3 s4 s5;exact Qi (v:=argX emT none 0) (by simp[results,results174,go_sem,s0,s1,s2,s3,s4,s5,argX,emT,Tree.kind,Tree.set,Tree.kids,Set4.zero]) rfl (by rw[H.out];exact⟨none,0,rfl,LX.leaf _ _ _ _ _ _ zbE,hh.out⟩)
 |false=>
  rw[f]at C HR;have H:Hid (fixI (rowS s.data.toList P) (zeR s.data.toList) (P r)=R):=by unfold Hid;rw[HR.out];rfl
  go_wp2_with (go_at_call 216;apply Hid.out);refine WhM C ?_;rintro e V ⟨rfl,h1⟩;have Z:=hIx (h3.out g r V h1.1 hp hf);have i:=hj.out.grown h1.2 (by omega);have hm:=zax h9.out h1.2;have hr:w.heap.size<V.heap.size:=i.lt;have L:=hIx (And.intro i hm);clear h1 i hm;go_wp2_with (go_at_call 217;apply Hid.out);refine WhM Z ?_;rintro e w2 ⟨A,c,rfl,hi,h2⟩
  have HO:Hid (OutSt g s w w2.heap.size (P r) A c (w2.alloc (.cells #[jA (P r).1.kind,jB (P r).1.set.a,jB (P r).1.set.b,jB (P r).1.set.c,jB (P r).1.set.d,.slice A (P r).1.kids.length c] 185))):=
   OutSt.start D (L.out.1.grown h2.2 (by omega)) (zax L.out.2 h2.2) hr hi h2.1 h2.2.size
  have u:(P r).2.pos<=s.size:=by have:=K.out.inn;omega
  have z:(P r).2.op=op:=K.out.op.trans hf;clear hi h2 K Z L HR;generalize P r=x at *;unfold argX;go_upto_region 4 with fail
  generalize w2.alloc (.cells #[jA x.1.kind,jB x.1.set.a,jB x.1.set.b,jB x.1.set.c,jB x.1.set.d,.slice A x.1.kids.length c] 185)=W3 at *;generalize w2.heap.size=k at *;have HS:Hid (zql g s w k op (rowS s.data.toList P) R W3):=⟨x,A,c,H.out,u,z,HO.out⟩
  clear HO u z H f
  go_loopw [9] (λ_ wr=>zql g s w k op (rowS s.data.toList P) R wr) (λ_ wr=>zia g s.size wr)
  case atStart=>exact HS.out
  case round=>
   obtain⟨x,A,c,hx,u,z,Y⟩:=hrel;have HM:=hIx (zeB Y.rd);have HE:=hIx (zmY g s x.2 wr Y.rd u);have HO:=hIx Y;have t:InR s.data.toList x:=by unfold InR;omega
   cases f:zgj s.data.toList x.2 with
   |true=>
    rw[f]at HE
    have ho:Hid (R=x):=by
     unfold Hid;rw[<-hx,zhf (zgv G.out) t (by unfold rowS;rw[f];rfl)]
    clear hx Y HM t f;go_wp2_with (go_at_call 216;apply Hid.out);refine WhM HE ?_;rintro e J ⟨rfl,h4⟩;have j:=HO.out.call D h4;have HD:=hIx (OutSt.done D j);have ⟨o0,o1,o2,o3,o4,o5⟩:=(show PutX J k [_,_,_,_,_,_]from j.out).cells;have ⟨z0,z1,z2,z3,z4,z5⟩:=j.zero.cells;have y0:=j.zero.free 0;have y1:=j.zero.free 1;have y2:=j.zero.free 2;have y3:=j.zero.free 3;have y4:=j.zero.free 4;have y5:=j.zero.free 5;clear h4 j;go_wp2_with fail;obtain⟨d1,d2,d3⟩:=HD.out;have ⟨s0,s1,s2,s3,s4,s5⟩:=(show PutX _ w.heap.size [_,_,_,_,_,_]from d1).cells;unfold zai at s0 s1 s2 s3 s4 s5;exact Qi (v:=argX x.1 A c) (by simp[results,results174,go_sem,s0,s1,s2,s3,s4,s5,argX]) rfl (by rw[ho.out];exact⟨A,c,rfl,d2,d3⟩)
   |false=>
    rw[f]at HE;have I:Hid (rowS s.data.toList P x=some (jnT x.1 (P x.2).1,(P x.2).2)):=by unfold Hid rowS;rw[f];rfl
    have T:Hid (fixI (rowS s.data.toList P) (zeR s.data.toList) (jnT x.1 (P x.2).1,(P x.2).2)=R):=by unfold Hid;rw[<-hx];exact(zid (zgv G.out) t I.out).symm
    have Q:Hid (zbR s.data.toList (P x.2).2<zbR s.data.toList x.2):=(zgv G.out).less x (jnT x.1 (P x.2).1,(P x.2).2) t I.out;have E:=hIx (G.out x.2 t).1.step;clear hx Y t f;go_wp2_with (go_at_call 216;apply Hid.out);refine WhM HE ?_;rintro e J ⟨rfl,h4⟩;have j:=HO.out.call D h4;have h8:Hid (∀W,J W->Calls prog 217 #[.pointer g] W (zjD g s (P x.2) W)):=λW hW=>h3.out g x.2 W (j.rd.below hW) u z
    have H5:=hIx j;have ⟨o0,o1,o2,o3,o4,o5⟩:=(show PutX J k [_,_,_,_,_,_]from j.out).cells;have f0:=j.out.free 0;have f1:=j.out.free 1;have f2:=j.out.free 2;have f3:=j.out.free 3;have f4:=j.out.free 4;have f5:=j.out.free 5;clear h4 j;have hA:k<J.heap.size:=H5.out.out.lt;have hw:w.heap.size<k:=H5.out.far;obtain⟨y,hy⟩:∃y,P x.2=y:=⟨_,rfl⟩
    rw[hy]at h8 I T Q E
    have hq:Hid (∀(X:Option Addr) (c4:Nat) (W B:World),J W->NewX W B y.1 X c4->RdEnd g s y.2 W B->
     OutSt g s w k (x.1,y.2) A c B/\Calls prog 176 #[jA 4,.agg #[jA x.1.kind,jB x.1.set.a,jB x.1.set.b,jB x.1.set.c,jB x.1.set.d,.slice A x.1.kids.length c],.agg #[jA y.1.kind,jB y.1.set.a,jB y.1.set.b,jB y.1.set.c,jB y.1.set.d,.slice X y.1.kids.length c4]] B
      (λe n=>∃o q,e=jC (argX (jnT x.1 y.1) o q)/\OutSt g s w k (x.1,y.2) A c n/\LX n (λb=>w.heap.size<b/\b≠k/\b<n.heap.size) (jnT x.1 y.1) (zan 4 .zero o 2 q))):=λX c4 W B hW hn h6=>by
     have m:=(H5.out.low D hW).call D h6;refine⟨m,(zg3 4 x.1 y.1 A X c c4 (λb=>w.heap.size<b/\b≠k/\b<B.heap.size) B (λb hb=>hb.2.2) m.tree (LX.keep (λb hb=>⟨by have:=hb.1;have:=hW.size;omega,by have:=hb.1;have:=hW.size;omega,hb.2⟩) (λ_ _ _=>rfl) _ _ hn)).mono ?_⟩;rintro e n ⟨o,q,rfl,p,hk⟩;refine⟨o,q,rfl,m.low D hk,LX.keep (λb hb=>?_) (λ_ _ _=>rfl) _ _ p⟩;have h1:=m.out.lt;have h2:=hk.size
     rcases hb with hb|hb
     ·exact⟨hb.1,hb.2.1,by omega⟩
     ·have:=hb.1;have:=hb.2;exact⟨by omega,by omega,hb.2⟩
    have he:Hid (∀o q n,OutSt g s w k (x.1,y.2) A c n->LX n (λb=>w.heap.size<b/\b≠k/\b<n.heap.size) (jnT x.1 y.1) (zan 4 .zero o 2 q)->
     zql g s w k op (rowS s.data.toList P) R (zai n k (jA (jnT x.1 y.1).kind) (jB (jnT x.1 y.1).set.a) (jB (jnT x.1 y.1).set.b) (jB (jnT x.1 y.1).set.c) (jB (jnT x.1 y.1).set.d) (.slice o (jnT x.1 y.1).kids.length q))/\
     zia g s.size (zai n k (jA (jnT x.1 y.1).kind) (jB (jnT x.1 y.1).set.a) (jB (jnT x.1 y.1).set.b) (jB (jnT x.1 y.1).set.c) (jB (jnT x.1 y.1).set.d) (.slice o (jnT x.1 y.1).kids.length q))<zia g s.size wr):=λo q n h7 p=>by
     have hp:=h7.put D (jnT x.1 y.1) o q p;refine⟨⟨_,o,q,T.out,?_,?_,hp⟩,?_⟩
     ·have:=E.out.inn;show y.2.pos<=_;omega
     ·exact E.out.op.trans z
     ·rw[HM.out];rw[zeB hp.rd];exact Q.out
    clear hy HM E Q T I;go_upto_region 5 with fail
    go_region_with (first
     |(go_at_call 217;(with_reducible refine(h8.out _ ?_).mono ?_);(first|exact Qj _ _|exact(Qj _ _).drew);rintro e B ⟨X,c4,rfl,ha,h6⟩;obtain⟨m,h0⟩:=hq.out X c4 _ B (by first|exact Qj _ _|exact(Qj _ _).drew) ha h6;have hu:=hIx h0;have ⟨o0,o1,o2,o3,o4,o5⟩:=(show PutX B k [_,_,_,_,_,_]from m.out).cells;clear ha h6 h0 m;unfold argX)
     |(go_at_call 176;(refine hu.out.mono ?_);rintro e n ⟨o,q,rfl,l,p⟩;have f0:=l.out.free 0;have f1:=l.out.free 1;have f2:=l.out.free 2;have f3:=l.out.free 3;have f4:=l.out.free 4;have f5:=l.out.free 5;have ⟨o0,o1,o2,o3,o4,o5⟩:=(show PutX n k [_,_,_,_,_,_]from l.out).cells;have hc:=hIx (he.out o q n l p);clear l p;unfold argX))
    all_goals go_roundw
    all_goals first
     |exact hc.out.2
     |((repeat apply Exists.intro);exact⟨hc.out.1,rfl⟩)
     |fail "row"
end
section
open Go.RowKit
theorem ztY(s:ByteArray)(op:Nat)(P:RS->TR)(hs:s.size<=4096)(hP:ziD s.data.toList P)(hC:zfG 174 s op P):
 zfG 137 s op (altR s.data.toList P):=by
 intro g r w h hp h9;have hq:s.data.toList.length=s.size:=by simp
 have F:=h.lt;have hi:=hIx hC;have D:=hIx hP;obtain⟨G,C⟩:∃G,w.alloc (.cells #[jA 0,jB 0,jB 0,jB 0,jB 0,jD 0 0] 185)=G:=⟨_,rfl⟩
 have L:w G:=by rw[<-C];exact WaL
 have K:ZeroX G w.heap.size:=by rw[<-C];exact ZeroX.new w
 have hj:w.heap.size<G.heap.size:=K.lt;have V:=hIx (hC g r G (h.below L) hp h9);have J:Hid (ZeroX G w.heap.size/\w.grownBy G (some g)):=⟨K,zci (zaW w _) L⟩
 have hd:Hid (fixI (altS s.data.toList P) (zeR s.data.toList) (P r)=altR s.data.toList P r):=rfl;have I:=hIx (hP r (by omega)).step;generalize hR:altR s.data.toList P r=R at *;have hk:=hIx C;clear h hC hP L C K hR
 go_in
 go_upto_region 1 with fail
 rw[hk.out];go_wp2_with (go_at_call 174;apply Hid.out);refine WhM V ?_;rintro e w2 ⟨A,c,rfl,ha,h2⟩
 have X:Hid (OutSt g s w w2.heap.size (P r) A c (w2.alloc (.cells #[jA (P r).1.kind,jB (P r).1.set.a,jB (P r).1.set.b,jB (P r).1.set.c,jB (P r).1.set.d,.slice A (P r).1.kids.length c] 185))):=
  OutSt.start F (J.out.1.grown h2.2 (by omega)) (zax J.out.2 h2.2) hj ha h2.1 h2.2.size
 have z:(P r).2.pos<=s.size:=by have:=I.out.inn;omega
 have q:(P r).2.op=op:=I.out.op.trans h9;clear ha h2 I V J;generalize P r=x at *;unfold argX;go_upto_region 2 with fail
 generalize w2.alloc (.cells #[jA x.1.kind,jB x.1.set.a,jB x.1.set.b,jB x.1.set.c,jB x.1.set.d,.slice A x.1.kids.length c] 185)=W3 at *;generalize w2.heap.size=k at *;have HS:Hid (zql g s w k op (altS s.data.toList P) R W3):=⟨x,A,c,hd.out,z,q,X.out⟩
 clear X z q hd
 go_loopw [6] (λ_ wr=>zql g s w k op (altS s.data.toList P) R wr) (λ_ wr=>zia g s.size wr)
 case atStart=>exact HS.out
 case round=>
  obtain⟨x,A,c,hx,z,q,T⟩:=hrel;have HM:=hIx (zeB T.rd);have HE:=hIx (zdQ g s x.2 124 wr T.rd z hs);have X:=hIx T;have t:InR s.data.toList x:=by unfold InR;omega
  by_cases f:zad s.data.toList x.2=124
  rotate_left
  ·have S:zaL s.data.toList x.2 124=(false,x.2):=by unfold zaL;rw[Qe f]
   rw[S]at HE
   have he:Hid (R=x):=by
    unfold Hid;rw[<-hx,zhf (zf3 D.out) t (by unfold altS;rw[Qe f])]
   clear hx T HM t f S;go_wp2_with (go_at_call 175;apply Hid.out);refine WhM HE ?_;rintro e H ⟨rfl,h4⟩;have i:=X.out.call F h4;have HD:=hIx (OutSt.done F i);have ⟨o0,o1,o2,o3,o4,o5⟩:=(show PutX H k [_,_,_,_,_,_]from i.out).cells;have ⟨z0,z1,z2,z3,z4,z5⟩:=i.zero.cells;have y0:=i.zero.free 0;have y1:=i.zero.free 1;have y2:=i.zero.free 2;have y3:=i.zero.free 3;have y4:=i.zero.free 4;have y5:=i.zero.free 5;clear h4 i;go_wp2_with fail;obtain⟨d1,d2,d3⟩:=HD.out;have ⟨s0,s1,s2,s3,s4,s5⟩:=(show PutX _ w.heap.size [_,_,_,_,_,_]from d1).cells;unfold zai at s0 s1 s2 s3 s4 s5;exact Qi (v:=argX x.1 A c) (by simp[results,results137,go_sem,s0,s1,s2,s3,s4,s5,argX]) rfl (by rw[he.out];exact⟨A,c,rfl,d2,d3⟩)
  ·have S:zaL s.data.toList x.2 124=(true,onR x.2):=by unfold zaL;rw[Qg f];rfl
   rw[S]at HE;have hf:(onR x.2).pos<=s.data.toList.length:=(zde f (by decide)).1.inn;have U:(onR x.2).pos<=s.size:=by omega
   have E:Hid (altS s.data.toList P x=some (orT x.1 (P (onR x.2)).1,(P (onR x.2)).2)):=by unfold Hid altS;rw[Qg f]
   have O:Hid (fixI (altS s.data.toList P) (zeR s.data.toList) (orT x.1 (P (onR x.2)).1,(P (onR x.2)).2)=R):=by unfold Hid;rw[<-hx];exact(zid (zf3 D.out) t E.out).symm
   have N:Hid (zbR s.data.toList (P (onR x.2)).2<zbR s.data.toList x.2):=(zf3 D.out).less x (orT x.1 (P (onR x.2)).1,(P (onR x.2)).2) t E.out;have B:=hIx (D.out (onR x.2) hf).step;clear hx T t f S;go_wp2_with (go_at_call 175;apply Hid.out);refine WhM HE ?_;rintro e H ⟨rfl,h4⟩;have i:=X.out.call F h4;have Z:Hid (∀W,H W->Calls prog 174 #[.pointer (some ⟨g,0,none⟩)] W (zjD g s (P (onR x.2)) W)):=λW hW=>hi.out g (onR x.2) W (i.rd.below hW) U q
   have H5:=hIx i;have ⟨o0,o1,o2,o3,o4,o5⟩:=(show PutX H k [_,_,_,_,_,_]from i.out).cells;have f0:=i.out.free 0;have f1:=i.out.free 1;have f2:=i.out.free 2;have f3:=i.out.free 3;have f4:=i.out.free 4;have f5:=i.out.free 5;clear h4 i;have hr:k<H.heap.size:=H5.out.out.lt;have ho:w.heap.size<k:=H5.out.far;obtain⟨y,hy⟩:∃y,P (onR x.2)=y:=⟨_,rfl⟩
   rw[hy]at Z E O N B
   have hh:Hid (∀(Q:Option Addr) (c4:Nat) (W u:World),H W->NewX W u y.1 Q c4->RdEnd g s y.2 W u->
    OutSt g s w k (x.1,y.2) A c u/\Calls prog 176 #[jA 5,.agg #[jA x.1.kind,jB x.1.set.a,jB x.1.set.b,jB x.1.set.c,jB x.1.set.d,.slice A x.1.kids.length c],.agg #[jA y.1.kind,jB y.1.set.a,jB y.1.set.b,jB y.1.set.c,jB y.1.set.d,.slice Q y.1.kids.length c4]] u
     (λe m=>∃n p,e=jC (argX (orT x.1 y.1) n p)/\OutSt g s w k (x.1,y.2) A c m/\LX m (λb=>w.heap.size<b/\b≠k/\b<m.heap.size) (orT x.1 y.1) (zan 5 .zero n 2 p))):=λQ c4 W u hW hn h6=>by
    have l:=(H5.out.low F hW).call F h6;refine⟨l,(zg3 5 x.1 y.1 A Q c c4 (λb=>w.heap.size<b/\b≠k/\b<u.heap.size) u (λb hb=>hb.2.2) l.tree (LX.keep (λb hb=>⟨by have:=hb.1;have:=hW.size;omega,by have:=hb.1;have:=hW.size;omega,hb.2⟩) (λ_ _ _=>rfl) _ _ hn)).mono ?_⟩;rintro e m ⟨n,p,rfl,o,hc⟩;refine⟨n,p,rfl,l.low F hc,LX.keep (λb hb=>?_) (λ_ _ _=>rfl) _ _ o⟩;have h1:=l.out.lt;have h2:=hc.size
    rcases hb with hb|hb
    ·exact⟨hb.1,hb.2.1,by omega⟩
    ·have:=hb.1;have:=hb.2;exact⟨by omega,by omega,hb.2⟩
   have h8:Hid (∀n p m,OutSt g s w k (x.1,y.2) A c m->LX m (λb=>w.heap.size<b/\b≠k/\b<m.heap.size) (orT x.1 y.1) (zan 5 .zero n 2 p)->
    zql g s w k op (altS s.data.toList P) R (zai m k (jA (orT x.1 y.1).kind) (jB (orT x.1 y.1).set.a) (jB (orT x.1 y.1).set.b) (jB (orT x.1 y.1).set.c) (jB (orT x.1 y.1).set.d) (.slice n (orT x.1 y.1).kids.length p))/\
    zia g s.size (zai m k (jA (orT x.1 y.1).kind) (jB (orT x.1 y.1).set.a) (jB (orT x.1 y.1).set.b) (jB (orT x.1 y.1).set.c) (jB (orT x.1 y.1).set.d) (.slice n (orT x.1 y.1).kids.length p))<zia g s.size wr):=λn p m h7 o=>by
    have hp:=h7.put F (orT x.1 y.1) n p o;refine⟨⟨_,n,p,O.out,?_,?_,hp⟩,?_⟩
    ·have:=B.out.inn;show y.2.pos<=_;omega
    ·exact B.out.op.trans q
    ·rw[HM.out];rw[zeB hp.rd];exact N.out
   clear hy HM B N O E;go_upto_region 3 with fail
   go_region_with (first
    |(go_at_call 174;(with_reducible refine(Z.out _ ?_).mono ?_);(first|exact Qj _ _|exact(Qj _ _).drew);rintro e u ⟨Q,c4,rfl,h0,h6⟩;obtain⟨l,Y⟩:=hh.out Q c4 _ u (by first|exact Qj _ _|exact(Qj _ _).drew) h0 h6;have hm:=hIx Y;have ⟨o0,o1,o2,o3,o4,o5⟩:=(show PutX u k [_,_,_,_,_,_]from l.out).cells;clear h0 h6 Y l;unfold argX)
    |(go_at_call 176;(refine hm.out.mono ?_);rintro e m ⟨n,p,rfl,j,o⟩;have f0:=j.out.free 0;have f1:=j.out.free 1;have f2:=j.out.free 2;have f3:=j.out.free 3;have f4:=j.out.free 4;have f5:=j.out.free 5;have ⟨o0,o1,o2,o3,o4,o5⟩:=(show PutX m k [_,_,_,_,_,_]from j.out).cells;have h3:=hIx (h8.out n p m j o);clear j o;unfold argX))
   all_goals go_roundw
   all_goals first
    |exact h3.out.2
    |((repeat apply Exists.intro);exact⟨h3.out.1,rfl⟩)
    |fail "row"
end
