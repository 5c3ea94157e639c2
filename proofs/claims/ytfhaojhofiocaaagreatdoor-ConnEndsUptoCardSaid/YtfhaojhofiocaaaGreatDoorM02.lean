/- Lemmas for the last texts. -/
import Derived.Test.YtfhaojhofiocaaaGreatDoorM01
import Derived.Deep.Draws
import Derived.Deep.Slices
import Derived.Deep.Fields
import Derived.ChangeSame
import Derived.Lib.SmallJoins
import Derived.Lib.OwnKind
import Derived.OwnWalk
import Derived.ChangeKeysEq
import Derived.Deep.QuietTactic
import Derived.BigQuiet
import Derived.Deep.RegionHeld3
import Derived.Laws.CopyOwn
import Derived.BigRegion
import Derived.IntWalk
set_option maxHeartbeats 800000
set_option maxRecDepth 100000
namespace Go.Proofs.YtfhaojhofiocaaaGreatDoor
open Go.RowKit Go.Proofs.Tryz
structure Ins where
 kind:Int
 a:Int
 b:Int
 set:Set4
deriving DecidableEq
inductive Code:Tree->Nat->List Ins->Prop
 |none (S:Set4) (at_:Nat):Code (.node 1 S []) at_ [⟨1,0,0,S⟩]
 |empty (S:Set4) (at_:Nat):Code (.node 2 S []) at_ []
 |byte (S:Set4) (at_:Nat):Code (.node 3 S []) at_ [⟨1,0,0,S⟩]
 |begin (S:Set4) (at_:Nat):Code (.node 7 S []) at_ [⟨4,0,0,.zero⟩]
 |finish (S:Set4) (at_:Nat):Code (.node 8 S []) at_ [⟨5,0,0,.zero⟩]
 |cat (S:Set4) (a b:Tree) (at_:Nat) (la lb:List Ins):Code a at_ la->Code b (at_+la.length) lb->Code (.node 4 S [a,b]) at_ (la++lb)
 |alt (S:Set4) (a b:Tree) (at_:Nat) (la lb:List Ins):Code a (at_+1) la->Code b (at_+1+la.length+1) lb->
  Code (.node 5 S [a,b]) at_ (⟨2,at_+1,(at_+1+la.length+1:Nat),.zero⟩::(la++⟨3,(at_+1+la.length+1+lb.length:Nat),0,.zero⟩::lb))
 |star (S:Set4) (a:Tree) (at_:Nat) (la:List Ins):Code a (at_+1) la->
  Code (.node 6 S [a]) at_ (⟨2,at_+1,(at_+1+la.length+1:Nat),.zero⟩::(la++[⟨3,at_,0,.zero⟩]))
inductive Eps (P:List Ins) (s:List UInt8) (i:Nat):Nat->Nat->Prop
 |one (n:Nat) (x:Ins):P[n]? = some x->x.kind=2->Eps P s i n x.a.toNat
 |two (n:Nat) (x:Ins):P[n]? = some x->x.kind=2->Eps P s i n x.b.toNat
 |jump (n:Nat) (x:Ins):P[n]? = some x->x.kind=3->Eps P s i n x.a.toNat
 |begin (n:Nat) (x:Ins):P[n]? = some x->x.kind=4->i=0->Eps P s i n (n+1)
 |finish (n:Nat) (x:Ins):P[n]? = some x->x.kind=5->i=s.length->Eps P s i n (n+1)
def zcF(P:List Ins)(s:jE)(i n:Nat):Prop:=∃x c,P[n]? = some x/\x.kind=1/\s[i]? = some c/\hasB x.set c=true
inductive Path (P:List Ins) (s:List UInt8) (N j:Nat):Nat->Nat->Nat->Prop
 |here:Path P s N j 0 N j
 |eps (L n m i:Nat):Eps P s i n m->Path P s N j L m i->Path P s N j (L+1) n i
 |byte (L n i:Nat):zcF P s i n->Path P s N j L (n+1) (i+1)->Path P s N j (L+1) n i
theorem Path.trans{P:List Ins}{s:jE}{N j c b L:Nat}{n i:Nat}(h:Path P s N j L n i):∀{a},Path P s c b a N j->Path P s c b (L+a) n i:=by
 induction h with
 |here=>intro a h2;rw[Ze];exact h2
 |eps L n m i h1 _ ih=>intro a h2;rw[show L+1+a=(L+a)+1 by omega];exact .eps _ _ _ _ h1 (ih h2)
 |byte L n i h1 _ ih=>intro a h2;rw[show L+1+a=(L+a)+1 by omega];exact .byte _ _ _ h1 (ih h2)
def Lies(P:List Ins)(at_:Nat)(l:List Ins):Prop:=∀k,k<l.length->P[at_+k]? = l[k]?
theorem Lies.left{P:List Ins}{at_:Nat}{l m:List Ins}(h:Lies P at_ (l++m)):Lies P at_ l:=λk a=>by
 rw[h k (by rw[Qb];omega),Zj a]
theorem Lies.right{P:List Ins}{at_:Nat}{l m:List Ins}(h:Lies P at_ (l++m)):Lies P (at_+l.length) m:=λk a=>by
 rw[Zf,h (l.length+k) (by rw[Qb];omega),Q1 (by omega),Nat.add_sub_cancel_left]
theorem Lies.tail{P:List Ins}{at_:Nat}{x:Ins}{l:List Ins}(h:Lies P at_ (x::l)):P[at_]? = some x/\Lies P (at_+1) l:=
 ⟨h 0 (by simp),λk a=>by rw[show at_+1+k=at_+(k+1)by omega,h (k+1) (by simpa using a)];rfl⟩
theorem M.front{s:jE}{S:Set4}{a:Tree}{i k j:Nat}(h1:M s a i k)(h2:M s (.node 6 S [a]) k j):M s (.node 6 S [a]) i j:=by
 have:∀t k j,M s t k j->t=.node 6 S [a]->∀i,M s a i k->M s (.node 6 S [a]) i j:=by
  intro t k j h
  induction h with
  |nil c d q n=>intro e i f;exact .more S a i i q (.nil S a i (by have:=f.le;omega)) f
  |more c d q r u o l g _=>
   intro e i f;have m:=g e i f;injection e with _ _ e
   injection e with e _
   subst e;exact .more S d i r u m l
  |empty c q _=>intro e;exact absurd e (by intro e;injection e with e;exact absurd e (by decide))
  |byte c q x _ _=>intro e;exact absurd e (by intro e;injection e with e;exact absurd e (by decide))
  |cat c d b q r u _ _ _ _=>intro e;exact absurd e (by intro e;injection e with e;exact absurd e (by decide))
  |altl c d b q r _ _=>intro e;exact absurd e (by intro e;injection e with e;exact absurd e (by decide))
  |altr c d b q r _ _=>intro e;exact absurd e (by intro e;injection e with e;exact absurd e (by decide))
  |begin c=>intro e;exact absurd e (by intro e;injection e with e;exact absurd e (by decide))
  |finish c=>intro e;exact absurd e (by intro e;injection e with e;exact absurd e (by decide))
 exact this _ k j h2 rfl i h1
theorem zbX{P:List Ins}{s:jE}{N j L n i:Nat}{x:Ins}(h:Path P s N j L n i)(k:P[n]? = some x)(r:N≠n):
 ∃e,L=e+1/\((x.kind=2/\(Path P s N j e x.a.toNat i\/Path P s N j e x.b.toNat i))\/(x.kind=3/\Path P s N j e x.a.toNat i)\/(x.kind=4/\i=0/\Path P s N j e (n+1) i)\/
  (x.kind=5/\i=s.length/\Path P s N j e (n+1) i)\/(x.kind=1/\∃c,s[i]? = some c/\hasB x.set c=true/\Path P s N j e (n+1) (i+1))):=by
 cases h with
 |here=>exact absurd rfl r
 |eps e _ m _ q g=>
  refine⟨e,rfl,?_⟩;cases q with
  |one y d f=>rw[k]at d;injection d with d;subst d;exact .inl ⟨f,.inl g⟩
  |two y d f=>rw[k]at d;injection d with d;subst d;exact .inl ⟨f,.inr g⟩
  |jump y d f=>rw[k]at d;injection d with d;subst d;exact .inr (.inl ⟨f,g⟩)
  |begin y d f l=>rw[k]at d;injection d with d;subst d;exact .inr (.inr (.inl ⟨f,l,g⟩))
  |finish y d f l=>rw[k]at d;injection d with d;subst d;exact .inr (.inr (.inr (.inl ⟨f,l,g⟩)))
 |byte e _ _ hb g=>
  obtain⟨y,c,d,f,t,o⟩:=hb;rw[k]at d;injection d with d;subst d
  exact⟨e,rfl,.inr (.inr (.inr (.inr ⟨f,c,t,o,g⟩)))⟩
theorem zrr{S:Set4}(h:Fine (.node 1 S []))(c:UInt8):hasB S c=false:=by
 rw[Fine]at h;have h1:=h.1;unfold badT at h1
 have h2:S=Set4.zero:=by
  cases a:decide (S=Set4.zero)with
  |true=>exact Zp a
  |false=>rw[a]at h1;simp at h1
 subst h2;unfold hasB Set4.word Set4.zero;simp
theorem zh9{k:Int}{S:Set4}{a:List Tree}(h:Fine (.node k S a)):zfL a:=by rw[Fine]at h;exact h.2
theorem zoR{a b:Tree}(h:zfL [a,b]):Fine a/\Fine b:=by rw[zfL,zfL]at h;exact⟨h.1,h.2.1⟩
theorem zuQ{a:Tree}(h:zfL [a]):Fine a:=by rw[zfL]at h;exact h.1
theorem zwf{P:List Ins}{s:jE}{N j:Nat}{t:Tree}{at_:Nat}{l:List Ins}(Q:Code t at_ l):Lies P at_ l->(N<at_\/at_+l.length<=N)->Fine t->
 ∀L i,i<=s.length->Path P s N j L at_ i->∃k f,f<=L/\M s t i k/\Path P s N j f (at_+l.length) k:=by
 induction Q with
 |none S at_=>
  intro hl q w L i o g;obtain⟨f,_,h⟩:=zbX g hl.tail.1 (by simp at q;omega)
  rcases h with ⟨h,_⟩|⟨h,_⟩|⟨h,_⟩|⟨h,_⟩|⟨_,c,_,h,_⟩
  ·cases h
  ·cases h
  ·cases h
  ·cases h
  ·rw[zrr w]at h;cases h
 |empty S at_=>
  intro _ _ _ L i o g;exact⟨i,L,Qd _,.empty S i o,g⟩
 |byte S at_=>
  intro hl q w L i o g;obtain⟨f,F,h⟩:=zbX g hl.tail.1 (by simp at q;omega)
  rcases h with ⟨h,_⟩|⟨h,_⟩|⟨h,_⟩|⟨h,_⟩|⟨_,c,Q,h,d⟩
  ·cases h
  ·cases h
  ·cases h
  ·cases h
  ·exact⟨i+1,f,by omega,.byte S i c Q h,d⟩
 |begin S at_=>
  intro hl q w L i o g;obtain⟨f,F,h⟩:=zbX g hl.tail.1 (by simp at q;omega)
  rcases h with ⟨h,_⟩|⟨h,_⟩|⟨_,G,d⟩|⟨h,_⟩|⟨h,_⟩
  ·cases h
  ·cases h
  ·subst G;exact⟨0,f,by omega,.begin S,d⟩
  ·cases h
  ·cases h
 |finish S at_=>
  intro hl q w L i o g;obtain⟨f,F,h⟩:=zbX g hl.tail.1 (by simp at q;omega)
  rcases h with ⟨h,_⟩|⟨h,_⟩|⟨h,_⟩|⟨_,G,d⟩|⟨h,_⟩
  ·cases h
  ·cases h
  ·cases h
  ·subst G;exact⟨_,f,by omega,.finish S,d⟩
  ·cases h
 |cat S a b at_ m y _ _ r C=>
  intro hl q w L i o g;rw[Qb]at q;have n:=zoR (zh9 w);obtain⟨k,E,h1,x,B⟩:=r hl.left (by omega) n.1 L i o g;obtain⟨T,D,h2,V,z⟩:=C hl.right (by omega) n.2 E k x.le.2 B;exact⟨T,D,by omega,.cat S a b i k T x V,by rw[Qb,<-Zf];exact z⟩
 |alt S a b at_ m y _ _ r C=>
  intro hl q w L i o g;have n:=zoR (zh9 w)
  have u:(⟨2,at_+1,(at_+1+m.length+1:Nat),.zero⟩::(m++⟨3,(at_+1+m.length+1+y.length:Nat),0,.zero⟩::y):List Ins).length=1+m.length+1+y.length:=by
   simp only[Qq,Qb];omega
  rw[u]at q ⊢;obtain⟨I,v⟩:=hl.tail;have A:=v.left;obtain⟨J,H⟩:=v.right.tail;obtain⟨f,F,h⟩:=zbX g I (by omega)
  rcases h with ⟨_,d|d⟩|⟨h,_⟩|⟨h,_⟩|⟨h,_⟩|⟨h,_⟩
  ·have e:((at_:Int)+1).toNat=at_+1:=by omega
   rw[e]at d;obtain⟨k,E,h1,x,B⟩:=r A (by omega) n.1 f i o d;obtain⟨D,O,h2⟩:=zbX B J (by omega)
   rcases h2 with ⟨h,_⟩|⟨_,z⟩|⟨h,_⟩|⟨h,_⟩|⟨h,_⟩
   ·cases h
   ·rw[Q9]at z
    exact⟨k,D,by omega,.altl S a b i k x,by rw[show at_+(1+m.length+1+y.length)=at_+1+m.length+1+y.length by omega];exact z⟩
   ·cases h
   ·cases h
   ·cases h
  ·rw[Q9]at d
   obtain⟨k,E,h1,x,B⟩:=C H (by omega) n.2 f i o d;exact⟨k,E,by omega,.altr S a b i k x,by rw[show at_+(1+m.length+1+y.length)=at_+1+m.length+1+y.length by omega];exact B⟩
  ·cases h
  ·cases h
  ·cases h
  ·cases h
 |star S a at_ m _ r=>
  intro hl q w L;have n:=zuQ (zh9 w)
  have u:(⟨2,at_+1,(at_+1+m.length+1:Nat),.zero⟩::(m++[⟨3,at_,0,.zero⟩]):List Ins).length=1+m.length+1:=by
   simp only[Qq,Qb,QP];omega
  rw[u]at q ⊢;obtain⟨I,v⟩:=hl.tail;have A:=v.left;obtain⟨J,_⟩:=v.right.tail
  induction L using Nat.strongRecOn with
  |ind L K=>
   intro i o g;obtain⟨f,F,h⟩:=zbX g I (by omega)
   rcases h with ⟨_,d|d⟩|⟨h,_⟩|⟨h,_⟩|⟨h,_⟩|⟨h,_⟩
   ·have e:((at_:Int)+1).toNat=at_+1:=by omega
    rw[e]at d;obtain⟨k,E,h1,x,B⟩:=r A (by omega) n f i o d;obtain⟨D,O,h2⟩:=zbX B J (by omega)
    rcases h2 with ⟨h,_⟩|⟨_,z⟩|⟨h,_⟩|⟨h,_⟩|⟨h,_⟩
    ·cases h
    ·rw[Q9]at z
     obtain⟨Y,X,Z,W,U⟩:=K D (by omega) k x.le.2 z;exact⟨Y,X,by omega,x.front W,U⟩
    ·cases h
    ·cases h
    ·cases h
   ·rw[Q9]at d
    exact⟨i,f,by omega,.nil S a i o,by rw[show at_+(1+m.length+1)=at_+1+m.length+1 by omega];exact d⟩
   ·cases h
   ·cases h
   ·cases h
   ·cases h
theorem zxh{P:List Ins}{s:jE}{t:Tree}{at_:Nat}{l:List Ins}(N:Code t at_ l):Lies P at_ l->∀i j,M s t i j->∃L,Path P s (at_+l.length) j L at_ i:=by
 induction N with
 |none S at_=>intro _ i j m;cases m
 |empty S at_=>intro _ i j m;cases m;exact⟨0,.here⟩
 |byte S at_=>
  intro hl i j m;cases m with
  |byte _ _ x h1 h2=>exact⟨1,.byte _ _ _ ⟨_,x,hl.tail.1,rfl,h1,h2⟩ .here⟩
 |begin S at_=>intro hl i j m;cases m;exact⟨1,.eps _ _ _ _ (.begin _ _ hl.tail.1 rfl rfl) .here⟩
 |finish S at_=>intro hl i j m;cases m;exact⟨1,.eps _ _ _ _ (.finish _ _ hl.tail.1 rfl rfl) .here⟩
 |cat S a b at_ d A _ _ f y=>
  intro hl i j m;cases m with
  |cat _ _ _ _ k _ z F=>
   obtain⟨D,o⟩:=f hl.left i k z;obtain⟨K,G⟩:=y hl.right k j F;exact⟨D+K,o.trans (by rw[Qb,<-Zf];exact G)⟩
 |alt S a b at_ d A _ _ f y=>
  intro hl i j m
  have g:(⟨2,at_+1,(at_+1+d.length+1:Nat),.zero⟩::(d++⟨3,(at_+1+d.length+1+A.length:Nat),0,.zero⟩::A):List Ins).length=1+d.length+1+A.length:=by
   simp only[Qq,Qb];omega
  rw[g,show at_+(1+d.length+1+A.length)=at_+1+d.length+1+A.length by omega];obtain⟨C,n⟩:=hl.tail;obtain⟨J,I⟩:=n.right.tail;cases m with
  |altl _ _ _ _ _ z=>
   obtain⟨D,o⟩:=f n.left i j z;have c:=Eps.one (s:=s) (i:=i) at_ _ C rfl;have e:((at_:Int)+1).toNat=at_+1:=by omega
   dsimp only at c;rw[e]at c;have w:=Eps.jump (s:=s) (i:=j) _ _ J rfl;dsimp only at w;rw[Q9]at w;exact⟨_,.eps _ _ _ _ c (o.trans (.eps _ _ _ _ w .here))⟩
  |altr _ _ _ _ _ z=>
   obtain⟨D,o⟩:=y I i j z;have c:=Eps.two (s:=s) (i:=i) at_ _ C rfl;dsimp only at c;rw[Q9]at c;exact⟨_,.eps _ _ _ _ c o⟩
 |star S a at_ d _ f=>
  intro hl i j m
  have g:(⟨2,at_+1,(at_+1+d.length+1:Nat),.zero⟩::(d++[⟨3,at_,0,.zero⟩]):List Ins).length=1+d.length+1:=by
   simp only[Qq,Qb,QP];omega
  rw[g,show at_+(1+d.length+1)=at_+1+d.length+1 by omega];obtain⟨C,n⟩:=hl.tail;obtain⟨J,_⟩:=n.right.tail
  have B:∀t i j,M s t i j->t=.node 6 S [a]->∃L,Path P s at_ j L at_ i:=by
   intro t i j h
   induction h with
   |nil v E q _=>intro _;exact⟨0,.here⟩
   |more v E q r u z F H _=>
    intro e;obtain⟨D,o⟩:=H e;injection e with _ _ e
    injection e with e _
    subst e;obtain⟨K,G⟩:=f n.left r u F;have c:=Eps.one (s:=s) (i:=r) at_ _ C rfl;have e:((at_:Int)+1).toNat=at_+1:=by omega
    dsimp only at c;rw[e]at c;have w:=Eps.jump (s:=s) (i:=u) _ _ J rfl;dsimp only at w;rw[Q9]at w;exact⟨_,o.trans (.eps _ _ _ _ c (G.trans (.eps _ _ _ _ w .here)))⟩
   |empty v q _=>intro e;exact absurd e (by intro e;injection e with e;exact absurd e (by decide))
   |byte v q x _ _=>intro e;exact absurd e (by intro e;injection e with e;exact absurd e (by decide))
   |cat v E b q r u _ _ _ _=>intro e;exact absurd e (by intro e;injection e with e;exact absurd e (by decide))
   |altl v E b q r _ _=>intro e;exact absurd e (by intro e;injection e with e;exact absurd e (by decide))
   |altr v E b q r _ _=>intro e;exact absurd e (by intro e;injection e with e;exact absurd e (by decide))
   |begin v=>intro e;exact absurd e (by intro e;injection e with e;exact absurd e (by decide))
   |finish v=>intro e;exact absurd e (by intro e;injection e with e;exact absurd e (by decide))
  obtain⟨D,o⟩:=B _ i j m rfl;have c:=Eps.two (s:=s) (i:=j) at_ _ C rfl;dsimp only at c;rw[Q9]at c;exact⟨_,o.trans (.eps _ _ _ _ c .here)⟩
theorem zoK{s:jE}{t:Tree}{l:List Ins}(f:Code t 0 l)(g:Fine t)(x:Ins)(d:x.kind=6)(i j:Nat)(h:i<=s.length):(∃L,Path (l++[x]) s l.length j L 0 i)↔M s t i j:=by
 have hl:Lies (l++[x]) 0 l:=λk b=>by rw[Ze,Zj b]
 constructor
 ·rintro⟨L,p⟩
  obtain⟨k,o,_,m,e⟩:=zwf f hl (.inr (by omega)) g L i h p;rw[Ze]at e;have hM:(l++[x])[l.length]? = some x:=by rw[Q1 (Qd _)];simp
  have:k=j:=by
   cases e with
   |here=>rfl
   |eps _ _ q _ n _=>
    cases n with
    |one y a b=>rw[hM]at a;injection a with a;rw[<-a,d]at b;cases b
    |two y a b=>rw[hM]at a;injection a with a;rw[<-a,d]at b;cases b
    |jump y a b=>rw[hM]at a;injection a with a;rw[<-a,d]at b;cases b
    |begin y a b _=>rw[hM]at a;injection a with a;rw[<-a,d]at b;cases b
    |finish y a b _=>rw[hM]at a;injection a with a;rw[<-a,d]at b;cases b
   |byte _ _ _ hb _=>
    obtain⟨y,c,a,b,_⟩:=hb;rw[hM]at a;injection a with a;rw[<-a,d]at b;cases b
  subst this;exact m
 ·intro m
  obtain⟨L,p⟩:=zxh f hl i j m;rw[Ze]at p;exact⟨L,p⟩
section
variable {P:List Ins} {s:jE}
inductive EpsS (P:List Ins) (s:List UInt8) (i n:Nat):Nat->Prop
 |refl:EpsS P s i n n
 |step (m k:Nat):EpsS P s i n m->Eps P s i m k->EpsS P s i n k
theorem EpsS.front{i n m k:Nat}(h:Eps P s i n m)(h2:EpsS P s i m k):EpsS P s i n k:=by
 induction h2 with
 |refl=>exact .step _ _ .refl h
 |step _ _ _ a ih=>exact .step _ _ ih a
def R(P:List Ins)(s:jE)(i n j:Nat):Prop:=∃L,Path P s n j L 0 i
theorem R.start(i:Nat):R P s i 0 i:=⟨0,.here⟩
theorem R.eps{i n m j:Nat}(h:R P s i n j)(a:Eps P s j n m):R P s i m j:=by
 obtain⟨L,p⟩:=h;exact⟨_,p.trans (.eps _ _ _ _ a .here)⟩
theorem R.epsS{i n m j:Nat}(h:R P s i n j)(a:EpsS P s j n m):R P s i m j:=by
 induction a with
 |refl=>exact h
 |step _ _ _ h2 ih=>exact ih.eps h2
theorem R.byte{i n j:Nat}(h:R P s i n j)(hb:zcF P s j n):R P s i (n+1) (j+1):=by
 obtain⟨L,p⟩:=h;exact⟨_,p.trans (.byte _ _ _ hb .here)⟩
theorem Path.mono{N j L n i:Nat}(h:Path P s N j L n i):i<=j:=by
 induction h with
 |here=>exact Qd _
 |eps _ _ _ _ _ _ ih=>exact ih
 |byte _ _ _ _ _ ih=>omega
theorem R.le{i n j:Nat}(h:R P s i n j):i<=j:=by obtain⟨L,p⟩:=h;exact p.mono
theorem Path.same{N j L n i:Nat}(h:Path P s N j L n i):i=j->EpsS P s j n N:=by
 induction h with
 |here=>intro _;exact .refl
 |eps _ _ _ _ b _ ih=>intro e;subst e;exact EpsS.front b (ih rfl)
 |byte _ _ _ _ a _=>intro e;have:=a.mono;omega
theorem Path.last{N j L n i:Nat}(h:Path P s N j L n i):∀a,j=a+1->i<=a->∃m,(∃b,Path P s m a b n i)/\zcF P s a m/\EpsS P s (a+1) (m+1) N:=by
 induction h with
 |here=>intro a e h;omega
 |eps L n m i l _ ih=>
  intro a e h;obtain⟨k,⟨b,p⟩,hb,d⟩:=ih a e h;exact⟨k,⟨_,.eps _ _ _ _ l p⟩,hb,d⟩
 |byte L n i hb g ih=>
  intro a e h
  by_cases c:i+1<=a
  ·obtain⟨k,⟨b,p⟩,f,d⟩:=ih a e c
   exact⟨k,⟨_,.byte _ _ _ hb p⟩,f,d⟩
  ·obtain rfl:i=a:=by omega
   subst e;exact⟨n,⟨0,.here⟩,hb,g.same rfl⟩
theorem R.last{i m a:Nat}(h:R P s i m (a+1))(b:i<=a):∃n,R P s i n a/\zcF P s a n/\EpsS P s (a+1) (n+1) m:=by
 obtain⟨L,p⟩:=h;exact p.last a rfl b
theorem R.same{m a:Nat}(h:R P s a m a):EpsS P s a 0 m:=by obtain⟨L,p⟩:=h;exact p.same rfl
structure Thr(P:List Ins)(s:jE)(i:Nat)(F:Nat->Nat)(ls:List Nat):Prop where
 mem:∀n,n∈ls↔F n≠0
 sorted:ls.Pairwise λa b=>F a<=F b
 closed:∀n m,F n≠0->Eps P s i n m->F m≠0/\F m<=F n
 real:∀n,F n≠0->∃k,F n=k+1/\R P s k n i
theorem Thr.epsS{i n m:Nat}{F:Nat->Nat}{b:List Nat}(h:Thr P s i F b)(c:F n≠0)(a:EpsS P s i n m):F m≠0/\F m<=F n:=by
 induction a with
 |refl=>exact⟨c,Qd _⟩
 |step _ _ _ h2 ih=>have:=h.closed _ _ ih.1 h2;exact⟨this.1,by omega⟩
theorem Thr.zero(i:Nat):Thr P s i (λ_=>0) []:=⟨λn=>by simp,.nil,λn m h=>absurd rfl h,λn h=>absurd rfl h⟩
structure AddPost(P:List Ins)(s:jE)(i n f:Nat)(F:Nat->Nat)(ls:List Nat)(G:Nat->Nat)(lg:List Nat):Prop where
 keep:∀m,F m≠0->G m=F m
 new:∀m,F m=0->G m≠0->G m=f+1/\EpsS P s i n m
 lst:∃ns,lg=ls++ns/\∀m,m∈ns↔(F m=0/\G m≠0)
 at_:G n≠0
 closed:∀m k,F m=0->G m≠0->Eps P s i m k->G k≠0
theorem AddPost.thr{i n f:Nat}{F:Nat->Nat}{u:List Nat}{G:Nat->Nat}{v:List Nat}(h:AddPost P s i n f F u G v)(j:Thr P s i F u)(g:∀m,F m<=f+1)(x:R P s f n i):Thr P s i G v:=by
 obtain⟨y,r,e⟩:=h.lst;have o:∀m,G m≠0->F m=0->G m=f+1:=λm h1 h2=>(h.new m h2 h1).1
 refine⟨λm=>?_,?_,λm k t w=>?_,λm t=>?_⟩
 ·rw[r,QY,j.mem,e]
  constructor
  ·rintro(h1|h1)
   ·rw[h.keep m h1];exact h1
   ·exact h1.2
  ·intro h1
   by_cases c:F m=0
   ·exact .inr ⟨c,h1⟩
   ·exact .inl c
 ·rw[r,List.pairwise_append]
  refine⟨j.sorted.imp_of_mem λ{a b} l hb d=>by rw[h.keep a ((j.mem a).1 l),h.keep b ((j.mem b).1 hb)];exact d,?_,λa l b hb=>?_⟩
  ·refine List.pairwise_iff_forall_sublist.2 λ{a b} d=>?_
   have l:=(e a).1 (d.subset (by simp));have hb:=(e b).1 (d.subset (by simp));rw[o a l.2 l.1,o b hb.2 hb.1];exact Qd _
  ·have q:=(e b).1 hb
   rw[h.keep a ((j.mem a).1 l),o b q.2 q.1];exact g a
 ·by_cases c:F m=0
  ·have h1:=h.closed m k c t w
   refine⟨h1,?_⟩;rw[o m t c]
   by_cases c2:F k=0
   ·rw[o k h1 c2];exact Qd _
   ·rw[h.keep k c2];exact g k
  ·have h1:=j.closed m k c w
   rw[h.keep m c,h.keep k h1.1];exact h1
 ·by_cases c:F m=0
  ·obtain⟨h1,h2⟩:=h.new m c t
   exact⟨f,h1,x.epsS h2⟩
  ·rw[h.keep m c];exact j.real m c
theorem AddPost.le{i n f:Nat}{F:Nat->Nat}{b:List Nat}{G:Nat->Nat}{d:List Nat}(h:AddPost P s i n f F b G d)(a:∀m,F m<=f+1)(m:Nat):G m<=f+1:=by
 by_cases c:F m=0
 ·by_cases c2:G m=0
  ·omega
  ·rw[(h.new m c c2).1];exact Qd _
 ·rw[h.keep m c];exact a m
structure DfsI(P:List Ins)(s:jE)(i n f:Nat)(F:Nat->Nat)(ls:List Nat)(G:Nat->Nat)(lg todo:List Nat):Prop where
 keep:∀m,F m≠0->G m=F m
 new:∀m,F m=0->G m≠0->G m=f+1/\EpsS P s i n m
 lst:∃ns,lg=ls++ns/\∀m,m∈ns↔(F m=0/\G m≠0)
 at_:n∈todo\/G n≠0
 pend:∀k∈todo,EpsS P s i n k
 closed:∀m k,F m=0->G m≠0->Eps P s i m k->G k≠0\/k∈todo
theorem DfsI.start(i n f:Nat)(F:Nat->Nat)(a:List Nat):DfsI P s i n f F a F a [n]:=
 ⟨λ_ _=>rfl,λm h1 h2=>absurd h1 h2,⟨[],by simp,λm=>⟨λh=>(by cases h),λh=>absurd h.1 h.2⟩⟩,.inl (by simp),λk b=>by rw[QF.1 b];exact .refl,λm k h1 h2=>absurd h1 h2⟩
theorem DfsI.stop{i n f:Nat}{F:Nat->Nat}{a:List Nat}{G:Nat->Nat}{b:List Nat}(h:DfsI P s i n f F a G b []):AddPost P s i n f F a G b:=
 ⟨h.keep,h.new,h.lst,h.at_.resolve_left (by simp),λm k h1 h2 c=>(h.closed m k h1 h2 c).resolve_right (by simp)⟩
theorem DfsI.skip{i n f k:Nat}{F:Nat->Nat}{d:List Nat}{G:Nat->Nat}{e a:List Nat}(h:DfsI P s i n f F d G e (a++[k]))(g:G k≠0):DfsI P s i n f F d G e a:=by
 refine⟨h.keep,h.new,h.lst,?_,λq j=>h.pend q (by simp[j]),λm q h1 h2 l=>?_⟩
 ·rcases h.at_ with h1|h1
  ·rcases QY.1 h1 with h2|h2
   ·exact .inl h2
   ·rw[QF.1 h2];exact .inr g
  ·exact .inr h1
 ·rcases h.closed m q h1 h2 l with b|b
  ·exact .inl b
  ·rcases QY.1 b with c|c
   ·exact .inr c
   ·rw[QF.1 c];exact .inl g
def upd(G:Nat->Nat)(k v:Nat):Nat->Nat:=λm=>if m=k then v else G m
theorem DfsI.mark{i n f k:Nat}{F:Nat->Nat}{u:List Nat}{G:Nat->Nat}{v b succ:List Nat}(h:DfsI P s i n f F u G v (b++[k]))(z:G k=0)(x:∀m,m∈succ↔Eps P s i k m):
 DfsI P s i n f F u (upd G k (f+1)) (v++[k]) (b++succ):=by
 have l:F k=0:=by
  by_cases c:F k=0
  ·exact c
  ·exact absurd ((h.keep k c).symm.trans z) c
 have j:EpsS P s i n k:=h.pend k (by simp);have d:∀m,m≠k->upd G k (f+1) m=G m:=λm o=>by unfold upd;rw[Qf o]
 have a:upd G k (f+1) k=f+1:=by unfold upd;rw[Qj rfl]
 refine⟨λm o=>?_,λm h1 h2=>?_,?_,?_,λq g=>?_,λm q h1 h2 w=>?_⟩
 ·rw[d m (λe=>o (by rw[e];exact l))];exact h.keep m o
 ·by_cases c:m=k
  ·subst c;exact⟨a,j⟩
  ·rw[d m c]at h2 ⊢;exact h.new m h1 h2
 ·obtain⟨y,h1,h2⟩:=h.lst
  refine⟨y++[k],by rw[h1,Q4],λm=>?_⟩;rw[QY,h2,QF]
  by_cases c:m=k
  ·subst c;rw[a];exact⟨λ_=>⟨l,by omega⟩,λ_=>.inr rfl⟩
  ·rw[d m c];exact⟨λh=>h.resolve_right c,λh=>.inl h⟩
 ·by_cases c:n=k
  ·right;rw[c,a];omega
  ·rcases h.at_ with h1|h1
   ·rcases QY.1 h1 with h2|h2
    ·exact .inl (by simp[h2])
    ·exact absurd (QF.1 h2) c
   ·right;rw[d n c];exact h1
 ·rcases QY.1 g with h1|h1
  ·exact h.pend q (by simp[h1])
  ·exact .step _ _ j ((x q).1 h1)
 ·have g:∀q,G q≠0->upd G k (f+1) q≠0:=λq g=>by
   by_cases c:q=k
   ·rw[c,a];omega
   ·rw[d q c];exact g
  by_cases c:m=k
  ·subst c;exact .inr (by simp[(x q).2 w])
  ·rw[d m c]at h2
   rcases h.closed m q h1 h2 w with r|r
   ·exact .inl (g q r)
   ·rcases QY.1 r with t|t
    ·exact .inr (by simp[t])
    ·rw[QF.1 t,a];exact .inl (by omega)
def Comp(P:List Ins)(s:jE)(i:Nat)(F:Nat->Nat)(found:Bool)(b:Nat):Prop:=∀n k,R P s k n i->(found=true->k<=b)->F n≠0/\F n<=k+1
def zph(P:List Ins)(s:jE)(i:Nat)(F:Nat->Nat)(found:Bool)(b:Nat):Prop:=∀n k,R P s k n i->k<i->(found=true->k<=b)->F n≠0/\F n<=k+1
theorem zpr{i b:Nat}{F:Nat->Nat}{g:List Nat}{G:Nat->Nat}{l:List Nat}(h:zph P s i F false b)(o:Thr P s i F g)(a:∀m,F m<=i+1)(d:AddPost P s i 0 i F g G l):Comp P s i G false b:=λn k f _=>by
 have q:=d.thr o a (R.start i);have j:=f.le
 by_cases c:k<i
 ·obtain⟨h1,h2⟩:=h n k f c (λe=>by cases e)
  rw[d.keep n h1];exact⟨h1,h2⟩
 ·obtain rfl:k=i:=by omega
  have h1:=q.epsS d.at_ f.same;exact⟨h1.1,d.le a n⟩
def znP(P:List Ins)(s:jE)(N:Nat)(T:Nat->Prop)(found:Bool)(f a:Nat):Prop:=
 (found=true->R P s f N a/\T a/\∀i j,R P s i N j->T j->f<i\/(f=i/\j<=a))/\(found=false->(∀i j,T j->¬R P s i N j)/\f=0/\a=0)
theorem zrG(N:Nat):znP P s N (λj=>j<0) false 0 0:=⟨λe=>(by cases e),λ_=>⟨λi j h=>absurd h (by omega),rfl,rfl⟩⟩
theorem zsp{N t f l b:Nat}{found a:Bool}{F:Nat->Nat}(h:znP P s N (λj=>j<t) found f l)(u:Comp P s t F a b)(n:a=true->found=true/\f<=b)(k:F N≠0->found=true/\f+1<F N):
 znP P s N (λj=>j<t+1) found f l:=by
 have g:∀i,R P s i N t->found=true/\f<i:=λi q=>by
  by_cases c2:a=true->i<=b
  ·obtain⟨h1,h2⟩:=u N i q c2
   have m:=k h1;exact⟨m.1,by omega⟩
  ·have c3:a=true:=by cases o:a;exact absurd (λe=>by rw[o]at e;cases e) c2;rfl
   have h1:=n c3;have m:¬i<=b:=λe=>c2 λ_=>e
   exact⟨h1.1,by omega⟩
 refine⟨λe=>⟨(h.1 e).1,by have:=(h.1 e).2.1;omega,λi j d r=>?_⟩,λe=>⟨λi j r d=>?_,(h.2 e).2⟩⟩
 ·by_cases c:j<t
  ·exact(h.1 e).2.2 i j d c
  ·obtain rfl:j=t:=by omega
   exact .inl (g i d).2
 ·by_cases c:j<t
  ·exact(h.2 e).1 i j c d
  ·obtain rfl:j=t:=by omega
   have:=(g i d).1;rw[e]at this;cases this
theorem zsP{t f b:Nat}{found a:Bool}{F G:Nat->Nat}{g:List Nat}(u:Comp P s t F a b)(d:a=true->found=true/\f<=b)(q:Thr P s (t+1) G g)
 (i:∀n,F n≠0->zcF P s t n->(found=true->F n<=f+1)->G (n+1)≠0/\G (n+1)<=F n):zph P s (t+1) G found f:=λm k l v c=>by
 obtain⟨n,h1,h2,o⟩:=l.last (by omega);obtain⟨h,x⟩:=u n k h1 (λe=>by have:=d e;have:=c this.1;omega);obtain⟨r,w⟩:=i n h h2 (λe=>by have:=c e;omega);obtain⟨j,y⟩:=q.epsS r o;exact⟨j,by omega⟩
end
structure Sl(w:World)(B size:Nat)(A:Option Addr)(n:Nat)(xs:List Value):Prop where
 len:xs.length=n*size
 src:0<xs.length->∃b off,A=some ⟨b,off,none⟩/\b<B/\∀j (h:j<xs.length),w.cell? ⟨b,off+j,none⟩=some xs[j]
theorem Sl.nil(w:World)(B size:Nat)(A:Option Addr):Sl w B size A 0 []:=⟨by simp,λh=>absurd h (by simp)⟩
theorem Sl.keep{w w':World}{B size n:Nat}{A:Option Addr}{c:List Value}(h:Sl w B size A n c)(f:∀b o,b<B->w'.cell? ⟨b,o,none⟩=w.cell? ⟨b,o,none⟩):Sl w' B size A n c:=
 ⟨h.len,λd=>by
  obtain⟨b,a,e,hb,i⟩:=h.src d;exact⟨b,a,e,hb,λj g=>(f b _ hb).trans (i j g)⟩⟩
theorem Sl.below{w w':World}{B size n:Nat}{A:Option Addr}{a:List Value}(h:Sl w B size A n a)(hb:Below B w w'):Sl w' B size A n a:=
 h.keep λb o c=>hb.cell (p:=⟨b,o,none⟩) c
theorem Sl.more{w:World}{B c size n:Nat}{A:Option Addr}{d:List Value}(h:Sl w B size A n d)(i:B<=c):Sl w c size A n d:=
 ⟨h.len,λf=>by
  obtain⟨b,a,e,hb,g⟩:=h.src f;exact⟨b,a,e,by omega,g⟩⟩
theorem Sl.drewN{w:World}{B size n:Nat}{A:Option Addr}{a:List Value}(h:Sl w B size A n a)(q:Nat):Sl (w.drewN q) B size A n a:=h.keep λ_ _ _=>rfl
theorem Sl.alloc{w:World}{B size n:Nat}{A:Option Addr}{a:List Value}(h:Sl w B size A n a)(b:B<=w.heap.size)(o:Obj):Sl (w.alloc o) B size A n a:=
 h.below ((Qi _ _).alloc b _)
theorem zar{W w':World}{cs:Array Value}{t:TypeId}(hb:Below (W.alloc (.cells cs t)).heap.size (W.alloc (.cells cs t)) w')(j:Nat):w'.cell? ⟨W.heap.size,j,none⟩=cs[j]? :=
 (hb.cell (p:=⟨W.heap.size,j,none⟩) (by simp)).trans (Qo (W.alloc (.cells cs t)) W.heap.size j cs t (0,0) (Qv W _))
theorem zkj{W w':World}{cs:Array Value}{t:TypeId}(hb:Below (W.alloc (.cells cs t)).heap.size (W.alloc (.cells cs t)) w')(j:Nat):w'.frozen? ⟨W.heap.size,j,none⟩=false:=by
 have a:=(hb.block W.heap.size (by simp)).trans (Qv W (.cells cs t));simp[World.frozen?, a]
theorem zaw{W W':World}(hb:W W'){p:Addr}{x:Value}(h:W.cell? p=some x)(a:W.frozen? p=false):W'.frozen? p=false:=(hb.frozen (QT W p h)).trans a
theorem undrew{B:Nat}{W w':World}(hb:Below B W.drew w'):Below B W w':=⟨hb.os,hb.tape,hb.output,hb.size,hb.block⟩
theorem zaN{B:Nat}{W w':World}{o:Obj}(hb:Below (W.alloc o).heap.size (W.alloc o) w')(a:B<=W.heap.size):Below B W w':=
 ((Qi B W).alloc a o).trans (hb.mono (by simp;omega))
theorem zaa{W W':World}(hb:W W'){p:Addr}{x:Value}(h:W.cell? p=some x):W'.cell? p=some x:=(hb.cell (QT W p h)).trans h
theorem zaM{w w':World}{base:Nat}{e:TypeId}{size:Nat}{v:Value}{n:Nat}{b:List Value}(h:w.ownsRow base e size v n b)(hb:w w'):w'.ownsRow base e size v n b:=by
 refine⟨h.1,?_⟩
 rcases h.2 with d|⟨g,cap,a,h1,h2,f,c⟩
 ·exact .inl d
 ·exact .inr ⟨g,cap,a,h1,h2,(hb.block g (h.lt g (by rw[h1];rfl)).2).trans f,c⟩
theorem Sl.lit{W:World}{cs:Array Value}{t:TypeId}{g B n size:Nat}{a:List Value}(c:W.heap.size=g)(d:g<B)(e:cs.toList=a)(h:a.length=n*size):Sl (W.alloc (.cells cs t)) B size (some ⟨g,0,none⟩) n a:=by
 subst c;subst e
 exact⟨h,λ_=>⟨_,0,rfl,d,λj b=>by rw[Ze,Qo (W.alloc (.cells cs t)) W.heap.size j cs t (0,0) (Qv W _)];simp[Array.getElem?_eq_getElem (by simpa using b:j<cs.size)]⟩⟩
theorem za9{w:World}{g:Nat}{d c:Value}(x y:Value)(b:w.cell? g=some d)(h1:w.cell? ⟨g,1,none⟩=some c):
 ((w.setCell g x).setCell ⟨g,1,none⟩ y).cell? g=some x/\((w.setCell g x).setCell ⟨g,1,none⟩ y).cell? ⟨g,1,none⟩=some y:=by
 have a:(⟨g,1,none⟩:Addr)≠⟨g,0,none⟩:=by intro e;cases e
 refine⟨?_,?_⟩
 ·rw[QQ _ _ _ _ a,Zx _ _ _ b]
 ·exact Zx (w.setCell g x) _ _ ((QQ _ _ _ _ (Xk a)).trans h1)
theorem zbB{w W':World}{cs:Array Value}{t:TypeId}(hb:Below (w.heap.size+1) (w.alloc (.cells cs t)) W'):(∀j,W'.cell? ⟨w.heap.size,j,none⟩=cs[j]?)/\w W':=by
 have a:Below (w.alloc (.cells cs t)).heap.size (w.alloc (.cells cs t)) W':=by simpa using hb
 exact⟨λj=>zar a j,zaN a (Qd _)⟩
def zz0(e:TypeId)(size n:Nat)(a:List Value)(w:World)(r:Ending)(w':World):Prop:=∃v,r=jC v/\w'.ownsRow w.heap.size e size v n a/\w w'
def OwnS(w:World)(base:Nat)(v:Value)(l:List ByteArray):Prop:=w.ownsRow base 9 1 v l.length (l.map Value.string)
theorem OwnS.nil(w:World)(base:Nat):OwnS w base (jD 0 0) []:=ZH w base 9 1
theorem OwnS.form{w:World}{base:Nat}{v:Value}{l:List ByteArray}(h:OwnS w base v l):∃A c,v=.slice A l.length c/\Sl w w.heap.size 1 A l.length (l.map Value.string):=by
 rcases h.2 with ⟨h1,h2⟩|⟨g,cap,a,h1,hb,e,_⟩
 ·have:l=[]:=QA h2
  subst this;exact⟨none,0,h1,Sl.nil _ _ _ _⟩
 ·refine⟨_,_,h1,by simp,λd=>⟨g,0,rfl,?_,λj b=>?_⟩⟩
  ·exact((h.lt g (by rw[h1];simp[Value.ownBlock])).2)
  ·have:=Zq (g:=g) h (by rw[h1];simp[Value.ownBlock]) j _ (Qe b)
   rw[zbd]at this;rw[Ze];exact this
theorem OwnS.below{w w':World}{base:Nat}{v:Value}{l:List ByteArray}(h:OwnS w base v l)(hb:w w'):OwnS w' base v l:=zaM h hb
theorem OwnS.later{w w':World}{base:Nat}{v:Value}{l:List ByteArray}{o:Obj}(h:OwnS w base v l)(hb:Below (w.alloc o).heap.size (w.alloc o) w'):OwnS w' base v l:=zaM h (zaN hb (Qd _))
theorem OwnS.sl{w:World}{base:Nat}{A:Option Addr}{n c:Nat}{l:List ByteArray}(h:OwnS w base (.slice A n c) l):Sl w w.heap.size 1 A l.length (l.map Value.string):=by
 obtain⟨f,g,e,b⟩:=h.form;injection e with a i d
 subst a;exact b
theorem OwnS.far{w:World}{base g:Nat}{v:Value}{l:List ByteArray}(h:OwnS w base v l)(b:∀k,v.ownBlock=some k->k≠g)(j:Nat)(x:Value):OwnS (w.setCell ⟨g,j,none⟩ x) base v l:=
 ownsRow_setCell_other (a:=⟨g,j,none⟩) h (λe=>b g e rfl) x
theorem OwnS.lt{w:World}{base:Nat}{v:Value}{l:List ByteArray}(h:OwnS w base v l):∀k,v.ownBlock=some k->base<=k/\k<w.heap.size:=QE h
theorem zoj:(prog.info? 9).map (λi=>(i.zero,i.size,i.bytes))=some (some (.string ByteArray.empty),1,16):=by kernel_rfl
section
variable {ops:Array Oper} {rest:List Oper} {o:Oper} {a:Act} {Q:Exit->Act->World->Prop} {w:World}
theorem zaT{K:Act->World->Prop}(s x:Operand)(t:TypeId)(S:o.op=.call {callee:=.builtin .append,args:=#[s,x],argTypes:=#[t,t]})
 (base:Nat) (e:TypeId) (i:TypeInfo) (z:Value) (size b:Nat) (L:prog.underlying t=some (.slice e)) (U:prog.info? e=some i) (O:i.zero=some z)
 (l:i.size=size) (E:i.bytes=b) (I:z.cells.size=size) (D:0<size)
 (v:Value) (n:Nat) (F:List Value) (T:a.eval s=v) (j:w.ownsRow base e size v n F) (q:base<=w.heap.size)
 (d:List Value) (m c:Nat) (V:a.eval x=.slice w.heap.size m c) (hl:d.length=m*size) (h1:∀u∈d,u.oneCell'=true)
 (C:n+m<=maxLen) (f:(n+m)*b<=140737488355328)
 (h:∀v' w',w'.ownsRow base e size v' (n+m) (F++d)->Below base w w'->(∀g,g<w.heap.size->v.ownBlock≠some g->w'.heap[g]? = w.heap[g]?)->w.heap.size<w'.heap.size->K (a.put o.dst v') w'):
 o.wp prog a (w.alloc (.cells d.toArray e)) K Q:=by
 have r:=j.alloc (.cells d.toArray e);refine wp_append_own (P:=prog) (w.alloc (.cells d.toArray e)) s x t S base e i z size b L U O l E I D v n F T r ⟨w.heap.size,0,none⟩ m c d V hl (zd6 w d e) h1 C f (by simp;omega) ?_;intro v' w' G A _;have J:Below base w (w.alloc (.cells d.toArray e)):=(Qi _ _).alloc q _;have H:=J.grown A (by simp;omega) (λk N=>(j.lt k N).1);refine h v' w' G H (λg B y=>(A.block g (by simp;omega) (λe=>y e.symm)).trans (Qs _ _ _ B)) ?_;have:=A.size;simp at this;omega
theorem zbw(j:o.guard=none)(s x:Operand)(A:o.op=.call {callee:=.builtin .append,args:=#[s,x],argTypes:=#[108,108]})
 (base:Nat) (v:Value) (l:List ByteArray) (D:a.eval s=v) (f:OwnS w base v l) (e:base<=w.heap.size)
 (r:List Value) (d:List ByteArray) (G:r=d.map Value.string) (m c:Nat) (F:a.eval x=.slice w.heap.size m c) (hl:d.length=m)
 (i:(l.length+m)*16<=140737488355328)
 (h:∀v' w',OwnS w' base v' (l++d)->Below base w w'->(∀g,g<w.heap.size->v.ownBlock≠some g->w'.heap[g]? = w.heap[g]?)->w.heap.size<w'.heap.size->wpList prog ops Q rest (a.put o.dst v') w'):
 wpList prog ops Q (o::rest) a (w.alloc (.cells r.toArray 9)):=by
 subst G;subst hl
 obtain⟨z,E,k,n,q⟩:=ZG zoj
 exact Z3 j λ_ y=>zaT s x 108 A base 9 z (.string ByteArray.empty) 1 16 underlying108 E k n q rfl (by decide) v l.length (l.map Value.string) D f e (d.map Value.string) d.length c F (by simp)
  (λu B=>by obtain⟨b,_,rfl⟩:=QS.1 B;rfl) (by unfold maxLen;omega) (by omega) λv' w' h1 h2 C t=>y _ _ (h v' w' (by unfold OwnS;rw[Qb,Q2];exact h1) h2 C t)
end
def zeV(a:List (ByteArray × ByteArray)):List Value:=a.flatMap λf=>[.string f.1,.string f.2]
theorem zpp(a:List (ByteArray × ByteArray)):(zeV a).length=a.length*2:=by
 induction a with
 |nil=>rfl
 |cons f r ih=>simp only[zeV,QV,Qb,Qq,QP]at ih ⊢;omega
theorem zmp:∀(a:List (ByteArray × ByteArray)) (k:Nat) (h:k<a.length),(zeV a)[k*2]? = some (.string a[k].1)/\(zeV a)[k*2+1]? = some (.string a[k].2)
 | [],k,h=>absurd h (by simp)
 |f::r,0,h=>⟨rfl,rfl⟩
 |f::r,k+1,h=>by
  have ih:=zmp r k (by simpa using h);have e:zeV (f::r)=.string f.1::.string f.2::zeV r:=rfl;rw[e,show (k+1)*2=k*2+1+1 by omega];exact ih
theorem Sl.field{w:World}{B n:Nat}{A:Option Addr}{c:List (ByteArray × ByteArray)}(h:Sl w B 2 A n (zeV c)){k:Nat}(i:k<c.length):
 ∃b a,A=some ⟨b,a,none⟩/\b<B/\w.cell? ⟨b,a+k*2,none⟩=some (.string c[k].1)/\w.cell? ⟨b,a+k*2+1,none⟩=some (.string c[k].2):=by
 have hl:=zpp c;obtain⟨b,a,e,hb,g⟩:=h.src (by omega);obtain⟨h1,h2⟩:=zmp c k i;have f:=g (k*2) (by omega);have d:=g (k*2+1) (by omega);rw[Qe (by omega)]at h1 h2;refine⟨b,a,e,hb,by rw[f];exact h1,by rw[Zf,d];exact h2⟩
section
open Go.ChangeShapes Go.WideShapes Go.Deep
theorem za3{c:Type}(cells:c->List Value)(size:Nat)(b:∀a,(cells a).length=size):∀l:List c,(l.flatMap cells).length=l.length*size
 | []=>by simp
 |a::r=>by rw[QV,Qb,b,za3 cells size b r,Qq,Xl];omega
theorem zcA{d:Type}(cells:d->List Value)(size:Nat)(b:∀a,(cells a).length=size):∀(l:List d) (k j:Nat) (h:k<l.length),j<size->(l.flatMap cells)[k*size+j]? = (cells l[k])[j]?
 | [],k,j,h,_=>absurd h (by simp)
 |a::r,0,j,h,c=>by
  rw[QV,XO,Ze,Zj (by rw[b];exact c)];rfl
 |a::r,k+1,j,h,c=>by
  rw[QV,Q1 (by rw[b,Xl];omega),b,show (k+1)*size+j-size=k*size+j by rw[Xl];omega];exact zcA cells size b r k j (by simpa using h) c
section
variable {H:Type} {enc:TypeId × Value->H} {P:Program} {w:World} {base:Nat} {spare:Nat->Bool} {held:Bool}
theorem zed{E:Type}{t e:TypeId}{J:Nat}{cs:List Value}{x:DataW H × List MemPlace}(size:Nat)(cells:E->List Value)(o:E->DataW H)(N:E->Prop)
 (ht:P.underlying t=some (.slice e)) (hC:P.cellsOf e=size) (g:∀a,(cells a).length=size)
 (U:∀n C y,DataW.trod enc P w base spare held n e C=some y->∃a:E,C=cells a/\y.1=o a/\N a)
 (h:DataW.trod enc P w base spare held J t cs=some x):
 ∃(A:Option Addr) (len c:Nat) (l:List E),cs=[.slice A len c]/\l.length=len/\len<=c/\c<=maxLen/\(∀a∈l,N a)/\Sl w w.heap.size size A len (l.flatMap cells)/\
  ((x.1=.nil/\l=[])\/∃sp,x.1=.slice (l.map o) sp):=by
 rcases open_slice ht h with ⟨h1,h2⟩|⟨a,len,cap,m,n,D,Pl,h3,hb,hl,hm,S,hx,hi⟩
 ·exact⟨none,0,0,[],h1,rfl,Qd _,Qn _,by simp,Sl.nil _ _ _ _,.inl ⟨by rw[h2],rfl⟩⟩
 ·have h6:len<=m:=by rw[S];split <;> omega
  have K:∀i,i<len->∃z:E,w.cells? base (a.add (i*size)) size=some (cells z)/\D i=o z/\N z:=λi h5=>by
   obtain⟨C,L,Y⟩:=hi i (by omega);obtain⟨z,O,e2,e3⟩:=U _ _ _ Y;rw[hC]at L;subst O;exact⟨z,L,e2,e3⟩
  have s:∀k,k<=len->∃l:List E,l.length=k/\(∀i (h:i<l.length),w.cells? base (a.add (i*size)) size=some (cells l[i])/\D i=o l[i]/\N l[i]):=by
   intro k
   induction k with
   |zero=>exact λ_=>⟨[],rfl,λi h=>absurd h (by simp)⟩
   |succ k ih=>
    intro T;obtain⟨l,f,d⟩:=ih (by omega);obtain⟨z,q⟩:=K k (by omega);refine⟨l++[z],by rw[Qb,f];rfl,λi h=>?_⟩
    by_cases c:i<l.length
    ·rw[Zy c];exact d i c
    ·have W:i=k:=by rw[Qb,Qq,QP]at h;omega
     subst W;rw[ZW (by omega)]
     simpa[f]using q
  obtain⟨l,f,d⟩:=s len (Qd _);refine⟨some a,len,cap,l,h3,f,hl,hm,λx hx=>?_,?_,.inr ⟨(List.range (m-len)).map λj=>D (len+j),?_⟩⟩
  ·obtain⟨i,u,rfl⟩:=List.mem_iff_getElem.1 hx
   exact(d i u).2.2
  ·refine⟨by rw[za3 cells size g,f],λX=>?_⟩
   rw[za3 cells size g]at X;have Q:0<l.length:=Nat.pos_of_mul_pos_right X;have B:0<size:=Nat.pos_of_mul_pos_left X;have h0:=(World.cells?_some (d 0 Q).1).2.2 0 B
   have r:∃v,w.cell? a=some v:=by
    have V:(cells l[0])[0]? = some ((cells l[0])[0]'(by rw[g];exact B)):=Qe _;rw[V,XO]at h0;exact⟨_,by simpa[Addr.add]using h0⟩
   obtain⟨v,hv⟩:=r;have h4:=World.cell?_spot hv;obtain⟨b,I,spot⟩:=a;have:spot=none:=h4;subst this;refine⟨b,I,rfl,QT w ⟨b,I,none⟩ hv,λj hj=>?_⟩;have Z:j<l.length*size:=by rw[za3 cells size g]at hj;exact hj
   have O:j / size*size+j % size=j:=by rw[Nat.mul_comm];exact Nat.div_add_mod j size
   have T:j / size<l.length:=Nat.div_lt_of_lt_mul (by rw[Nat.mul_comm];exact Z);have G:j % size<size:=Nat.mod_lt _ B;have F:=zcA cells size g l (j / size) (j % size) T G;rw[O]at F;have L:=(World.cells?_some (d _ T).1).2.2 (j % size) G;rw[<-F,Qe hj,Xz,Xz,Zf,O]at L;exact L
  ·rw[hx]
   show DataW.slice _ _=DataW.slice _ _
   congr 1
   refine List.ext_getElem (by simp[f]) λi h1 h2=>?_
   have u:i<l.length:=by simpa using h2
   simp[(d i u).2.1]
end
end
section
open Go.ChangeShapes Go.WideShapes Go.Deep
def zap(k:Int)(s:Set4)(A:Option Addr)(n c:Nat):List Value:=[jA k,jB s.a,jB s.b,jB s.c,jB s.d,.slice A n c]
def zix(x:Int):Prop:=0<=x/\x<=18446744073709551615
def Set4.Wf(s:Set4):Prop:=zix s.a/\zix s.b/\zix s.c/\zix s.d
def CellsAt(w:World)(b a:Nat)(cs:List Value):Prop:=∀j (h:j<cs.length),w.cell? ⟨b,a+j,none⟩=some cs[j]
mutual
def LT(w:World)(B:Nat):Tree->List Value->Prop
 |.node k s a,cs=>∃A c,cs=zap k s A a.length c/\s.Wf/\LK w B a A
def LK(w:World)(B:Nat):List Tree->Option Addr->Prop
 | [],_=>True
 |t::c,A=>∃b a cs,A=some ⟨b,a,none⟩/\b<B/\cs.length=6/\CellsAt w b a cs/\LT w B t cs/\LK w B c (some ⟨b,a+6,none⟩)
end
mutual
theorem LT.keep{w w':World}{B a:Nat}(g:B<=a)(d:∀b o,b<B->w'.cell? ⟨b,o,none⟩=w.cell? ⟨b,o,none⟩):∀(t:Tree) (cs:List Value),LT w B t cs->LT w' a t cs
 |.node k s f,cs,h=>by
  rw[LT]at h ⊢;obtain⟨A,c,h1,h2,e⟩:=h;exact⟨A,c,h1,h2,LK.keep g d f A e⟩
theorem LK.keep{w w':World}{B e:Nat}(f:B<=e)(c:∀b o,b<B->w'.cell? ⟨b,o,none⟩=w.cell? ⟨b,o,none⟩):∀(a:List Tree) (A:Option Addr),LK w B a A->LK w' e a A
 | [],_,_=>by rw[LK];trivial
 |t::a,A,h=>by
  rw[LK]at h ⊢;obtain⟨b,d,cs,h1,h2,k,g,i,l⟩:=h;exact⟨b,d,cs,h1,by omega,k,λj m=>(c b _ h2).trans (g j m),LT.keep f c t cs i,LK.keep f c a _ l⟩
end
theorem LT.below{w w':World}{B:Nat}{t:Tree}{cs:List Value}(h:LT w B t cs)(hb:Below B w w'):LT w' B t cs:=LT.keep (Qd _) (λb o a=>hb.cell (p:=⟨b,o,none⟩) a) t cs h
theorem LK.below{w w':World}{B:Nat}{a:List Tree}{A:Option Addr}(h:LK w B a A)(hb:Below B w w'):LK w' B a A:=LK.keep (Qd _) (λb o c=>hb.cell (p:=⟨b,o,none⟩) c) a A h
theorem LT.more{w:World}{B a:Nat}{t:Tree}{cs:List Value}(h:LT w B t cs)(b:B<=a):LT w a t cs:=LT.keep b (λ_ _ _=>rfl) t cs h
def Tree.kind:Tree->Int
 |.node k _ _=>k
def Tree.set:Tree->Set4
 |.node _ s _=>s
def Tree.kids:Tree->List Tree
 |.node _ _ a=>a
theorem LT.parts{w:World}{B:Nat}{t:Tree}{cs:List Value}(h:LT w B t cs):∃A c,cs=zap t.kind t.set A t.kids.length c/\t.set.Wf/\LK w B t.kids A:=by
 cases t with
 |node k s a=>rw[LT]at h;exact h
theorem LK.at{w:World}{B:Nat}:∀{c:List Tree} {A:Option Addr},LK w B c A->∀i (h:i<c.length),∃b a cs,A=some ⟨b,a,none⟩/\b<B/\CellsAt w b (a+i*6) cs/\LT w B c[i] cs
 | [],_,_,i,h=>absurd h (by simp)
 |t::c,A,h,0,_=>by
  rw[LK]at h;obtain⟨b,a,cs,h1,h2,_,g,k,_⟩:=h;exact⟨b,a,cs,h1,h2,by simpa using g,k⟩
 |t::c,A,h,i+1,n=>by
  rw[LK]at h;obtain⟨b,a,cs,h1,h2,_,_,_,o⟩:=h;obtain⟨s,f,d,e,j,m,q⟩:=LK.at o i (by simpa using n);injection e with e
  injection e with r l
  subst r;subst l
  exact⟨b,a,d,h1,j,by rw[show a+(i+1)*6=a+6+i*6 by omega];exact m,q⟩
theorem LK.nil(w:World)(B:Nat)(A:Option Addr):LK w B [] A:=by rw[LK];trivial
theorem CellsAt.six{w:World}{b a:Nat}{c0 c1 c2 c3 c4 c5:Value}(h:CellsAt w b a [c0,c1,c2,c3,c4,c5]):
 w.cell? ⟨b,a,none⟩=some c0/\w.cell? ⟨b,a+1,none⟩=some c1/\w.cell? ⟨b,a+2,none⟩=some c2/\w.cell? ⟨b,a+3,none⟩=some c3/\w.cell? ⟨b,a+4,none⟩=some c4/\w.cell? ⟨b,a+5,none⟩=some c5:=
 ⟨h 0 (by simp),h 1 (by simp),h 2 (by simp),h 3 (by simp),h 4 (by simp),h 5 (by simp)⟩
theorem zmY:prog.cellsOf 93=1:=by kernel_rfl
theorem zvK{g:Type}{l:List g}(h:l.length=6):∃a b c d e f,l=[a,b,c,d,e,f]:=by
 match l,h with
 | [a,b,c,d,e,f],_=>exact⟨a,b,c,d,e,f,rfl⟩
end
def tt(l:List Bool)(j:Nat):Bool:=l.getD j false
theorem zbl{w:World}{base:Nat}{e t:TypeId}{size n g:Nat}{v:Value}{k:List Value}{cs:Array Value}{j:Nat × Nat}(h:w.ownsRow base e size v n k)(i:w.heap[g]? = some (.cells cs t j))(b:e≠t):v.ownBlock≠some g:=by
 intro l;obtain⟨c,f,a⟩:=Xo h g l;rw[i]at a;injection a with a
 injection a with _ d
 exact b d.symm
theorem zgf{a w:World}{row:Option Nat}(h:a.grownBy w row)(n:Nat):a.grownBy (w.drewN n) row:=⟨h.os,h.tape,h.output,h.size,h.block⟩
theorem zao{a w:World}{g:Nat}(h:a.grownBy w (some g))(j:Nat)(u:Value):a.grownBy (w.setCell ⟨g,j,none⟩ u) (some g):=
 ⟨h.os,h.tape,h.output,by simpa[World.setCell]using h.size,λi c b=>(Qm w ⟨g,j,none⟩ u i (λe=>b (by rw[e]))).trans (h.block i c b)⟩
theorem zjm{a w w':World}{row:Option Nat}(h:a.grownBy w row)(hb:w w'):a.grownBy w' row:=
 ⟨hb.os.trans h.os,hb.tape.trans h.tape,hb.output.trans h.output,Ql h.size hb.size,λi c b=>(hb.block i (Qw c h.size)).trans (h.block i c b)⟩
theorem zay{a b c:World}{row:Option Nat}(h:a.grownBy b row)(k:b.grownBy c row):a.grownBy c row:=
 ⟨k.os.trans h.os,k.tape.trans h.tape,k.output.trans h.output,Ql h.size k.size,λi e d=>(k.block i (Qw e h.size) d).trans (h.block i e d)⟩
structure BL(w:World)(base g cap n:Nat)(l:List Bool):Prop where
 len:l.length=n
 own:w.ownsRow base 4 1 (.slice g n cap) n (l.map Value.bool)
theorem zpX{w w':World}(h:w.grownBy w' none):w w':=⟨h.os,h.tape,h.output,h.size,λi a=>h.block i a (λe=>by cases e)⟩
theorem zkA(k:Int)(w:World):Calls prog 131 #[jA k] w λe w'=>e=jC (jA (zhO k))/\w'=w:=by
 by_cases b:k=4
 ·subst b;go_in
  go_wp2;go_ret;exact⟨rfl,rfl⟩
 by_cases d:k=5
 ·subst d;go_in
  go_wp2;go_ret;exact⟨rfl,rfl⟩
 by_cases a:k=6
 ·subst a;go_in
  go_wp2;go_ret;exact⟨rfl,rfl⟩
 by_cases h1:k=1
 ·subst h1;go_in
  go_wp2;go_ret;exact⟨rfl,rfl⟩
 by_cases h2:k=2
 ·subst h2;go_in
  go_wp2;go_ret;exact⟨rfl,rfl⟩
 by_cases g:k=3
 ·subst g;go_in
  go_wp2;go_ret;exact⟨rfl,rfl⟩
 by_cases c:k=7
 ·subst c;go_in
  go_wp2;go_ret;exact⟨rfl,rfl⟩
 by_cases f:k=8
 ·subst f;go_in
  go_wp2;go_ret;exact⟨rfl,rfl⟩
 have h:Hid (zhO k=-1):=by unfold Hid zhO;rw[Qf (by omega),Qf a,Qf (by omega)]
 have l:(k==1)=false:=Qc.2 h1;have r:(k==2)=false:=Qc.2 h2;have m:(k==3)=false:=Qc.2 g;have o:(k==4)=false:=Qc.2 b;have n:(k==5)=false:=Qc.2 d;have j:(k==6)=false:=Qc.2 a;have i:(k==7)=false:=Qc.2 c;have q:(k==8)=false:=Qc.2 f;clear h1 h2 g b d a c f
 go_in
 go_wp2
 go_ret;exact⟨by rw[h.out];rfl,rfl⟩
def setV(s:Set4):Value:=.agg #[jB s.a,jB s.b,jB s.c,jB s.d]
theorem zyH(s:Set4)(k:Nat)(e:k<4):([jB s.a,jB s.b,jB s.c,jB s.d]:List Value)[k]? = some (jB (s.word k)):=by
 match k,e with
 |0,_=>rfl
 |1,_=>rfl
 |2,_=>rfl
 |3,_=>rfl
theorem zx5{s:Set4}(h:s.Wf)(k:Nat):0<=s.word k/\s.word k<=18446744073709551615:=by
 obtain⟨h1,h2,b,a⟩:=h;unfold zix at h1 h2 b a;unfold Set4.word
 split
 ·exact h1
 ·split
  ·exact h2
  ·split
   ·exact b
   ·exact a
theorem zrz(s:Set4)(x:UInt8)(w:World)(h:s.Wf):Calls prog 273 #[setV s,.int .u8 x.toNat] w λe w'=>e=jC (.bool (hasB s x))/\w w':=by
 have k:=x.toNat_lt;have g:=zyH s (x.toNat / 64) (by omega);have f:=zx5 h (x.toNat / 64);have i:Hid (hasB s x=(s.word (x.toNat / 64) / 2 ^ (x.toNat % 64) % 2==1)):=rfl;generalize s.word (x.toNat / 64)=W at *;obtain⟨a,b,c,d⟩:=s;unfold setV;dsimp only at g ⊢;clear h
 go_in
 go_wp2_with fail
 have j:0<=W / 2 ^ (x.toNat % 64)/\W / 2 ^ (x.toNat % 64)<18446744073709551616:=by
  refine⟨Int.ediv_nonneg f.1 (Int.le_of_lt (Int.pow_pos (by decide))),?_⟩;have:=Int.ediv_le_self (2 ^ (x.toNat % 64)) f.1;omega
 rw[and_one_u64 _ j.1 (by omega)];go_ret;exact⟨by rw[i.out];rfl,WaL⟩
theorem zvh:∃i,prog.info? 93=some i:=by
 cases h:prog.info? 93 with
 |some i=>exact⟨i,rfl⟩
 |none=>exact absurd (show (prog.info? 93).isSome=true by kernel_rfl) (by rw[h];decide)
theorem zvR(d:Nat)(x y:Int)(w:World):(Op.equalIn (d+1) 93 (jB x) (jB y)).run prog w=.ok (x==y) w:=by
 simp[Op.equalIn,ZK underlying93]
theorem zmO:prog.plainKey 93=true:=by kernel_rfl
theorem zfh(d i:Nat)(c:List Nat)(b a:Array Value)(x y:Int)(f:b[i]? = some (jB x))(e:a[i]? = some (jB y))(w:World):
 (Op.eqItems (d+1) 93 1 b a (i::c)).run prog w=if x=y then (Op.eqItems (d+1) 93 1 b a c).run prog w else .ok false w:=by
 simp only[Op.eqItems,Xj,Nat.mul_one,run_part_plain w zmO f,run_part_plain w zmO e,ZY,zvR]
 by_cases h:x=y
 ·subst h;simp
 ·have:(x==y)=false:=Qc.2 h
  simp[h]
theorem zk6(x y:Set4)(w:World):(Op.equal 95 (setV x) (setV y)).run prog w=.ok (decide (x=y)) w:=by
 obtain⟨i,k⟩:=zvh;obtain⟨a,b,c,d⟩:=x;obtain⟨e,g,f,d'⟩:=y;have h:=run_equalIn_array (P:=prog) (w:=w) 9999 #[jB a,jB b,jB c,jB d] #[jB e,jB g,jB f,jB d'] underlying95 k;rw[zmY]at h;unfold Op.equal setV;refine h.trans ?_;rw[show List.range 4=[0,1,2,3]from rfl,zfh 9998 0 _ _ _ a e rfl rfl,zfh 9998 1 _ _ _ b g rfl rfl,zfh 9998 2 _ _ _ c f rfl rfl,zfh 9998 3 _ _ _ d d' rfl rfl]
 by_cases h1:a=e <;> by_cases h2:b=g <;> by_cases l:c=f <;> by_cases j:d=d' <;> simp[h1,h2,l,j,Op.eqItems]
def zxx(x y:Set4):Bool:=decide (x=y)
theorem zio(x y:Set4)(w:World):(binOp .eql 95 (setV x) (setV y)).run prog w=.ok (.bool (zxx x y)) w:=by
 have h:=zk6 x y w;unfold setV at h ⊢;simp only[binOp,Xj];rw[h]
 rfl
theorem zx4{W w':World}{c0 c1 c2 c3 c4 c5:Value}{t:TypeId}(hb:Below (W.alloc (.cells #[c0,c1,c2,c3,c4,c5] t)).heap.size (W.alloc (.cells #[c0,c1,c2,c3,c4,c5] t)) w'):
 (w'.cell? W.heap.size=some c0/\w'.cell? ⟨W.heap.size,1,none⟩=some c1/\w'.cell? ⟨W.heap.size,2,none⟩=some c2/\w'.cell? ⟨W.heap.size,3,none⟩=some c3/\w'.cell? ⟨W.heap.size,4,none⟩=some c4/\w'.cell? ⟨W.heap.size,5,none⟩=some c5)/\W w':=
 ⟨⟨zar hb 0,zar hb 1,zar hb 2,zar hb 3,zar hb 4,zar hb 5⟩,zaN hb (Qd _)⟩
def argX(t:Tree)(A:Option Addr)(c:Nat):Value:=.agg #[jA t.kind,jB t.set.a,jB t.set.b,jB t.set.c,jB t.set.d,.slice A t.kids.length c]
theorem LK.two{w:World}{B:Nat}{a b:Tree}{A:Option Addr}(h:LK w B [a,b] A):∃d c e f,A=some ⟨d,c,none⟩/\d<B/\CellsAt w d c e/\LT w B a e/\CellsAt w d (c+6) f/\LT w B b f:=by
 rw[LK]at h;obtain⟨d,c,e,h1,h2,u,k,l,j⟩:=h;rw[LK]at j;obtain⟨t,i,f,g,s,v,n,o,r⟩:=j;injection g with g
 injection g with q m
 subst q;subst m
 exact⟨d,c,e,f,h1,h2,k,l,n,o⟩
theorem LK.one{w:World}{B:Nat}{a:Tree}{A:Option Addr}(h:LK w B [a] A):∃c b d,A=some ⟨c,b,none⟩/\c<B/\CellsAt w c b d/\LT w B a d:=by
 rw[LK]at h;obtain⟨c,b,d,h1,h2,i,e,f,g⟩:=h;exact⟨c,b,d,h1,h2,e,f⟩
def zbh(x:Ins):List Value:=[jA x.kind,jA x.a,jA x.b,jB x.set.a,jB x.set.b,jB x.set.c,jB x.set.d]
theorem zcN(x:Ins):(zbh x).length=7:=rfl
def OwnP(w:World)(base:Nat)(v:Value)(l:List Ins):Prop:=w.ownsRow base 136 7 v l.length (l.flatMap zbh)
theorem OwnP.nil(w:World)(base:Nat):OwnP w base (jD 0 0) []:=ZH w base 136 7
theorem OwnP.form{w:World}{base:Nat}{v:Value}{l:List Ins}(h:OwnP w base v l):∃A c,v=.slice A l.length c/\Sl w w.heap.size 7 A l.length (l.flatMap zbh):=by
 rcases h.2 with ⟨h1,h2⟩|⟨g,cap,a,h1,hb,e,_⟩
 ·have:l=[]:=QA h2
  subst this;exact⟨none,0,h1,Sl.nil _ _ _ _⟩
 ·refine⟨_,_,h1,za3 zbh 7 zcN l,λd=>⟨g,0,rfl,?_,λj b=>?_⟩⟩
  ·exact((h.lt g (by rw[h1];simp[Value.ownBlock])).2)
  ·have:=Zq (g:=g) h (by rw[h1];simp[Value.ownBlock]) j _ (Qe b)
   rw[zbd]at this;rw[Ze];exact this
theorem OwnP.below{w w':World}{base:Nat}{v:Value}{l:List Ins}(h:OwnP w base v l)(hb:w w'):OwnP w' base v l:=zaM h hb
theorem OwnP.head{w:World}{base:Nat}{v:Value}{l:List Ins}(h:OwnP w base v l)(hl:0<l.length):∃g c,v=.slice (some ⟨g,0,none⟩) l.length c/\base<=g/\g<w.heap.size:=by
 rcases h.2 with ⟨h1,h2⟩|⟨g,cap,a,h1,hb,b,_⟩
 ·omega
 ·exact⟨g,cap,h1,hb,(h.lt g (by rw[h1];simp[Value.ownBlock])).2⟩
theorem zv3:(prog.info? 136).map (λi=>(i.zero,i.size,i.bytes))=some (some (.agg #[jA 0,jA 0,jA 0,jB 0,jB 0,jB 0,jB 0]),7,56):=by kernel_rfl
section
variable {ops:Array Oper} {rest:List Oper} {o:Oper} {a:Act} {Q:Exit->Act->World->Prop} {w:World}
theorem zhs{K:Act->World->Prop}(s x:Operand)(y:o.op=.call {callee:=.builtin .append,args:=#[s,x],argTypes:=#[101,101]})
 (base:Nat) (v:Value) (l:List Ins) (A:a.eval s=v) (d:OwnP w base v l) (b:base<=w.heap.size)
 (m:List Value) (new:Ins) (D:m=zbh new) (n:Nat) (k:w.heap.size=n) (c:Nat) (C:a.eval x=.slice n 1 c)
 (e:l.length<=1048576)
 (h:∀v' w',OwnP w' base v' (l++[new])->Below base w w'->(∀g,g<w.heap.size->v.ownBlock≠some g->w'.heap[g]? = w.heap[g]?)->w.heap.size<w'.heap.size->K (a.put o.dst v') w'):
 o.wp prog a (w.alloc (.cells m.toArray 136)) K Q:=by
 subst D;subst k
 obtain⟨t,B,f,i,j⟩:=ZG zv3
 exact zaT s x 101 y base 136 t _ 7 56 underlying101 B f i j rfl (by decide) v l.length (l.flatMap zbh) A d b (zbh new) 1 c C rfl
  (λu q=>by simp only[zbh,QN,Zz,XA]at q;rcases q with rfl|rfl|rfl|rfl|rfl|rfl|rfl <;> rfl) (by unfold maxLen;omega) (by omega) λv' w' h1 h2 z r=>h v' w' (by unfold OwnP;rw[Qb,Q7];simpa using h1) h2 z r
theorem zb4(f:o.guard=none)(s x:Operand)(q:o.op=.call {callee:=.builtin .append,args:=#[s,x],argTypes:=#[101,101]})
 (base:Nat) (v:Value) (l:List Ins) (t:a.eval s=v) (e:OwnP w base v l) (d:base<=w.heap.size)
 (i:List Value) (new:Ins) (y:i=zbh new) (j:Nat) (k:w.heap.size=j) (c:Nat) (u:a.eval x=.slice j 1 c)
 (b:l.length<=1048576)
 (h:∀v' w',OwnP w' base v' (l++[new])->Below base w w'->(∀g,g<w.heap.size->v.ownBlock≠some g->w'.heap[g]? = w.heap[g]?)->w.heap.size<w'.heap.size->wpList prog ops Q rest (a.put o.dst v') w'):
 wpList prog ops Q (o::rest) a (w.alloc (.cells i.toArray 136)):=
 Z3 f λ_ n=>zhs s x q base v l t e d i new y j k c u b λv' w' h1 h2 r m=>n _ _ (h v' w' h1 h2 r m)
theorem zfl{K:Act->World->Prop}{E:Prop}(f:o.guard=none)(s x:Operand)(n:o.op=.call {callee:=.builtin .append,args:=#[s,x],argTypes:=#[101,101]})
 (base:Nat) (v:Value) (l:List Ins) (q:a.eval s=v) (e:OwnP w base v l) (d:base<=w.heap.size)
 (i:List Value) (new:Ins) (t:i=zbh new) (j:Nat) (k:w.heap.size=j) (c:Nat) (r:a.eval x=.slice j 1 c)
 (b:l.length<=1048576)
 (h:∀v' w',OwnP w' base v' (l++[new])->Below base w w'->(∀g,g<w.heap.size->v.ownBlock≠some g->w'.heap[g]? = w.heap[g]?)->w.heap.size<w'.heap.size->K (a.put o.dst v') w'):
 if Region.wanted o (yielded ops a.tmps)=true then Oper.wp prog o a (w.alloc (.cells i.toArray 136)) K Q else E:=by
 have m:Region.wanted o (yielded ops a.tmps)=true:=by simp[Region.wanted,f]
 rw[Qj m];exact zhs s x n base v l q e d i new t j k c r b h
end
theorem zzf{w:World}{B n:Nat}{A:Option Addr}{l:List Ins}(h:Sl w B 7 A n (l.flatMap zbh))(k:Nat)(i:k<l.length):
 ∃b f,A=some ⟨b,f,none⟩/\b<B/\w.cell? ⟨b,f+k*7,none⟩=some (jA l[k].kind)/\w.cell? ⟨b,f+k*7+1,none⟩=some (jA l[k].a)/\w.cell? ⟨b,f+k*7+2,none⟩=some (jA l[k].b)/\
  w.cell? ⟨b,f+k*7+3,none⟩=some (jB l[k].set.a)/\w.cell? ⟨b,f+k*7+4,none⟩=some (jB l[k].set.b)/\w.cell? ⟨b,f+k*7+5,none⟩=some (jB l[k].set.c)/\w.cell? ⟨b,f+k*7+6,none⟩=some (jB l[k].set.d):=by
 have hl:=za3 zbh 7 zcN l;obtain⟨b,f,e,hb,q⟩:=h.src (by omega)
 have g:∀j,j<7->∀v,(zbh l[k])[j]? = some v->w.cell? ⟨b,f+k*7+j,none⟩=some v:=λj m v o=>by
  have h1:=zcA zbh 7 zcN l k j i m;have h2:k*7+j<(l.flatMap zbh).length:=by omega
  rw[Zf,q (k*7+j) h2];rw[Qe h2]at h1;rw[h1,o]
 exact⟨b,f,e,hb,g 0 (by decide) _ rfl,g 1 (by decide) _ rfl,g 2 (by decide) _ rfl,g 3 (by decide) _ rfl,g 4 (by decide) _ rfl,g 5 (by decide) _ rfl,g 6 (by decide) _ rfl⟩
theorem zn9{d:Type}(cells:d->List Value)(size:Nat)(b:∀a,(cells a).length=size)(j:Nat)(f:j<size)(v:Value)(y:d):∀(l:List d) (k:Nat) (h:k<l.length),cells y=(cells l[k]).set j v->
 (l.flatMap cells).set (k*size+j) v=(l.set k y).flatMap cells
 | [],k,h,_=>absurd h (by simp)
 |a::r,0,_,c=>by
  have e:cells y=(cells a).set j v:=c;simp only[QV,Qg,XO,Ze];rw[List.set_append_left _ _ (by rw[b];exact f),e]
 |a::r,k+1,h,c=>by
  simp only[QV,Qh];rw[ZO _ _ (by rw[b,Xl];omega),b,show (k+1)*size+j-size=k*size+j by rw[Xl];omega];rw[zn9 cells size b j f v y r k (by simpa using h) c]
theorem OwnP.setAB{w:World}{base g c:Nat}{l:List Ins}(h:OwnP w base (.slice g l.length c) l)(k:Nat)(b:k<l.length)(j:Nat)(d:j<7)(u:Value)(y:Ins)(e:zbh y=(zbh l[k]).set j u):
 OwnP (w.setCell ⟨g,k*7+j,none⟩ u) base (.slice g l.length c) (l.set k y)/\w.grownBy (w.setCell ⟨g,k*7+j,none⟩ u) (some g):=by
 have a:=World.ownsRow.stored h (k*7+j) u;refine⟨?_,a.2⟩;unfold OwnP;rw[Xf,<-zn9 zbh 7 zcN j d u y l k b e];exact a.1
