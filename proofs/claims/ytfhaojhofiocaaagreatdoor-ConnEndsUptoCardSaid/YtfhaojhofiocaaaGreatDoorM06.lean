/- Lemmas for the last texts. -/
import Derived.Test.YtfhaojhofiocaaaGreatDoorM05
import Derived.Deep.RegionWith
set_option maxHeartbeats 6400000
set_option maxRecDepth 100000
namespace Go.Proofs.YtfhaojhofiocaaaGreatDoor
open Go.RowKit Go.Proofs.Tryz
theorem zck(r:RS)(x:Int)(a:x≠0):(zaF r x).pos=r.pos/\(zaF r x).op=r.op/\(zaF r x).e≠0:=by
 unfold zaF
 by_cases h:r.e=0
 ·rw[Qj h];exact⟨rfl,rfl,a⟩
 ·rw[Qf h];exact⟨rfl,rfl,h⟩
structure Step(s:jE)(r r':RS):Prop where
 inn:r'.pos<=s.length
 le:r.pos<=r'.pos
 op:r'.op=r.op
 keep:r.e≠0->r'.e≠0
theorem Step.refl{s:jE}{r:RS}(h:r.pos<=s.length):Step s r r:=⟨h,Qd _,rfl,id⟩
theorem Step.trans{s:jE}{a b c:RS}(h:Step s a b)(k:Step s b c):Step s a c:=⟨k.inn,Ql h.le k.le,k.op.trans h.op,λe=>k.keep (h.keep e)⟩
theorem zdx{s:jE}{r:RS}(h:r.pos<=s.length)(x:Int)(b:x≠0):Step s r (zaF r x):=by
 obtain⟨h1,h2,a⟩:=zck r x b;exact⟨by omega,by omega,h2,λ_=>a⟩
theorem zfb{s:jE}{r:RS}(h:r.pos<s.length):Step s r {r with pos:=r.pos+1}:=⟨h,Zd _,rfl,id⟩
theorem zdr{s:jE}{r:RS}(h:r.pos<=s.length){b:Int}(hb:0<=b):Step s r (zaR s r b).2/\((zaR s r b).1=true->r.pos<(zaR s r b).2.pos/\r.e=0):=by
 unfold zaR
 by_cases a:zaf s r=b
 ·rw[Qj a]
  have:=zaU a hb;exact⟨zfb this.1,λ_=>⟨Zu _,this.2⟩⟩
 ·rw[Qf a]
  exact⟨Step.refl h,λh=>by cases h⟩
theorem zna{l:jE}{b:UInt8}:Lib.indexByte l b<0\/Lib.indexByte l b<l.length:=by
 rcases Int.lt_or_le (Lib.indexByte l b) 0 with h|h
 ·exact .inl h
 ·obtain⟨o,a⟩:∃o:Nat,Lib.indexByte l b=o:=⟨(Lib.indexByte l b).toNat,by omega⟩
  have:=(Qy.1 (Lib.indexByte_some a).1).1;exact .inr (by omega)
theorem zjI{s:jE}{r:RS}(h:r.pos<=s.length):Step s r (zaS s r).2/\0<=(zaS s r).1/\(zaS s r).1<=15:=by
 unfold zaS
 by_cases h1:zaf s r<0
 ·rw[Qj h1]
  exact⟨zdx h 3 (by decide),ZB _,by show (0:Int)<=15;decide⟩
 rw[Qf h1]
 by_cases h2:Lib.indexByte hexL (zaf s r).toNat.toUInt8<0
 ·rw[Qj h2]
  exact⟨zdx h 3 (by decide),ZB _,by show (0:Int)<=15;decide⟩
 rw[Qf h2];refine⟨zfb (zaU rfl (by omega)).1,by show 0<=Lib.indexByte hexL _;omega,?_⟩
 rcases zna (l:=hexL) (b:=(zaf s r).toNat.toUInt8)with a|a
 ·exact absurd a h2
 ·have e:((hexL.length:Nat):Int)=16:=rfl
  rw[e]at a;show Lib.indexByte hexL _<=15
  omega
theorem zdw{s:jE}{r:RS}(h:r.pos<=s.length):Step s r (zbo s r).2/\(r.pos<(zbo s r).2.pos\/(zbo s r).2.e≠0)/\0<=(zbo s r).1/\(zbo s r).1<=255:=by
 have t:∀q:RS,q.pos<=s.length->Step s q (zaF q 3)/\(zaF q 3).e≠0:=λq j=>⟨zdx j 3 (by decide),(zck q 3 (by decide)).2.2⟩
 have z:(0:Int)<=255:=by decide
 unfold zbo
 by_cases i:zaf s r=92
 ·rw[Qj i]
  have g:=(zaU i (by decide)).1;have d:=zfb g;generalize j:({r with pos:=r.pos+1}:RS)=q at *;have A:q.pos=r.pos+1:=by rw[<-j]
  have f:q.pos<=s.length:=d.inn
  have c:∀v:Int,0<=zaf s q->0<=v->v<=255->Step s r {q with pos:=q.pos+1}/\(r.pos<({q with pos:=q.pos+1}:RS).pos\/({q with pos:=q.pos+1}:RS).e≠0)/\0<=v/\v<=255:=λv x h1 h2=>
   ⟨d.trans (zfb (zaU rfl x).1),.inl (by show r.pos<q.pos+1;omega),h1,h2⟩
  unfold escR
  by_cases h1:zaf s q=110
  ·rw[Qj h1];exact c 10 (by omega) (by decide) (by decide)
  rw[Qf h1]
  by_cases h2:zaf s q=116
  ·rw[Qj h2];exact c 9 (by omega) (by decide) (by decide)
  rw[Qf h2]
  by_cases b:zaf s q=114
  ·rw[Qj b];exact c 13 (by omega) (by decide) (by decide)
  rw[Qf b]
  by_cases k:zaf s q=120
  ·rw[Qj k]
   have n:=zfb (zaU k (by decide)).1;obtain⟨l,D,E⟩:=zjI n.inn;obtain⟨m,B,C⟩:=zjI l.inn;have w:=l.le;have l4:=m.le;have y:r.pos<({q with pos:=q.pos+1}:RS).pos:=by show r.pos<q.pos+1;omega
   exact⟨d.trans (n.trans (l.trans m)),.inl (Qw y (Ql w l4)),by dsimp only;omega,by dsimp only;omega⟩
  rw[Qf k];have fl:=t q f;have a:Step s r (zaF q 3)/\(r.pos<(zaF q 3).pos\/(zaF q 3).e≠0)/\(0:Int)<=0/\(0:Int)<=255:=⟨d.trans fl.1,.inr fl.2,ZB _,z⟩
  by_cases o:zaf s q<0
  ·rw[Qj o];exact a
  rw[Qf o]
  by_cases u:zfQ (zaf s q)=true
  ·rw[Qj u];exact c _ (by omega) (by omega) (zdl (s:=s) (r:=q)).2
  ·rw[Qf u];exact a
 ·rw[Qf i]
  have fl:=t r h;have a:Step s r (zaF r 3)/\(r.pos<(zaF r 3).pos\/(zaF r 3).e≠0)/\(0:Int)<=0/\(0:Int)<=255:=⟨fl.1,.inr fl.2,ZB _,z⟩
  unfold zwM
  by_cases h1:zaf s r<33
  ·rw[Qj h1];exact a
  rw[Qf h1]
  by_cases h2:126<zaf s r
  ·rw[Qj h2];exact a
  rw[Qf h2]
  by_cases b:zfQ (zaf s r)=true
  ·rw[Qj b];exact a
  rw[Qf b];exact⟨zfb (zaU rfl (by omega)).1,.inl (Zu _),by dsimp only;omega,by dsimp only;omega⟩
theorem zeJ{s:jE}{r:RS}(h:r.pos<=s.length):Step s r (zbp s r).2/\((zbp s r).1=none->(zbp s r).2=r)/\∀f,(zbp s r).1=some f->r.pos<(zbp s r).2.pos/\r.e=0:=by
 have c:Step s r ((none,r):Option (Nat->Bool) × RS).2/\(((none,r):Option (Nat->Bool) × RS).1=none->((none,r):Option (Nat->Bool) × RS).2=r)/\∀f,((none,r):Option (Nat->Bool) × RS).1=some f->r.pos<((none,r):Option (Nat->Bool) × RS).2.pos/\r.e=0:=
  ⟨Step.refl h,λ_=>rfl,λf d=>by cases d⟩
 unfold zbp
 by_cases a:zaf s r=92
 ·rw[Qj a]
  have h1:=zaU a (by decide);cases g:s[r.pos+1]? with
  |none=>exact c
  |some b=>
   dsimp only;have h2:=(Qy.1 g).1;cases zmJ b with
   |none=>exact c
   |some f=>
    dsimp only;exact⟨⟨h2,by show r.pos<=r.pos+2;omega,rfl,λe=>e⟩,λe=>absurd e (by simp),λ_ _=>⟨by show r.pos<r.pos+2;omega,h1.2⟩⟩
 ·rw[Qf a];exact c
def zzR(a:Nat)(w:World)(b:Value)(wr:World):Prop:=
 b=jA a/\FourW wr (w.heap.size+1) (setF λ_=>false)/\FourW wr w.heap.size (setF λ_=>false)/\w wr
theorem zs4(f i:Nat)(h1:i<f)(w:World):
 Calls prog 75 #[jA f,jA i] w (zb2 (setF λ_=>false) w):=by
 have l:∀W,W=(w.alloc (.cells #[jB 0,jB 0,jB 0,jB 0] 95)).alloc (.cells #[jB 0,jB 0,jB 0,jB 0] 95)->FourW W (w.heap.size+1) (setF λ_=>false)/\FourW W w.heap.size (setF λ_=>false)/\w W:=λW g=>by
  have hb:w W:=by rw[g];exact WaL.alloc (by simp) _
  refine⟨?_,?_,hb⟩
  ·have:=FourW.new (w.alloc (.cells #[jB 0,jB 0,jB 0,jB 0] 95))
   rw[Qp]at this;rw[g];exact this
  ·rw[g]
   exact(Qs _ _ _ (by simp)).trans (FourW.new w)
 have n:=hIx l;clear l
 go_in
 go_wp2
 go_loopw [6] (λb wr=>zzR f w b wr) (λb _=>256-(intOf b).toNat)
 case atStart=>exact⟨rfl,n.out _ rfl⟩
 case round=>
  obtain⟨rfl,m,e,hb⟩:=hrel;have u:decide ((f:Int)<=(i:Int))=false:=by simp;omega
  obtain⟨S,k⟩:∃S,S=setF λ_=>false:=⟨_,rfl⟩
  rw[<-k]at m e;have s:=hIx k;clear k;have c0:=m.cells;have y:=e.cells;have z:=e.free;go_wp2_with fail;have j:=e.fill S;have h:=(((hb.setCell (p:=⟨w.heap.size,0,none⟩) (Qd _) (jB S.a)).setCell (p:=⟨w.heap.size,1,none⟩) (Qd _) (jB S.b)).setCell (p:=⟨w.heap.size,2,none⟩) (Qd _) (jB S.c)).setCell (p:=⟨w.heap.size,3,none⟩) (Qd _) (jB S.d);generalize ((((wr.setCell w.heap.size (jB S.a)).setCell ⟨w.heap.size,1,none⟩ (jB S.b)).setCell ⟨w.heap.size,2,none⟩ (jB S.c)).setCell ⟨w.heap.size,3,none⟩ (jB S.d))=x at *;obtain⟨q,r,o,t⟩:=j.cells;exact QD (v:=setA S) (by simp[results,results75,go_sem,q,r,o,t,setA]) rfl ⟨by rw[s.out],h⟩
theorem zhT(b a:Nat)(h2:a<256)(w:World):
 Calls prog 75 #[jA b,jA a] w (zb2 (setF (rgF b a)) w):=by
 rcases ZJ a b with h|h
 ·have e:setF (rgF b a)=setF λ_=>false:=zbZ λx _=>by
   unfold rgF
   by_cases e:b<=x
   ·have:¬x<=a:=by omega
    simp[this]
   ·simp[e]
  rw[e];exact zs4 b a h w
 ·exact zcv b a h h2 w
def zbM(s:jE)(r:RS):(Nat->Bool) × RS:=
 match (zbp s r).1 with
 |some f=>(f,(zbp s r).2)
 |none=>
  if (zaR s (zbo s r).2 45).1=true then
   (rgF (zbo s r).1.toNat (zbo s (zaR s (zbo s r).2 45).2).1.toNat,
    if (zbo s (zaR s (zbo s r).2 45).2).1<(zbo s r).1/\(zbo s (zaR s (zbo s r).2 45).2).2.e=0 then zaF {(zbo s (zaR s (zbo s r).2 45).2).2 with pos:=(zaR s (zbo s r).2 45).2.pos} 3
    else (zbo s (zaR s (zbo s r).2 45).2).2)
  else (rgF (zbo s r).1.toNat (zbo s r).1.toNat,(zaR s (zbo s r).2 45).2)
theorem zcO{s:jE}{r:RS}(h:r.pos<=s.length):Step s r (zbM s r).2/\(r.pos<(zbM s r).2.pos\/(zbM s r).2.e≠0):=by
 obtain⟨q,w,u⟩:=zeJ h;obtain⟨c1,c2,_⟩:=zdw h;obtain⟨a,m⟩:=zdr c1.inn (b:=45) (by decide);obtain⟨i,v,_⟩:=zdw a.inn;unfold zbM;cases n:(zbp s r).1 with
 |some f=>exact⟨q,.inl (u f n).1⟩
 |none=>
  dsimp only;generalize zbo s r=C at *;generalize zaR s C.2 45=T at *;generalize zbo s T.2=D at *;have d:=c1.trans a;have y:=c1.le;have z:=a.le;have x:=i.le
  by_cases g:T.1=true
  ·rw[Qj g]
   have h2:=m g
   by_cases hb:D.1<C.1/\D.2.e=0
   ·rw[Qj hb]
    obtain⟨o,t,l⟩:=zck {D.2 with pos:=T.2.pos} 3 (by decide);have c:(zaF {D.2 with pos:=T.2.pos} 3).pos=T.2.pos:=o;have j:(zaF {D.2 with pos:=T.2.pos} 3).op=D.2.op:=t;exact⟨⟨by show (zaF {D.2 with pos:=T.2.pos} 3).pos<=_;rw[c];exact a.inn,by show _<=(zaF {D.2 with pos:=T.2.pos} 3).pos;rw[c];exact d.le,by show (zaF {D.2 with pos:=T.2.pos} 3).op=_;rw[j];exact i.op.trans d.op,λ_=>l⟩,.inr l⟩
   ·rw[Qf hb]
    exact⟨d.trans i,.inl (by show r.pos<D.2.pos;have:=h2.1;omega)⟩
  ·rw[Qf g]
   refine⟨d,?_⟩
   rcases c2 with k|k
   ·exact .inl (by show r.pos<T.2.pos;omega)
   ·exact .inr (a.keep k)
def zg1:Nat->jE->RS->Bool->(Nat->Bool)->(Nat->Bool) × RS
 |0,_,r,_,F=>(F,r)
 |f+1,s,r,first,F=>if r.e=0/\(first=true\/zaf s r≠93)then zg1 f s (zbM s r).2 false (λx=>F x||(zbM s r).1 x)else (F,r)
def zbU(s:jE)(r:RS):Nat:=if r.e=0 then s.length-r.pos+1 else 0
theorem zfB{s:jE}{r:RS}(h:r.pos<=s.length)(b:r.e=0):zbU s (zbM s r).2<zbU s r:=by
 obtain⟨h1,h2⟩:=zcO h;unfold zbU;rw[Qj b];have:=h1.inn
 by_cases a:(zbM s r).2.e=0
 ·rw[Qj a]
  rcases h2 with h2|h2
  ·omega
  ·exact absurd a h2
 ·rw[Qf a];omega
theorem zjF{s:jE}:∀(f g:Nat) (r:RS) (first:Bool) (F:Nat->Bool),r.pos<=s.length->zbU s r<=f->zbU s r<=g->zg1 f s r first F=zg1 g s r first F
 |0,0,_,_,_,_,_,_=>rfl
 |0,g+1,r,first,F,_,h1,_=>by
  have:r.e≠0:=λe=>by unfold zbU at h1;rw[Qj e]at h1;omega
  rw[zg1,zg1,Qf (λh=>this h.1)]
 |f+1,0,r,first,F,_,_,h2=>by
  have:r.e≠0:=λe=>by unfold zbU at h2;rw[Qj e]at h2;omega
  rw[zg1,zg1,Qf (λh=>this h.1)]
 |f+1,g+1,r,first,F,b,h1,h2=>by
  rw[zg1,zg1]
  by_cases a:r.e=0/\(first=true\/zaf s r≠93)
  ·rw[Qj a,Qj a]
   have:=zfB b a.1;exact zjF f g _ _ _ (zcO b).1.inn (by omega) (by omega)
  ·rw[Qf a,Qf a]
def ze4(s:jE)(r:RS)(first:Bool)(F:Nat->Bool):(Nat->Bool) × RS:=zg1 (zbU s r) s r first F
theorem ztk{s:jE}{r:RS}{first:Bool}{F:Nat->Bool}(b:r.pos<=s.length):
 ze4 s r first F=if r.e=0/\(first=true\/zaf s r≠93)then ze4 s (zbM s r).2 false (λx=>F x||(zbM s r).1 x)else (F,r):=by
 unfold ze4
 by_cases a:r.e=0/\(first=true\/zaf s r≠93)
 ·rw[Qj a]
  have h1:=zfB b a.1;obtain⟨k,c⟩:∃k,zbU s r=k+1:=⟨zbU s r-1,by omega⟩
  rw[c,zg1,Qj a];exact zjF _ _ _ _ _ (zcO b).1.inn (by omega) (Qd _)
 ·rw[Qf a]
  cases zbU s r with
  |zero=>rfl
  |succ k=>rw[zg1,Qf a]
theorem zim{s:jE}:∀(n:Nat) (r:RS) (first:Bool) (F:Nat->Bool),zbU s r<=n->r.pos<=s.length->Step s r (ze4 s r first F).2
 |n,r,first,F,b,a=>by
  rw[ztk a]
  by_cases c:r.e=0/\(first=true\/zaf s r≠93)
  ·rw[Qj c]
   have h1:=zfB a c.1
   match n,b with
   |0,b=>exact absurd b (by omega)
   |n+1,b=>exact(zcO a).1.trans (zim n _ _ _ (by omega) (zcO a).1.inn)
  ·rw[Qf c];exact Step.refl a
def zhh(s:jE)(r:RS):Nat->Bool:=λx=>if (zaR s r 94).1=true then !(ze4 s (zaR s r 94).2 true λ_=>false).1 x else (ze4 s (zaR s r 94).2 true λ_=>false).1 x
def zjV(s:jE)(r:RS):RS:=if setF (zhh s r)=.zero then zaF (ze4 s (zaR s r 94).2 true λ_=>false).2 3 else (ze4 s (zaR s r 94).2 true λ_=>false).2
def zeX(s:jE)(r:RS):(Nat->Bool) × RS:=(zhh s r,(zaR s (zjV s r) 93).2)
theorem zqG{s:jE}{r:RS}(h:r.pos<=s.length):Step s r (zeX s r).2:=by
 have h1:=(zdr h (b:=94) (by decide)).1;have h2:=h1.trans (zim _ (zaR s r 94).2 true (λ_=>false) (Qd _) h1.inn)
 have a:Step s r (zjV s r):=by
  unfold zjV
  by_cases c:setF (zhh s r)=.zero
  ·rw[Qj c];exact h2.trans (zdx h2.inn 3 (by decide))
  ·rw[Qf c];exact h2
 exact a.trans (zdr a.inn (by decide)).1
section
open Go.ChangeShapes Go.WideShapes Go.Deep
theorem zgv{w w':World}{g b a:Nat}(d:w.grownBy w' (some g))(hb:b<w.heap.size)(c:b≠g):w'.cell? ⟨b,a,none⟩=w.cell? ⟨b,a,none⟩:=by
 have:=d.block b hb (λe=>c (QG e));simp only[World.cell?, this]
end
theorem zbC:Set4.zero.Wf:=⟨⟨by decide,by decide⟩,⟨by decide,by decide⟩,⟨by decide,by decide⟩,⟨by decide,by decide⟩⟩
def zz6(t:Tree)(w:World)(e:Ending)(w':World):Prop:=
 ∃A c,e=jC (argX t A c)/\LT w' w'.heap.size t (zap t.kind t.set A t.kids.length c)/\w w'
theorem zpe(k:Int)(w:World):Calls prog 193 #[jA k] w (zz6 (.node k .zero []) w):=by
 have a:Hid (∀o,w (w.alloc o)):=λo=>(Qi _ _).alloc (Qd _) o
 go_in
 go_wp2_with fail;refine QD (v:=argX (.node k .zero []) none 0) (by simp[results,results193,go_sem,argX,Tree.kind,Tree.set,Tree.kids,Set4.zero]) rfl ⟨none,0,rfl,?_,a.out _⟩;rw[LT];exact⟨_,_,rfl,zbC,LK.nil _ _ _⟩
attribute [go_sem] results165
mutual
def zeQ:Tree->Int->Int
 |.node _ _ a,n=>zga a (n+1)
def zga:List Tree->Int->Int
 | [],n=>n
 |t::a,n=>if 80<n then n else zga a (zeQ t n)
end
mutual
theorem zk3:∀(t:Tree) (n:Int),n<=80->n<zeQ t n/\zeQ t n<=81
 |.node _ _ a,n,h=>by
  rw[zeQ];have:=zoP a (n+1) (by omega);exact⟨by omega,this.2⟩
theorem zoP:∀(a:List Tree) (n:Int),n<=81->n<=zga a n/\zga a n<=81
 | [],n,h=>by rw[zga];exact⟨ZB _,h⟩
 |t::a,n,h=>by
  rw[zga]
  by_cases h2:80<n
  ·rw[Qj h2];exact⟨ZB _,h⟩
  ·rw[Qf h2]
   have c:=zk3 t n (by omega);have b:=zoP a (zeQ t n) c.2;exact⟨by omega,b.2⟩
end
mutual
def FewT:Tree->Prop
 |.node _ _ a=>a.length<=2/\FewK a
def FewK:List Tree->Prop
 | []=>True
 |t::a=>FewT t/\FewK a
end
theorem FewK.at:∀{b:List Tree},FewK b->∀(i:Nat) (h:i<b.length),FewT b[i]
 | [],_,i,h=>absurd h (by simp)
 |t::b,a,0,_=>by rw[FewK]at a;exact a.1
 |t::b,a,i+1,h=>by rw[FewK]at a;exact FewK.at a.2 i (by simpa using h)
theorem zqn(a:List Tree)(j:Nat)(h:j<a.length)(m:Int):zga (a.drop j) m=if 80<m then m else zga (a.drop (j+1)) (zeQ a[j] m):=by
 rw[Zb h,zga]
def zAa(b:List Tree)(n:Int)(w:World)(c a:Value)(wr:World):Prop:=
 ∃(j:Nat) (m:Int),j<=b.length/\c=jA m/\a=jA j/\0<=m/\m<=81/\zga (b.drop j) m=n/\w wr
def zxm(t:Tree):Prop:=FewT t->∀(A:Option Addr) (c:Nat) (w:World) (n:Int),LT w w.heap.size t (zap t.kind t.set A t.kids.length c)->0<=n->n<=80->
 Calls prog 165 #[argX t A c,jA n] w λe w'=>e=jC (jA (zeQ t n))/\w w'
theorem zt5(k:Int)(s:Set4)(a:List Tree)(ih:∀(i:Nat) (h:i<a.length),zxm a[i]):zxm (.node k s a):=by
 intro l A c w n hl h5 h0;rw[FewT]at l;have h4:=l.1;have K:=hIx l.2;clear l;have IH:=hIx ih;rw[LT]at hl;obtain⟨S,c',D,_,Q⟩:=hl;have hA:S=A:=by unfold zap at D;simp only[List.cons.injEq,Value.slice.injEq]at D;exact D.2.2.2.2.2.1.1.symm
 subst hA;have T:Hid (zeQ (.node k s a) n=zga a (n+1)):=by unfold Hid;rw[zeQ]
 have i0:IntKind.i64.wrap (n+1)=n+1:=Qz _ (by omega);have E:Hid (∀o,w (w.alloc o)):=λo=>(Qi _ _).alloc (Qd _) o
 have G:Hid (∀W,w W->LK W w.heap.size a S):=λW h=>Q.below h
 generalize U:zga a (n+1)=N at *;have HN:=hIx U;unfold argX Tree.kind Tree.set Tree.kids;dsimp only;clear ih Q D U
 go_in
 go_wp2
 go_loopw [1,6,12] (λv1 _ q wr=>zAa a N w v1 q wr) (λ_ _ q _=>a.length-(intOf q).toNat)
 case atStart=>exact⟨0,n+1,Qn _,rfl,rfl,by omega,by omega,HN.out,E.out _⟩
 case round=>
  obtain⟨j,m,hj,rfl,rfl,H,h3,hM,hb⟩:=hrel;have v:=hIx hb
  by_cases f:j<a.length
  ·have d1:decide ((j:Int)<(a.length:Int))=true:=Qx (by omega)
   have i7:IntKind.i64.wrap ((j:Int)+1)=(j:Int)+1:=Qz _ (by omega);have y:=hb.size;obtain⟨b,J,Y,rfl,h6,r,g⟩:=(G.out wr hb).at j f;have u:=IH.out j f (K.out.at j f);have x:=hIx (zqn a j f m);generalize a[j]=C at *;obtain⟨V,c2,z,_⟩:=g.parts;subst z;have y0:=(show CellsAt wr b (J+j*6) [_,_,_,_,_,_]from r).six
   by_cases d:80<m
   ·have X:decide (80<m)=true:=Qx d
    have F:Hid (N=m):=by unfold Hid;rw[<-hM,x.out,Qj d]
    have t:Hid (∀o,w (wr.alloc o)):=λo=>v.out.alloc y o
    clear hM hb r g d u;go_wp2;exact zad ⟨by rw[T.out,F.out],t.out _⟩
   ·have X:decide (80<m)=false:=Qt d
    have I:=zk3 C m (by omega)
    have P:Hid (∀o,Calls prog 165 #[argX C V c2,jA m] (wr.alloc o) λe w'=>e=jC (jA (zeQ C m))/\Below (wr.alloc o).heap.size (wr.alloc o) w'):=λo=>
     u V c2 (wr.alloc o) m (g.keep (by simp;omega) (λO oo hp=>((Qi wr.heap.size wr).alloc (Qd _) o).cell (p:=⟨O,oo,none⟩) (by show O<wr.heap.size;omega))) H (by omega)
    rw[x.out,Qf d]at hM;have HM:=hIx hM;generalize zeQ C m=Z at *;have t:Hid (∀o w',Below (wr.alloc o).heap.size (wr.alloc o) w'->w w'):=λo w' h=>(v.out.alloc y o).trans (h.mono (by simp;omega))
    unfold argX at P;clear hM hb r g d u x;go_wp2_with (go_at_call 165;apply Hid.out);unfold Hid;refine(P.out _).mono ?_;rintro e w2 ⟨rfl,B⟩;have L:=t.out _ _ B;clear B y0;go_wp2;exact⟨⟨j+1,Z,by omega,rfl,rfl,by omega,I.2,HM.out,L⟩,by dsimp only[intOf];omega⟩
  ·obtain rfl:j=a.length:=by omega
   have d1:decide ((a.length:Int)<(a.length:Int))=false:=by simp
   have F:Hid (N=m):=by unfold Hid;rw[<-hM,List.drop_length,zga]
   clear hM hb;go_wp2;exact zad ⟨by rw[T.out,F.out],v.out⟩
theorem zom(t:Tree):zxm t:=
 match t with
 |.node k s a=>zt5 k s a λi h=>zom a[i]
termination_by SizeOf.sizeOf t
decreasing_by
 have:=List.sizeOf_lt_of_mem (QC h);simp only[Tree.node.sizeOf_spec];omega
def zfx{a:Type}(step:a->Option a):Nat->a->a
 |0,x=>x
 |n+1,x=>match step x with
  |none=>x
  |some y=>zfx step n y
def fixI{a:Type}(step:a->Option a)(m:a->Nat)(x:a):a:=zfx step (m x) x
structure znn{α:Type}(I:α->Prop)(step:α->Option α)(m:α->Nat):Prop where
 keep:∀x y,I x->step x=some y->I y
 less:∀x y,I x->step x=some y->m y<m x
theorem zjQ{c:Type}{I:c->Prop}{step:c->Option c}{m:c->Nat}(h:znn I step m):∀(n k:Nat) (x:c),I x->m x<=n->m x<=k->zfx step n x=zfx step k x
 |0,0,_,_,_,_=>rfl
 |0,k+1,x,b,h1,_=>by
  rw[zfx,zfx];cases a:step x with
  |none=>rfl
  |some y=>exact absurd (h.less x y b a) (by omega)
 |n+1,0,x,b,_,h2=>by
  rw[zfx,zfx];cases a:step x with
  |none=>rfl
  |some y=>exact absurd (h.less x y b a) (by omega)
 |n+1,k+1,x,b,h1,h2=>by
  rw[zfx,zfx];cases a:step x with
  |none=>rfl
  |some y=>
   have:=h.less x y b a;exact zjQ h n k y (h.keep x y b a) (by omega) (by omega)
theorem zte{a:Type}{I:a->Prop}{step:a->Option a}{m:a->Nat}(h:znn I step m){x:a}(c:I x):fixI step m x=match step x with|none=>x|some y=>fixI step m y:=by
 unfold fixI;cases b:step x with
 |none=>
  cases m x with
  |zero=>rfl
  |succ k=>rw[zfx,b]
 |some y=>
  have h1:=h.less x y c b;obtain⟨k,d⟩:∃k,m x=k+1:=⟨m x-1,by omega⟩
  rw[d,zfx,b];exact zjQ h k (m y) y (h.keep x y c b) (by omega) (Qd _)
theorem zhl{a:Type}{I:a->Prop}{step:a->Option a}{m:a->Nat}(h:znn I step m){x:a}(c:I x)(b:step x=none):fixI step m x=x:=by rw[zte h c,b]
theorem zic{a:Type}{I:a->Prop}{step:a->Option a}{m:a->Nat}(h:znn I step m){x y:a}(c:I x)(b:step x=some y):fixI step m x=fixI step m y:=by rw[zte h c,b]
theorem zhw{a:Type}{Q:a->Prop}{step:a->Option a}(h:∀x y,Q x->step x=some y->Q y):∀(n:Nat) (x:a),Q x->Q (zfx step n x)
 |0,_,b=>b
 |n+1,x,b=>by
  rw[zfx];cases c:step x with
  |none=>exact b
  |some y=>exact zhw h n y (h x y b c)
theorem zgy{a:Type}{Q:a->Prop}{step:a->Option a}{m:a->Nat}(h:∀x y,Q x->step x=some y->Q y){x:a}(b:Q x):Q (fixI step m x):=zhw h _ _ b
abbrev TR:=Tree × RS
def emT:Tree:=.node 2 .zero []
def kT(k:Int):Tree:=.node k .zero []
def byT(f:Nat->Bool):Tree:=.node 3 (setF f) []
def onR(r:RS):RS:={r with pos:=r.pos+1}
def zbN(t:Tree):Tree:=if zeQ t 0<=80 then t else emT
def stT(t:Tree):Tree:=.node 6 .zero [t]
def jnT(t u:Tree):Tree:=.node 4 .zero [t,u]
def orT(t u:Tree):Tree:=.node 5 .zero [t,u]
def ze5(s:jE)(x:TR):Nat:=zbU s x.2
def zgV(s:jE)(T:TR):TR:=
 (T.1,if (zaR s {T.2 with op:=T.2.op-1} 41).1=true then (zaR s {T.2 with op:=T.2.op-1} 41).2 else zaF {T.2 with op:=T.2.op-1} 3)
def zn7(s:jE)(r:RS):TR:=
 match (zbp s r).1 with
 |some f=>(byT f,(zbp s r).2)
 |none=>(byT (rgF (zbo s r).1.toNat (zbo s r).1.toNat),(zbo s r).2)
def zhn(s:jE)(A:RS->TR)(r:RS):TR:=
 if zaf s r=40 then (if r.op=20 then (kT 0,zaF r 11)else zgV s (A {r with pos:=r.pos+1,op:=r.op+1}))
 else if zaf s r=46 then (byT (λx=>!(rgF 10 10 x)),onR r)
 else if zaf s r=94 then (kT 7,onR r)
 else if zaf s r=36 then (kT 8,onR r)
 else if zaf s r=91 then (byT (zeX s (onR r)).1,(zeX s (onR r)).2)
 else zn7 s r
def zcQ(s:jE)(x:TR):Option TR:=
 if zaf s x.2=42 then some (stT x.1,onR x.2)
 else if zaf s x.2=63 then some (orT x.1 emT,onR x.2)
 else if zaf s x.2=43 then some (jnT x.1 (stT (zbN x.1)),onR x.2)
 else none
def zfN(s:jE)(A:RS->TR)(r:RS):TR:=fixI (zcQ s) (ze5 s) (zhn s A r)
def rowS(s:jE)(P:RS->TR)(x:TR):Option TR:=if zgq s x.2=true then none else some (jnT x.1 (P x.2).1,(P x.2).2)
def rowR(s:jE)(P:RS->TR)(r:RS):TR:=if zgq s r=true then (emT,r)else fixI (rowS s P) (ze5 s) (P r)
def altS(s:jE)(R:RS->TR)(x:TR):Option TR:=if zaf s x.2=124 then some (orT x.1 (R (onR x.2)).1,(R (onR x.2)).2)else none
def altR(s:jE)(R:RS->TR)(r:RS):TR:=fixI (altS s R) (ze5 s) (R r)
def altD(s:jE):Nat->RS->TR
 |0,r=>(kT 0,r)
 |d+1,r=>altR s (rowR s (zfN s (altD s d))) r
def zwN(s:jE)(d:Nat):RS->TR:=zfN s (altD s d)
def rowD(s:jE)(d:Nat):RS->TR:=rowR s (zwN s d)
mutual
def NoN:Tree->Prop
 |.node k _ a=>k≠1/\NoNK a
def NoNK:List Tree->Prop
 | []=>True
 |t::a=>NoN t/\NoNK a
end
structure zfW(s:jE)(r:RS)(T:TR):Prop where
 step:Step s r T.2
 few:FewT T.1
 non:NoN T.1
def ziE(s:jE)(A:RS->TR):Prop:=∀r:RS,r.pos<=s.length->zfW s r (A r)
theorem zcH(k:Int)(S:Set4):FewT (.node k S []):=by rw[FewT,FewK];exact⟨by simp,trivial⟩
theorem zcJ{k:Int}(S:Set4)(h:k≠1):NoN (.node k S []):=by rw[NoN,NoNK];exact⟨h,trivial⟩
theorem zt9{k:Int}{S:Set4}{t:Tree}(h:FewT t):FewT (.node k S [t]):=by rw[FewT,FewK,FewK];exact⟨by simp,h,trivial⟩
theorem zrX{k:Int}{S:Set4}{t:Tree}(a:k≠1)(h:NoN t):NoN (.node k S [t]):=by rw[NoN,NoNK,NoNK];exact⟨a,h,trivial⟩
theorem zkc{k:Int}{S:Set4}{t u:Tree}(h:FewT t)(h2:FewT u):FewT (.node k S [t,u]):=by rw[FewT,FewK,FewK,FewK];exact⟨by simp,h,h2,trivial⟩
theorem zkT{k:Int}{S:Set4}{t u:Tree}(a:k≠1)(h:NoN t)(h2:NoN u):NoN (.node k S [t,u]):=by rw[NoN,NoNK,NoNK,NoNK];exact⟨a,h,h2,trivial⟩
theorem zss{t:Tree}(h:FewT t):FewT (zbN t):=by unfold zbN;split;exact h;exact zcH _ _
theorem zrY{t:Tree}(h:NoN t):NoN (zbN t):=by unfold zbN;split;exact h;exact zcJ _ (by decide)
theorem zdf{s:jE}{r:RS}{b:Int}(h:zaf s r=b)(hb:0<=b):Step s r (onR r)/\r.pos<(onR r).pos/\r.e=0:=by
 obtain⟨h1,h2⟩:=zaU h hb;exact⟨zfb h1,Zu _,h2⟩
theorem zzj{s:jE}{r:RS}(h:zgq s r=false):r.e=0:=by
 by_cases a:r.e=0
 ·exact a
 ·have:zaf s r=-1:=by unfold zaf;rw[Qf a]
  unfold zgq at h;rw[this]at h;exact absurd h (by decide)
theorem zqz{s:jE}{r:RS}{T:TR}(i:zaf s r=40)(h:zfW s {r with pos:=r.pos+1,op:=r.op+1} T):zfW s r (zgV s T)/\(r.pos<(zgV s T).2.pos\/(zgV s T).2.e≠0):=by
 obtain⟨j,f⟩:=zaU i (by decide);have a:=h.step;have c:T.2.op-1=r.op:=by have:T.2.op=r.op+1:=a.op;omega
 have g:r.pos+1<=T.2.pos:=a.le;have h1:Step s r {T.2 with op:=T.2.op-1}:=⟨a.inn,by show r.pos<=T.2.pos;omega,c,λe=>absurd f e⟩
 have h2:=(zdr h1.inn (b:=41) (by decide)).1
 have d:Step s r (zgV s T).2/\r.pos<(zgV s T).2.pos:=by
  unfold zgV;dsimp only
  split
  ·exact⟨h1.trans h2,Qw (show r.pos<T.2.pos by omega) h2.le⟩
  ·exact⟨h1.trans (zdx h1.inn 3 (by decide)),by rw[(zck _ 3 (by decide)).1];show r.pos<T.2.pos;omega⟩
 exact⟨⟨d.1,h.few,h.non⟩,.inl d.2⟩
theorem zr6{s:jE}{r:RS}(h:r.pos<=s.length):zfW s r (zn7 s r)/\(r.pos<(zn7 s r).2.pos\/(zn7 s r).2.e≠0):=by
 obtain⟨a,d,c⟩:=zeJ h;obtain⟨c1,c2,c3⟩:=zdw h;unfold zn7;cases b:(zbp s r).1 with
 |some f=>exact⟨⟨a,zcH _ _,zcJ _ (by decide)⟩,.inl (c f b).1⟩
 |none=>exact⟨⟨c1,zcH _ _,zcJ _ (by decide)⟩,c2⟩
theorem zmj{s:jE}{A:RS->TR}(l:ziE s A){r:RS}(h:r.pos<=s.length):zfW s r (zhn s A r)/\(r.pos<(zhn s A r).2.pos\/(zhn s A r).2.e≠0):=by
 unfold zhn
 by_cases h1:zaf s r=40
 ·rw[Qj h1]
  by_cases h2:r.op=20
  ·rw[Qj h2]
   exact⟨⟨zdx h 11 (by decide),zcH _ _,zcJ _ (by decide)⟩,.inr (zck r 11 (by decide)).2.2⟩
  ·rw[Qf h2]
   exact zqz h1 (l _ (zaU h1 (by decide)).1)
 rw[Qf h1]
 have leaf:∀(b k:Int) (S:Set4),0<=b->k≠1->zaf s r=b->zfW s r (.node k S [],onR r)/\(r.pos<(onR r).pos\/(onR r).e≠0):=λb k S hb j i=>
  ⟨⟨(zdf i hb).1,zcH _ _,zcJ _ j⟩,.inl (zdf i hb).2.1⟩
 by_cases h2:zaf s r=46
 ·rw[Qj h2];exact leaf 46 _ _ (by decide) (by decide) h2
 rw[Qf h2]
 by_cases f:zaf s r=94
 ·rw[Qj f];exact leaf 94 _ _ (by decide) (by decide) f
 rw[Qf f]
 by_cases a:zaf s r=36
 ·rw[Qj a];exact leaf 36 _ _ (by decide) (by decide) a
 rw[Qf a]
 by_cases d:zaf s r=91
 ·rw[Qj d]
  obtain⟨g,m,_⟩:=zdf d (by decide);have c:=zqG g.inn;exact⟨⟨g.trans c,zcH _ _,zcJ _ (by decide)⟩,.inl (Qw m c.le)⟩
 ·rw[Qf d];exact zr6 h
theorem zru{s:jE}{r:RS}{b:Int}(h:zaf s r=b)(hb:0<=b):zbU s (onR r)<zbU s r:=by
 obtain⟨h1,h2⟩:=zaU h hb;unfold zbU;rw[Qj h2,Qj (show (onR r).e=0 from h2)];show s.length-(r.pos+1)+1<_
 omega
theorem zs1{s:jE}{a b:RS}(h:Step s a b):zbU s b<=zbU s a:=by
 have h1:=h.le;have h2:=h.inn;unfold zbU
 by_cases c:a.e=0
 ·rw[Qj c]
  by_cases hb:b.e=0
  ·rw[Qj hb];omega
  ·rw[Qf hb];omega
 ·rw[Qf c,Qf (h.keep c)];exact Qd _
theorem ztE{s:jE}{a b:RS}(h:Step s a b)(d:a.e=0)(c:a.pos<b.pos\/b.e≠0):zbU s b<zbU s a:=by
 have h2:=h.inn;unfold zbU;rw[Qj d]
 by_cases hb:b.e=0
 ·rw[Qj hb]
  rcases c with c|c
  ·omega
  ·exact absurd hb c
 ·rw[Qf hb];omega
def InR(s:jE)(x:TR):Prop:=x.2.pos<=s.length
theorem zc6{s:jE}{x y:TR}(h:zcQ s x=some y):∃b,0<=b/\zaf s x.2=b/\y.2=onR x.2/\(FewT x.1->FewT y.1)/\(NoN x.1->NoN y.1):=by
 unfold zcQ at h
 by_cases h1:zaf s x.2=42
 ·rw[Qj h1]at h
  obtain rfl:=QG h;exact⟨42,by decide,h1,rfl,zt9,zrX (by decide)⟩
 rw[Qf h1]at h
 by_cases h2:zaf s x.2=63
 ·rw[Qj h2]at h
  obtain rfl:=QG h;exact⟨63,by decide,h2,rfl,λq=>zkc q (zcH _ _),λq=>zkT (by decide) q (zcJ _ (by decide))⟩
 rw[Qf h2]at h
 by_cases a:zaf s x.2=43
 ·rw[Qj a]at h
  obtain rfl:=QG h;exact⟨43,by decide,a,rfl,λq=>zkc q (zt9 (zss q)),λq=>zkT (by decide) q (zrX (by decide) (zrY q))⟩
 ·rw[Qf a]at h;cases h
theorem zgN(s:jE):znn (InR s) (zcQ s) (ze5 s) where
 keep x y hx h:=by
  obtain⟨b,hb,c,a,_⟩:=zc6 h;unfold InR;rw[a];exact(zdf c hb).1.inn
 less x y hx h:=by
  obtain⟨b,hb,c,a,_⟩:=zc6 h;unfold ze5;rw[a];exact zru c hb
theorem zng{s:jE}{r:RS}{x y:TR}(g:zfW s r x)(h:zcQ s x=some y):zfW s r y/\x.2.pos<y.2.pos:=by
 obtain⟨b,hb,d,a,h1,h2⟩:=zc6 h;obtain⟨e,c,_⟩:=zdf d hb;refine⟨⟨?_,h1 g.few,h2 g.non⟩,by rw[a];exact c⟩;rw[a];exact g.step.trans e
theorem zjv{s:jE}{A:RS->TR}(f:ziE s A){r:RS}(h:r.pos<=s.length):zfW s r (zfN s A r)/\(r.pos<(zfN s A r).2.pos\/(zfN s A r).2.e≠0):=by
 have g:=zmj f h;unfold zfN;refine zgy (Q:=λT=>zfW s r T/\(r.pos<T.2.pos\/T.2.e≠0)) (λx y a d=>?_) g;obtain⟨c,b⟩:=zng a.1 d;exact⟨c,.inl (Nat.lt_of_le_of_lt a.1.step.le b)⟩
def zov(s:jE)(P:RS->TR):Prop:=∀r:RS,r.pos<=s.length->zfW s r (P r)/\(r.pos<(P r).2.pos\/(P r).2.e≠0)
theorem ziP{s:jE}{P:RS->TR}{x y:TR}(h:rowS s P x=some y):zgq s x.2=false/\y=(jnT x.1 (P x.2).1,(P x.2).2):=by
 unfold rowS at h;cases a:zgq s x.2 with
 |true=>rw[a,Qj rfl]at h;cases h
 |false=>rw[a,Qf (by decide)]at h;exact⟨rfl,(QG h).symm⟩
theorem zgD{s:jE}{P:RS->TR}(a:zov s P):znn (InR s) (rowS s P) (ze5 s) where
 keep x y hx h:=by
  obtain⟨_,rfl⟩:=ziP h;exact(a x.2 hx).1.step.inn
 less x y hx h:=by
  obtain⟨b,rfl⟩:=ziP h;exact ztE (a x.2 hx).1.step (zzj b) (a x.2 hx).2
theorem zoQ{s:jE}{P:RS->TR}(b:zov s P):ziE s (rowR s P):=by
 intro r h;unfold rowR;cases d:zgq s r with
 |true=>rw[Qj rfl];exact⟨Step.refl h,zcH _ _,zcJ _ (by decide)⟩
 |false=>
  rw[Qf (by decide)];refine zgy (Q:=zfW s r) (λx y a c=>?_) (b r h).1;obtain⟨_,rfl⟩:=ziP c;have:=(b x.2 a.step.inn).1;exact⟨a.step.trans this.step,zkc a.few this.few,zkT (by decide) a.non this.non⟩
theorem zhK{s:jE}{R:RS->TR}{x y:TR}(h:altS s R x=some y):zaf s x.2=124/\y=(orT x.1 (R (onR x.2)).1,(R (onR x.2)).2):=by
 unfold altS at h
 by_cases a:zaf s x.2=124
 ·rw[Qj a]at h;exact⟨a,(QG h).symm⟩
 ·rw[Qf a]at h;cases h
theorem zgb{s:jE}{R:RS->TR}(b:ziE s R):znn (InR s) (altS s R) (ze5 s) where
 keep x y hx h:=by
  obtain⟨a,rfl⟩:=zhK h;exact(b _ (zdf a (by decide)).1.inn).step.inn
 less x y hx h:=by
  obtain⟨a,rfl⟩:=zhK h;have o:=zdf a (by decide);exact Nat.lt_of_le_of_lt (zs1 (b _ o.1.inn).step) (zru a (by decide))
theorem zwm{s:jE}{R:RS->TR}(b:ziE s R):ziE s (altR s R):=by
 intro r h;unfold altR;refine zgy (Q:=zfW s r) (λx y a c=>?_) (b r h);obtain⟨d,rfl⟩:=zhK c;have o:=zdf d (by decide);have:=b _ o.1.inn;exact⟨a.step.trans (o.1.trans this.step),zkc a.few this.few,zkT (by decide) a.non this.non⟩
theorem zcT(s:jE):∀d,ziE s (altD s d)
 |0=>λr h=>⟨Step.refl h,zcH _ _,zcJ _ (by decide)⟩
 |d+1=>zwm (zoQ λr h=>zjv (zcT s d) h)
theorem zfe(s:jE)(d:Nat):zov s (zwN s d):=λ_ h=>zjv (zcT s d) h
theorem zmH(s:jE)(d:Nat):ziE s (rowD s d):=zoQ (zfe s d)
section
open Go.RowKit
theorem FourW.grown{w w':World}{g k:Nat}{S:Set4}(h:FourW w k S)(b:w.grownBy w' (some g))(a:k≠g):FourW w' k S:=(b.block k h.lt (λe=>a (QG e))).trans h
def ZeroX(w:World)(k:Nat):Prop:=w.heap[k]? = some (.cells #[jA 0,jB 0,jB 0,jB 0,jB 0,jD 0 0] 98 (0,0))
theorem ZeroX.lt{w:World}{k:Nat}(h:ZeroX w k):k<w.heap.size:=by
 rcases ZJ k w.heap.size with a|a
 ·exact a
 ·unfold ZeroX at h;simp[ZV a]at h
theorem ZeroX.grown{w w':World}{g k:Nat}(h:ZeroX w k)(b:w.grownBy w' (some g))(a:k≠g):ZeroX w' k:=(b.block k h.lt (λe=>a (QG e))).trans h
theorem ZeroX.new(w:World):ZeroX (w.alloc (.cells #[jA 0,jB 0,jB 0,jB 0,jB 0,jD 0 0] 98)) w.heap.size:=Qv w _
theorem ZeroX.cells{w:World}{k:Nat}(h:ZeroX w k):w.cell? k=some (jA 0)/\w.cell? ⟨k,1,none⟩=some (jB 0)/\w.cell? ⟨k,2,none⟩=some (jB 0)/\w.cell? ⟨k,3,none⟩=some (jB 0)/\w.cell? ⟨k,4,none⟩=some (jB 0)/\w.cell? ⟨k,5,none⟩=some (jD 0 0):=
 ⟨Qo w k 0 _ _ _ h,Qo w k 1 _ _ _ h,Qo w k 2 _ _ _ h,Qo w k 3 _ _ _ h,Qo w k 4 _ _ _ h,Qo w k 5 _ _ _ h⟩
theorem ZeroX.free{w:World}{k:Nat}(h:ZeroX w k)(j:Nat):w.frozen? ⟨k,j,none⟩=false:=by
 unfold ZeroX at h;simp[World.frozen?, h]
def PutX(w:World)(k:Nat)(cs:List Value):Prop:=w.heap[k]? = some (.cells cs.toArray 98 (0,0))
def zai(W:World)(k:Nat)(a b c d e f:Value):World:=(((((W.setCell k a).setCell ⟨k,1,none⟩ b).setCell ⟨k,2,none⟩ c).setCell ⟨k,3,none⟩ d).setCell ⟨k,4,none⟩ e).setCell ⟨k,5,none⟩ f
theorem ZeroX.fill{W:World}{k:Nat}(h:ZeroX W k)(a b c d e f:Value):PutX (zai W k a b c d e f) k [a,b,c,d,e,f]:=by
 unfold ZeroX at h;unfold PutX zai;simp only[World.setCell,Q5,h]
 rfl
theorem PutX.cells{w:World}{k:Nat}{a b c d e f:Value}(h:PutX w k [a,b,c,d,e,f]):w.cell? k=some a/\w.cell? ⟨k,1,none⟩=some b/\w.cell? ⟨k,2,none⟩=some c/\w.cell? ⟨k,3,none⟩=some d/\w.cell? ⟨k,4,none⟩=some e/\w.cell? ⟨k,5,none⟩=some f:=
 ⟨Qo w k 0 _ _ _ h,Qo w k 1 _ _ _ h,Qo w k 2 _ _ _ h,Qo w k 3 _ _ _ h,Qo w k 4 _ _ _ h,Qo w k 5 _ _ _ h⟩
theorem zbA{W w:World}{B k:Nat}(h:Below B w W)(g:B<=k)(a b c d e f:Value):Below B w (zai W k a b c d e f):=
 (((((h.setCell (p:=⟨k,0,none⟩) g _).setCell (p:=⟨k,1,none⟩) g _).setCell (p:=⟨k,2,none⟩) g _).setCell (p:=⟨k,3,none⟩) g _).setCell (p:=⟨k,4,none⟩) g _).setCell (p:=⟨k,5,none⟩) g _
theorem zdu{w wr w':World}{row:Option Nat}{k:Nat}(h:w.grownBy wr row)(c:w.heap.size<=k)(hb:Below k wr w'):w.grownBy w' row:=
 ⟨hb.os.trans h.os,hb.tape.trans h.tape,hb.output.trans h.output,Ql h.size hb.size,λi b a=>(hb.block i (by omega)).trans (h.block i b a)⟩
end
section
open Go.RowKit
mutual
def LX(w:World)(p:Nat->Prop):Tree->List Value->Prop
 |.node k s a,cs=>∃A c,cs=zap k s A a.length c/\s.Wf/\LXK w p a A
def LXK(w:World)(p:Nat->Prop):List Tree->Option Addr->Prop
 | [],_=>True
 |t::c,A=>∃b a cs,A=some ⟨b,a,none⟩/\p b/\cs.length=6/\CellsAt w b a cs/\LX w p t cs/\LXK w p c (some ⟨b,a+6,none⟩)
end
mutual
theorem LX.keep{w w':World}{p q:Nat->Prop}(d:∀b,p b->q b)(a:∀b o,p b->w'.cell? ⟨b,o,none⟩=w.cell? ⟨b,o,none⟩):∀(t:Tree) (cs:List Value),LX w p t cs->LX w' q t cs
 |.node k s f,cs,h=>by
  rw[LX]at h ⊢;obtain⟨A,c,h1,h2,e⟩:=h;exact⟨A,c,h1,h2,LXK.keep d a f A e⟩
theorem LXK.keep{w w':World}{p q:Nat->Prop}(d:∀b,p b->q b)(c:∀b o,p b->w'.cell? ⟨b,o,none⟩=w.cell? ⟨b,o,none⟩):∀(a:List Tree) (A:Option Addr),LXK w p a A->LXK w' q a A
 | [],_,_=>by rw[LXK];trivial
 |t::a,A,h=>by
  rw[LXK]at h ⊢;obtain⟨b,e,cs,h1,h2,i,f,g,k⟩:=h;exact⟨b,e,cs,h1,d b h2,i,λj l=>(c b _ h2).trans (f j l),LX.keep d c t cs g,LXK.keep d c a _ k⟩
end
mutual
theorem LX.lt{w:World}{p:Nat->Prop}{B:Nat}(a:∀b,p b->b<B):∀(t:Tree) (cs:List Value),LX w p t cs->LT w B t cs
 |.node k s d,cs,h=>by
  rw[LX]at h;rw[LT];obtain⟨A,c,h1,h2,e⟩:=h;exact⟨A,c,h1,h2,LXK.lt a d A e⟩
theorem LXK.lt{w:World}{p:Nat->Prop}{B:Nat}(c:∀b,p b->b<B):∀(a:List Tree) (A:Option Addr),LXK w p a A->LK w B a A
 | [],_,_=>by rw[LK];trivial
 |t::a,A,h=>by
  rw[LXK]at h;rw[LK];obtain⟨b,d,cs,h1,h2,i,f,g,e⟩:=h;exact⟨b,d,cs,h1,c b h2,i,f,LX.lt c t cs g,LXK.lt c a _ e⟩
end
theorem LXK.nil(w:World)(p:Nat->Prop)(A:Option Addr):LXK w p [] A:=by rw[LXK];trivial
theorem LX.leaf(w:World)(p:Nat->Prop)(k:Int)(S:Set4)(A:Option Addr)(c:Nat)(h:S.Wf):LX w p (.node k S []) (zap k S A 0 c):=by
 rw[LX];exact⟨A,c,rfl,h,LXK.nil _ _ _⟩
def ziC(a b:Nat)(x:Nat):Prop:=a<=x/\x<b
def NewX(w w':World)(t:Tree)(A:Option Addr)(c:Nat):Prop:=LX w' (ziC w.heap.size w'.heap.size) t (zap t.kind t.set A t.kids.length c)
def zjx(g:Nat)(s:ByteArray)(T:TR)(w:World)(e:Ending)(w':World):Prop:=
 ∃A c,e=jC (argX T.1 A c)/\NewX w w' T.1 A c/\RdEnd g s T.2 w w'
theorem PutX.fill{W:World}{k:Nat}{cs:List Value}(h:PutX W k cs)(hl:cs.length=6)(a b c d e f:Value):PutX (zai W k a b c d e f) k [a,b,c,d,e,f]:=by
 obtain⟨g,j,m,l,i,n,rfl⟩:=zvK hl;unfold PutX at h;unfold PutX zai;simp only[World.setCell,Q5,h]
 rfl
theorem PutX.lt{w:World}{k:Nat}{cs:List Value}(h:PutX w k cs):k<w.heap.size:=by
 rcases ZJ k w.heap.size with a|a
 ·exact a
 ·unfold PutX at h;simp[ZV a]at h
theorem PutX.free{w:World}{k:Nat}{cs:List Value}(h:PutX w k cs)(j:Nat):w.frozen? ⟨k,j,none⟩=false:=by
 unfold PutX at h;simp[World.frozen?, h]
theorem PutX.grown{w w':World}{g k:Nat}{cs:List Value}(h:PutX w k cs)(b:w.grownBy w' (some g))(a:k≠g):PutX w' k cs:=(b.block k h.lt (λe=>a (QG e))).trans h
theorem PutX.new(w:World)(cs:List Value):PutX (w.alloc (.cells cs.toArray 98)) w.heap.size cs:=Qv w _
def znA(k:Int)(d a:Tree)(p:Nat->Prop)(w:World)(e:Ending)(w':World):Prop:=
 ∃A c,e=jC (argX (.node k .zero [d,a]) A c)/\LX w' (λb=>p b\/ziC w.heap.size w'.heap.size b) (.node k .zero [d,a]) (zap k .zero A 2 c)/\w w'
theorem zg9(k:Int)(e f:Tree)(l q:Option Addr)(c1 c2:Nat)(p:Nat->Prop)(w:World)(z:∀b,p b->b<w.heap.size)
 (h1:LX w p e (zap e.kind e.set l e.kids.length c1)) (h2:LX w p f (zap f.kind f.set q f.kids.length c2)):
 Calls prog 90 #[jA k,argX e l c1,argX f q c2] w (znA k e f p w):=by
 have A:Hid (∀s r u,∀W,W=(((w.alloc s).alloc r).alloc u).alloc (.cells #[jA e.kind,jB e.set.a,jB e.set.b,jB e.set.c,jB e.set.d,.slice l e.kids.length c1,jA f.kind,jB f.set.a,jB f.set.b,jB f.set.c,jB f.set.d,.slice q f.kids.length c2] 98)->
  LXK W (λb=>p b\/ziC w.heap.size W.heap.size b) [e,f] (some ⟨w.heap.size+1+1+1,0,none⟩)/\w W):=λs r u W x=>by
  have m:w W:=by rw[x];exact(((((Qi _ _).alloc (Qd _) s).alloc (by simp) r).alloc (by simp;omega) u).alloc (by simp;omega) _)
  have B:W.heap.size=w.heap.size+1+1+1+1:=by rw[x];simp
  have g:W.heap[w.heap.size+1+1+1]? = some (.cells #[jA e.kind,jB e.set.a,jB e.set.b,jB e.set.c,jB e.set.d,.slice l e.kids.length c1,jA f.kind,jB f.set.a,jB f.set.b,jB f.set.c,jB f.set.d,.slice q f.kids.length c2] 98 (0,0)):=by
   rw[x];have:=Qv (((w.alloc s).alloc r).alloc u) (.cells #[jA e.kind,jB e.set.a,jB e.set.b,jB e.set.c,jB e.set.d,.slice l e.kids.length c1,jA f.kind,jB f.set.a,jB f.set.b,jB f.set.c,jB f.set.d,.slice q f.kids.length c2] 98)
   simpa using this
  have i:∀(t:Tree) (cs:List Value),LX w p t cs->LX W (λb=>p b\/ziC w.heap.size W.heap.size b) t cs:=λt cs h=>
   LX.keep (λb hb=>.inl hb) (λb o hb=>m.cell (p:=⟨b,o,none⟩) (z b hb)) t cs h
  have n:p (w.heap.size+1+1+1)\/ziC w.heap.size W.heap.size (w.heap.size+1+1+1):=.inr ⟨by omega,by omega⟩;refine⟨?_,m⟩;rw[LXK];refine⟨_,0,_,rfl,n,rfl,λj y=>?_,i _ _ h1,?_⟩
  ·rw[Ze,Qo W _ j _ _ _ g]
   match j,y with
   |0,_=>rfl
   |1,_=>rfl
   |2,_=>rfl
   |3,_=>rfl
   |4,_=>rfl
   |5,_=>rfl
  ·rw[LXK]
   refine⟨_,6,_,rfl,n,rfl,λj y=>?_,i _ _ h2,LXK.nil _ _ _⟩;rw[Qo W _ (6+j) _ _ _ g]
   match j,y with
   |0,_=>rfl
   |1,_=>rfl
   |2,_=>rfl
   |3,_=>rfl
   |4,_=>rfl
   |5,_=>rfl
 unfold argX;clear h1 h2 z
 go_in
 go_wp2_with fail;refine QD (v:=argX (.node k .zero [e,f]) (some ⟨w.heap.size+1+1+1,0,none⟩) 2) (by simp[results,results90,go_sem,argX,Tree.kind,Tree.set,Tree.kids,Set4.zero]) rfl ⟨_,_,rfl,?_,(A.out _ _ _ _ rfl).2⟩;rw[LX];exact⟨_,_,rfl,zbC,(A.out _ _ _ _ rfl).1⟩
structure OutSt(g:Nat)(s:ByteArray)(w:World)(k:Nat)(x:TR)(A:Option Addr)(c:Nat)(wr:World):Prop where
 rd:RdAt g s x.2 wr
 out:PutX wr k (zap x.1.kind x.1.set A x.1.kids.length c)
 tree:LX wr (λb=>w.heap.size<b/\b≠k/\b<wr.heap.size) x.1 (zap x.1.kind x.1.set A x.1.kids.length c)
 zero:ZeroX wr w.heap.size
 frame:w.grownBy wr (some g)
 far:w.heap.size<k
theorem OutSt.lt{g:Nat}{s:ByteArray}{w:World}{k:Nat}{x:TR}{A:Option Addr}{c:Nat}{wr:World}(h:OutSt g s w k x A c wr):LT wr wr.heap.size x.1 (zap x.1.kind x.1.set A x.1.kids.length c):=LX.lt (λ_ hb=>hb.2.2) _ _ h.tree
theorem OutSt.call{g:Nat}{s:ByteArray}{w:World}{k:Nat}{x:TR}{q:RS}{A:Option Addr}{c:Nat}{wr w':World}(a:g<w.heap.size)(h:OutSt g s w k x A c wr)(e:RdEnd g s q wr w'):OutSt g s w k (x.1,q) A c w':=
 ⟨e.1,h.out.grown e.2 (by have:=h.far;omega),
  LX.keep (λb hb=>⟨hb.1,hb.2.1,Qw hb.2.2 e.2.size⟩) (λb o hb=>zgv e.2 hb.2.2 (by have:=hb.1;omega)) _ _ h.tree,
  h.zero.grown e.2 (by omega),zay h.frame e.2,h.far⟩
theorem OutSt.low{g:Nat}{s:ByteArray}{w:World}{k:Nat}{x:TR}{A:Option Addr}{c:Nat}{wr w':World}(a:g<w.heap.size)(h:OutSt g s w k x A c wr)(hb:wr w'):OutSt g s w k x A c w':=
 h.call a (zfw h.rd hb)
theorem OutSt.put{g:Nat}{s:ByteArray}{w:World}{k:Nat}{x:TR}{A:Option Addr}{c:Nat}{wr:World}(q:g<w.heap.size)(h:OutSt g s w k x A c wr)(t:Tree)(j:Option Addr)(f:Nat)
 (n:LX wr (λb=>w.heap.size<b/\b≠k/\b<wr.heap.size) t (zap t.kind t.set j t.kids.length f)):
 OutSt g s w k (t,x.2) j f (zai wr k (jA t.kind) (jB t.set.a) (jB t.set.b) (jB t.set.c) (jB t.set.d) (.slice j t.kids.length f)):=by
 have h1:=h.far;have hb:Below k wr (zai wr k (jA t.kind) (jB t.set.a) (jB t.set.b) (jB t.set.c) (jB t.set.d) (.slice j t.kids.length f)):=zbA (Qi _ _) (Qd _) _ _ _ _ _ _
 have l:∀i,i≠k->(zai wr k (jA t.kind) (jB t.set.a) (jB t.set.b) (jB t.set.c) (jB t.set.d) (.slice j t.kids.length f)).heap[i]? = wr.heap[i]? := λi e=>by
  unfold zai;rw[Qm _ _ _ _ e,Qm _ _ _ _ e,Qm _ _ _ _ e,Qm _ _ _ _ e,Qm _ _ _ _ e,Qm _ _ _ _ e]
 have m:=hb.size;refine⟨(hb.block g (by omega)).trans h.rd,h.out.fill rfl _ _ _ _ _ _,LX.keep (λb hb=>⟨hb.1,hb.2.1,Qw hb.2.2 m⟩) (λb o hb=>?_) _ _ n,(hb.block _ (by omega)).trans h.zero,zdu h.frame (by omega) hb,h1⟩;simp only[World.cell?, l b hb.2.1]
theorem OutSt.done{g:Nat}{s:ByteArray}{w:World}{k:Nat}{x:TR}{A:Option Addr}{c:Nat}{wr:World}(n:g<w.heap.size)(h:OutSt g s w k x A c wr):
 PutX (zai wr w.heap.size (jA x.1.kind) (jB x.1.set.a) (jB x.1.set.b) (jB x.1.set.c) (jB x.1.set.d) (.slice A x.1.kids.length c)) w.heap.size (zap x.1.kind x.1.set A x.1.kids.length c)/\
 NewX w (zai wr w.heap.size (jA x.1.kind) (jB x.1.set.a) (jB x.1.set.b) (jB x.1.set.c) (jB x.1.set.d) (.slice A x.1.kids.length c)) x.1 A c/\
 RdEnd g s x.2 w (zai wr w.heap.size (jA x.1.kind) (jB x.1.set.a) (jB x.1.set.b) (jB x.1.set.c) (jB x.1.set.d) (.slice A x.1.kids.length c)):=by
 have hb:Below w.heap.size wr (zai wr w.heap.size (jA x.1.kind) (jB x.1.set.a) (jB x.1.set.b) (jB x.1.set.c) (jB x.1.set.d) (.slice A x.1.kids.length c)):=zbA (Qi _ _) (Qd _) _ _ _ _ _ _
 have l:∀i,i≠w.heap.size->(zai wr w.heap.size (jA x.1.kind) (jB x.1.set.a) (jB x.1.set.b) (jB x.1.set.c) (jB x.1.set.d) (.slice A x.1.kids.length c)).heap[i]? = wr.heap[i]? := λi f=>by
  unfold zai;rw[Qm _ _ _ _ f,Qm _ _ _ _ f,Qm _ _ _ _ f,Qm _ _ _ _ f,Qm _ _ _ _ f,Qm _ _ _ _ f]
 have m:=hb.size;refine⟨h.zero.fill _ _ _ _ _ _,LX.keep (λb hb=>⟨QZ hb.1,Qw hb.2.2 m⟩) (λb o hb=>?_) _ _ h.tree,(hb.block g n).trans h.rd,zdu h.frame (Qd _) hb⟩;have j:b≠w.heap.size:=λe=>by have:=hb.1;omega
 simp only[World.cell?, l b j]
end
section
open Go.RowKit
def zfT(f:Nat)(s:ByteArray)(op:Nat)(P:RS->TR):Prop:=
 ∀(g:Nat) (q:RS) (W:World),RdAt g s q W->q.pos<=s.size->q.op=op->Calls prog f #[.pointer g] W (zjx g s (P q) W)
def zia(g n:Nat)(w:World):Nat:=match w.cell? ⟨g,3,none⟩,w.cell? ⟨g,1,none⟩with
 |some (.int _ e),some (.int _ p)=>if e=0 then n-p.toNat+1 else 0
 |_,_=>0
theorem zeN{g:Nat}{s:ByteArray}{r:RS}{w:World}(h:RdAt g s r w):zia g s.size w=zbU s.data.toList r:=by
 obtain⟨_,c1,_,c3⟩:=h.cells;have a:s.data.toList.length=s.size:=by simp
 unfold zia zbU;rw[c3,c1,a]
 rfl
theorem OutSt.start{g:Nat}{s:ByteArray}{w d w2:World}{x:TR}{A:Option Addr}{c:Nat}(_:g<w.heap.size)(f:ZeroX w2 w.heap.size)(i:w.grownBy w2 (some g))(e:w.heap.size<d.heap.size)
 (k:NewX d w2 x.1 A c) (j:RdAt g s x.2 w2) (h:d.heap.size<=w2.heap.size):
 OutSt g s w w2.heap.size x A c (w2.alloc (.cells (zap x.1.kind x.1.set A x.1.kids.length c).toArray 98)):=by
 have a:w2 (w2.alloc (.cells (zap x.1.kind x.1.set A x.1.kids.length c).toArray 98)):=WaL;refine⟨j.below a,PutX.new w2 _,LX.keep (λb hb=>⟨Qw e hb.1,?_,?_⟩) (λb o hb=>a.cell (p:=⟨b,o,none⟩) hb.2) _ _ k,(a.block _ f.lt).trans f,zay i (zcn (zaZ w2 _) a),by omega⟩
 ·have:=hb.2;omega
 ·have:=hb.2;have:=a.size;omega
def zp6(g:Nat)(s:ByteArray)(w:World)(k op:Nat)(step:TR->Option TR)(R:TR)(wr:World):Prop:=
 ∃(x:TR) (A:Option Addr) (c:Nat),fixI step (ze5 s.data.toList) x=R/\x.2.pos<=s.size/\x.2.op=op/\OutSt g s w k x A c wr
theorem zsD(s:ByteArray)(op:Nat)(P:RS->TR)(_:s.size<=4096)(hP:zov s.data.toList P)(hC:zfT 129 s op P):
 zfT 88 s op (rowR s.data.toList P):=by
 intro g r w h hp hh;have hA:s.data.toList.length=s.size:=by simp
 have E:=h.lt;have h8:=hIx hC;have H:=hIx hP;obtain⟨T,G⟩:∃T,w.alloc (.cells #[jA 0,jB 0,jB 0,jB 0,jB 0,jD 0 0] 98)=T:=⟨_,rfl⟩
 have Q:w T:=by rw[<-G];exact WaL
 have O:ZeroX T w.heap.size:=by rw[<-G];exact ZeroX.new w
 have hw:w.heap.size<T.heap.size:=O.lt;have he:=h.below Q;have D:=hIx (zmR g s r T he hp);have ha:Hid (w.grownBy T (some g)):=zcn (zaZ w _) Q;have hk:=hIx O;have HR:Hid (rowR s.data.toList P r=if zgq s.data.toList r=true then (emT,r)else fixI (rowS s.data.toList P) (ze5 s.data.toList) (P r)):=rfl;have L:=hIx (hP r (by omega)).1.step;generalize hR:rowR s.data.toList P r=R at *;have hu:=hIx G;clear h hC hP Q G he O hR
 go_in
 go_upto_region 1 with fail
 rw[hu.out];cases f:zgq s.data.toList r with
 |true=>
  rw[f]at D HR;have I:Hid (R=(emT,r)):=by unfold Hid;rw[HR.out];rfl
  go_wp2_with (go_at_call 128;apply Hid.out);refine WhM D ?_;rintro e X ⟨rfl,h1⟩;have j:=hk.out.grown h1.2 (by omega);have HX:=hIx (j.fill (jA 2) (jB 0) (jB 0) (jB 0) (jB 0) (jD 0 0));have V:Below w.heap.size X (zai X w.heap.size (jA 2) (jB 0) (jB 0) (jB 0) (jB 0) (jD 0 0)):=zbA (Qi _ _) (Qd _) _ _ _ _ _ _;have hi:Hid (RdEnd g s r w (zai X w.heap.size (jA 2) (jB 0) (jB 0) (jB 0) (jB 0) (jD 0 0))):=⟨(V.block g E).trans h1.1,zdu (zay ha.out h1.2) (Qd _) V⟩
  have z0:=j.cells;have y0:=j.free;clear h1 V j;go_wp2_with fail;have ⟨s0,s1,s2,s3,s4,s5⟩:=HX.out.cells;unfold zai at s0 s1 s2 s3 s4 s5;exact QD (v:=argX emT none 0) (by simp[results,results88,go_sem,s0,s1,s2,s3,s4,s5,argX,emT,Tree.kind,Tree.set,Tree.kids,Set4.zero]) rfl (by rw[I.out];exact⟨none,0,rfl,LX.leaf _ _ _ _ _ _ zbC,hi.out⟩)
 |false=>
  rw[f]at D HR;have I:Hid (fixI (rowS s.data.toList P) (ze5 s.data.toList) (P r)=R):=by unfold Hid;rw[HR.out];rfl
  go_wp2_with (go_at_call 128;apply Hid.out);refine WhM D ?_;rintro e X ⟨rfl,h1⟩;have h0:=hIx (h8.out g r X h1.1 hp hh);have j:=hk.out.grown h1.2 (by omega);have ho:=zay ha.out h1.2;have ht:w.heap.size<X.heap.size:=j.lt;have N:=hIx (And.intro j ho);clear h1 j ho;go_wp2_with (go_at_call 129;apply Hid.out);refine WhM h0 ?_;rintro e w2 ⟨A,c,rfl,hj,h2⟩
  have HO:Hid (OutSt g s w w2.heap.size (P r) A c (w2.alloc (.cells #[jA (P r).1.kind,jB (P r).1.set.a,jB (P r).1.set.b,jB (P r).1.set.c,jB (P r).1.set.d,.slice A (P r).1.kids.length c] 98))):=
   OutSt.start E (N.out.1.grown h2.2 (by omega)) (zay N.out.2 h2.2) ht hj h2.1 h2.2.size
  have u:(P r).2.pos<=s.size:=by have:=L.out.inn;omega
  have B:(P r).2.op=op:=L.out.op.trans hh;clear hj h2 L h0 N HR;generalize P r=x at *;unfold argX;go_upto_region 4 with fail
  generalize w2.alloc (.cells #[jA x.1.kind,jB x.1.set.a,jB x.1.set.b,jB x.1.set.c,jB x.1.set.d,.slice A x.1.kids.length c] 98)=W3 at *;generalize w2.heap.size=k at *;have HS:Hid (zp6 g s w k op (rowS s.data.toList P) R W3):=⟨x,A,c,I.out,u,B,HO.out⟩
  clear HO u B I f
  go_loopw [9] (λ_ wr=>zp6 g s w k op (rowS s.data.toList P) R wr) (λ_ wr=>zia g s.size wr)
  case atStart=>exact HS.out
  case round=>
   obtain⟨x,A,c,hx,u,B,Z⟩:=hrel;have HM:=hIx (zeN Z.rd);have HE:=hIx (zmR g s x.2 wr Z.rd u);have HO:=hIx Z;have t:InR s.data.toList x:=by unfold InR;omega
   cases f:zgq s.data.toList x.2 with
   |true=>
    rw[f]at HE
    have hq:Hid (R=x):=by
     unfold Hid;rw[<-hx,zhl (zgD H.out) t (by unfold rowS;rw[f];rfl)]
    clear hx Z HM t f;go_wp2_with (go_at_call 128;apply Hid.out);refine WhM HE ?_;rintro e K ⟨rfl,h4⟩;have z:=HO.out.call E h4;have HD:=hIx (OutSt.done E z);have o0:=(show PutX K k [_,_,_,_,_,_]from z.out).cells;have z0:=z.zero.cells;have y0:=z.zero.free;clear h4 z;go_wp2_with fail;obtain⟨d1,d2,d3⟩:=HD.out;have ⟨s0,s1,s2,s3,s4,s5⟩:=(show PutX _ w.heap.size [_,_,_,_,_,_]from d1).cells;unfold zai at s0 s1 s2 s3 s4 s5;exact QD (v:=argX x.1 A c) (by simp[results,results88,go_sem,s0,s1,s2,s3,s4,s5,argX]) rfl (by rw[hq.out];exact⟨A,c,rfl,d2,d3⟩)
   |false=>
    rw[f]at HE;have J:Hid (rowS s.data.toList P x=some (jnT x.1 (P x.2).1,(P x.2).2)):=by unfold Hid rowS;rw[f];rfl
    have U:Hid (fixI (rowS s.data.toList P) (ze5 s.data.toList) (jnT x.1 (P x.2).1,(P x.2).2)=R):=by unfold Hid;rw[<-hx];exact(zic (zgD H.out) t J.out).symm
    have S:Hid (zbU s.data.toList (P x.2).2<zbU s.data.toList x.2):=(zgD H.out).less x (jnT x.1 (P x.2).1,(P x.2).2) t J.out;have F:=hIx (H.out x.2 t).1.step;clear hx Z t f;go_wp2_with (go_at_call 128;apply Hid.out);refine WhM HE ?_;rintro e K ⟨rfl,h4⟩;have z:=HO.out.call E h4;have h9:Hid (∀W,K W->Calls prog 129 #[.pointer g] W (zjx g s (P x.2) W)):=λW hW=>h8.out g x.2 W (z.rd.below hW) u B
    have H5:=hIx z;have o0:=(show PutX K k [_,_,_,_,_,_]from z.out).cells;have f0:=z.out.free;clear h4 z;have hB:k<K.heap.size:=H5.out.out.lt;have hz:w.heap.size<k:=H5.out.far;obtain⟨y,hy⟩:∃y,P x.2=y:=⟨_,rfl⟩
    rw[hy]at h9 J U S F
    have hr:Hid (∀(Y:Option Addr) (c4:Nat) (W C:World),K W->NewX W C y.1 Y c4->RdEnd g s y.2 W C->
     OutSt g s w k (x.1,y.2) A c C/\Calls prog 90 #[jA 4,.agg #[jA x.1.kind,jB x.1.set.a,jB x.1.set.b,jB x.1.set.c,jB x.1.set.d,.slice A x.1.kids.length c],.agg #[jA y.1.kind,jB y.1.set.a,jB y.1.set.b,jB y.1.set.c,jB y.1.set.d,.slice Y y.1.kids.length c4]] C
      (λe m=>∃n q,e=jC (argX (jnT x.1 y.1) n q)/\OutSt g s w k (x.1,y.2) A c m/\LX m (λb=>w.heap.size<b/\b≠k/\b<m.heap.size) (jnT x.1 y.1) (zap 4 .zero n 2 q))):=λY c4 W C hW hn h6=>by
     have l:=(H5.out.low E hW).call E h6;refine⟨l,(zg9 4 x.1 y.1 A Y c c4 (λb=>w.heap.size<b/\b≠k/\b<C.heap.size) C (λb hb=>hb.2.2) l.tree (LX.keep (λb hb=>⟨by have:=hb.1;have:=hW.size;omega,by have:=hb.1;have:=hW.size;omega,hb.2⟩) (λ_ _ _=>rfl) _ _ hn)).mono ?_⟩;rintro e m ⟨n,q,rfl,o,hm⟩;refine⟨n,q,rfl,l.low E hm,LX.keep (λb hb=>?_) (λ_ _ _=>rfl) _ _ o⟩;have h1:=l.out.lt;have h2:=hm.size
     rcases hb with hb|hb
     ·exact⟨hb.1,hb.2.1,by omega⟩
     ·have:=hb.1;have:=hb.2;exact⟨by omega,by omega,hb.2⟩
    have hf:Hid (∀n q m,OutSt g s w k (x.1,y.2) A c m->LX m (λb=>w.heap.size<b/\b≠k/\b<m.heap.size) (jnT x.1 y.1) (zap 4 .zero n 2 q)->
     zp6 g s w k op (rowS s.data.toList P) R (zai m k (jA (jnT x.1 y.1).kind) (jB (jnT x.1 y.1).set.a) (jB (jnT x.1 y.1).set.b) (jB (jnT x.1 y.1).set.c) (jB (jnT x.1 y.1).set.d) (.slice n (jnT x.1 y.1).kids.length q))/\
     zia g s.size (zai m k (jA (jnT x.1 y.1).kind) (jB (jnT x.1 y.1).set.a) (jB (jnT x.1 y.1).set.b) (jB (jnT x.1 y.1).set.c) (jB (jnT x.1 y.1).set.d) (.slice n (jnT x.1 y.1).kids.length q))<zia g s.size wr):=λn q m h7 o=>by
     have hp:=h7.put E (jnT x.1 y.1) n q o;refine⟨⟨_,n,q,U.out,?_,?_,hp⟩,?_⟩
     ·have:=F.out.inn;show y.2.pos<=_;omega
     ·exact F.out.op.trans B
     ·rw[HM.out];rw[zeN hp.rd];exact S.out
    clear hy HM F S U J;go_upto_region 5 with fail
    go_region_with (first
     |(go_at_call 129;(with_reducible refine(h9.out _ ?_).mono ?_);(first|exact Qi _ _|exact(Qi _ _).drew);rintro e C ⟨Y,c4,rfl,hc,h6⟩;obtain⟨l,h3⟩:=hr.out Y c4 _ C (by first|exact Qi _ _|exact(Qi _ _).drew) hc h6;have hv:=hIx h3;have ⟨o0,o1,o2,o3,o4,o5⟩:=(show PutX C k [_,_,_,_,_,_]from l.out).cells;clear hc h6 h3 l;unfold argX)
     |(go_at_call 90;(refine hv.out.mono ?_);rintro e m ⟨n,q,rfl,i,o⟩;have f0:=i.out.free 0;have f1:=i.out.free 1;have f2:=i.out.free 2;have f3:=i.out.free 3;have f4:=i.out.free 4;have f5:=i.out.free 5;have ⟨o0,o1,o2,o3,o4,o5⟩:=(show PutX m k [_,_,_,_,_,_]from i.out).cells;have hd:=hIx (hf.out n q m i o);clear i o;unfold argX))
    all_goals go_roundw
    all_goals first
     |exact hd.out.2
     |((repeat apply Exists.intro);exact⟨hd.out.1,rfl⟩)
     |fail "row"
end
section
open Go.RowKit
theorem zt2(s:ByteArray)(op:Nat)(P:RS->TR)(hs:s.size<=4096)(hP:ziE s.data.toList P)(hC:zfT 88 s op P):
 zfT 61 s op (altR s.data.toList P):=by
 intro g r w h hp ha;have hr:s.data.toList.length=s.size:=by simp
 have G:=h.lt;have hj:=hIx hC;have E:=hIx hP;obtain⟨H,D⟩:∃H,w.alloc (.cells #[jA 0,jB 0,jB 0,jB 0,jB 0,jD 0 0] 98)=H:=⟨_,rfl⟩
 have N:w H:=by rw[<-D];exact WaL
 have L:ZeroX H w.heap.size:=by rw[<-D];exact ZeroX.new w
 have hk:w.heap.size<H.heap.size:=L.lt;have X:=hIx (hC g r H (h.below N) hp ha);have K:Hid (ZeroX H w.heap.size/\w.grownBy H (some g)):=⟨L,zcn (zaZ w _) N⟩
 have he:Hid (fixI (altS s.data.toList P) (ze5 s.data.toList) (P r)=altR s.data.toList P r):=rfl;have J:=hIx (hP r (by omega)).step;generalize hR:altR s.data.toList P r=R at *;have hm:=hIx D;clear h hC hP N D L hR
 go_in
 go_upto_region 1 with fail
 rw[hm.out];go_wp2_with (go_at_call 88;apply Hid.out);refine WhM X ?_;rintro e w2 ⟨A,c,rfl,hc,h2⟩
 have Y:Hid (OutSt g s w w2.heap.size (P r) A c (w2.alloc (.cells #[jA (P r).1.kind,jB (P r).1.set.a,jB (P r).1.set.b,jB (P r).1.set.c,jB (P r).1.set.d,.slice A (P r).1.kids.length c] 98))):=
  OutSt.start G (K.out.1.grown h2.2 (by omega)) (zay K.out.2 h2.2) hk hc h2.1 h2.2.size
 have B:(P r).2.pos<=s.size:=by have:=J.out.inn;omega
 have t:(P r).2.op=op:=J.out.op.trans ha;clear hc h2 J X K;generalize P r=x at *;unfold argX;go_upto_region 2 with fail
 generalize w2.alloc (.cells #[jA x.1.kind,jB x.1.set.a,jB x.1.set.b,jB x.1.set.c,jB x.1.set.d,.slice A x.1.kids.length c] 98)=W3 at *;generalize w2.heap.size=k at *;have HS:Hid (zp6 g s w k op (altS s.data.toList P) R W3):=⟨x,A,c,he.out,B,t,Y.out⟩
 clear Y B t he
 go_loopw [6] (λ_ wr=>zp6 g s w k op (altS s.data.toList P) R wr) (λ_ wr=>zia g s.size wr)
 case atStart=>exact HS.out
 case round=>
  obtain⟨x,A,c,hx,B,t,U⟩:=hrel;have HM:=hIx (zeN U.rd);have HE:=hIx (zdR g s x.2 124 wr U.rd B hs);have Y:=hIx U;have u:InR s.data.toList x:=by unfold InR;omega
  by_cases f:zaf s.data.toList x.2=124
  rotate_left
  ·have T:zaR s.data.toList x.2 124=(false,x.2):=by unfold zaR;rw[Qf f]
   rw[T]at HE
   have hf:Hid (R=x):=by
    unfold Hid;rw[<-hx,zhl (zgb E.out) u (by unfold altS;rw[Qf f])]
   clear hx U HM u f T;go_wp2_with (go_at_call 89;apply Hid.out);refine WhM HE ?_;rintro e I ⟨rfl,h4⟩;have q:=Y.out.call G h4;have HD:=hIx (OutSt.done G q);have o0:=(show PutX I k [_,_,_,_,_,_]from q.out).cells;have z0:=q.zero.cells;have y0:=q.zero.free;clear h4 q;go_wp2_with fail;obtain⟨d1,d2,d3⟩:=HD.out;have ⟨s0,s1,s2,s3,s4,s5⟩:=(show PutX _ w.heap.size [_,_,_,_,_,_]from d1).cells;unfold zai at s0 s1 s2 s3 s4 s5;exact QD (v:=argX x.1 A c) (by simp[results,results61,go_sem,s0,s1,s2,s3,s4,s5,argX]) rfl (by rw[hf.out];exact⟨A,c,rfl,d2,d3⟩)
  ·have T:zaR s.data.toList x.2 124=(true,onR x.2):=by unfold zaR;rw[Qj f];rfl
   rw[T]at HE;have hh:(onR x.2).pos<=s.data.toList.length:=(zdf f (by decide)).1.inn;have V:(onR x.2).pos<=s.size:=by omega
   have F:Hid (altS s.data.toList P x=some (orT x.1 (P (onR x.2)).1,(P (onR x.2)).2)):=by unfold Hid altS;rw[Qj f]
   have Q:Hid (fixI (altS s.data.toList P) (ze5 s.data.toList) (orT x.1 (P (onR x.2)).1,(P (onR x.2)).2)=R):=by unfold Hid;rw[<-hx];exact(zic (zgb E.out) u F.out).symm
   have O:Hid (zbU s.data.toList (P (onR x.2)).2<zbU s.data.toList x.2):=(zgb E.out).less x (orT x.1 (P (onR x.2)).1,(P (onR x.2)).2) u F.out;have C:=hIx (E.out (onR x.2) hh).step;clear hx U u f T;go_wp2_with (go_at_call 89;apply Hid.out);refine WhM HE ?_;rintro e I ⟨rfl,h4⟩;have q:=Y.out.call G h4;have h0:Hid (∀W,I W->Calls prog 88 #[.pointer (some ⟨g,0,none⟩)] W (zjx g s (P (onR x.2)) W)):=λW hW=>hj.out g (onR x.2) W (q.rd.below hW) V t
   have H5:=hIx q;have o0:=(show PutX I k [_,_,_,_,_,_]from q.out).cells;have f0:=q.out.free;clear h4 q;have hu:k<I.heap.size:=H5.out.out.lt;have hq:w.heap.size<k:=H5.out.far;obtain⟨y,hy⟩:∃y,P (onR x.2)=y:=⟨_,rfl⟩
   rw[hy]at h0 F Q O C
   have hi:Hid (∀(S:Option Addr) (c4:Nat) (W z:World),I W->NewX W z y.1 S c4->RdEnd g s y.2 W z->
    OutSt g s w k (x.1,y.2) A c z/\Calls prog 90 #[jA 5,.agg #[jA x.1.kind,jB x.1.set.a,jB x.1.set.b,jB x.1.set.c,jB x.1.set.d,.slice A x.1.kids.length c],.agg #[jA y.1.kind,jB y.1.set.a,jB y.1.set.b,jB y.1.set.c,jB y.1.set.d,.slice S y.1.kids.length c4]] z
     (λe l=>∃m o,e=jC (argX (orT x.1 y.1) m o)/\OutSt g s w k (x.1,y.2) A c l/\LX l (λb=>w.heap.size<b/\b≠k/\b<l.heap.size) (orT x.1 y.1) (zap 5 .zero m 2 o))):=λS c4 W z hW hn h6=>by
    have j:=(H5.out.low G hW).call G h6;refine⟨j,(zg9 5 x.1 y.1 A S c c4 (λb=>w.heap.size<b/\b≠k/\b<z.heap.size) z (λb hb=>hb.2.2) j.tree (LX.keep (λb hb=>⟨by have:=hb.1;have:=hW.size;omega,by have:=hb.1;have:=hW.size;omega,hb.2⟩) (λ_ _ _=>rfl) _ _ hn)).mono ?_⟩;rintro e l ⟨m,o,rfl,n,hd⟩;refine⟨m,o,rfl,j.low G hd,LX.keep (λb hb=>?_) (λ_ _ _=>rfl) _ _ n⟩;have h1:=j.out.lt;have h2:=hd.size
    rcases hb with hb|hb
    ·exact⟨hb.1,hb.2.1,by omega⟩
    ·have:=hb.1;have:=hb.2;exact⟨by omega,by omega,hb.2⟩
   have h9:Hid (∀m o l,OutSt g s w k (x.1,y.2) A c l->LX l (λb=>w.heap.size<b/\b≠k/\b<l.heap.size) (orT x.1 y.1) (zap 5 .zero m 2 o)->
    zp6 g s w k op (altS s.data.toList P) R (zai l k (jA (orT x.1 y.1).kind) (jB (orT x.1 y.1).set.a) (jB (orT x.1 y.1).set.b) (jB (orT x.1 y.1).set.c) (jB (orT x.1 y.1).set.d) (.slice m (orT x.1 y.1).kids.length o))/\
    zia g s.size (zai l k (jA (orT x.1 y.1).kind) (jB (orT x.1 y.1).set.a) (jB (orT x.1 y.1).set.b) (jB (orT x.1 y.1).set.c) (jB (orT x.1 y.1).set.d) (.slice m (orT x.1 y.1).kids.length o))<zia g s.size wr):=λm o l h7 n=>by
    have hp:=h7.put G (orT x.1 y.1) m o n;refine⟨⟨_,m,o,Q.out,?_,?_,hp⟩,?_⟩
    ·have:=C.out.inn;show y.2.pos<=_;omega
    ·exact C.out.op.trans t
    ·rw[HM.out];rw[zeN hp.rd];exact O.out
   clear hy HM C O Q F;go_upto_region 3 with fail
   go_region_with (first
    |(go_at_call 88;(with_reducible refine(h0.out _ ?_).mono ?_);(first|exact Qi _ _|exact(Qi _ _).drew);rintro e z ⟨S,c4,rfl,h3,h6⟩;obtain⟨j,Z⟩:=hi.out S c4 _ z (by first|exact Qi _ _|exact(Qi _ _).drew) h3 h6;have ho:=hIx Z;have ⟨o0,o1,o2,o3,o4,o5⟩:=(show PutX z k [_,_,_,_,_,_]from j.out).cells;clear h3 h6 Z j;unfold argX)
    |(go_at_call 90;(refine ho.out.mono ?_);rintro e l ⟨m,o,rfl,i,n⟩;have f0:=i.out.free 0;have f1:=i.out.free 1;have f2:=i.out.free 2;have f3:=i.out.free 3;have f4:=i.out.free 4;have f5:=i.out.free 5;have ⟨o0,o1,o2,o3,o4,o5⟩:=(show PutX l k [_,_,_,_,_,_]from i.out).cells;have h8:=hIx (h9.out m o l i n);clear i n;unfold argX))
   all_goals go_roundw
   all_goals first
    |exact h8.out.2
    |((repeat apply Exists.intro);exact⟨h8.out.1,rfl⟩)
    |fail "row"
end
