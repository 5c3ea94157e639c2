/- Lemmas for the last texts. -/
import Derived.Test.YtnnokglddolglaaGreatDoorM36
set_option maxHeartbeats 3200000
set_option maxRecDepth 100000
namespace Go.Proofs.YtnnokglddolglaaGreatDoor
open Go.RowKit Go.Proofs.Tryz
def zzI(w:World)(s:ByteArray)(m:Int)(wr:World):Prop:=
 ∃(k:Nat) (v:Value) (a:jE),k<=s.size/\a.length<=k/\(a.length:Int)<=m/\Rd wr w.heap.size w.heap.size s (k:Int) m v a/\w wr/\
  zbe s.data.toList m=preT a k (zbe (s.data.toList.drop k) (m-a.length))
theorem ztK{l:jE}{room:Int}(h:(zaj l room).e=0):0<=(zaj l room).n/\(zaj l room).n<=l.length:=by
 obtain⟨a,d,r,o⟩:=zeA h;have e:=zch a d r room o.dig o.lo o.hi o.n o.room;rw[<-o.e]at e;have f:=(zk6 h).2.2.1;have h1:=(zk6 h).1;have b:(zaj l room).d.length<=(zaj l room).c:=by rw[e];show d.length<=a.length+2+d.length+2;omega
 omega
theorem zuR{l:jE}{room:Int}(h:(zaj l room).e=0):(zaj l room).d.length<=(zaj l room).c:=by
 obtain⟨a,d,r,o⟩:=zeA h;have e:=zch a d r room o.dig o.lo o.hi o.n o.room;rw[<-o.e]at e;rw[e];show d.length<=a.length+2+d.length+2
 omega
theorem zo1(l:jE)(room:Int):(zaj l room).n=0\/(0<=(zaj l room).n/\(zaj l room).n<=room/\(zaj l room).n<=l.length):=by
 rw[zom]
 by_cases c0:(zaD l).e≠0
 ·rw[Qg c0];exact .inl rfl
 ·rw[Qe c0]
  have a:=zwE (Z2.1 c0)
  by_cases c1:room<(zaD l).n
  ·rw[Qg c1];exact .inl rfl
  ·rw[Qe c1]
   by_cases c2:(l.length:Int)-(zaD l).c<(zaD l).n
   ·rw[Qg c2];exact .inl rfl
   ·rw[Qe c2];right;dsimp only;omega
def zzs(s:ByteArray)(m:Int):Prop:=(s.size<=140737488355328\/∃t k,zbe s.data.toList m=.inr (t,k)/\t.length<=140737488355328)\/m<=140737488355328
theorem ztV{s:ByteArray}{m:Int}(h:zzs s m){k:Nat}{a:jE}(C:k<=s.size)(A:a.length<=k)(x:(a.length:Int)<=m)
 (f:zbe s.data.toList m=preT a k (zbe (s.data.toList.drop k) (m-a.length))):
 (a.length:Int)+(zaj (s.data.toList.drop k) (m-a.length)).n<=140737488355328:=by
 have hl:(s.data.toList.drop k).length=s.size-k:=by rw[QM,Zy];rfl
 rcases h with (h|⟨t,D,w,y⟩)|h
 ·by_cases o:(zaj (s.data.toList.drop k) (m-a.length)).e=0
  ·have h1:=ztK o
   rw[hl]at h1;omega
  ·rcases zo1 (s.data.toList.drop k) (m-a.length)with g|⟨g,h1,h2⟩
   ·rw[g];omega
   ·rw[hl]at h2;omega
 ·rw[w]at f
  cases b:zbe (s.data.toList.drop k) (m-a.length)with
  |inl e=>rw[b]at f;cases f
  |inr p=>
   obtain⟨q,E⟩:=p;rw[b]at f;injection f with f
   injection f with j z
   have o:(zaj (s.data.toList.drop k) (m-a.length)).e=0:=by
    refine Classical.byContradiction λl=>?_
    rw[ziG _ _ l]at b;cases b
   have B:=(zk6 o).2.2.1
   by_cases l:(zaj (s.data.toList.drop k) (m-a.length)).n=0
   ·rw[l]
    have:t.length=a.length+q.length:=by rw[j,Qa]
    omega
   ·rw[zd5 _ _ o l]at b
    cases i:zbe ((s.data.toList.drop k).drop (zaj (s.data.toList.drop k) (m-a.length)).c) (m-a.length-(zaj (s.data.toList.drop k) (m-a.length)).n)with
    |inl e=>rw[i]at b;cases b
    |inr u=>
     rw[i]at b;injection b with b
     injection b with r v
     have h1:t.length=a.length+q.length:=by rw[j,Qa]
     have h2:q.length=(zaj (s.data.toList.drop k) (m-a.length)).d.length+u.1.length:=by rw[<-r,Qa]
     omega
 ·rcases zo1 (s.data.toList.drop k) (m-a.length)with g|⟨g,h1,h2⟩
  ·rw[g];omega
  ·omega
def zlQ:Told->Value
 |.inl e=>.tuple #[.string (bs []),jA 0,jA e]
 |.inr (t,k)=>.tuple #[.string (bs t),jA (k:Int),jA 0]
theorem zqX(w:World)(s:ByteArray)(m:Int)(U:s.size<=4611686018427387904)(t:zzs s (max m 0))(T:m<=9223372036854775807):
 Calls prog 94 #[.string s,jA m] w (zeO (zlQ (zbe s.data.toList (max m 0))) w):=by
 have t:=hIx t;have A:0<=max m 0:=by omega
 have F:max m 0<=9223372036854775807:=by omega
 go_in
 go_wp2
 go_loopw [] (λwr=>zzI w s (max m 0) wr) (λwr=>s.size-atOf w.heap.size wr)
 case atStart=>
  refine⟨0,jD 0 0,[],Qm _,Qc _,A,⟨Qt w _,OwnB.nil _ _,Qc _⟩,WaL,?_⟩;cases h:zbe s.data.toList (max m 0)with
  |inl e=>simp[h,preT]
  |inr p=>simp[h,preT]
 case round=>
  obtain⟨k,v,g,L,C,D,H,x,J⟩:=hrel;have j:=zrE wr w.heap.size w.heap.size s k (max m 0) v g H U L x.size A F C (ztV t.out L C D J);have E:=H.atOf;have G:=hIx J;clear J;obtain⟨P,Q⟩:∃P,zaj (s.data.toList.drop k) (max m 0-g.length)=P:=⟨_,rfl⟩
  have f:=ziG (s.data.toList.drop k) (max m 0-g.length);have b:=ziL (s.data.toList.drop k) (max m 0-g.length);have a:=zd5 (s.data.toList.drop k) (max m 0-g.length);have o:=λh=>zk6 (l:=s.data.toList.drop k) (room:=max m 0-g.length) h
  have r:=λh=>zuR (l:=s.data.toList.drop k) (room:=max m 0-g.length) h
  rw[Q]at j f b a o r;clear Q H;obtain⟨n,e,c,d⟩:=P;dsimp only at f b a o r;unfold zdn at j;dsimp only at j
  by_cases y:e≠0
  ·have X:(e != 0)=true:=Q7.2 y
   have z:=hIx (f y);clear f b a o y r;go_wp2_with (go_at_call 129;refine j.mono ?_;rintro O K ⟨rfl,⟨v',i⟩,u⟩)
   go_ret3
   exact⟨by rw[G.out,z.out];rfl,x.trans u⟩
  ·have y:=Z2.1 y
   subst y;have ⟨c1,c2,c3,c4⟩:=o rfl;have c5:=r rfl;rw[QM,Zy]at c1;have c1:c<=s.size-k:=c1
   by_cases B:n=0
   ·have z:=hIx (b rfl B)
    have I:d=[]:=QA (by omega);subst I;have S:(n==0)=true:=Zo.2 B;rw[QE]at j;clear f b a o B c3 c4 c5 r;go_wp2_with (go_at_call 129;refine j.mono ?_;rintro O K ⟨rfl,⟨v',i⟩,u⟩);have h1:=i.c1;have W:=i.c3;have V:=λq=>(i.drewN q).own.string
    have N:=i.own.string
    go_quiet (fail)
    go_wp2
    go_ret3
    exact⟨by rw[G.out,z.out];simp[preT,zlQ],x.trans (below_drewN u nq)⟩
   ·have z:=hIx (a rfl B)
    have S:(n==0)=false:=Qb.2 B;clear f b a o r;go_wp2_with (go_at_call 129;refine j.mono ?_;rintro O K ⟨rfl,⟨v',i⟩,u⟩)
    exact⟨⟨k+c,v',g++d,by omega,by rw[Qa];omega,by rw[Qa];omega,i,x.trans u,
     by rw[G.out,z.out,zts,Zz,Qa];congr 2;omega⟩,by rw[i.atOf,E];omega⟩
def bndE(H B A:Int):Int:=if zbk H B A=true then 0 else 1
theorem zkc(H B A:Int)(w:World):
 Calls prog 40 #[.agg #[jA H,jA B,jA A]] w λe w'=>e=jC (jA (bndE H B A))/\w w':=by
 have hb:w (w.alloc (.cells #[jA H,jA B,jA A] 58)):=WaL;have a:zbk H B A=false->bndE H B A=1:=λh=>by unfold bndE;rw[h];rfl
 by_cases c1:H<30
 ·have b:=hIx (a (by unfold zbk;rw[Qq (by omega:¬30<=H)];rfl))
  have g:decide (H<30)=true:=Qu c1;clear a c1
  go_in
  go_wp2;go_ret;exact⟨zac b.out.symm,hb⟩
 have g:decide (H<30)=false:=Qq c1
 by_cases c2:4096<H
 ·have b:=hIx (a (by unfold zbk;rw[Qq (by omega:¬H<=4096)];simp))
  have d:decide (4096<H)=true:=Qu c2;clear a c1 c2
  go_in
  go_wp2;go_ret;exact⟨zac b.out.symm,hb⟩
 have d:decide (4096<H)=false:=Qq c2
 by_cases c3:B<0
 ·have b:=hIx (a (by unfold zbk;rw[Qq (by omega:¬0<=B)];simp))
  have f:decide (B<0)=true:=Qu c3;clear a c1 c2 c3
  go_in
  go_wp2;go_ret;exact⟨zac b.out.symm,hb⟩
 have f:decide (B<0)=false:=Qq c3
 by_cases c4:4096<B
 ·have b:=hIx (a (by unfold zbk;rw[Qq (by omega:¬B<=4096)];simp))
  have k:decide (4096<B)=true:=Qu c4;clear a c1 c2 c3 c4
  go_in
  go_wp2;go_ret;exact⟨zac b.out.symm,hb⟩
 have k:decide (4096<B)=false:=Qq c4
 by_cases c5:A<1
 ·have b:=hIx (a (by unfold zbk;rw[Qq (by omega:¬1<=A)];simp))
  have j:decide (A<1)=true:=Qu c5;clear a c1 c2 c3 c4 c5
  go_in
  go_wp2;go_ret;exact⟨zac b.out.symm,hb⟩
 have j:decide (A<1)=false:=Qq c5
 by_cases c:40<A
 ·have b:=hIx (a (by unfold zbk;rw[Qq (by omega:¬A<=40)];simp))
  have i:decide (40<A)=true:=Qu c;clear a c1 c2 c3 c4 c5 c
  go_in
  go_wp2;go_ret;exact⟨zac b.out.symm,hb⟩
 have i:decide (40<A)=false:=Qq c
 have b:Hid (bndE H B A=0):=by
  unfold Hid bndE;rw[Qg];unfold zbk;simp only[QU,QY];omega
 clear a c1 c2 c3 c4 c5 c
 go_in
 go_wp2;go_ret;exact⟨zac b.out.symm,hb⟩
theorem zkF(N B:Int)(l:jE):zb8 (2,N,0) l B=if B<N then .inl 6 else if (l.length:Int)<N then .inl 7 else .inr (l.take N.toNat,N.toNat):=by
 unfold zb8;rw[Qe (λh=>h rfl),Qe (show ¬(2:Int)=1 by decide),Qe (show ¬(2:Int)=3 by decide)]
theorem zrb(h:za3)(A:Option Addr)(c:Nat)(s:ByteArray)(B:Int)(w:World)(u:Sl w w.heap.size 2 A h.fs.length (h.fs.flatMap zaA))
 (D:∀f∈h.fs,f.1.size<=maxLen/\f.2.size<=maxLen) (hl:h.fs.length<=4398046511104) (z:s.size<=4611686018427387904) (Q:B<=140737488355328):
 Calls prog 61 #[.agg #[.string h.m,.string h.t,.slice A h.fs.length c],.string s,jA B] w λe w'=>e=jC (zlQ (zb8 (zam h) s.data.toList B))/\w w':=by
 have o:w (w.alloc (.cells #[.string h.m,.string h.t,.slice A h.fs.length c] 27)):=WaL;have d:=hIx (zs1 h.m h.t A h.fs.length c h.fs (w.alloc (.cells #[.string h.m,.string h.t,.slice A h.fs.length c] 27)) rfl ((u.below o).more o.size) (λf u=>(D f u).1) (λf u=>(D f u).2) hl);have H:=zhD (getL h.fs clen) (getL h.fs tenc);have q:Hid (zam h=ofL (getL h.fs clen) (getL h.fs tenc)):=rfl;unfold zkm at d;generalize ofL (getL h.fs clen) (getL h.fs tenc)=r at *;have j:s.data.toList.length=s.size:=by simp
 have n:=λW=>hIx (zqX W s B z (.inr (by omega)) (by omega))
 obtain⟨K,N,E⟩:=r;dsimp only at H;have i:=hIx o;clear u D hl o z
 rcases H with rfl|⟨rfl,rfl|rfl|⟨rfl,h1,h2⟩⟩
 ·have l:Hid (zb8 (zam h) s.data.toList B=.inl 4):=by unfold Hid zb8;rw[q.out];rfl
  unfold ofV at d;dsimp only at d;clear n j
  go_in
  go_wp2_with fail;refine d.out.mono ?_;rintro e v ⟨rfl,a⟩;have b:=a.alloc a.size (.cells #[jA K,jA N] 114);have g:=i.out.trans (b.mono i.out.size);clear a b;go_wp2
  go_ret3
  exact⟨by rw[l.out];rfl,g⟩
 ·have l:Hid (zb8 (zam h) s.data.toList B=.inr ([],0)):=by unfold Hid zb8;rw[q.out];rfl
  unfold ofV at d;dsimp only at d;clear n j
  go_in
  go_wp2_with fail;refine d.out.mono ?_;rintro e v ⟨rfl,a⟩;have b:=a.alloc a.size (.cells #[jA 1,jA N] 114);have g:=i.out.trans (b.mono i.out.size);clear a b;go_wp2
  go_ret3
  exact⟨by rw[l.out];rfl,g⟩
 ·have l:Hid (zb8 (zam h) s.data.toList B=zbe s.data.toList (max B 0)):=by unfold Hid zb8;rw[q.out];rfl
  unfold ofV at d;dsimp only at d;clear j
  go_in
  go_wp2_with fail;refine d.out.mono ?_;rintro e v ⟨rfl,a⟩;have b:=a.alloc a.size (.cells #[jA 3,jA N] 114);have g:=i.out.trans (b.mono i.out.size);clear a b;go_wp2_with fail;refine(n _).out.mono ?_;rintro e w2 ⟨rfl,C⟩;have y:=g.trans (C.mono g.size);clear g C;rw[<-l.out];cases F:zb8 (zam h) s.data.toList B with
  |inl x=>
   unfold zlQ;go_wp2
   go_ret3
   exact⟨by rw[F];rfl,y⟩
  |inr p=>
   obtain⟨t,k⟩:=p;unfold zlQ;go_wp2
   go_ret3
   exact⟨by rw[F];rfl,y⟩
 ·unfold ofV at d
  dsimp only at d;clear n
  by_cases c1:B<N
  ·have l:Hid (zb8 (zam h) s.data.toList B=.inl 6):=by unfold Hid;rw[q.out,zkF,Qg c1]
   have J:decide (B<N)=true:=Qu c1;clear c1 j
   go_in
   go_wp2_with fail;refine d.out.mono ?_;rintro e v ⟨rfl,a⟩;have b:=a.alloc a.size (.cells #[jA 2,jA N] 114);have g:=i.out.trans (b.mono i.out.size);clear a b;go_wp2
   go_ret3
   exact⟨by rw[l.out];rfl,g⟩
  have J:decide (B<N)=false:=Qq c1
  by_cases c2:(s.size:Int)<N
  ·have l:Hid (zb8 (zam h) s.data.toList B=.inl 7):=by unfold Hid;rw[q.out,zkF,Qe c1,Qg (by omega)]
   have I:decide ((s.size:Int)<N)=true:=Qu c2;clear c1 c2 j
   go_in
   go_wp2_with fail;refine d.out.mono ?_;rintro e v ⟨rfl,a⟩;have b:=a.alloc a.size (.cells #[jA 2,jA N] 114);have g:=i.out.trans (b.mono i.out.size);clear a b;go_wp2
   go_ret3
   exact⟨by rw[l.out];rfl,g⟩
  have I:decide ((s.size:Int)<N)=false:=Qq c2;obtain⟨k,rfl⟩:=Zt h1;have l:Hid (zb8 (zam h) s.data.toList B=.inr (s.data.toList.take k,k)):=by unfold Hid;rw[q.out,zkF,Qe c1,Qe (by omega)];rfl
  have G:s.extract 0 k=bs (s.data.toList.take k):=zgO (by rw[ZK];simp);have P:(k:Int)<=(s.size:Int):=by omega
  have O:(0:Int)<=(k:Int):=by omega
  have L:=hIx G;clear c1 c2 j h1 h2 G
  go_in
  go_wp2_with fail;refine d.out.mono ?_;rintro e v ⟨rfl,a⟩;have b:=a.alloc a.size (.cells #[jA 2,jA (k:Int)] 114);have g:=i.out.trans (b.mono i.out.size);clear a b;go_wp2_with fail
  go_quiet (fail)
  go_wp2
  go_ret3
  exact⟨by rw[l.out,L.out];rfl,below_drewN g nq⟩
def zReq:Value:=.agg #[.string (.mk #[]),.string (.mk #[]),jD 0 0,.string (.mk #[])]
def reqV(q:ReqV)(A:Option Addr)(c:Nat):Value:=.agg #[.string q.h.m,.string q.h.t,.slice A q.h.fs.length c,.string (bs q.b)]
def zeZ(l:jE)(H B:Int)(w:World)(e:Ending)(w':World):Prop:=
 (∃x,oneR l H B=.error x/\e=jC (.tuple #[zReq,jA 0,jA x])/\w w')\/
 ∃q n A c,oneR l H B=.ok (q,n)/\e=jC (.tuple #[reqV q A c,jA (n:Int),jA 0])/\OwnV w' w.heap.size (.slice A q.h.fs.length c) q.h.fs/\w w'
theorem zdJ{w:World}{g:Nat}{i h f j:Value}(x y z u:Value)(d:w.cell? g=some i)(h1:w.cell? ⟨g,1,none⟩=some h)(h2:w.cell? ⟨g,2,none⟩=some f)(m:w.cell? ⟨g,3,none⟩=some j):
 ((((w.setCell g x).setCell ⟨g,1,none⟩ y).setCell ⟨g,2,none⟩ z).setCell ⟨g,3,none⟩ u).cell? g=some x/\((((w.setCell g x).setCell ⟨g,1,none⟩ y).setCell ⟨g,2,none⟩ z).setCell ⟨g,3,none⟩ u).cell? ⟨g,1,none⟩=some y/\
 ((((w.setCell g x).setCell ⟨g,1,none⟩ y).setCell ⟨g,2,none⟩ z).setCell ⟨g,3,none⟩ u).cell? ⟨g,2,none⟩=some z/\((((w.setCell g x).setCell ⟨g,1,none⟩ y).setCell ⟨g,2,none⟩ z).setCell ⟨g,3,none⟩ u).cell? ⟨g,3,none⟩=some u:=by
 have a:(⟨g,3,none⟩:Addr)≠⟨g,0,none⟩:=by intro e;cases e
 have b:(⟨g,3,none⟩:Addr)≠⟨g,1,none⟩:=by intro e;cases e
 have n2:(⟨g,3,none⟩:Addr)≠⟨g,2,none⟩:=by intro e;cases e
 have ⟨k,l,c⟩:=zbA x y z d h1 h2;refine⟨?_,?_,?_,?_⟩
 ·rw[QT _ _ _ _ a];exact k
 ·rw[QT _ _ _ _ b];exact l
 ·rw[QT _ _ _ _ n2];exact c
 ·exact ZA _ _ _ ((QT _ _ _ _ (Xv n2)).trans ((QT _ _ _ _ (Xv b)).trans ((QT _ _ _ _ (Xv a)).trans m)))
def ReqAt(R:Nat)(w:World):Prop:=w.heap[R]? = some (.cells #[.string (.mk #[]),.string (.mk #[]),jD 0 0,.string (.mk #[])] 29 (0,0))
theorem ReqAt.cells{R:Nat}{w:World}(h:ReqAt R w):w.cell? R=some (.string (.mk #[]))/\w.cell? ⟨R,1,none⟩=some (.string (.mk #[]))/\w.cell? ⟨R,2,none⟩=some (jD 0 0)/\w.cell? ⟨R,3,none⟩=some (.string (.mk #[])):=
 ⟨Qf w _ 0 _ _ _ h,Qf w _ 1 _ _ _ h,Qf w _ 2 _ _ _ h,Qf w _ 3 _ _ _ h⟩
theorem ReqAt.free{R:Nat}{w:World}(h:ReqAt R w)(j:Nat):w.frozen? ⟨R,j,none⟩=false:=by
 unfold ReqAt at h;simp[World.frozen?, h]
theorem ReqAt.below{R B:Nat}{w w':World}(h:ReqAt R w)(hb:Below B w w')(a:R<B):ReqAt R w':=(hb.block R a).trans h
def zjZ(w:World)(R:Nat)(x y z u:Value):World:=(((w.setCell R x).setCell ⟨R,1,none⟩ y).setCell ⟨R,2,none⟩ z).setCell ⟨R,3,none⟩ u
theorem zc3{b w:World}{B R:Nat}(hb:Below B b w)(a:B<=R)(x y z u:Value):Below B b (zjZ w R x y z u):=
 (((hb.setCell (p:=⟨R,0,none⟩) a _).setCell (p:=⟨R,1,none⟩) a _).setCell (p:=⟨R,2,none⟩) a _).setCell (p:=⟨R,3,none⟩) a _
theorem zhy{w:World}{R g:Nat}(a:g≠R)(x y z u:Value):(zjZ w R x y z u).heap[g]? = w.heap[g]? := by
 unfold zjZ;rw[Qk _ _ _ _ a,Qk _ _ _ _ a,Qk _ _ _ _ a,Qk _ _ _ _ a]
theorem zm2(s:ByteArray)(H B A0:Int)(w:World)(hH:0<=H/\H<=4096)(hB:0<=B/\B<=4096)(h7:LibOk w)(hs:s.size<=4611686018427387904):
 Calls prog 41 #[.string s,.agg #[jA H,jA B,jA A0]] w (zeZ s.data.toList H B w):=by
 have Y:s.data.toList.length=s.size:=by simp
 obtain⟨F,U⟩:∃F,(w.alloc (.cells #[jA H,jA B,jA A0] 58)).alloc (.cells #[.string (.mk #[]),.string (.mk #[]),jD 0 0,.string (.mk #[])] 29)=F:=⟨_,rfl⟩
 have K:Below (w.heap.size+1) (w.alloc (.cells #[jA H,jA B,jA A0] 58)) F:=by rw[<-U];exact(Qj _ _).alloc (by simp) _
 have hD:ReqAt (w.heap.size+1) F:=by
  rw[<-U];have:=Qt (w.alloc (.cells #[jA H,jA B,jA A0] 58)) (.cells #[.string (.mk #[]),.string (.mk #[]),jD 0 0,.string (.mk #[])] 29);rw[Qp]at this;exact this
 have L:w.heap.size+2<=F.heap.size:=by rw[<-U];simp
 have Z:∀W,Below (w.heap.size+2) F W->(W.cell? w.heap.size=some (jA H)/\W.cell? ⟨w.heap.size,1,none⟩=some (jA B))/\ReqAt (w.heap.size+1) W/\w W:=λW hb=>by
  obtain⟨h1,h2⟩:=zbs (K.trans (hb.mono (Zc _)));exact⟨⟨h1 0,h1 1⟩,hD.below hb (ZB _),h2⟩
 have N:=hIx Z;have hu:Hid (∀W,w W->LibOk W):=λW hb=>h7.below hb
 have j:Hid (∀x W,oneR s.data.toList H B=.error x->Below (w.heap.size+2) F W->zeZ s.data.toList H B w (jC (.tuple #[.agg #[.string (.mk #[]),.string (.mk #[]),jD 0 0,.string (.mk #[])],jA 0,jA x]))
  ((((W.setCell (w.heap.size+1:) (.string (.mk #[]))).setCell ⟨w.heap.size+1,1,none⟩ (.string (.mk #[]))).setCell ⟨w.heap.size+1,2,none⟩ (jD 0 0)).setCell ⟨w.heap.size+1,3,none⟩ (.string (.mk #[])))):=λx W h hb=>
  .inl ⟨x,h,rfl,zc3 (Z W hb).2.2 (Zc _) _ _ _ _⟩
 have u:Below (w.heap.size+2) F F:=Qj _ _;have ⟨⟨b0,b1⟩,l,hE⟩:=Z F u;obtain⟨m0,hy⟩:=hu.out F hE;obtain⟨p,hp⟩:∃p:Nat,min (s.size:Int) H=(p:Int):=⟨(min (s.size:Int) H).toNat,by omega⟩
 have hcut:(s.extract 0 p).data.toList=zeX s.data.toList H:=by
  unfold zeX;rw[ZK,Y,hp];simp
 have hI:(s.extract 0 p).size<=4096:=by rw[Z0];omega
 have C:=strings_Index (s.extract 0 p) (ByteArray.mk #[13,10,13,10]) m0 F (by omega) hy;rw[hcut,show (ByteArray.mk #[13,10,13,10]).data.toList=endL from rfl]at C;have T:=Lib.index_ge (zeX s.data.toList H) endL;have hh:=hIx U;have hN:(0:Int)<=(p:Int):=by omega
 have hP:(p:Int)<=(s.size:Int):=by omega
 clear U K Z hD h7 hy hE hcut hI
 by_cases D:Lib.index (zeX s.data.toList H) endL<0
 ·have hk:Lib.index (zeX s.data.toList H) endL=-1:=by omega
  rw[hk]at C;have h3:=hIx C;have r0:=l.cells.1;have r1:=l.cells.2.1;have r2:=l.cells.2.2.1;have r3:=l.cells.2.2.2;have f0:=l.free 0;have f1:=l.free 1;have f2:=l.free 2;have f3:=l.free 3
  by_cases z:H<=(s.size:Int)
  ·have V:=hIx (j.out 5 F (by unfold oneR;rw[Qg D,Qg (by omega)]) u)
   have d1:decide (H<=(s.size:Int))=true:=Qu z;clear C T D hk z l j Y hH hB
   go_in
   go_upto_region 1 with fail
   rw[hh.out];go_wp2_with fail;refine h3.out.mono ?_;rintro e w1 ⟨rfl,rfl⟩;go_wp2_with fail;have t:=zdJ (.string (.mk #[])) (.string (.mk #[])) (jD 0 0) (.string (.mk #[])) r0 r1 r2 r3;exact Qi (v:=.tuple #[.agg #[.string (.mk #[]),.string (.mk #[]),jD 0 0,.string (.mk #[])],jA 0,jA 5]) (by simp[results,results41,go_sem,t.1,t.2.1,t.2.2.1,t.2.2.2]) rfl V.out
  ·have V:=hIx (j.out 7 F (by unfold oneR;rw[Qg D,Qe (by omega)]) u)
   have d1:decide (H<=(s.size:Int))=false:=Qq z;clear C T D hk z l j Y hH hB
   go_in
   go_upto_region 1 with fail
   rw[hh.out];go_wp2_with fail;refine h3.out.mono ?_;rintro e w1 ⟨rfl,rfl⟩;go_wp2_with fail;have t:=zdJ (.string (.mk #[])) (.string (.mk #[])) (jD 0 0) (.string (.mk #[])) r0 r1 r2 r3;exact Qi (v:=.tuple #[.agg #[.string (.mk #[]),.string (.mk #[]),jD 0 0,.string (.mk #[])],jA 0,jA 7]) (by simp[results,results41,go_sem,t.1,t.2.1,t.2.2.1,t.2.2.2]) rfl V.out
 ·obtain⟨i,hi⟩:∃i:Nat,Lib.index (zeX s.data.toList H) endL=(i:Int):=⟨(Lib.index (zeX s.data.toList H) endL).toNat,by omega⟩
  have he:=(zeS hH.1).1 hi;have h9:=hIx (zro (B:=B) hH.1 he);have hr:=he.len;have hK:=he.fits;rw[Y]at hr;rw[hi]at C;have h3:=hIx C;have hG:(s.extract 0 (i+4)).data.toList=s.data.toList.take (i+4):=by rw[ZK];simp
  have hm:(s.extract (i+4) s.size).data.toList=s.data.toList.drop (i+4):=Lib.extract_to_end s (i+4);have hz:(s.extract (i+4) s.size).size<=4611686018427387904:=by rw[Z0];omega
  have k1:(0:Int)<=(i:Int):=by omega
  have k2:((i+4:Nat):Int)=(i:Int)+4:=by omega
  have k3:(i:Int)+4<=(s.size:Int):=by omega
  have k4:((i:Int)+4).toNat=i+4:=by rw[<-k2];exact Q8 _
  have d0:decide ((i:Int)<0)=false:=Qq (by omega);have i7:IntKind.i64.wrap ((i:Int)+4)=(i:Int)+4:=Qx _ (by omega);have h5:=zpV (s.extract 0 (i+4)) F (hu.out F (N.out F u).2.2);rw[hG]at h5;unfold zdq zwm at h5;rw[<-hm]at h9;have hJ:=hIx h5;clear C T D hi h5 hG hm
  go_in
  go_upto_region 1 with fail
  rw[hh.out];go_wp2_with fail;refine h3.out.mono ?_;rintro e w1 ⟨rfl,rfl⟩;go_wp2_with fail;refine hJ.out.mono ?_;rintro e w2 (⟨x,hx,rfl,E⟩|⟨h,A,c,hx,rfl,h8,E⟩)
  ·have G:=(u.trans (E.mono L)).alloc (o:=.cells #[.string (.mk #[]),.string (.mk #[]),jD 0 0] 27) (Ql L E.size)
   have V:=hIx (j.out x _ (by rw[h9.out,hx]) G);have ⟨_,a,_⟩:=N.out _ G;have q0:(x != 0)=true:=by rcases zlH hx with h|h <;> rw[h] <;> decide
   have r0:=a.cells.1;have r1:=a.cells.2.1;have r2:=a.cells.2.2.1;have r3:=a.cells.2.2.2;have f0:=a.free 0;have f1:=a.free 1;have f2:=a.free 2;have f3:=a.free 3;clear hx E G a;go_wp2_with fail;have t:=zdJ (.string (.mk #[])) (.string (.mk #[])) (jD 0 0) (.string (.mk #[])) r0 r1 r2 r3;exact Qi (v:=.tuple #[.agg #[.string (.mk #[]),.string (.mk #[]),jD 0 0,.string (.mk #[])],jA 0,jA x]) (by simp[results,results41,go_sem,t.1,t.2.1,t.2.2.1,t.2.2.2]) rfl V.out
  ·have hv:=(zpB hx).2.1
   have ho:=zdF hv;have G:=(u.trans (E.mono L)).alloc (o:=.cells #[.string h.m,.string h.t,.slice A h.fs.length c] 27) (Ql L E.size);have K:w2 (w2.alloc (.cells #[.string h.m,.string h.t,.slice A h.fs.length c] 27)):=WaL;have hc:=h8.below K;have S:HdAt w2.heap.size h.m h.t (.slice A h.fs.length c) (w2.alloc (.cells #[.string h.m,.string h.t,.slice A h.fs.length c] 27)):=Qt w2 _;have hF:w.heap.size+2<=w2.heap.size:=Ql L E.size
   have y:Hid (∀W,w2 W->OwnV W w1.heap.size (.slice A h.fs.length c) h.fs->Calls prog 61 #[.agg #[.string h.m,.string h.t,.slice A h.fs.length c],.string (s.extract (i+4) s.size),jA B] W λe w'=>e=jC (zlQ (zb8 (zam h) (s.extract (i+4) s.size).data.toList B))/\W w'):=λW _ hO=>
    zrb h A c (s.extract (i+4) s.size) B W hO.sl (λf hf=>by have:=ho.lens f hf;unfold maxLen;omega) (by have:=ho.few;omega) hz (by omega)
   have r:Hid (oneR s.data.toList H B=match zb8 (zam h) (s.extract (i+4) s.size).data.toList B with
    |.inl e=>.error e
    |.inr (t,k)=>.ok (⟨h,t⟩,i+4+k)):=by unfold Hid;rw[h9.out,hx];dsimp only;cases zb8 (zam h) (s.extract (i+4) s.size).data.toList B <;> rfl
   have hA:∀t k,zb8 (zam h) (s.extract (i+4) s.size).data.toList B=.inr (t,k)->k<=s.size:=λt k P=>by
    have:=(zps hB.1 P).2;simp only[Zy,ByteArray.size_data,Z0]at this;omega
   have ha:=hIx hA;have hn:∀x,zb8 (zam h) (s.extract (i+4) s.size).data.toList B=.inl x->(x != 0)=true:=λx P=>Q7.2 (zr4 P)
   have hd:=hIx hn
   have h6:Hid (∀q n W,oneR s.data.toList H B=.ok (q,n)->Below (w.heap.size+2) w1 W->OwnV W w1.heap.size (.slice A q.h.fs.length c) q.h.fs->zeZ s.data.toList H B w (jC (.tuple #[.agg #[.string q.h.m,.string q.h.t,.slice A q.h.fs.length c,.string (bs q.b)],jA (n:Int),jA 0]))
    ((((W.setCell (w.heap.size+1:) (.string q.h.m)).setCell ⟨w.heap.size+1,1,none⟩ (.string q.h.t)).setCell ⟨w.heap.size+1,2,none⟩ (.slice A q.h.fs.length c)).setCell ⟨w.heap.size+1,3,none⟩ (.string (bs q.b)))):=λq n W P hb hO=>by
    refine .inr ⟨q,n,A,c,P,rfl,?_,zc3 (N.out W hb).2.2 (Zc _) _ _ _ _⟩;refine(hO.keep λg hg=>?_).low (QX (Qv (Nat.lt_succ_of_lt (ZB _)) L));exact zhy (λe=>by have:=(QK hO g hg).1;omega) _ _ _ _
   obtain⟨m,t,X⟩:=h;dsimp only at h8 hc S y;clear b0 b1;go_wp2_with fail;generalize w2.alloc (.cells #[.string m,.string t,.slice A X.length c] 27)=W3 at *;have ⟨h0,h1,h2⟩:=S.cells;have ⟨⟨b3,b4⟩,_,_⟩:=N.out W3 G;have hC:=hIx G;have hL:=hIx S;have hj:=hIx hc;have h4:=hIx K
   have ht:w2.heap.size<W3.heap.size:=by
    have:=S;unfold HdAt at this;rw[QV]at this;exact this.1
   have kk:(i:Int)+4<=(s.size:Int):=k3;have kz:(0:Int)<=(i:Int)+4:=by omega
   clear h8 E G hv ho hx hc S K hA hn;cases P:zb8 (zam ⟨m,t,X⟩) (s.extract (i+4) s.size).data.toList B with
   |inl x=>
    rw[P]at y r;have q0:=hd.out x P;unfold zlQ at y;dsimp only at y r;clear P h6 ha hd
    go_region_held3 (λw'=>w'.cell? w2.heap.size=some (.string m)/\w'.cell? ⟨w2.heap.size,1,none⟩=some (.string t)/\w'.cell? ⟨w2.heap.size,2,none⟩=some (.slice A X.length c)/\w'.cell? ⟨w.heap.size,1,none⟩=some (jA B))
     (first|exact Q|go_keep)
     (first|(go_at_call 61;(with_reducible refine(y.out _ ?_ ?_).mono ?_);(first|exact h4.out|exact h4.out.drew);(first|exact hj.out);rintro e O ⟨rfl,J⟩;have d:W3 O:=(by first|exact J|exact undrew J);have Q:O.cell? w2.heap.size=some (.string m)/\O.cell? ⟨w2.heap.size,1,none⟩=some (.string t)/\O.cell? ⟨w2.heap.size,2,none⟩=some (.slice A X.length c)/\O.cell? ⟨w.heap.size,1,none⟩=some (jA B):=⟨zaa d h0,zaa d h1,zaa d h2,zaa d b4⟩))
    have I:=hC.out.trans (d.mono (Ql (Ql hF (QX ht)) (Qc _)));have V:=hIx (j.out x _ r.out I);have ⟨_,a,_⟩:=N.out _ I;have r0:=a.cells.1;have r1:=a.cells.2.1;have r2:=a.cells.2.2.1;have r3:=a.cells.2.2.2;have f0:=a.free 0;have f1:=a.free 1;have f2:=a.free 2;have f3:=a.free 3;clear h0 h1 h2 b3 b4 Q J d I a;go_wp2_with fail;have t:=zdJ (.string (.mk #[])) (.string (.mk #[])) (jD 0 0) (.string (.mk #[])) r0 r1 r2 r3;exact Qi (v:=.tuple #[.agg #[.string (.mk #[]),.string (.mk #[]),jD 0 0,.string (.mk #[])],jA 0,jA x]) (by simp[results,results41,go_sem,t.1,t.2.1,t.2.2.1,t.2.2.2]) rfl V.out
   |inr p=>
    obtain⟨tt,k⟩:=p;rw[P]at y r;have hQ:=ha.out tt k P;unfold zlQ at y;dsimp only at y r;have ia:IntKind.i64.wrap ((i:Int)+4+(k:Int))=(i:Int)+4+(k:Int):=Qx _ (by omega);have ib:((i+4+k:Nat):Int)=(i:Int)+4+(k:Int):=by omega
    clear P ha hd j
    go_region_held3 (λw'=>w'.cell? w2.heap.size=some (.string m)/\w'.cell? ⟨w2.heap.size,1,none⟩=some (.string t)/\w'.cell? ⟨w2.heap.size,2,none⟩=some (.slice A X.length c)/\w'.cell? ⟨w.heap.size,1,none⟩=some (jA B))
     (first|exact Q|go_keep)
     (first|(go_at_call 61;(with_reducible refine(y.out _ ?_ ?_).mono ?_);(first|exact h4.out|exact h4.out.drew);(first|exact hj.out);rintro e O ⟨rfl,J⟩;have d:W3 O:=(by first|exact J|exact undrew J);have Q:O.cell? w2.heap.size=some (.string m)/\O.cell? ⟨w2.heap.size,1,none⟩=some (.string t)/\O.cell? ⟨w2.heap.size,2,none⟩=some (.slice A X.length c)/\O.cell? ⟨w.heap.size,1,none⟩=some (jA B):=⟨zaa d h0,zaa d h1,zaa d h2,zaa d b4⟩))
    have I:=hC.out.trans (d.mono (Ql (Ql hF (QX ht)) (Qc _)));have hw:OwnV O w1.heap.size (.slice A X.length c) X:=hj.out.below d;have V:=hIx (h6.out _ _ O r.out I hw);dsimp only at V;rw[ib]at V;have ⟨_,a,_⟩:=N.out _ I;have r0:=a.cells.1;have r1:=a.cells.2.1;have r2:=a.cells.2.2.1;have r3:=a.cells.2.2.2;have f0:=a.free 0;have f1:=a.free 1;have f2:=a.free 2;have f3:=a.free 3;obtain⟨g0,g1,g2,_⟩:=Q;clear h0 h1 h2 b3 b4 J d I a hw;go_wp2_with fail;have t':=zdJ (.string m) (.string t) (.slice A X.length c) (.string (bs tt)) r0 r1 r2 r3;exact Qi (v:=.tuple #[.agg #[.string m,.string t,.slice A X.length c,.string (bs tt)],jA ((i:Int)+4+(k:Int)),jA 0]) (by simp[results,results41,go_sem,t'.1,t'.2.1,t'.2.2.1,t'.2.2.2]) rfl V.out
theorem zlM{H B a:Int}(hb:zbk H B a=true):(30<=H/\H<=4096)/\(0<=B/\B<=4096):=by
 unfold zbk at hb;simp only[QU,QY]at hb;exact⟨hb.1.1,hb.1.2⟩
theorem zxq(s:ByteArray)(H B r:Int)(w:World)(hb:zbk H B r=true)(p:LibOk w)(X:s.size<=4611686018427387904):
 Calls prog 22 #[.string s,.agg #[jA H,jA B,jA r]] w (zeZ s.data.toList H B w):=by
 obtain⟨V,Y⟩:=zlM hb;obtain⟨o,i⟩:∃o,(w.alloc (.cells #[jA H,jA B,jA r] 58)).alloc (.cells #[.string (.mk #[]),.string (.mk #[]),jD 0 0,.string (.mk #[])] 29)=o:=⟨_,rfl⟩
 have J:Below (w.heap.size+1) (w.alloc (.cells #[jA H,jA B,jA r] 58)) o:=by rw[<-i];exact(Qj _ _).alloc (by simp) _
 have D:ReqAt (w.heap.size+1) o:=by
  rw[<-i];have:=Qt (w.alloc (.cells #[jA H,jA B,jA r] 58)) (.cells #[.string (.mk #[]),.string (.mk #[]),jD 0 0,.string (.mk #[])] 29);rw[Qp]at this;exact this
 have z:w.heap.size+2<=o.heap.size:=by rw[<-i];simp
 have u:∀W,Below (w.heap.size+2) o W->(W.cell? w.heap.size=some (jA H)/\W.cell? ⟨w.heap.size,1,none⟩=some (jA B)/\W.cell? ⟨w.heap.size,2,none⟩=some (jA r))/\ReqAt (w.heap.size+1) W/\w W:=λW hb=>by
  obtain⟨h1,h2⟩:=zbs (J.trans (hb.mono (Zc _)));exact⟨⟨h1 0,h1 1,h1 2⟩,D.below hb (ZB _),h2⟩
 have y:=hIx u;have ⟨⟨b0,Z,b2⟩,_,_⟩:=u o (Qj _ _);have l:=zkc H B r o;unfold bndE at l;rw[Qg hb]at l;have HC:=hIx l;have E:Hid (∀W,w W->_):=λW hb=>zm2 s H B r W ⟨by omega,V.2⟩ Y (p.below hb) X
 have O:=hIx i;clear J i l u D p X hb V Y
 go_in
 go_upto_region 1 with fail
 rw[O.out];go_wp2_with fail;refine HC.out.mono ?_;rintro e K ⟨rfl,d⟩;have d:=d.mono z;have ⟨⟨c0,c1,c2⟩,_,F⟩:=y.out K d;have P:=hIx (E.out K F);have C:w.heap.size+2<=K.heap.size:=Ql z d.size;clear b0 Z b2 F;go_wp2_with fail;refine P.out.mono ?_;rintro e w2 (⟨x,I,rfl,j⟩|⟨q,n,A,c,I,rfl,S,j⟩)
 ·have k:=d.trans (j.mono C)
  have ⟨_,a,f⟩:=y.out w2 k
  have U:Hid (zeZ s.data.toList H B w (jC (.tuple #[.agg #[.string (.mk #[]),.string (.mk #[]),jD 0 0,.string (.mk #[])],jA 0,jA x])) (zjZ w2 (w.heap.size+1) (.string (.mk #[])) (.string (.mk #[])) (jD 0 0) (.string (.mk #[])))):=
   .inl ⟨x,I,rfl,zc3 f (Zc _) _ _ _ _⟩
  have Q:=a.cells.1;have N:=a.cells.2.1;have T:=a.cells.2.2.1;have L:=a.cells.2.2.2;have f0:=a.free 0;have f1:=a.free 1;have f2:=a.free 2;have f3:=a.free 3;unfold zReq;clear c0 c1 c2 a f d j k I;go_wp2_with fail;have t:=zdJ (.string (.mk #[])) (.string (.mk #[])) (jD 0 0) (.string (.mk #[])) Q N T L;exact Qi (v:=.tuple #[.agg #[.string (.mk #[]),.string (.mk #[]),jD 0 0,.string (.mk #[])],jA 0,jA x]) (by simp[results,results22,go_sem,t.1,t.2.1,t.2.2.1,t.2.2.2]) rfl U.out
 ·have k:=d.trans (j.mono C)
  have ⟨_,a,f⟩:=y.out w2 k
  have G:OwnV (zjZ w2 (w.heap.size+1) (.string q.h.m) (.string q.h.t) (.slice A q.h.fs.length c) (.string (bs q.b))) w.heap.size (.slice A q.h.fs.length c) q.h.fs:=by
   refine(S.keep λg hg=>?_).low (by omega);exact zhy (λe=>by have:=(QK S g hg).1;omega) _ _ _ _
  have U:Hid (zeZ s.data.toList H B w (jC (.tuple #[.agg #[.string q.h.m,.string q.h.t,.slice A q.h.fs.length c,.string (bs q.b)],jA (n:Int),jA 0])) (zjZ w2 (w.heap.size+1) (.string q.h.m) (.string q.h.t) (.slice A q.h.fs.length c) (.string (bs q.b)))):=
   .inr ⟨q,n,A,c,I,rfl,G,zc3 f (Zc _) _ _ _ _⟩
  have Q:=a.cells.1;have N:=a.cells.2.1;have T:=a.cells.2.2.1;have L:=a.cells.2.2.2;have f0:=a.free 0;have f1:=a.free 1;have f2:=a.free 2;have f3:=a.free 3;unfold reqV;clear c0 c1 c2 a f d j k I S G;go_wp2_with fail;have t:=zdJ (.string q.h.m) (.string q.h.t) (.slice A q.h.fs.length c) (.string (bs q.b)) Q N T L;exact Qi (v:=.tuple #[.agg #[.string q.h.m,.string q.h.t,.slice A q.h.fs.length c,.string (bs q.b)],jA (n:Int),jA 0]) (by simp[results,results22,go_sem,t.1,t.2.1,t.2.2.1,t.2.2.2]) rfl U.out
theorem zm7(m t b:ByteArray)(l:List zal)(f h:Option Addr)(c1 c2:Nat)(w:World)(h1:Sl w w.heap.size 2 f l.length (l.flatMap zaA))(h2:Sl w w.heap.size 2 h l.length (l.flatMap zaA))(hl:l.length<=4398046511104):
 Calls prog 45 #[.agg #[.string m,.string t,.slice f l.length c1,.string b],.agg #[.string m,.string t,.slice h l.length c2,.string b]] w λe w'=>e=jC (.bool true)/\w w':=by
 obtain⟨a,d⟩:∃a,(w.alloc (.cells #[.string m,.string t,.slice f l.length c1,.string b] 29)).alloc (.cells #[.string m,.string t,.slice h l.length c2,.string b] 29)=a:=⟨_,rfl⟩
 have c:w a:=by rw[<-d];exact WaL.alloc (by simp) _
 have i:a.heap[w.heap.size]? = some (.cells #[.string m,.string t,.slice f l.length c1,.string b] 29 (0,0)):=by
  rw[<-d];exact(Qr _ _ _ (by simp)).trans (Qt w _)
 have hb:a.heap[w.heap.size+1]? = some (.cells #[.string m,.string t,.slice h l.length c2,.string b] 29 (0,0)):=by
  rw[<-d];have:=Qt (w.alloc (.cells #[.string m,.string t,.slice f l.length c1,.string b] 29)) (.cells #[.string m,.string t,.slice h l.length c2,.string b] 29);rw[Qp]at this;exact this
 have q:=hIx (zlz m t l f h c1 c2 a ((h1.below c).more c.size) ((h2.below c).more c.size) hl);have u:a.cell? w.heap.size=some (.string m):=Qf a _ 0 _ _ _ i;have v:a.cell? ⟨w.heap.size,1,none⟩=some (.string t):=Qf a _ 1 _ _ _ i;have x:a.cell? ⟨w.heap.size,2,none⟩=some (.slice f l.length c1):=Qf a _ 2 _ _ _ i;have o:a.cell? ⟨w.heap.size,3,none⟩=some (.string b):=Qf a _ 3 _ _ _ i;have s:a.cell? (w.heap.size+1:)=some (.string m):=Qf a _ 0 _ _ _ hb;have r:a.cell? ⟨w.heap.size+1,1,none⟩=some (.string t):=Qf a _ 1 _ _ _ hb;have p:a.cell? ⟨w.heap.size+1,2,none⟩=some (.slice h l.length c2):=Qf a _ 2 _ _ _ hb;have n:a.cell? ⟨w.heap.size+1,3,none⟩=some (.string b):=Qf a _ 3 _ _ _ hb;have z:(b.toList==b.toList)=true:=by simp
 have j:=hIx d;clear h1 h2 i hb d hl
 go_in
 go_upto_region 1 with fail
 rw[j.out];go_wp2_with fail;refine q.out.mono ?_;rintro e w2 ⟨rfl,g⟩;have y:=zaa g o;have A:=zaa g n;have k:=c.trans (g.mono c.size);clear u v x o s r p n;go_wp2;go_ret;exact⟨rfl,k⟩
theorem zg1(w:World):Calls prog 23 #[] w λe w'=>e=jC (.agg #[jA 4096,jA 4096,jA 40])/\w w':=by
 have hb:w (w.alloc (.cells #[jA 4096,jA 4096,jA 40] 58)):=WaL
 go_in
 go_wp2;exact Qi (v:=.agg #[jA 4096,jA 4096,jA 40]) (by simp[results,results23,go_sem]) rfl ⟨rfl,hb⟩
