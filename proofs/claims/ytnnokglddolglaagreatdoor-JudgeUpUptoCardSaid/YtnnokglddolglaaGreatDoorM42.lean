/- Lemmas for the last texts. -/
import Derived.Test.YtnnokglddolglaaGreatDoorM41
set_option maxHeartbeats 3200000
set_option maxRecDepth 100000
namespace Go.Proofs.YtnnokglddolglaaGreatDoor
open Go.RowKit Go.Proofs.Tryz
def zAe(w:World)(s:ByteArray)(m:Int)(wr:World):Prop:=
 ∃(k:Nat) (v:Value) (a:List UInt8),k<=s.size/\a.length<=k/\(a.length:Int)<=m/\Rd wr w.heap.size w.heap.size s (k:Int) m v a/\Below w.heap.size w wr/\
  zbn s.data.toList m=preT a k (zbn (s.data.toList.drop k) (m-a.length))
theorem zuw{l:List UInt8}{room:Int}(h:(zam l room).e=0):0<=(zam l room).n/\(zam l room).n<=l.length:=by
 obtain⟨a,d,r,o⟩:=zeO h;have e:=zdv a d r room o.dig o.lo o.hi o.n o.room;rw[<-o.e]at e;have f:=(zlv h).2.2.1;have h1:=(zlv h).1;have b:(zam l room).d.length<=(zam l room).c:=by rw[e];show d.length<=a.length+2+d.length+2;omega
 omega
theorem zvD{l:List UInt8}{room:Int}(h:(zam l room).e=0):(zam l room).d.length<=(zam l room).c:=by
 obtain⟨a,d,r,o⟩:=zeO h;have e:=zdv a d r room o.dig o.lo o.hi o.n o.room;rw[<-o.e]at e;rw[e];show d.length<=a.length+2+d.length+2
 omega
theorem zpy(l:List UInt8)(room:Int):(zam l room).n=0\/(0<=(zam l room).n/\(zam l room).n<=room/\(zam l room).n<=l.length):=by
 rw[zoS]
 by_cases c0:(zaD l).e≠0
 ·rw[Qi c0];exact .inl rfl
 ·rw[Qe c0]
  have a:=zxr (Z6.1 c0)
  by_cases c1:room<(zaD l).n
  ·rw[Qi c1];exact .inl rfl
  ·rw[Qe c1]
   by_cases c2:(l.length:Int)-(zaD l).c<(zaD l).n
   ·rw[Qi c2];exact .inl rfl
   ·rw[Qe c2];right;dsimp only;omega
def zz0(s:ByteArray)(m:Int):Prop:=(s.size<=140737488355328\/∃t k,zbn s.data.toList m=.inr (t,k)/\t.length<=140737488355328)\/m<=140737488355328
theorem zuG{s:ByteArray}{m:Int}(h:zz0 s m){k:Nat}{a:List UInt8}(C:k<=s.size)(A:a.length<=k)(x:(a.length:Int)<=m)
 (f:zbn s.data.toList m=preT a k (zbn (s.data.toList.drop k) (m-a.length))):
 (a.length:Int)+(zam (s.data.toList.drop k) (m-a.length)).n<=140737488355328:=by
 have hl:(s.data.toList.drop k).length=s.size-k:=by rw[QF,Zi];rfl
 rcases h with (h|⟨t,D,w,y⟩)|h
 ·by_cases o:(zam (s.data.toList.drop k) (m-a.length)).e=0
  ·have h1:=zuw o
   rw[hl]at h1;omega
  ·rcases zpy (s.data.toList.drop k) (m-a.length)with g|⟨g,h1,h2⟩
   ·rw[g];omega
   ·rw[hl]at h2;omega
 ·rw[w]at f
  cases b:zbn (s.data.toList.drop k) (m-a.length)with
  |inl e=>rw[b]at f;cases f
  |inr p=>
   obtain⟨q,E⟩:=p;rw[b]at f;injection f with f
   injection f with j z
   have o:(zam (s.data.toList.drop k) (m-a.length)).e=0:=by
    refine Classical.byContradiction λl=>?_
    rw[ziU _ _ l]at b;cases b
   have B:=(zlv o).2.2.1
   by_cases l:(zam (s.data.toList.drop k) (m-a.length)).n=0
   ·rw[l]
    have:t.length=a.length+q.length:=by rw[j,Qa]
    omega
   ·rw[zgU _ _ o l]at b
    cases i:zbn ((s.data.toList.drop k).drop (zam (s.data.toList.drop k) (m-a.length)).c) (m-a.length-(zam (s.data.toList.drop k) (m-a.length)).n)with
    |inl e=>rw[i]at b;cases b
    |inr u=>
     rw[i]at b;injection b with b
     injection b with r v
     have h1:t.length=a.length+q.length:=by rw[j,Qa]
     have h2:q.length=(zam (s.data.toList.drop k) (m-a.length)).d.length+u.1.length:=by rw[<-r,Qa]
     omega
 ·rcases zpy (s.data.toList.drop k) (m-a.length)with g|⟨g,h1,h2⟩
  ·rw[g];omega
  ·omega
def zml:Told->Value
 |.inl e=>.tuple #[.string (bs []),.int .i64 0,.int .i64 e]
 |.inr (t,k)=>.tuple #[.string (bs t),.int .i64 (k:Int),.int .i64 0]
theorem zrz(w:World)(s:ByteArray)(m:Int)(U:s.size<=4611686018427387904)(t:zz0 s (max m 0))(T:m<=9223372036854775807):
 Calls prog 94 #[.string s,.int .i64 m] w (ze5 (zml (zbn s.data.toList (max m 0))) w):=by
 have t:=hIx t;have A:0<=max m 0:=by omega
 have F:max m 0<=9223372036854775807:=by omega
 go_in
 go_wp2
 go_loopw [] (λwr=>zAe w s (max m 0) wr) (λwr=>s.size-atOf w.heap.size wr)
 case atStart=>
  refine⟨0,.slice none 0 0,[],Qm _,Qd _,A,⟨Qp w _,OwnB.nil _ _,Qd _⟩,WaL,?_⟩;cases h:zbn s.data.toList (max m 0)with
  |inl e=>simp[h,preT]
  |inr p=>simp[h,preT]
 case round=>
  obtain⟨k,v,g,L,C,D,H,x,J⟩:=hrel;have j:=zsm wr w.heap.size w.heap.size s k (max m 0) v g H U L x.size A F C (zuG t.out L C D J);have E:=H.atOf;have G:=hIx J;clear J;obtain⟨P,Q⟩:∃P,zam (s.data.toList.drop k) (max m 0-g.length)=P:=⟨_,rfl⟩
  have f:=ziU (s.data.toList.drop k) (max m 0-g.length);have b:=zoA (s.data.toList.drop k) (max m 0-g.length);have a:=zgU (s.data.toList.drop k) (max m 0-g.length);have o:=λh=>zlv (l:=s.data.toList.drop k) (room:=max m 0-g.length) h
  have r:=λh=>zvD (l:=s.data.toList.drop k) (room:=max m 0-g.length) h
  rw[Q]at j f b a o r;clear Q H;obtain⟨n,e,c,d⟩:=P;dsimp only at f b a o r;unfold zdq at j;dsimp only at j
  by_cases y:e≠0
  ·have X:(e != 0)=true:=Q6.2 y
   have z:=hIx (f y);clear f b a o y r;go_wp2_with (go_at_call 129;refine j.mono ?_;rintro O K ⟨rfl,⟨v',i⟩,u⟩)
   go_ret3
   exact⟨by rw[G.out,z.out];rfl,x.trans u⟩
  ·have y:=Z6.1 y
   subst y;have ⟨c1,c2,c3,c4⟩:=o rfl;have c5:=r rfl;rw[QF,Zi]at c1;have c1:c<=s.size-k:=c1
   by_cases B:n=0
   ·have z:=hIx (b rfl B)
    have I:d=[]:=QA (by omega);subst I;have S:(n==0)=true:=Zk.2 B;rw[QI]at j;clear f b a o B c3 c4 c5 r;go_wp2_with (go_at_call 129;refine j.mono ?_;rintro O K ⟨rfl,⟨v',i⟩,u⟩);have h1:=i.c1;have W:=i.c3;have V:=λq=>(i.drewN q).own.string
    have N:=i.own.string
    go_quiet (fail)
    go_wp2
    go_ret3
    exact⟨by rw[G.out,z.out];simp[preT,zml],x.trans (below_drewN u nq)⟩
   ·have z:=hIx (a rfl B)
    have S:(n==0)=false:=Qb.2 B;clear f b a o r;go_wp2_with (go_at_call 129;refine j.mono ?_;rintro O K ⟨rfl,⟨v',i⟩,u⟩)
    exact⟨⟨k+c,v',g++d,by omega,by rw[Qa];omega,by rw[Qa];omega,i,x.trans u,
     by rw[G.out,z.out,zud,Zy,Qa];congr 2;omega⟩,by rw[i.atOf,E];omega⟩
def bndE(H B A:Int):Int:=if zbl H B A=true then 0 else 1
theorem zkB(H B A:Int)(w:World):
 Calls prog 40 #[.agg #[.int .i64 H,.int .i64 B,.int .i64 A]] w λe w'=>e=.returned (.int .i64 (bndE H B A))/\Below w.heap.size w w':=by
 have hb:Below w.heap.size w (w.alloc (.cells #[.int .i64 H,.int .i64 B,.int .i64 A] 58)):=WaL;have a:zbl H B A=false->bndE H B A=1:=λh=>by unfold bndE;rw[h];rfl
 by_cases c1:H<30
 ·have b:=hIx (a (by unfold zbl;rw[Qs (by omega:¬30<=H)];rfl))
  have g:decide (H<30)=true:=Qu c1;clear a c1
  go_in
  go_wp2;go_ret;exact⟨zac b.out.symm,hb⟩
 have g:decide (H<30)=false:=Qs c1
 by_cases c2:4096<H
 ·have b:=hIx (a (by unfold zbl;rw[Qs (by omega:¬H<=4096)];simp))
  have d:decide (4096<H)=true:=Qu c2;clear a c1 c2
  go_in
  go_wp2;go_ret;exact⟨zac b.out.symm,hb⟩
 have d:decide (4096<H)=false:=Qs c2
 by_cases c3:B<0
 ·have b:=hIx (a (by unfold zbl;rw[Qs (by omega:¬0<=B)];simp))
  have f:decide (B<0)=true:=Qu c3;clear a c1 c2 c3
  go_in
  go_wp2;go_ret;exact⟨zac b.out.symm,hb⟩
 have f:decide (B<0)=false:=Qs c3
 by_cases c4:4096<B
 ·have b:=hIx (a (by unfold zbl;rw[Qs (by omega:¬B<=4096)];simp))
  have k:decide (4096<B)=true:=Qu c4;clear a c1 c2 c3 c4
  go_in
  go_wp2;go_ret;exact⟨zac b.out.symm,hb⟩
 have k:decide (4096<B)=false:=Qs c4
 by_cases c5:A<1
 ·have b:=hIx (a (by unfold zbl;rw[Qs (by omega:¬1<=A)];simp))
  have j:decide (A<1)=true:=Qu c5;clear a c1 c2 c3 c4 c5
  go_in
  go_wp2;go_ret;exact⟨zac b.out.symm,hb⟩
 have j:decide (A<1)=false:=Qs c5
 by_cases c:40<A
 ·have b:=hIx (a (by unfold zbl;rw[Qs (by omega:¬A<=40)];simp))
  have i:decide (40<A)=true:=Qu c;clear a c1 c2 c3 c4 c5 c
  go_in
  go_wp2;go_ret;exact⟨zac b.out.symm,hb⟩
 have i:decide (40<A)=false:=Qs c
 have b:Hid (bndE H B A=0):=by
  unfold Hid bndE;rw[Qi];unfold zbl;simp only[QW,QY];omega
 clear a c1 c2 c3 c4 c5 c
 go_in
 go_wp2;go_ret;exact⟨zac b.out.symm,hb⟩
theorem zhk(N B:Int)(l:List UInt8):zch (2,N,0) l B=if B<N then .inl 6 else if (l.length:Int)<N then .inl 7 else .inr (l.take N.toNat,N.toNat):=by
 unfold zch;rw[Qe (λh=>h rfl),Qe (show ¬(2:Int)=1 by decide),Qe (show ¬(2:Int)=3 by decide)]
theorem zrP(h:zbh)(A:Option Addr)(c:Nat)(s:ByteArray)(B:Int)(w:World)(u:Sl w w.heap.size 2 A h.fs.length (h.fs.flatMap zaL))
 (D:∀f∈h.fs,f.1.size<=maxLen/\f.2.size<=maxLen) (hl:h.fs.length<=4398046511104) (z:s.size<=4611686018427387904) (Q:B<=140737488355328):
 Calls prog 61 #[.agg #[.string h.m,.string h.t,.slice A h.fs.length c],.string s,.int .i64 B] w λe w'=>e=.returned (zml (zch (zaz h) s.data.toList B))/\Below w.heap.size w w':=by
 have o:Below w.heap.size w (w.alloc (.cells #[.string h.m,.string h.t,.slice A h.fs.length c] 27)):=WaL;have d:=hIx (zxC h.m h.t A h.fs.length c h.fs (w.alloc (.cells #[.string h.m,.string h.t,.slice A h.fs.length c] 27)) rfl ((u.below o).more o.size) (λf u=>(D f u).1) (λf u=>(D f u).2) hl);have H:=zmo (getL h.fs clen) (getL h.fs tenc);have q:Hid (zaz h=ofL (getL h.fs clen) (getL h.fs tenc)):=rfl;unfold zpT at d;generalize ofL (getL h.fs clen) (getL h.fs tenc)=r at *;have j:s.data.toList.length=s.size:=by simp
 have n:=λW=>hIx (zrz W s B z (.inr (by omega)) (by omega))
 obtain⟨K,N,E⟩:=r;dsimp only at H;have i:=hIx o;clear u D hl o z
 rcases H with rfl|⟨rfl,rfl|rfl|⟨rfl,h1,h2⟩⟩
 ·have l:Hid (zch (zaz h) s.data.toList B=.inl 4):=by unfold Hid zch;rw[q.out];rfl
  unfold ofV at d;dsimp only at d;clear n j
  go_in
  go_wp2_with fail;refine d.out.mono ?_;rintro e v ⟨rfl,a⟩;have b:=a.alloc a.size (.cells #[.int .i64 K,.int .i64 N] 114);have g:=i.out.trans (b.mono i.out.size);clear a b;go_wp2
  go_ret3
  exact⟨by rw[l.out];rfl,g⟩
 ·have l:Hid (zch (zaz h) s.data.toList B=.inr ([],0)):=by unfold Hid zch;rw[q.out];rfl
  unfold ofV at d;dsimp only at d;clear n j
  go_in
  go_wp2_with fail;refine d.out.mono ?_;rintro e v ⟨rfl,a⟩;have b:=a.alloc a.size (.cells #[.int .i64 1,.int .i64 N] 114);have g:=i.out.trans (b.mono i.out.size);clear a b;go_wp2
  go_ret3
  exact⟨by rw[l.out];rfl,g⟩
 ·have l:Hid (zch (zaz h) s.data.toList B=zbn s.data.toList (max B 0)):=by unfold Hid zch;rw[q.out];rfl
  unfold ofV at d;dsimp only at d;clear j
  go_in
  go_wp2_with fail;refine d.out.mono ?_;rintro e v ⟨rfl,a⟩;have b:=a.alloc a.size (.cells #[.int .i64 3,.int .i64 N] 114);have g:=i.out.trans (b.mono i.out.size);clear a b;go_wp2_with fail;refine(n _).out.mono ?_;rintro e w2 ⟨rfl,C⟩;have y:=g.trans (C.mono g.size);clear g C;rw[<-l.out];cases F:zch (zaz h) s.data.toList B with
  |inl x=>
   unfold zml;go_wp2
   go_ret3
   exact⟨by rw[F];rfl,y⟩
  |inr p=>
   obtain⟨t,k⟩:=p;unfold zml;go_wp2
   go_ret3
   exact⟨by rw[F];rfl,y⟩
 ·unfold ofV at d
  dsimp only at d;clear n
  by_cases c1:B<N
  ·have l:Hid (zch (zaz h) s.data.toList B=.inl 6):=by unfold Hid;rw[q.out,zhk,Qi c1]
   have J:decide (B<N)=true:=Qu c1;clear c1 j
   go_in
   go_wp2_with fail;refine d.out.mono ?_;rintro e v ⟨rfl,a⟩;have b:=a.alloc a.size (.cells #[.int .i64 2,.int .i64 N] 114);have g:=i.out.trans (b.mono i.out.size);clear a b;go_wp2
   go_ret3
   exact⟨by rw[l.out];rfl,g⟩
  have J:decide (B<N)=false:=Qs c1
  by_cases c2:(s.size:Int)<N
  ·have l:Hid (zch (zaz h) s.data.toList B=.inl 7):=by unfold Hid;rw[q.out,zhk,Qe c1,Qi (by omega)]
   have I:decide ((s.size:Int)<N)=true:=Qu c2;clear c1 c2 j
   go_in
   go_wp2_with fail;refine d.out.mono ?_;rintro e v ⟨rfl,a⟩;have b:=a.alloc a.size (.cells #[.int .i64 2,.int .i64 N] 114);have g:=i.out.trans (b.mono i.out.size);clear a b;go_wp2
   go_ret3
   exact⟨by rw[l.out];rfl,g⟩
  have I:decide ((s.size:Int)<N)=false:=Qs c2;obtain⟨k,rfl⟩:=Zv h1;have l:Hid (zch (zaz h) s.data.toList B=.inr (s.data.toList.take k,k)):=by unfold Hid;rw[q.out,zhk,Qe c1,Qe (by omega)];rfl
  have G:s.extract 0 k=bs (s.data.toList.take k):=zg5 (by rw[ZG];simp);have P:(k:Int)<=(s.size:Int):=by omega
  have O:(0:Int)<=(k:Int):=by omega
  have L:=hIx G;clear c1 c2 j h1 h2 G
  go_in
  go_wp2_with fail;refine d.out.mono ?_;rintro e v ⟨rfl,a⟩;have b:=a.alloc a.size (.cells #[.int .i64 2,.int .i64 (k:Int)] 114);have g:=i.out.trans (b.mono i.out.size);clear a b;go_wp2_with fail
  go_quiet (fail)
  go_wp2
  go_ret3
  exact⟨by rw[l.out,L.out];rfl,below_drewN g nq⟩
def zReq:Value:=.agg #[.string (.mk #[]),.string (.mk #[]),.slice none 0 0,.string (.mk #[])]
def reqV(q:ReqV)(A:Option Addr)(c:Nat):Value:=.agg #[.string q.h.m,.string q.h.t,.slice A q.h.fs.length c,.string (bs q.b)]
def zdS(l:List UInt8)(H B:Int)(w:World)(e:Ending)(w':World):Prop:=
 (∃x,oneR l H B=.error x/\e=.returned (.tuple #[zReq,.int .i64 0,.int .i64 x])/\Below w.heap.size w w')\/
 ∃q n A c,oneR l H B=.ok (q,n)/\e=.returned (.tuple #[reqV q A c,.int .i64 (n:Int),.int .i64 0])/\OwnV w' w.heap.size (.slice A q.h.fs.length c) q.h.fs/\Below w.heap.size w w'
theorem zdQ{w:World}{g:Nat}{i h f j:Value}(x y z u:Value)(d:w.cell? ⟨g,0,none⟩=some i)(h1:w.cell? ⟨g,1,none⟩=some h)(h2:w.cell? ⟨g,2,none⟩=some f)(m:w.cell? ⟨g,3,none⟩=some j):
 ((((w.setCell ⟨g,0,none⟩ x).setCell ⟨g,1,none⟩ y).setCell ⟨g,2,none⟩ z).setCell ⟨g,3,none⟩ u).cell? ⟨g,0,none⟩=some x/\((((w.setCell ⟨g,0,none⟩ x).setCell ⟨g,1,none⟩ y).setCell ⟨g,2,none⟩ z).setCell ⟨g,3,none⟩ u).cell? ⟨g,1,none⟩=some y/\
 ((((w.setCell ⟨g,0,none⟩ x).setCell ⟨g,1,none⟩ y).setCell ⟨g,2,none⟩ z).setCell ⟨g,3,none⟩ u).cell? ⟨g,2,none⟩=some z/\((((w.setCell ⟨g,0,none⟩ x).setCell ⟨g,1,none⟩ y).setCell ⟨g,2,none⟩ z).setCell ⟨g,3,none⟩ u).cell? ⟨g,3,none⟩=some u:=by
 have a:(⟨g,3,none⟩:Addr)≠⟨g,0,none⟩:=by intro e;cases e
 have b:(⟨g,3,none⟩:Addr)≠⟨g,1,none⟩:=by intro e;cases e
 have n2:(⟨g,3,none⟩:Addr)≠⟨g,2,none⟩:=by intro e;cases e
 have ⟨k,l,c⟩:=zbF x y z d h1 h2;refine⟨?_,?_,?_,?_⟩
 ·rw[QQ _ _ _ _ a];exact k
 ·rw[QQ _ _ _ _ b];exact l
 ·rw[QQ _ _ _ _ n2];exact c
 ·exact Zz _ _ _ ((QQ _ _ _ _ (XB n2)).trans ((QQ _ _ _ _ (XB b)).trans ((QQ _ _ _ _ (XB a)).trans m)))
def ReqAt(R:Nat)(w:World):Prop:=w.heap[R]? = some (.cells #[.string (.mk #[]),.string (.mk #[]),.slice none 0 0,.string (.mk #[])] 29 (0,0))
theorem ReqAt.cells{R:Nat}{w:World}(h:ReqAt R w):w.cell? ⟨R,0,none⟩=some (.string (.mk #[]))/\w.cell? ⟨R,1,none⟩=some (.string (.mk #[]))/\w.cell? ⟨R,2,none⟩=some (.slice none 0 0)/\w.cell? ⟨R,3,none⟩=some (.string (.mk #[])):=
 ⟨Qf w _ 0 _ _ _ h,Qf w _ 1 _ _ _ h,Qf w _ 2 _ _ _ h,Qf w _ 3 _ _ _ h⟩
theorem ReqAt.free{R:Nat}{w:World}(h:ReqAt R w)(j:Nat):w.frozen? ⟨R,j,none⟩=false:=by
 unfold ReqAt at h;simp[World.frozen?, h]
theorem ReqAt.below{R B:Nat}{w w':World}(h:ReqAt R w)(hb:Below B w w')(a:R<B):ReqAt R w':=(hb.block R a).trans h
def zkk(w:World)(R:Nat)(x y z u:Value):World:=(((w.setCell ⟨R,0,none⟩ x).setCell ⟨R,1,none⟩ y).setCell ⟨R,2,none⟩ z).setCell ⟨R,3,none⟩ u
theorem zc9{b w:World}{B R:Nat}(hb:Below B b w)(a:B<=R)(x y z u:Value):Below B b (zkk w R x y z u):=
 (((hb.setCell (p:=⟨R,0,none⟩) a _).setCell (p:=⟨R,1,none⟩) a _).setCell (p:=⟨R,2,none⟩) a _).setCell (p:=⟨R,3,none⟩) a _
theorem zhP{w:World}{R g:Nat}(a:g≠R)(x y z u:Value):(zkk w R x y z u).heap[g]? = w.heap[g]? := by
 unfold zkk;rw[Ql _ _ _ _ a,Ql _ _ _ _ a,Ql _ _ _ _ a,Ql _ _ _ _ a]
theorem znE(s:ByteArray)(H B A0:Int)(w:World)(hH:0<=H/\H<=4096)(hB:0<=B/\B<=4096)(h7:LibOk w)(hs:s.size<=4611686018427387904):
 Calls prog 41 #[.string s,.agg #[.int .i64 H,.int .i64 B,.int .i64 A0]] w (zdS s.data.toList H B w):=by
 have Y:s.data.toList.length=s.size:=by simp
 obtain⟨F,U⟩:∃F,(w.alloc (.cells #[.int .i64 H,.int .i64 B,.int .i64 A0] 58)).alloc (.cells #[.string (.mk #[]),.string (.mk #[]),.slice none 0 0,.string (.mk #[])] 29)=F:=⟨_,rfl⟩
 have K:Below (w.heap.size+1) (w.alloc (.cells #[.int .i64 H,.int .i64 B,.int .i64 A0] 58)) F:=by rw[<-U];exact(Qg _ _).alloc (by simp) _
 have hD:ReqAt (w.heap.size+1) F:=by
  rw[<-U];have:=Qp (w.alloc (.cells #[.int .i64 H,.int .i64 B,.int .i64 A0] 58)) (.cells #[.string (.mk #[]),.string (.mk #[]),.slice none 0 0,.string (.mk #[])] 29);rw[Qr]at this;exact this
 have L:w.heap.size+2<=F.heap.size:=by rw[<-U];simp
 have Z:∀W,Below (w.heap.size+2) F W->(W.cell? ⟨w.heap.size,0,none⟩=some (.int .i64 H)/\W.cell? ⟨w.heap.size,1,none⟩=some (.int .i64 B))/\ReqAt (w.heap.size+1) W/\Below w.heap.size w W:=λW hb=>by
  obtain⟨h1,h2⟩:=zbH (K.trans (hb.mono (Zg _)));exact⟨⟨h1 0,h1 1⟩,hD.below hb (Xr _),h2⟩
 have N:=hIx Z;have hu:Hid (∀W,Below w.heap.size w W->LibOk W):=λW hb=>h7.below hb
 have j:Hid (∀x W,oneR s.data.toList H B=.error x->Below (w.heap.size+2) F W->zdS s.data.toList H B w (.returned (.tuple #[.agg #[.string (.mk #[]),.string (.mk #[]),.slice none 0 0,.string (.mk #[])],.int .i64 0,.int .i64 x]))
  ((((W.setCell ⟨w.heap.size+1,0,none⟩ (.string (.mk #[]))).setCell ⟨w.heap.size+1,1,none⟩ (.string (.mk #[]))).setCell ⟨w.heap.size+1,2,none⟩ (.slice none 0 0)).setCell ⟨w.heap.size+1,3,none⟩ (.string (.mk #[])))):=λx W h hb=>
  .inl ⟨x,h,rfl,zc9 (Z W hb).2.2 (Zg _) _ _ _ _⟩
 have u:Below (w.heap.size+2) F F:=Qg _ _;have ⟨⟨b0,b1⟩,l,hE⟩:=Z F u;obtain⟨m0,hy⟩:=hu.out F hE;obtain⟨p,hp⟩:∃p:Nat,min (s.size:Int) H=(p:Int):=⟨(min (s.size:Int) H).toNat,by omega⟩
 have hcut:(s.extract 0 p).data.toList=zep s.data.toList H:=by
  unfold zep;rw[ZG,Y,hp];simp
 have hI:(s.extract 0 p).size<=4096:=by rw[Xk];omega
 have C:=strings_Index (s.extract 0 p) (ByteArray.mk #[13,10,13,10]) m0 F (by omega) hy;rw[hcut,show (ByteArray.mk #[13,10,13,10]).data.toList=endL from rfl]at C;have T:=Lib.index_ge (zep s.data.toList H) endL;have hh:=hIx U;have hN:(0:Int)<=(p:Int):=by omega
 have hP:(p:Int)<=(s.size:Int):=by omega
 clear U K Z hD h7 hy hE hcut hI
 by_cases D:Lib.index (zep s.data.toList H) endL<0
 ·have hk:Lib.index (zep s.data.toList H) endL=-1:=by omega
  rw[hk]at C;have h3:=hIx C;have r0:=l.cells.1;have r1:=l.cells.2.1;have r2:=l.cells.2.2.1;have r3:=l.cells.2.2.2;have f0:=l.free 0;have f1:=l.free 1;have f2:=l.free 2;have f3:=l.free 3
  by_cases z:H<=(s.size:Int)
  ·have V:=hIx (j.out 5 F (by unfold oneR;rw[Qi D,Qi (by omega)]) u)
   have d1:decide (H<=(s.size:Int))=true:=Qu z;clear C T D hk z l j Y hH hB
   go_in
   go_upto_region 1 with fail
   rw[hh.out];go_wp2_with fail;refine h3.out.mono ?_;rintro e w1 ⟨rfl,rfl⟩;go_wp2_with fail;have t:=zdQ (.string (.mk #[])) (.string (.mk #[])) (.slice none 0 0) (.string (.mk #[])) r0 r1 r2 r3;exact Qj (v:=.tuple #[.agg #[.string (.mk #[]),.string (.mk #[]),.slice none 0 0,.string (.mk #[])],.int .i64 0,.int .i64 5]) (by simp[results,results41,go_sem,t.1,t.2.1,t.2.2.1,t.2.2.2]) rfl V.out
  ·have V:=hIx (j.out 7 F (by unfold oneR;rw[Qi D,Qe (by omega)]) u)
   have d1:decide (H<=(s.size:Int))=false:=Qs z;clear C T D hk z l j Y hH hB
   go_in
   go_upto_region 1 with fail
   rw[hh.out];go_wp2_with fail;refine h3.out.mono ?_;rintro e w1 ⟨rfl,rfl⟩;go_wp2_with fail;have t:=zdQ (.string (.mk #[])) (.string (.mk #[])) (.slice none 0 0) (.string (.mk #[])) r0 r1 r2 r3;exact Qj (v:=.tuple #[.agg #[.string (.mk #[]),.string (.mk #[]),.slice none 0 0,.string (.mk #[])],.int .i64 0,.int .i64 7]) (by simp[results,results41,go_sem,t.1,t.2.1,t.2.2.1,t.2.2.2]) rfl V.out
 ·obtain⟨i,hi⟩:∃i:Nat,Lib.index (zep s.data.toList H) endL=(i:Int):=⟨(Lib.index (zep s.data.toList H) endL).toNat,by omega⟩
  have he:=(zdO hH.1).1 hi;have h9:=hIx (zr5 (B:=B) hH.1 he);have hr:=he.len;have hK:=he.fits;rw[Y]at hr;rw[hi]at C;have h3:=hIx C;have hG:(s.extract 0 (i+4)).data.toList=s.data.toList.take (i+4):=by rw[ZG];simp
  have hm:(s.extract (i+4) s.size).data.toList=s.data.toList.drop (i+4):=Lib.extract_to_end s (i+4);have hz:(s.extract (i+4) s.size).size<=4611686018427387904:=by rw[Xk];omega
  have k1:(0:Int)<=(i:Int):=by omega
  have k2:((i+4:Nat):Int)=(i:Int)+4:=by omega
  have k3:(i:Int)+4<=(s.size:Int):=by omega
  have k4:((i:Int)+4).toNat=i+4:=by rw[<-k2];exact Q9 _
  have d0:decide ((i:Int)<0)=false:=Qs (by omega);have i7:IntKind.i64.wrap ((i:Int)+4)=(i:Int)+4:=Qx _ (by omega);have h5:=zqr (s.extract 0 (i+4)) F (hu.out F (N.out F u).2.2);rw[hG]at h5;unfold zdt zw9 at h5;rw[<-hm]at h9;have hJ:=hIx h5;clear C T D hi h5 hG hm
  go_in
  go_upto_region 1 with fail
  rw[hh.out];go_wp2_with fail;refine h3.out.mono ?_;rintro e w1 ⟨rfl,rfl⟩;go_wp2_with fail;refine hJ.out.mono ?_;rintro e w2 (⟨x,hx,rfl,E⟩|⟨h,A,c,hx,rfl,h8,E⟩)
  ·have G:=(u.trans (E.mono L)).alloc (o:=.cells #[.string (.mk #[]),.string (.mk #[]),.slice none 0 0] 27) (Qn L E.size)
   have V:=hIx (j.out x _ (by rw[h9.out,hx]) G);have ⟨_,a,_⟩:=N.out _ G;have q0:(x != 0)=true:=by rcases zmc hx with h|h <;> rw[h] <;> decide
   have r0:=a.cells.1;have r1:=a.cells.2.1;have r2:=a.cells.2.2.1;have r3:=a.cells.2.2.2;have f0:=a.free 0;have f1:=a.free 1;have f2:=a.free 2;have f3:=a.free 3;clear hx E G a;go_wp2_with fail;have t:=zdQ (.string (.mk #[])) (.string (.mk #[])) (.slice none 0 0) (.string (.mk #[])) r0 r1 r2 r3;exact Qj (v:=.tuple #[.agg #[.string (.mk #[]),.string (.mk #[]),.slice none 0 0,.string (.mk #[])],.int .i64 0,.int .i64 x]) (by simp[results,results41,go_sem,t.1,t.2.1,t.2.2.1,t.2.2.2]) rfl V.out
  ·have hv:=(zp8 hx).2.1
   have ho:=zek hv;have G:=(u.trans (E.mono L)).alloc (o:=.cells #[.string h.m,.string h.t,.slice A h.fs.length c] 27) (Qn L E.size);have K:Below w2.heap.size w2 (w2.alloc (.cells #[.string h.m,.string h.t,.slice A h.fs.length c] 27)):=WaL;have hc:=h8.below K;have S:HdAt w2.heap.size h.m h.t (.slice A h.fs.length c) (w2.alloc (.cells #[.string h.m,.string h.t,.slice A h.fs.length c] 27)):=Qp w2 _;have hF:w.heap.size+2<=w2.heap.size:=Qn L E.size
   have y:Hid (∀W,Below w2.heap.size w2 W->OwnV W w1.heap.size (.slice A h.fs.length c) h.fs->Calls prog 61 #[.agg #[.string h.m,.string h.t,.slice A h.fs.length c],.string (s.extract (i+4) s.size),.int .i64 B] W λe w'=>e=.returned (zml (zch (zaz h) (s.extract (i+4) s.size).data.toList B))/\Below W.heap.size W w'):=λW _ hO=>
    zrP h A c (s.extract (i+4) s.size) B W hO.sl (λf hf=>by have:=ho.lens f hf;unfold maxLen;omega) (by have:=ho.few;omega) hz (by omega)
   have r:Hid (oneR s.data.toList H B=match zch (zaz h) (s.extract (i+4) s.size).data.toList B with
    |.inl e=>.error e
    |.inr (t,k)=>.ok (⟨h,t⟩,i+4+k)):=by unfold Hid;rw[h9.out,hx];dsimp only;cases zch (zaz h) (s.extract (i+4) s.size).data.toList B <;> rfl
   have hA:∀t k,zch (zaz h) (s.extract (i+4) s.size).data.toList B=.inr (t,k)->k<=s.size:=λt k P=>by
    have:=(zpY hB.1 P).2;simp only[Zi,ByteArray.size_data,Xk]at this;omega
   have ha:=hIx hA;have hn:∀x,zch (zaz h) (s.extract (i+4) s.size).data.toList B=.inl x->(x != 0)=true:=λx P=>Q6.2 (zsL P)
   have hd:=hIx hn
   have h6:Hid (∀q n W,oneR s.data.toList H B=.ok (q,n)->Below (w.heap.size+2) w1 W->OwnV W w1.heap.size (.slice A q.h.fs.length c) q.h.fs->zdS s.data.toList H B w (.returned (.tuple #[.agg #[.string q.h.m,.string q.h.t,.slice A q.h.fs.length c,.string (bs q.b)],.int .i64 (n:Int),.int .i64 0]))
    ((((W.setCell ⟨w.heap.size+1,0,none⟩ (.string q.h.m)).setCell ⟨w.heap.size+1,1,none⟩ (.string q.h.t)).setCell ⟨w.heap.size+1,2,none⟩ (.slice A q.h.fs.length c)).setCell ⟨w.heap.size+1,3,none⟩ (.string (bs q.b)))):=λq n W P hb hO=>by
    refine .inr ⟨q,n,A,c,P,rfl,?_,zc9 (N.out W hb).2.2 (Zg _) _ _ _ _⟩;refine(hO.keep λg hg=>?_).low (Q5 (Qv (Nat.lt_succ_of_lt (Xr _)) L));exact zhP (λe=>by have:=(QK hO g hg).1;omega) _ _ _ _
   obtain⟨m,t,X⟩:=h;dsimp only at h8 hc S y;clear b0 b1;go_wp2_with fail;generalize w2.alloc (.cells #[.string m,.string t,.slice A X.length c] 27)=W3 at *;have ⟨h0,h1,h2⟩:=S.cells;have ⟨⟨b3,b4⟩,_,_⟩:=N.out W3 G;have hC:=hIx G;have hL:=hIx S;have hj:=hIx hc;have h4:=hIx K
   have ht:w2.heap.size<W3.heap.size:=by
    have:=S;unfold HdAt at this;rw[Q1]at this;exact this.1
   have kk:(i:Int)+4<=(s.size:Int):=k3;have kz:(0:Int)<=(i:Int)+4:=by omega
   clear h8 E G hv ho hx hc S K hA hn;cases P:zch (zaz ⟨m,t,X⟩) (s.extract (i+4) s.size).data.toList B with
   |inl x=>
    rw[P]at y r;have q0:=hd.out x P;unfold zml at y;dsimp only at y r;clear P h6 ha hd
    go_region_held3 (λw'=>w'.cell? ⟨w2.heap.size,0,none⟩=some (.string m)/\w'.cell? ⟨w2.heap.size,1,none⟩=some (.string t)/\w'.cell? ⟨w2.heap.size,2,none⟩=some (.slice A X.length c)/\w'.cell? ⟨w.heap.size,1,none⟩=some (.int .i64 B))
     (first|exact Q|go_keep)
     (first|(go_at_call 61;(with_reducible refine(y.out _ ?_ ?_).mono ?_);(first|exact h4.out|exact h4.out.drew);(first|exact hj.out);rintro e O ⟨rfl,J⟩;have d:Below W3.heap.size W3 O:=(by first|exact J|exact undrew J);have Q:O.cell? ⟨w2.heap.size,0,none⟩=some (.string m)/\O.cell? ⟨w2.heap.size,1,none⟩=some (.string t)/\O.cell? ⟨w2.heap.size,2,none⟩=some (.slice A X.length c)/\O.cell? ⟨w.heap.size,1,none⟩=some (.int .i64 B):=⟨zaa d h0,zaa d h1,zaa d h2,zaa d b4⟩))
    have I:=hC.out.trans (d.mono (Qn (Qn hF (Q5 ht)) (Qd _)));have V:=hIx (j.out x _ r.out I);have ⟨_,a,_⟩:=N.out _ I;have r0:=a.cells.1;have r1:=a.cells.2.1;have r2:=a.cells.2.2.1;have r3:=a.cells.2.2.2;have f0:=a.free 0;have f1:=a.free 1;have f2:=a.free 2;have f3:=a.free 3;clear h0 h1 h2 b3 b4 Q J d I a;go_wp2_with fail;have t:=zdQ (.string (.mk #[])) (.string (.mk #[])) (.slice none 0 0) (.string (.mk #[])) r0 r1 r2 r3;exact Qj (v:=.tuple #[.agg #[.string (.mk #[]),.string (.mk #[]),.slice none 0 0,.string (.mk #[])],.int .i64 0,.int .i64 x]) (by simp[results,results41,go_sem,t.1,t.2.1,t.2.2.1,t.2.2.2]) rfl V.out
   |inr p=>
    obtain⟨tt,k⟩:=p;rw[P]at y r;have hQ:=ha.out tt k P;unfold zml at y;dsimp only at y r;have ia:IntKind.i64.wrap ((i:Int)+4+(k:Int))=(i:Int)+4+(k:Int):=Qx _ (by omega);have ib:((i+4+k:Nat):Int)=(i:Int)+4+(k:Int):=by omega
    clear P ha hd j
    go_region_held3 (λw'=>w'.cell? ⟨w2.heap.size,0,none⟩=some (.string m)/\w'.cell? ⟨w2.heap.size,1,none⟩=some (.string t)/\w'.cell? ⟨w2.heap.size,2,none⟩=some (.slice A X.length c)/\w'.cell? ⟨w.heap.size,1,none⟩=some (.int .i64 B))
     (first|exact Q|go_keep)
     (first|(go_at_call 61;(with_reducible refine(y.out _ ?_ ?_).mono ?_);(first|exact h4.out|exact h4.out.drew);(first|exact hj.out);rintro e O ⟨rfl,J⟩;have d:Below W3.heap.size W3 O:=(by first|exact J|exact undrew J);have Q:O.cell? ⟨w2.heap.size,0,none⟩=some (.string m)/\O.cell? ⟨w2.heap.size,1,none⟩=some (.string t)/\O.cell? ⟨w2.heap.size,2,none⟩=some (.slice A X.length c)/\O.cell? ⟨w.heap.size,1,none⟩=some (.int .i64 B):=⟨zaa d h0,zaa d h1,zaa d h2,zaa d b4⟩))
    have I:=hC.out.trans (d.mono (Qn (Qn hF (Q5 ht)) (Qd _)));have hw:OwnV O w1.heap.size (.slice A X.length c) X:=hj.out.below d;have V:=hIx (h6.out _ _ O r.out I hw);dsimp only at V;rw[ib]at V;have ⟨_,a,_⟩:=N.out _ I;have r0:=a.cells.1;have r1:=a.cells.2.1;have r2:=a.cells.2.2.1;have r3:=a.cells.2.2.2;have f0:=a.free 0;have f1:=a.free 1;have f2:=a.free 2;have f3:=a.free 3;obtain⟨g0,g1,g2,_⟩:=Q;clear h0 h1 h2 b3 b4 J d I a hw;go_wp2_with fail;have t':=zdQ (.string m) (.string t) (.slice A X.length c) (.string (bs tt)) r0 r1 r2 r3;exact Qj (v:=.tuple #[.agg #[.string m,.string t,.slice A X.length c,.string (bs tt)],.int .i64 ((i:Int)+4+(k:Int)),.int .i64 0]) (by simp[results,results41,go_sem,t'.1,t'.2.1,t'.2.2.1,t'.2.2.2]) rfl V.out
theorem zmg{H B a:Int}(hb:zbl H B a=true):(30<=H/\H<=4096)/\(0<=B/\B<=4096):=by
 unfold zbl at hb;simp only[QW,QY]at hb;exact⟨hb.1.1,hb.1.2⟩
theorem zsO(s:ByteArray)(H B r:Int)(w:World)(hb:zbl H B r=true)(p:LibOk w)(X:s.size<=4611686018427387904):
 Calls prog 22 #[.string s,.agg #[.int .i64 H,.int .i64 B,.int .i64 r]] w (zdS s.data.toList H B w):=by
 obtain⟨V,Y⟩:=zmg hb;obtain⟨o,i⟩:∃o,(w.alloc (.cells #[.int .i64 H,.int .i64 B,.int .i64 r] 58)).alloc (.cells #[.string (.mk #[]),.string (.mk #[]),.slice none 0 0,.string (.mk #[])] 29)=o:=⟨_,rfl⟩
 have J:Below (w.heap.size+1) (w.alloc (.cells #[.int .i64 H,.int .i64 B,.int .i64 r] 58)) o:=by rw[<-i];exact(Qg _ _).alloc (by simp) _
 have D:ReqAt (w.heap.size+1) o:=by
  rw[<-i];have:=Qp (w.alloc (.cells #[.int .i64 H,.int .i64 B,.int .i64 r] 58)) (.cells #[.string (.mk #[]),.string (.mk #[]),.slice none 0 0,.string (.mk #[])] 29);rw[Qr]at this;exact this
 have z:w.heap.size+2<=o.heap.size:=by rw[<-i];simp
 have u:∀W,Below (w.heap.size+2) o W->(W.cell? ⟨w.heap.size,0,none⟩=some (.int .i64 H)/\W.cell? ⟨w.heap.size,1,none⟩=some (.int .i64 B)/\W.cell? ⟨w.heap.size,2,none⟩=some (.int .i64 r))/\ReqAt (w.heap.size+1) W/\Below w.heap.size w W:=λW hb=>by
  obtain⟨h1,h2⟩:=zbH (J.trans (hb.mono (Zg _)));exact⟨⟨h1 0,h1 1,h1 2⟩,D.below hb (Xr _),h2⟩
 have y:=hIx u;have ⟨⟨b0,Z,b2⟩,_,_⟩:=u o (Qg _ _);have l:=zkB H B r o;unfold bndE at l;rw[Qi hb]at l;have HC:=hIx l;have E:Hid (∀W,Below w.heap.size w W->_):=λW hb=>znE s H B r W ⟨by omega,V.2⟩ Y (p.below hb) X
 have O:=hIx i;clear J i l u D p X hb V Y
 go_in
 go_upto_region 1 with fail
 rw[O.out];go_wp2_with fail;refine HC.out.mono ?_;rintro e K ⟨rfl,d⟩;have d:=d.mono z;have ⟨⟨c0,c1,c2⟩,_,F⟩:=y.out K d;have P:=hIx (E.out K F);have C:w.heap.size+2<=K.heap.size:=Qn z d.size;clear b0 Z b2 F;go_wp2_with fail;refine P.out.mono ?_;rintro e w2 (⟨x,I,rfl,j⟩|⟨q,n,A,c,I,rfl,S,j⟩)
 ·have k:=d.trans (j.mono C)
  have ⟨_,a,f⟩:=y.out w2 k
  have U:Hid (zdS s.data.toList H B w (.returned (.tuple #[.agg #[.string (.mk #[]),.string (.mk #[]),.slice none 0 0,.string (.mk #[])],.int .i64 0,.int .i64 x])) (zkk w2 (w.heap.size+1) (.string (.mk #[])) (.string (.mk #[])) (.slice none 0 0) (.string (.mk #[])))):=
   .inl ⟨x,I,rfl,zc9 f (Zg _) _ _ _ _⟩
  have Q:=a.cells.1;have N:=a.cells.2.1;have T:=a.cells.2.2.1;have L:=a.cells.2.2.2;have f0:=a.free 0;have f1:=a.free 1;have f2:=a.free 2;have f3:=a.free 3;unfold zReq;clear c0 c1 c2 a f d j k I;go_wp2_with fail;have t:=zdQ (.string (.mk #[])) (.string (.mk #[])) (.slice none 0 0) (.string (.mk #[])) Q N T L;exact Qj (v:=.tuple #[.agg #[.string (.mk #[]),.string (.mk #[]),.slice none 0 0,.string (.mk #[])],.int .i64 0,.int .i64 x]) (by simp[results,results22,go_sem,t.1,t.2.1,t.2.2.1,t.2.2.2]) rfl U.out
 ·have k:=d.trans (j.mono C)
  have ⟨_,a,f⟩:=y.out w2 k
  have G:OwnV (zkk w2 (w.heap.size+1) (.string q.h.m) (.string q.h.t) (.slice A q.h.fs.length c) (.string (bs q.b))) w.heap.size (.slice A q.h.fs.length c) q.h.fs:=by
   refine(S.keep λg hg=>?_).low (by omega);exact zhP (λe=>by have:=(QK S g hg).1;omega) _ _ _ _
  have U:Hid (zdS s.data.toList H B w (.returned (.tuple #[.agg #[.string q.h.m,.string q.h.t,.slice A q.h.fs.length c,.string (bs q.b)],.int .i64 (n:Int),.int .i64 0])) (zkk w2 (w.heap.size+1) (.string q.h.m) (.string q.h.t) (.slice A q.h.fs.length c) (.string (bs q.b)))):=
   .inr ⟨q,n,A,c,I,rfl,G,zc9 f (Zg _) _ _ _ _⟩
  have Q:=a.cells.1;have N:=a.cells.2.1;have T:=a.cells.2.2.1;have L:=a.cells.2.2.2;have f0:=a.free 0;have f1:=a.free 1;have f2:=a.free 2;have f3:=a.free 3;unfold reqV;clear c0 c1 c2 a f d j k I S G;go_wp2_with fail;have t:=zdQ (.string q.h.m) (.string q.h.t) (.slice A q.h.fs.length c) (.string (bs q.b)) Q N T L;exact Qj (v:=.tuple #[.agg #[.string q.h.m,.string q.h.t,.slice A q.h.fs.length c,.string (bs q.b)],.int .i64 (n:Int),.int .i64 0]) (by simp[results,results22,go_sem,t.1,t.2.1,t.2.2.1,t.2.2.2]) rfl U.out
theorem zwk(w:World):Calls prog 23 #[] w λe w'=>e=.returned (.agg #[.int .i64 4096,.int .i64 4096,.int .i64 40])/\Below w.heap.size w w':=by
 have hb:Below w.heap.size w (w.alloc (.cells #[.int .i64 4096,.int .i64 4096,.int .i64 40] 58)):=WaL
 go_in
 go_wp2;exact Qj (v:=.agg #[.int .i64 4096,.int .i64 4096,.int .i64 40]) (by simp[results,results23,go_sem]) rfl ⟨rfl,hb⟩
