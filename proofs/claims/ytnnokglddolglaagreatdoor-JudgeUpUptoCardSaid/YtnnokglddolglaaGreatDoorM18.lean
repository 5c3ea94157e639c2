/- Lemmas for the last texts. -/
import Derived.Test.YtnnokglddolglaaGreatDoorM07
import Derived.Test.YtnnokglddolglaaGreatDoorM17
import Derived.Laws.Concat
import Derived.Lib.Join
set_option maxHeartbeats 3200000
set_option maxRecDepth 100000
namespace Go.Proofs.YtnnokglddolglaaGreatDoor
open Go.RowKit Go.Proofs.Tryz
def topN(b:Int):Nat:=32-(min (max b 0) 32).toNat
def ze3(b:Int):Nat:=4294967296-2 ^ topN b
theorem ziF(b:Int):topN b<=32:=by unfold topN;omega
theorem zxG(s:Nat)(h:s<=32):1<=2 ^ s/\2 ^ s<=4294967296:=⟨Nat.one_le_two_pow,ZZ (by decide) h⟩
theorem zk5(b:Int):ze3 b<4294967296:=by have:=zxG _ (ziF b);unfold ze3;omega
theorem zlZ:∀s,s<=32->∀i,i<32->(4294967296-2 ^ s).testBit i=decide (s<=i):=by
 have h:((List.range 33).all λs=>(List.range 32).all λi=>(4294967296-2 ^ s).testBit i==decide (s<=i))=true:=by decide+kernel
 intro s b i a;have h1:=Zn.1 h s (ZX.2 (by omega));have h2:=Zn.1 h1 i (ZX.2 a);exact Zk.1 h2
theorem zwa(x s:Nat)(d:x<4294967296)(b:s<=32):x&&& (4294967296-2 ^ s)=0↔x<2 ^ s:=by
 constructor
 ·intro h
  refine Nat.lt_pow_two_of_testBit _ λi c=>?_
  by_cases a:i<32
  ·have:=Zt (λy=>Nat.testBit y i) h
   simp only[Nat.testBit_and,Nat.zero_testBit,zlZ s b i a,Qu c,Bool.and_true]at this;exact this
  ·exact Nat.testBit_lt_two_pow (Qv d (ZZ (n:=2) (by decide) (by omega:32<=i)))
 ·intro h
  refine ZF λi=>?_
  rw[Nat.testBit_and,Nat.zero_testBit]
  by_cases c:i<s
  ·rw[zlZ s b i (by omega),Qs (by omega),Bool.and_false]
  ·rw[Nat.testBit_lt_two_pow (Qv h (ZZ (by decide) (by omega))),Bool.false_and]
theorem zjh(x s:Nat)(a:s<=32):x&&& (4294967295-(4294967296-2 ^ s))=x % 2 ^ s:=by
 have:=zxG s a;rw[show 4294967295-(4294967296-2 ^ s)=2 ^ s-1 by omega,Nat.and_two_pow_sub_one_eq_mod]
def znc(a:Nat)(b:Int)(x:Nat):Bool:=decide ((a ^^^ x)<2 ^ topN b)
def octN(a:Nat)(k:Nat):Nat:=a / 2 ^ k % 256
def decS(n:Nat):List UInt8:=Lib.decDigits n
def zgf(a:Nat):List UInt8:=Lib.join [decS (octN a 24),decS (octN a 16),decS (octN a 8),decS (octN a 0)] [46]
def netT(a:Nat)(b:Int):List UInt8:=if b<32 then zgf a++47::decS b.toNat else zgf a
def zq2(a:Nat)(b:Int):Bool:=decide (0<=b)&&decide (b<=32)&&(a % 2 ^ topN b==0)
def zgA:List (List UInt8)->Nat->Option Nat
 | [],a=>some a
 |x::r,a=>if numB 255 x<0 then none else zgA r ((a*256+(numB 255 x).toNat) % 4294967296)
def znr(l:List UInt8):Int:=if (Lib.cut l [47]).2.2=true then numB 32 (Lib.cut l [47]).2.1 else 32
def netP(l:List UInt8):Except Int (Nat × Int):=
 if znr l<0 then .error 3 else if (splL 46 (Lib.cut l [47]).1).length≠4 then .error 3
 else match zgA (splL 46 (Lib.cut l [47]).1) 0 with
 |none=>.error 3
 |some a=>if a % 2 ^ topN (znr l)≠0 then .error 4 else .ok (a,znr l)
theorem zk0{l:List UInt8}{e:Int}(h:netP l=.error e):e=3\/e=4:=by
 unfold netP at h
 split at h
 ·cases h;exact .inl rfl
 ·split at h
  ·cases h;exact .inl rfl
  ·split at h
   ·cases h;exact .inl rfl
   ·split at h
    ·cases h;exact .inr rfl
    ·cases h
theorem zgd(b:UInt8)(a:0<=zat b)(h1:zat b<10):UInt8.ofNat (48+(zat b).toNat)=b:=by
 have:=zcs (p:=λb=>!(decide (0<=zat b)&&decide (zat b<10))||decide (UInt8.ofNat (48+(zat b).toNat)=b)) (by decide+kernel) b;simp only[Qu a,Qu h1,Bool.and_self,Bool.not_true,Bool.false_or]at this;exact Zq this
theorem zpE:∀(l:List UInt8) (a:Nat) (n:Int),1<=a->zby 10 l (a:Int)=some n->Lib.decDigits n.toNat=Lib.decDigits a++l
 | [],a,n,_,h=>by
  unfold zby at h;have e:(a:Int)=n:=QD h;rw[<-e,Q9,QI]
 |b::l,a,n,i,h=>by
  unfold zby at h
  split at h
  ·cases h
  ·rename_i g
   obtain⟨d,c⟩:∃d:Nat,zat b=(d:Int):=⟨(zat b).toNat,by omega⟩
   have f:d<10:=by omega
   have e:(a:Int)*10+zat b=((a*10+d:Nat):Int):=by rw[c];omega
   rw[e]at h;have ih:=zpE l (a*10+d) n (by omega) h;rw[ih,Lib.decDigits,dif_neg (by omega),show (a*10+d) / 10=a by omega,show (a*10+d) % 10=d by omega,QH]
   congr 1
   have hb:=zgd b (by omega) (by omega);rw[c,Q9]at hb;rw[hb]
   rfl
theorem zrd{most:Int}{l:List UInt8}(h:0<=numB most l):decS (numB most l).toNat=l/\numB most l<=most:=by
 unfold numB at h ⊢;cases f:numL 10 9 l with
 |none=>rw[f]at h;dsimp only at h;omega
 |some n=>
  rw[f]at h;dsimp only at h ⊢
  split at h
  ·exact absurd h (by decide)
  ·rename_i j
   rw[Qe j];refine⟨?_,by omega⟩;unfold numL at f
   split at f
   ·cases f
   ·rename_i g
    match l,f,g,j with
    | [],_,g,_=>exact(g (.inl rfl)).elim
    | [b],f,_,_=>
     unfold zby at f
     split at f
     ·cases f
     ·rename_i k
      unfold zby at f;have e:=QD f;have m:n=zat b:=by omega
      unfold decS;rw[m,Lib.decDigits,dif_pos (by omega),zgd b (by omega) (by omega)]
    |b::c::r,f,_,j=>
     have hb:b≠48:=λe=>j (.inr ⟨by rw[e];rfl,by simp⟩)
     unfold zby at f
     split at f
     ·cases f
     ·rename_i k
      obtain⟨d,i⟩:∃d:Nat,zat b=(d:Int):=⟨(zat b).toNat,by omega⟩
      have a:=zgd b (by omega) (by omega)
      have o:d≠0:=λe=>by
       rw[i,e]at a;exact hb a.symm
      rw[show (0:Int)*10+zat b=(d:Int)by omega]at f;have:=zpE (c::r) d n (by omega) f;unfold decS;rw[this,Lib.decDigits,dif_pos (by omega)];rw[i,Q9]at a;rw[a]
      rfl
theorem zsv(a b c d:List UInt8):Lib.join [a,b,c,d] [46]=a++46::(b++46::(c++46::d)):=by
 rw[Lib.join_cons];simp[Lib.joinTail]
theorem zr2(a k:Nat):octN a k<256:=XT _ (by decide)
theorem zp1:∀(l:List (List UInt8)) (a n:Nat),a<4294967296->zgA l a=some n->n<4294967296
 | [],a,n,b,h=>by unfold zgA at h;cases h;exact b
 |x::r,a,n,_,h=>by
  unfold zgA at h
  split at h
  ·cases h
  ·exact zp1 r _ n (XT _ (by decide)) h
theorem zwb{x:List UInt8}(h:¬numB 255 x<0):∃k:Nat,numB 255 x=(k:Int)/\k<256/\decS k=x:=by
 obtain⟨h1,h2⟩:=zrd (most:=255) (l:=x) (by omega);exact⟨(numB 255 x).toNat,by omega,by omega,h1⟩
theorem zla(s:ByteArray)(most:Int)(w:World)(p:s.size<=maxLen):
 Calls prog 147 #[.string s,.int .i64 most] w λe w'=>e=.returned (.int .i64 (numB most s.data.toList))/\w'=w:=by
 have f:=zei s w p;cases c:numL 10 9 s.data.toList with
 |none=>
  rw[c]at f;have b:Hid (numB most s.data.toList=-1):=by unfold Hid numB;rw[c]
  have g:=hIx f;clear c f
  go_in
  go_wp2_with fail;refine g.out.mono ?_;rintro e j ⟨rfl,rfl⟩;dsimp only[zbx];go_wp2;go_ret;exact⟨zac b.out.symm,rfl⟩
 |some n=>
  rw[c]at f;have d:s.data.toList.length=s.size:=by simp
  have i:0<s.size:=by
   unfold numL at c
   split at c
   ·cases c
   ·omega
  have k:s.data.toList.head? = some s[0]:=by
   have:=zaG s 0 i;rw[List.drop_zero]at this;rw[this];rfl
  have b:Hid (numB most s.data.toList=if most<n\/(s[0].toNat=48/\1<s.size)then -1 else n):=by
   unfold Hid numB;rw[c];dsimp only
   have:(s.data.toList.head? = some 48)↔s[0].toNat=48:=by
    rw[k]
    constructor
    ·intro h;have:=QD h;rw[this];rfl
    ·intro h;congr 1;exact Zu.1 h
   simp only[this,d]
  have g:=hIx f;clear c f k d
  by_cases c1:most<n
  ·have o:decide (most<n)=true:=Qu c1
   have a:Hid (numB most s.data.toList=-1):=by unfold Hid;rw[b.out,Qi (.inl c1)]
   clear b c1
   go_in
   go_wp2_with fail;refine g.out.mono ?_;rintro e j ⟨rfl,rfl⟩;dsimp only[zbx];go_wp2;go_ret;exact⟨zac a.out.symm,rfl⟩
  ·have o:decide (most<n)=false:=Qs c1
   by_cases c2:s[0].toNat=48
   ·have l:((s[0].toNat:Int)==48)=true:=by rw[c2];rfl
    by_cases c3:1<s.size
    ·have m:decide ((1:Int)<(s.size:Int))=true:=Qu (by omega)
     have a:Hid (numB most s.data.toList=-1):=by unfold Hid;rw[b.out,Qi (.inr ⟨c2,c3⟩)]
     clear b c1 c2 c3
     go_in
     go_wp2_with fail;refine g.out.mono ?_;rintro e j ⟨rfl,rfl⟩;dsimp only[zbx];go_wp2;go_ret;exact⟨zac a.out.symm,rfl⟩
    ·have m:decide ((1:Int)<(s.size:Int))=false:=Qs (by omega)
     have a:Hid (numB most s.data.toList=n):=by unfold Hid;rw[b.out,Qe (λh=>h.elim c1 (λh=>c3 h.2))]
     clear b c1 c2 c3
     go_in
     go_wp2_with fail;refine g.out.mono ?_;rintro e j ⟨rfl,rfl⟩;dsimp only[zbx];go_wp2;go_ret;exact⟨zac a.out.symm,rfl⟩
   ·have l:((s[0].toNat:Int)==48)=false:=by rw[Qb];omega
    have a:Hid (numB most s.data.toList=n):=by unfold Hid;rw[b.out,Qe (λh=>h.elim c1 (λh=>c2 h.1))]
    clear b c1 c2
    go_in
    go_wp2_with fail;refine g.out.mono ?_;rintro e j ⟨rfl,rfl⟩;dsimp only[zbx];go_wp2;go_ret;exact⟨zac a.out.symm,rfl⟩
theorem zwZ:∀k:Nat,k<=32->IntKind.u32.wrap (IntKind.u64.wrap (4294967295*2 ^ (32-k)))=((4294967296-2 ^ (32-k):Nat):Int):=by
 have h:((List.range 33).all λk=>IntKind.u32.wrap (IntKind.u64.wrap (4294967295*2 ^ (32-k)))==((4294967296-2 ^ (32-k):Nat):Int))=true:=by decide+kernel
 intro k a;exact Zk.1 (Zn.1 h k (ZX.2 (by omega)))
theorem zdE(b:Int)(w:World):Calls prog 185 #[.int .i64 b] w λe w'=>e=.returned (.int .u32 (ze3 b:Nat))/\w'=w:=by
 obtain⟨k,c⟩:∃k:Nat,min (max b 0) 32=(k:Int):=⟨(min (max b 0) 32).toNat,by omega⟩
 have a:k<=32:=by omega
 have d:Hid (((ze3 b:Nat):Int)=IntKind.u32.wrap (IntKind.u64.wrap (4294967295*2 ^ (32-k)))):=by
  unfold Hid;rw[zwZ k a];unfold ze3 topN;rw[c]
  rfl
 have f:IntKind.i64.wrap (32-(k:Int))=32-(k:Int):=Qx _ (by omega);have i:(32-(k:Int)).toNat=32-k:=by omega
 have g:(0:Int)<=32-(k:Int):=by omega
 have h:32-(k:Int)<=64:=by omega
 go_in
 go_wp2;go_ret;exact⟨zac (by rw[d.out];exact(IntKind.wrap_u32' _).symm),rfl⟩
def netV:Except Int (Nat × Int)->Value
 |.error x=>.tuple #[.agg #[.int .u32 0,.int .i64 0],.int .i64 x]
 |.ok (a,b)=>.tuple #[.agg #[.int .u32 (a:Int),.int .i64 b],.int .i64 0]
def zeH(l:List UInt8)(w:World)(e:Ending)(w':World):Prop:=e=.returned (netV (netP l))/\Below w.heap.size w w'
def NetAt(R:Nat)(a b:Int)(w:World):Prop:=w.heap[R]? = some (.cells #[.int .u32 a,.int .i64 b] 248 (0,0))
theorem NetAt.cells{R:Nat}{a b:Int}{w:World}(h:NetAt R a b w):w.cell? ⟨R,0,none⟩=some (.int .u32 a)/\w.cell? ⟨R,1,none⟩=some (.int .i64 b):=
 ⟨Qf w _ 0 _ _ _ h,Qf w _ 1 _ _ _ h⟩
theorem NetAt.free{R:Nat}{a b:Int}{w:World}(h:NetAt R a b w)(j:Nat):w.frozen? ⟨R,j,none⟩=false:=by
 unfold NetAt at h;simp[World.frozen?, h]
theorem NetAt.below{R B:Nat}{a b:Int}{w w':World}(h:NetAt R a b w)(hb:Below B w w')(c:R<B):NetAt R a b w':=(hb.block R c).trans h
theorem NetAt.put{R:Nat}{a b:Int}{w:World}(h:NetAt R a b w)(x:Int):NetAt R x b (w.setCell ⟨R,0,none⟩ (.int .u32 x)):=by
 unfold NetAt at h ⊢;simp[World.setCell,Q8,h]
def RowsT(w:World)(g:Nat)(a:List ByteArray):Prop:=w.heap[g]? = some (.cells (a.map Value.string).toArray 9 (0,0))
theorem RowsT.cell{w:World}{g:Nat}{a:List ByteArray}(h:RowsT w g a)(j:Nat)(b:j<a.length):w.cell? ⟨g,j,none⟩=some (.string a[j]):=by
 have:=Qf w g j _ _ (0,0) h;rw[this];simp[b]
theorem RowsT.below{B:Nat}{w w':World}{g:Nat}{a:List ByteArray}(h:RowsT w g a)(hb:Below B w w')(b:g<B):RowsT w' g a:=(hb.block g b).trans h
def NRel(d:List (List UInt8))(b:Int)(c:World)(i:Value)(wr:World):Prop:=
 ∃(k a:Nat),k<=d.length/\i=.int .i64 k/\a<4294967296/\Hid (zgA d 0=zgA (d.drop k) a)/\NetAt c.heap.size (a:Int) b wr/\Below c.heap.size c wr
theorem zyI(a n:Nat)(b:n<256):bits .or .u32 (IntKind.u32.wrap ((a:Int)*256)) (n:Int)=(((a*256+n) % 4294967296:Nat):Int):=by
 have e:IntKind.u32.wrap ((a:Int)*256)=((a*256 % 4294967296:Nat):Int):=by rw[IntKind.wrap_u32'];omega
 rw[e,u32_or_nat _ _ (XT _ (by decide)) (by omega),nat_join 8 _ _ (by simp only[Nat.reducePow];omega) (by simp only[Nat.reducePow];omega)];omega
theorem zjI(s:ByteArray)(w:World)(X:LibOk w)(hs:s.size<=4194304):
 Calls prog 146 #[.string s] w (zeH s.data.toList w):=by
 have hh:s.data.toList.length=s.size:=by simp
 obtain⟨A,I⟩:∃A,w.alloc (.cells #[.int .u32 0,.int .i64 0] 248)=A:=⟨_,rfl⟩
 have ht:NetAt w.heap.size 0 0 A:=by rw[<-I];exact Qp w _
 have h4:Below w.heap.size w A:=by rw[<-I];exact WaL
 have hO:w.heap.size<A.heap.size:=by rw[<-I];simp
 have hN:=X.below h4
 have y:Hid (∀x W,netP s.data.toList=.error x->Below w.heap.size w W->zeH s.data.toList w (.returned (.tuple #[.agg #[.int .u32 0,.int .i64 0],.int .i64 x])) ((W.setCell ⟨w.heap.size,0,none⟩ (.int .u32 0)).setCell ⟨w.heap.size,1,none⟩ (.int .i64 0))):=λx W h hb=>
  ⟨by rw[h];rfl,(hb.setCell (p:=⟨w.heap.size,0,none⟩) (Qd _) _).setCell (p:=⟨w.heap.size,1,none⟩) (Qd _) _⟩
 have hS:=hIx I;obtain⟨m0,h3⟩:=hN;have hcut:=strings_Cut s ⟨#[47]⟩ m0 A (by omega) h3;have hL:=zcQ s.data.toList [47];have K:Hid (znr s.data.toList=if (Lib.cut s.data.toList [47]).2.2=true then numB 32 (Lib.cut s.data.toList [47]).2.1 else 32):=rfl
 have G:Hid (netP s.data.toList=if znr s.data.toList<0 then .error 3 else if (splL 46 (Lib.cut s.data.toList [47]).1).length≠4 then .error 3
  else match zgA (splL 46 (Lib.cut s.data.toList [47]).1) 0 with
  |none=>.error 3
  |some a=>if a % 2 ^ topN (znr s.data.toList)≠0 then .error 4 else .ok (a,znr s.data.toList)):=rfl
 rw[show (ByteArray.mk #[47]).data.toList=[47]from rfl]at hcut;generalize znr s.data.toList=g at *;generalize Lib.cut s.data.toList [47]=q at *;obtain⟨r,cb,cc⟩:=q;dsimp only at hcut hL K G;have Z:=hIx hcut;have hD:(bs cb).size<=maxLen:=by rw[zaj];unfold maxLen;omega
 have hv:Hid (∀W,Calls prog 147 #[.string (ByteArray.mk cb.toArray),.int .i64 32] W λe w'=>e=.returned (.int .i64 (numB 32 cb))/\w'=W):=λW=>by
  have:=zla (bs cb) 32 W hD;rw[zae]at this;exact this
 have hu:=hIx h3;clear X I h3 hcut hD;have ha:Hid (NetAt w.heap.size 0 0 A):=ht;have hq:=hIx h4;have g0:∀n,A.heap=(A.drewN n).heap:=λ_=>rfl
 clear ht h4 hh
 go_in
 go_upto_region 1 with fail
 rw[hS.out]
 go_upto_if 19 with (go_at_call 78;refine Z.out.mono ?_;rintro e w1 ⟨rfl,nq,rfl⟩)
 have J:Hid (NetAt w.heap.size 0 0 (A.drewN nq)):=ha.out;have h6:Hid (Below w.heap.size w (A.drewN nq)):=below_drewN hq.out nq;have hK:Hid ((A.drewN nq).cell? ⟨0,0,none⟩=some (.int .i64 m0)):=hu.out;have h8:w.heap.size<(A.drewN nq).heap.size:=hO;generalize A.drewN nq=L at *
 go_cut [6,7,13,15,18,19]from 20 to 24 (λ_ s7 _ _ _ _ wx=>s7=.int .i64 g/\0<=g/\wx=L)
 case first=>
  cases hE:cc with
  |true=>
   rw[hE]at K;have j:Hid (g=numB 32 cb):=K.out
   by_cases b:g<0
   ·have V:=hIx (y.out 3 L (by rw[G.out,Qi b]) h6.out)
    have d0:decide (numB 32 cb<0)=true:=Qu (by rw[<-j.out];exact b);have U:=J.out;have ⟨r0,r1⟩:=U.cells;have f0:=U.free 0;have f1:=U.free 1;clear b U;go_wp2_with (go_at_call 147;refine(hv.out _).mono ?_;rintro e w2 ⟨rfl,f⟩;rw[f]);have t:=zbc (.int .u32 0) (.int .i64 0) r0 r1;exact Qj (v:=.tuple #[.agg #[.int .u32 0,.int .i64 0],.int .i64 3]) (by simp[results,results146,go_sem,t.1,t.2]) rfl V.out
   ·have d0:decide (numB 32 cb<0)=false:=Qs (by rw[<-j.out];exact b)
    have D:0<=g:=by omega
    have hC:=hIx D;clear b D;go_wp2_with (go_at_call 147;refine(hv.out _).mono ?_;rintro e w2 ⟨rfl,f⟩;rw[f]);go_meet;exact⟨by rw[j.out],hC.out,rfl⟩
  |false=>
   rw[hE]at K;have j:Hid (g=32):=K.out;go_wp2;go_meet;exact⟨by rw[j.out],by rw[j.out];decide,rfl⟩
 case rest=>
  obtain⟨rfl,D,hw⟩:=hcut;rw[hw];clear hw;have hW:s.data.toList.length=s.size:=by simp
  have C:=strings_Split (bs r) ⟨#[46]⟩ m0 L (by rw[zaj];omega) hK.out (by decide);have H:=zb2 46 (bs r);have P:=Xi ⟨#[46]⟩ (by decide) 0 _ (bs r) rfl;rw[zae]at H;have hI:=zdR 46 r;have hh:s.data.toList.length=s.size:=by simp
  generalize Lib.splitB ⟨#[46]⟩ 0 (Lib.countB (bs r) ⟨#[46]⟩) (bs r)=m at C H P;generalize Lib.countB (bs r) ⟨#[46]⟩=nc at C P;rw[<-P]at C;have Y:(splL 46 r).length=m.length:=by rw[<-H,Qh]
  have g1:m.length<=4194305:=by omega
  have hX:r.length<=s.size:=by omega
  obtain⟨u,E⟩:∃u,L.alloc (.cells (m.map Value.string).toArray 9)=u:=⟨_,rfl⟩
  have h0:RowsT u L.heap.size m:=by rw[<-E];exact Qp L _
  have h9:Below L.heap.size L u:=by rw[<-E];exact WaL
  have hG:L.heap.size<u.heap.size:=by rw[<-E];simp
  rw[E]at C;have hf:=hIx C;have hy:Hid (Below w.heap.size w u):=h6.out.trans (h9.mono (Q5 h8));have hg:Hid (NetAt w.heap.size 0 0 u):=NetAt.below J.out h9 h8;have hr:=hIx h0;have hP:=hIx H;have d:=hIx Y;have hi:w.heap.size<u.heap.size:=ZD h8 hG;clear C H P hI Y E h0 h9 hK hu Z ha hq J h6 hL
  by_cases c4:m.length=4
  rotate_left
  ·have V:=hIx (y.out 3 u (by rw[G.out,Qe (by omega),Qi (by rw[d.out];exact c4)]) hy.out)
   have d4:((m.length:Int) != 4)=true:=by simp;omega
   have U:=hg.out;have ⟨r0,r1⟩:=U.cells;have f0:=U.free 0;have f1:=U.free 1;clear c4 U D;go_wp2_with (go_at_call 77;refine hf.out.mono ?_;rintro e w2 ⟨rfl,f⟩;rw[f]);have t:=zbc (.int .u32 0) (.int .i64 0) r0 r1;exact Qj (v:=.tuple #[.agg #[.int .u32 0,.int .i64 0],.int .i64 3]) (by simp[results,results146,go_sem,t.1,t.2]) rfl V.out
  ·have d4:((m.length:Int) != 4)=false:=by simp;omega
   have F:Hid (netP s.data.toList=match zgA (splL 46 r) 0 with|none=>.error 3|some a=>if a % 2 ^ topN g≠0 then .error 4 else .ok (a,g)):=by
    unfold Hid;rw[G.out,Qe (by omega),Qe (by rw[d.out];omega)]
   obtain⟨W5,S⟩:∃W5,u.alloc (.cells #[.int .u32 0,.int .i64 g] 248)=W5:=⟨_,rfl⟩
   have hp:NetAt u.heap.size 0 g W5:=by rw[<-S];exact Qp u _
   have hF:Below u.heap.size u W5:=by rw[<-S];exact WaL
   have hQ:=hIx S;have hC:=hIx D;clear G c4 S D;go_wp2_with (go_at_call 77;refine hf.out.mono ?_;rintro e w2 ⟨rfl,f⟩;rw[f]);rw[hQ.out];clear f w2
   go_loopw [35] (λi wr=>NRel (splL 46 r) g u i wr) (λi _=>m.length-(intOf i).toNat)
   case atStart=>exact⟨0,0,Qm _,rfl,by decide,rfl,hp,hF⟩
   case round=>
    obtain⟨k,c,hk,rfl,hj,B,hA,hB⟩:=hrel;clear hp hF;rw[d.out]at hk;have o:NetAt w.heap.size 0 0 wr:=hg.out.below hB hi;have h5:Below w.heap.size w wr:=hy.out.trans (hB.mono (Q5 hi));have Q:RowsT wr L.heap.size m:=hr.out.below hB hG
    by_cases N:k<m.length
    ·have d2:decide ((k:Int)<(m.length:Int))=true:=by simp;omega
     have i7:IntKind.i64.wrap ((k:Int)+1)=(k:Int)+1:=Qx _ (by omega);have hc:=Q.cell k N
     have hx:(splL 46 r)[k]'(by rw[d.out];exact N)=m[k].data.toList:=by
      have:=hP.out;simp only[<-this,Zd]
     have hR:m[k].size<=s.size:=by
      have h1:=zbZ 46 r _ (Qy (by rw[d.out];exact N));rw[hx]at h1;have h2:m[k].size<=r.length:=by simpa using h1
      omega
     have h7:Hid ((splL 46 r).drop k=m[k].data.toList::(splL 46 r).drop (k+1)):=by
      unfold Hid;rw[Zf (by rw[d.out];exact N),hx]
     clear hx;generalize m[k]=x at hc h7 hR;have HN:Hid (∀W,Calls prog 147 #[.string x,.int .i64 255] W λe w'=>e=.returned (.int .i64 (numB 255 x.data.toList))/\w'=W):=λW=>zla x 255 W (by unfold maxLen;omega)
     have l:Hid (zgA (splL 46 r) 0=if numB 255 x.data.toList<0 then none else zgA ((splL 46 r).drop (k+1)) ((c*256+(numB 255 x.data.toList).toNat) % 4294967296)):=by
      unfold Hid;rw[B.out,h7.out,zgA]
     clear B h7
     by_cases b:numB 255 x.data.toList<0
     ·have V:=hIx (y.out 3 wr (by rw[F.out,l.out,Qi b]) h5)
      have d3:decide (numB 255 x.data.toList<0)=true:=Qu b;have ⟨r0,r1⟩:=o.cells;have f0:=o.free 0;have f1:=o.free 1;clear b o hA Q;go_wp2_with (go_at_call 147;refine(HN.out _).mono ?_;rintro e w2 ⟨rfl,f⟩;rw[f]);have t:=zbc (.int .u32 0) (.int .i64 0) r0 r1;exact Qj (v:=.tuple #[.agg #[.int .u32 0,.int .i64 0],.int .i64 3]) (by simp[results,results146,go_sem,t.1,t.2]) rfl V.out
     ·obtain⟨n,hd,hU,_⟩:=zwb b
      rw[Qe b,hd,Q9]at l;rw[hd]at HN b;have d3:decide ((n:Int)<0)=false:=Qs b;have ow:=zyI c n hU;rw[IntKind.wrap_u32']at ow;have cw:IntKind.u32.wrap (n:Int)=(n:Int):=by rw[IntKind.wrap_u32'];omega
      have hn:=hA.put (((c*256+n) % 4294967296:Nat):Int);have hm:Below u.heap.size u (wr.setCell ⟨u.heap.size,0,none⟩ (.int .u32 (((c*256+n) % 4294967296:Nat):Int))):=hB.setCell (p:=⟨u.heap.size,0,none⟩) (Qd _) _;have ho:=hIx hn;have hJ:=hIx hm;have ⟨r0,r1⟩:=hA.cells;have f0:=hA.free 0;clear b hn hm hA Q o;go_wp2_with (go_at_call 147;refine(HN.out _).mono ?_;rintro e w2 ⟨rfl,f⟩;rw[f]);exact⟨⟨k+1,(c*256+n) % 4294967296,by rw[d.out];omega,rfl,XT _ (by decide),l.out,ho.out,hJ.out⟩,by simp only[intOf];omega⟩
    ·have he:k=m.length:=by omega
     have l:Hid (zgA (splL 46 r) 0=some c):=by
      unfold Hid;rw[B.out,he,<-d.out,List.drop_length]
      rfl
     have hZ:m.length<=k:=by omega
     have d2:decide ((k:Int)<(m.length:Int))=false:=Qs (by omega);have ⟨r0,r1⟩:=hA.cells;have ⟨q0,q1⟩:=o.cells;have f0:=o.free 0;have f1:=o.free 1;have hH:Hid (topN g<=32):=ziF g
     have O:Hid (bits .andNot .u32 (c:Int) (ze3 g:Nat)=((c % 2 ^ topN g:Nat):Int)):=by
      unfold Hid;rw[u32_andNot_nat c (ze3 g) hj (zk5 g)];unfold ze3;rw[zjh _ _ (ziF g)]
     clear B he hA o Q hH;have hY:=O.out
     have T:Hid (netP s.data.toList=if c % 2 ^ topN g≠0 then .error 4 else .ok (c,g)):=by
      unfold Hid;rw[F.out,l.out]
     have hV:=O.out;clear F l;generalize c % 2 ^ topN g=z at *
     by_cases hz:z=0
     ·have e1:((z:Int) != 0)=false:=by simp[hz]
      have V:Hid (netP s.data.toList=.ok (c,g)):=by unfold Hid;rw[T.out,Qe (λh=>h hz)]
      have hT:Hid (∀n,Below w.heap.size w (((wr.drewN n).setCell ⟨w.heap.size,0,none⟩ (.int .u32 (c:Int))).setCell ⟨w.heap.size,1,none⟩ (.int .i64 g))):=λn=>((below_drewN h5 n).setCell (p:=⟨w.heap.size,0,none⟩) (Qd _) _).setCell (p:=⟨w.heap.size,1,none⟩) (Qd _) _
      clear hz O T;go_upto_region 19 with fail
      go_quiet ((go_at_call 185;exact Za (zdE _ _)))
      go_wp2_with fail;have t:=zbc (w:=wr.drewN nq) (.int .u32 (c:Int)) (.int .i64 g) q0 q1;exact Qj (v:=.tuple #[.agg #[.int .u32 (c:Int),.int .i64 g],.int .i64 0]) (by simp[results,results146,go_sem,t.1,t.2]) rfl ⟨by rw[V.out];rfl,hT.out nq⟩
     ·have e1:((z:Int) != 0)=true:=by simp;omega
      have V:=hIx (λn=>y.out 4 (wr.drewN n) (by rw[T.out,Qi hz]) (below_drewN h5 n));clear hz O T;go_upto_region 19 with fail
      go_quiet ((go_at_call 185;exact Za (zdE _ _)))
      go_wp2_with fail;have t:=zbc (w:=wr.drewN nq) (.int .u32 0) (.int .i64 0) q0 q1;exact Qj (v:=.tuple #[.agg #[.int .u32 0,.int .i64 0],.int .i64 4]) (by simp[results,results146,go_sem,t.1,t.2]) rfl (V.out nq)
abbrev zea:=Int × Int
def zcc(x:zea):List Value:=[.int .u32 x.1,.int .i64 x.2]
theorem zrv(l:List zea):(l.flatMap zcc).length=l.length*2:=by
 induction l with
 |nil=>rfl
 |cons x l ih=>rw[QM,Qa,ih];simp only[zcc,Qo,QR];omega
theorem zrE(l:List zea):∀u∈l.flatMap zcc,u.oneCell'=true:=λu a=>by
 obtain⟨x,_,h⟩:=List.mem_flatMap.1 a;simp only[zcc,QJ,ZR,X0]at h
 rcases h with rfl|rfl <;> rfl
def OwnN(w:World)(base:Nat)(v:Value)(l:List zea):Prop:=w.ownsRow base 248 2 v l.length (l.flatMap zcc)
theorem OwnN.nil(w:World)(base:Nat):OwnN w base (.slice none 0 0) []:=ZI w base 248 2
theorem OwnN.below{w w':World}{base:Nat}{v:Value}{l:List zea}(h:OwnN w base v l)(hb:Below w.heap.size w w'):OwnN w' base v l:=zaP h hb
theorem OwnN.keep{w w':World}{base:Nat}{v:Value}{l:List zea}(h:OwnN w base v l)(b:∀g,v.ownBlock=some g->w'.heap[g]? = w.heap[g]?):OwnN w' base v l:=by
 refine⟨h.1,?_⟩
 rcases h.2 with d|⟨g,cap,a,h1,h2,e,c⟩
 ·exact .inl d
 ·exact .inr ⟨g,cap,a,h1,h2,(b g (by rw[h1];rfl)).trans e,c⟩
theorem OwnN.low{w:World}{base b:Nat}{v:Value}{l:List zea}(h:OwnN w base v l)(hb:b<=base):OwnN w b v l:=
 ⟨h.1,h.2.imp_right λ⟨g,cap,a,h1,h2,c⟩=>⟨g,cap,a,h1,Qn hb h2,c⟩⟩
theorem OwnN.form{w:World}{base:Nat}{v:Value}{l:List zea}(h:OwnN w base v l):∃A c,v=.slice A l.length c/\Sl w w.heap.size 2 A l.length (l.flatMap zcc):=by
 rcases h.2 with ⟨h1,h2⟩|⟨g,cap,a,h1,hb,e,_⟩
 ·have:l=[]:=QA h2
  subst this;exact⟨none,0,h1,Sl.nil _ _ _ _⟩
 ·refine⟨_,_,h1,zrv l,λd=>⟨g,0,rfl,?_,λj b=>?_⟩⟩
  ·exact(QK h g (by rw[h1];simp[Value.ownBlock])).2
  ·have:=Zx (g:=g) h (by rw[h1];simp[Value.ownBlock]) j _ (Qc b)
   rw[zbq]at this;rw[Zc];exact this
theorem zwd:(prog.info? 248).map (λi=>(i.zero,i.size,i.bytes))=some (some (.agg #[.int .u32 0,.int .i64 0]),2,16):=by kernel_rfl
section
variable {ops:Array Oper} {rest:List Oper} {o:Oper} {a:Act} {Q:Exit->Act->World->Prop} {w:World}
theorem zhN(f:o.guard=none)(s x:Operand)(y:o.op=.call {callee:=.builtin .append,args:=#[s,x],argTypes:=#[195,195]})
 (base:Nat) (v:Value) (l:List zea) (B:a.eval s=v) (d:OwnN w base v l) (b:base<=w.heap.size)
 (n:List Value) (new:zea) (E:n=zcc new) (p:Nat) (m:w.heap.size=p) (c:Nat) (D:a.eval x=.slice (some ⟨p,0,none⟩) 1 c)
 (e:l.length<=4194304)
 (h:∀v' w',OwnN w' base v' (l++[new])->Below base w w'->(∀g,g<w.heap.size->v.ownBlock≠some g->w'.heap[g]? = w.heap[g]?)->w.heap.size<w'.heap.size->wpList prog ops Q rest (a.put o.dst v') w'):
 wpList prog ops Q (o::rest) a (w.alloc (.cells n.toArray 248)):=by
 subst E;subst m
 obtain⟨t,C,i,j,k⟩:=ZC zwd
 refine Xs f λ_ r=>za1 s x 195 y base 248 t _ 2 16 underlying195 C i j k rfl (by decide) v l.length (l.flatMap zcc) B d b (zcc new) 1 c D rfl
  (λu z=>zrE [new] u (by simpa using z)) (by unfold maxLen;omega) (by omega) λv' w' h1 h2 A q=>r _ _ (h v' w' (by unfold OwnN;rw[Qa,Q4];simpa using h1) h2 A q)
end
section
open Go.Sort
def TabOk (w:World):Prop:=∀w',Below w.heap.size w w'->Lib.TabIs prog w' "internal/strconv.uint64pow10" .u64 Lib.pow10Tab
theorem TabOk.of {w:World} (h:Lib.TabIs prog w "internal/strconv.uint64pow10" .u64 Lib.pow10Tab):TabOk w:=Lib.tabBelow_of_tabIs h
theorem TabOk.below{w w':World}(h:TabOk w)(hb:Below w.heap.size w w'):TabOk w':=λw2 a=>h w2 (hb.trans (a.mono hb.size))
theorem zh2(w:World)(k:Nat)(os:Array Obj):Below w.heap.size w (grow (w.drewN k) os):=
 ⟨rfl,rfl,rfl,by rw[size_grow];exact Nat.le_add_right _ _,λj a=>heap_grow_old (w.drewN k) os a⟩
theorem zhn(n:Nat)(w:World)(b:n<=9223372036854775807)(h:TabOk w):
 Calls prog 58 #[.int .i64 (n:Int)] w λe w'=>e=.returned (.string (bs (Lib.decDigits n)))/\Below w.heap.size w w':=
 (strconv_Itoa (n:Int) (by omega) (by omega) w (h w (Qg _ _))).mono λe w' ⟨h1,a,os,h2⟩=>by
  subst h2;refine⟨?_,zh2 w a os⟩;rw[h1];unfold Lib.itoa;rw[Qe (by omega)]
  rfl
end
def zgE(a:Nat)(b:Int)(w:World)(e:Ending)(w':World):Prop:=
 e=.returned (if zq2 a b=true then .tuple #[.string (bs (netT a b)),.int .i64 0]else .tuple #[.string (.mk #[]),.int .i64 1])/\Below w.heap.size w w'
def zf6(a:Nat):List ByteArray:=[bs (decS (octN a 24)),bs (decS (octN a 16)),bs (decS (octN a 8)),bs (decS (octN a 0))]
def zAt(a:Nat)(b:Int)(w c:World)(v i:Value)(wr:World):Prop:=
 ∃(k:Nat) (z:Int),k<=4/\z=24-8*(k:Int)/\i=.int .i64 z/\OwnS wr (w.heap.size+1) v ((zf6 a).take k)/\NetAt w.heap.size (a:Int) b wr/\Below (w.heap.size+1) c wr
theorem zrH(a:Nat)(b:Int)(w:World)(ha:a<4294967296)(o:TabOk w):
 Calls prog 162 #[.agg #[.int .u32 (a:Int),.int .i64 b]] w (zgE a b w):=by
 obtain⟨t,s⟩:∃t,w.alloc (.cells #[.int .u32 (a:Int),.int .i64 b] 248)=t:=⟨_,rfl⟩
 have J:NetAt w.heap.size (a:Int) b t:=by rw[<-s];exact Qp w _
 have F:Below w.heap.size w t:=by rw[<-s];exact WaL
 have hg:w.heap.size<t.heap.size:=by rw[<-s];simp
 have h7:=o.below F;have A:=hIx s;have hy:=hIx h7;have Z:=hIx F;have l:Hid (zq2 a b=(decide (0<=b)&&decide (b<=32)&&(a % 2 ^ topN b==0))):=rfl
 have p:Hid (bits .andNot .u32 (a:Int) (ze3 b:Nat)=((a % 2 ^ topN b:Nat):Int)):=by
  unfold Hid;rw[u32_andNot_nat a (ze3 b) ha (zk5 b)];unfold ze3;rw[zjh _ _ (ziF b)]
 have f:Hid (zq2 a b=false->∀n,zgE a b w (.returned (.tuple #[.string (.mk #[]),.int .i64 1])) (t.drewN n)):=λh n=>⟨by rw[h];rfl,below_drewN Z.out n⟩
 have V:=hIx o;clear o s F h7;have ⟨r0,r1⟩:=J.cells;have g:=p.out
 by_cases c1:b<0
 ·have d1:decide (b<0)=true:=Qu c1
  have HP:=hIx (f.out (by rw[l.out,Qs (by omega)];rfl));clear c1 p g
  go_in
  go_upto_region 1 with fail
  rw[A.out]
  go_quiet ((go_at_call 185;exact Za (zdE _ _)))
  go_wp2;exact Qj (v:=.tuple #[.string (.mk #[]),.int .i64 1]) (by simp[results,results162,go_sem]) rfl (HP.out nq)
 ·have d1:decide (b<0)=false:=Qs c1
  by_cases c2:32<b
  ·have d2:decide (32<b)=true:=Qu c2
   have HP:=hIx (f.out (by rw[l.out,Qs (by omega:¬b<=32),Bool.and_false];rfl));clear c1 c2 p g
   go_in
   go_upto_region 1 with fail
   rw[A.out]
   go_quiet ((go_at_call 185;exact Za (zdE _ _)))
   go_wp2;exact Qj (v:=.tuple #[.string (.mk #[]),.int .i64 1]) (by simp[results,results162,go_sem]) rfl (HP.out nq)
  ·have d2:decide (32<b)=false:=Qs c2
   by_cases S:a % 2 ^ topN b=0
   rotate_left
   ·have HP:=hIx (f.out (by rw[l.out,Qb.2 S,Bool.and_false]))
    generalize a % 2 ^ topN b=z at *;have e1:((z:Int) != 0)=true:=by simp;omega
    clear c1 c2 p S l
    go_in
    go_upto_region 1 with fail
    rw[A.out]
    go_quiet ((go_at_call 185;exact Za (zdE _ _)))
    go_wp2;exact Qj (v:=.tuple #[.string (.mk #[]),.int .i64 1]) (by simp[results,results162,go_sem]) rfl (HP.out nq)
   ·have h0:Hid (zq2 a b=true):=by unfold Hid;rw[l.out,Qu (by omega),Qu (by omega),S];rfl
    rw[S]at g;clear p S l f
    go_in
    go_upto_region 1 with fail
    rw[A.out]
    go_quiet ((go_at_call 185;exact Za (zdE _ _)))
    go_wp2_with fail;have T:NetAt w.heap.size (a:Int) b (t.drewN nq):=J;have hc:Below (w.heap.size+1) t (t.drewN nq):=below_drewN (Qg _ _) nq
    go_loopw [4,5] (λv i wr=>zAt a b w t v i wr) (λ_ i _=>(8+intOf i).toNat)
    case atStart=>exact⟨0,24,Qm _,rfl,rfl,OwnS.nil _ _,T,hc⟩
    case round=>
     obtain⟨k,z,hk,H,rfl,D,X,Y⟩:=hrel;have HA:=hIx ha;clear T hc J g r0 r1 ha;have h5:Below w.heap.size w wr:=Z.out.trans (Y.mono (Zg _));have HI:Hid (∀n:Nat,n<256->Calls prog 58 #[.int .i64 (n:Int)] wr λe w'=>e=.returned (.string (bs (decS n)))/\Below wr.heap.size wr w'):=λn hn=>zhn n wr (by omega) (V.out.below h5)
     have c:w.heap.size+1<=wr.heap.size:=Qn hg Y.size;have ⟨r0,r1⟩:=X.cells;obtain⟨Ao,co,rfl,_⟩:=D.form;have hu:((zf6 a).take k).length<=4:=by rw[Qz];omega
     by_cases hw:k<4
     ·have hr:0<=z:=by omega
      have hv:z<=32:=by omega
      have d3:decide (0<=z)=true:=Qu hr;have i8:IntKind.i64.wrap (z-8)=z-8:=Qx _ (by omega);have ho:=zr2 a z.toNat
      have ht:bits .and .u32 ((a:Int) / 2 ^ z.toNat) 255=((octN a z.toNat:Nat):Int):=by
       have e:(a:Int) / 2 ^ z.toNat=((a / 2 ^ z.toNat:Nat):Int):=by push_cast;rfl
       have hm:a / 2 ^ z.toNat<4294967296:=Nat.lt_of_le_of_lt (Nat.div_le_self _ _) HA.out;rw[e,show (255:Int)=((255:Nat):Int)from rfl,u32_and_nat _ _ hm (by decide),show 255=2 ^ 8-1 from rfl,Nat.and_two_pow_sub_one_eq_mod]
       rfl
      have hp:Hid ((zf6 a).take (k+1)=(zf6 a).take k++[bs (decS (octN a z.toNat))]):=by
       unfold Hid;obtain rfl|rfl|rfl|rfl:k=0\/k=1\/k=2\/k=3:=by omega
       ·obtain rfl:z=24:=by omega
        rfl
       ·obtain rfl:z=16:=by omega
        rfl
       ·obtain rfl:z=8:=by omega
        rfl
       ·obtain rfl:z=0:=by omega
        rfl
      have G:=hIx (HI.out (octN a z.toNat) ho);have i9:IntKind.i64.wrap ((octN a z.toNat:Nat):Int)=((octN a z.toNat:Nat):Int):=Qx _ (by omega);generalize octN a z.toNat=oc at *;generalize (zf6 a).take k=h6 at *;have HO:=hIx D;have u:=hIx X;have m:=hIx Y;have hq:=hIx H;clear HI ho X D Y H;go_wp2_with (first|(go_at_call 58;refine G.out.mono ?_;rintro e w2 ⟨rfl,I⟩;have hf:=HO.out.below I;have y:=Qn c I.size)|(at_builtin;refine zbD rfl (.tmp 28) (.tmp 36) rfl (w.heap.size+1) (.slice Ao h6.length co) h6 rfl hf y _ [bs (decS oc)] rfl 1 1 rfl rfl (by omega) ?_;intro v5 w5 hd d hD hC));have C:Below (w.heap.size+1) wr w5:=(I.mono c).trans d;exact⟨⟨k+1,z-8,by omega,by have:=hq.out;omega,rfl,by rw[hp.out];exact hd,u.out.below C (Xr _),m.out.trans C⟩,by dsimp only[intOf];omega⟩
     ·obtain rfl:k=4:=by omega
      obtain rfl:z=-8:=by omega
      have q:∀i,(decS (octN a i)).length<=6:=λi=>(zil 5 (octN a i) (by have:=zr2 a i;omega)).2
      have h8:(zgf a).length<=30:=by
       unfold zgf;rw[zsv];have h1:=q 24;have h2:=q 16;have h3:=q 8;have h4:=q 0;simp only[Qa,Qo];omega
      have P:=D.sl;have L:(zf6 a).take 4=zf6 a:=rfl;rw[L]at D P;obtain⟨bo,oo,rfl,hh,Q⟩:=P.src (by rw[Qh];show 0<4;decide)
      have B:(zf6 a).length<=co:=by
       rcases D.2 with ⟨e,_⟩|⟨_,_,_,e,_,_,h9,_⟩
       ·cases e
       ·injection e with _ _ e;rw[e];exact h9
      have O:Lib.join ((zf6 a).map (·.data.toList)) [46]=zgf a:=rfl
      have hj:=strings_Join bo oo co (zf6 a) ⟨#[46]⟩ wr (λj x hx=>by
       have he:j<((zf6 a).map Value.string).length:=by rw[Qh];exact(Qw.1 hx).1
       rw[Q j he,Zd];obtain⟨h9,hi⟩:=Qw.1 hx;rw[hi]) hh (by show 4<=_;decide) B (by show (Lib.join ((zf6 a).map (·.data.toList)) [46]).length<=_;rw[O];omega)
      rw[show (ByteArray.mk #[46]).data.toList=[46]from rfl,O,show ByteArray.mk (zgf a).toArray=bs (zgf a)from rfl]at hj;obtain⟨n4,K⟩:∃n4,n4=(zf6 a).length:=⟨_,rfl⟩
      rw[L,<-K];rw[<-K]at hj;have U:=hIx hj;have m:=hIx h5;have u:=hIx X;have hE:(bs (zgf a)).size<=30:=by rw[zaj];exact h8
      clear hj D P Q B O q h8 HI Y X H L K
      by_cases c3:b<32
      ·have d4:decide (b<32)=true:=Qu c3
       obtain⟨n,rfl⟩:∃n:Nat,b=(n:Int):=⟨b.toNat,by omega⟩
       have E:Hid (bs (netT a (n:Int))=bs (zgf a)++(ByteArray.mk #[47]++bs (decS n))):=by
        unfold Hid netT;rw[Qi c3,Q9]
        apply ByteArray.ext
        simp[bs]
       have hF:(bs (decS n)).size<=6:=by rw[zaj];exact(zil 5 n (by omega)).2
       have G:Hid (∀W,Below w.heap.size w W->Calls prog 58 #[.int .i64 (n:Int)] W λe w'=>e=.returned (.string (bs (decS n)))/\Below W.heap.size W w'):=λW hb=>zhn n W (by omega) (V.out.below hb)
       have s1:(1:Nat)+(bs (decS n)).size<=9223372036854775807:=by omega
       have s2:(bs (zgf a)).size+(1+(bs (decS n)).size)<=9223372036854775807:=by omega
       generalize bs (zgf a)=AT at *;generalize bs (decS n)=DT at *;clear c1 c2 c3;go_wp2_with (first|(go_at_call 211;refine U.out.mono ?_;rintro e w5 ⟨rfl,d⟩;have r:Below w.heap.size w w5:=m.out.trans (d.mono m.out.size);have N:=u.out.below d c;have ⟨q0,q1⟩:=N.cells)|(go_at_call 58;refine(G.out _ r).mono ?_;rintro e w7 ⟨rfl,hs⟩));exact Qj (v:=.tuple #[.string (AT++(ByteArray.mk #[47]++DT)),.int .i64 0]) (by simp[results,results162,go_sem]) rfl ⟨by rw[h0.out,Qi rfl,E.out],r.trans (hs.mono r.size)⟩
      ·have d4:decide (b<32)=false:=Qs c3
       have E:Hid (bs (netT a b)=bs (zgf a)):=by unfold Hid netT;rw[Qe c3]
       generalize bs (zgf a)=AT at *;clear c1 c2 c3;go_wp2_with (go_at_call 211;refine U.out.mono ?_;rintro e w5 ⟨rfl,d⟩;have r:Below w.heap.size w w5:=m.out.trans (d.mono m.out.size);have N:=u.out.below d c;have ⟨q0,q1⟩:=N.cells);exact Qj (v:=.tuple #[.string AT,.int .i64 0]) (by simp[results,results162,go_sem]) rfl ⟨by rw[h0.out,Qi rfl,E.out],r⟩
