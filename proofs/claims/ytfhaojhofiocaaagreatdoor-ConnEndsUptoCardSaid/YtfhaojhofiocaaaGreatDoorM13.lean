/- Lemmas for the last texts. -/
import Derived.Test.YtfhaojhofiocaaaGreatDoorM12
import Derived.Laws.Concat
import Derived.Lib.Join
set_option maxHeartbeats 3200000
set_option maxRecDepth 100000
namespace Go.Proofs.YtfhaojhofiocaaaGreatDoor
open Go.RowKit Go.Proofs.Tryz
def topN(b:Int):Nat:=32-(min (max b 0) 32).toNat
def zeZ(b:Int):Nat:=4294967296-2 ^ topN b
theorem ziq(b:Int):topN b<=32:=by unfold topN;omega
theorem zwV(s:Nat)(h:s<=32):1<=2 ^ s/\2 ^ s<=4294967296:=⟨Nat.one_le_two_pow,ZS (by decide) h⟩
theorem zks(b:Int):zeZ b<4294967296:=by have:=zwV _ (ziq b);unfold zeZ;omega
theorem zll:∀s,s<=32->∀i,i<32->(4294967296-2 ^ s).testBit i=decide (s<=i):=by
 have h:((List.range 33).all λs=>(List.range 32).all λi=>(4294967296-2 ^ s).testBit i==decide (s<=i))=true:=by decide+kernel
 intro s b i a;have h1:=Zv.1 h s (ZQ.2 (by omega));have h2:=Zv.1 h1 i (ZQ.2 a);exact Zn.1 h2
theorem zvo(x s:Nat)(d:x<4294967296)(b:s<=32):x&&& (4294967296-2 ^ s)=0↔x<2 ^ s:=by
 constructor
 ·intro h
  refine Nat.lt_pow_two_of_testBit _ λi c=>?_
  by_cases a:i<32
  ·have:=Zm (λy=>Nat.testBit y i) h
   simp only[Nat.testBit_and,Nat.zero_testBit,zll s b i a,Qx c,Bool.and_true]at this;exact this
  ·exact Nat.testBit_lt_two_pow (Qw d (ZS (n:=2) (by decide) (by omega:32<=i)))
 ·intro h
  refine ZD λi=>?_
  rw[Nat.testBit_and,Nat.zero_testBit]
  by_cases c:i<s
  ·rw[zll s b i (by omega),Qt (by omega),Bool.and_false]
  ·rw[Nat.testBit_lt_two_pow (Qw h (ZS (by decide) (by omega))),Bool.false_and]
theorem zi3(x s:Nat)(a:s<=32):x&&& (4294967295-(4294967296-2 ^ s))=x % 2 ^ s:=by
 have:=zwV s a;rw[show 4294967295-(4294967296-2 ^ s)=2 ^ s-1 by omega,Nat.and_two_pow_sub_one_eq_mod]
def zmt(a:Nat)(b:Int)(x:Nat):Bool:=decide ((a ^^^ x)<2 ^ topN b)
def octN(a:Nat)(k:Nat):Nat:=a / 2 ^ k % 256
def decS(n:Nat):jE:=Lib.decDigits n
def zf8(a:Nat):jE:=Lib.join [decS (octN a 24),decS (octN a 16),decS (octN a 8),decS (octN a 0)] [46]
def netT(a:Nat)(b:Int):jE:=if b<32 then zf8 a++47::decS b.toNat else zf8 a
def zqh(a:Nat)(b:Int):Bool:=decide (0<=b)&&decide (b<=32)&&(a % 2 ^ topN b==0)
def zgt:List jE->Nat->Option Nat
 | [],a=>some a
 |x::r,a=>if numB 255 x<0 then none else zgt r ((a*256+(numB 255 x).toNat) % 4294967296)
def zmI(l:jE):Int:=if (Lib.cut l [47]).2.2=true then numB 32 (Lib.cut l [47]).2.1 else 32
def netP(l:jE):Except Int (Nat × Int):=
 if zmI l<0 then .error 3 else if (splL 46 (Lib.cut l [47]).1).length≠4 then .error 3
 else match zgt (splL 46 (Lib.cut l [47]).1) 0 with
 |none=>.error 3
 |some a=>if a % 2 ^ topN (zmI l)≠0 then .error 4 else .ok (a,zmI l)
theorem zkl{l:jE}{e:Int}(h:netP l=.error e):e=3\/e=4:=by
 unfold netP at h
 split at h
 ·cases h;exact .inl rfl
 ·split at h
  ·cases h;exact .inl rfl
  ·split at h
   ·cases h;exact .inl rfl
   ·split at h
    ·cases h;exact .inr rfl
    ·cases h
theorem zf6(b:UInt8)(a:0<=zaA b)(h1:zaA b<10):UInt8.ofNat (48+(zaA b).toNat)=b:=by
 have:=zeg (p:=λb=>!(decide (0<=zaA b)&&decide (zaA b<10))||decide (UInt8.ofNat (48+(zaA b).toNat)=b)) (by decide+kernel) b;simp only[Qx a,Qx h1,Bool.and_self,Bool.not_true,Bool.false_or]at this;exact Zp this
theorem zoT:∀(l:jE) (a:Nat) (n:Int),1<=a->zcb 10 l (a:Int)=some n->Lib.decDigits n.toNat=Lib.decDigits a++l
 | [],a,n,_,h=>by
  unfold zcb at h;have e:(a:Int)=n:=QG h;rw[<-e,Q9,QO]
 |b::l,a,n,i,h=>by
  unfold zcb at h
  split at h
  ·cases h
  ·rename_i g
   obtain⟨d,c⟩:∃d:Nat,zaA b=(d:Int):=⟨(zaA b).toNat,by omega⟩
   have f:d<10:=by omega
   have e:(a:Int)*10+zaA b=((a*10+d:Nat):Int):=by rw[c];omega
   rw[e]at h;have ih:=zoT l (a*10+d) n (by omega) h;rw[ih,Lib.decDigits,dif_neg (by omega),show (a*10+d) / 10=a by omega,show (a*10+d) % 10=d by omega,Q4]
   congr 1
   have hb:=zf6 b (by omega) (by omega);rw[c,Q9]at hb;rw[hb]
   rfl
theorem zqp{most:Int}{l:jE}(h:0<=numB most l):decS (numB most l).toNat=l/\numB most l<=most:=by
 unfold numB at h ⊢;cases f:numL 10 9 l with
 |none=>rw[f]at h;dsimp only at h;omega
 |some n=>
  rw[f]at h;dsimp only at h ⊢
  split at h
  ·exact absurd h (by decide)
  ·rename_i j
   rw[Qf j];refine⟨?_,by omega⟩;unfold numL at f
   split at f
   ·cases f
   ·rename_i g
    match l,f,g,j with
    | [],_,g,_=>exact(g (.inl rfl)).elim
    | [b],f,_,_=>
     unfold zcb at f
     split at f
     ·cases f
     ·rename_i k
      unfold zcb at f;have e:=QG f;have m:n=zaA b:=by omega
      unfold decS;rw[m,Lib.decDigits,dif_pos (by omega),zf6 b (by omega) (by omega)]
    |b::c::r,f,_,j=>
     have hb:b≠48:=λe=>j (.inr ⟨by rw[e];rfl,by simp⟩)
     unfold zcb at f
     split at f
     ·cases f
     ·rename_i k
      obtain⟨d,i⟩:∃d:Nat,zaA b=(d:Int):=⟨(zaA b).toNat,by omega⟩
      have a:=zf6 b (by omega) (by omega)
      have o:d≠0:=λe=>by
       rw[i,e]at a;exact hb a.symm
      rw[show (0:Int)*10+zaA b=(d:Int)by omega]at f;have:=zoT (c::r) d n (by omega) f;unfold decS;rw[this,Lib.decDigits,dif_pos (by omega)];rw[i,Q9]at a;rw[a]
      rfl
theorem zrE(a b c d:jE):Lib.join [a,b,c,d] [46]=a++46::(b++46::(c++46::d)):=by
 rw[Lib.join_cons];simp[Lib.joinTail]
theorem zrg(a k:Nat):octN a k<256:=Nat.mod_lt _ (by decide)
theorem zpf:∀(l:List jE) (a n:Nat),a<4294967296->zgt l a=some n->n<4294967296
 | [],a,n,b,h=>by unfold zgt at h;cases h;exact b
 |x::r,a,n,_,h=>by
  unfold zgt at h
  split at h
  ·cases h
  ·exact zpf r _ n (Nat.mod_lt _ (by decide)) h
theorem zvp{x:jE}(h:¬numB 255 x<0):∃k:Nat,numB 255 x=(k:Int)/\k<256/\decS k=x:=by
 obtain⟨h1,h2⟩:=zqp (most:=255) (l:=x) (by omega);exact⟨(numB 255 x).toNat,by omega,by omega,h1⟩
theorem zkC(s:ByteArray)(most:Int)(w:World)(q:s.size<=maxLen):
 Calls prog 74 #[.string s,jA most] w λe w'=>e=jC (jA (numB most s.data.toList))/\w'=w:=by
 have f:=zge s w q;cases c:numL 10 9 s.data.toList with
 |none=>
  rw[c]at f;have b:Hid (numB most s.data.toList=-1):=by unfold Hid numB;rw[c]
  have i:=hIx f;clear c f
  go_in
  go_wp2_with fail;refine i.out.mono ?_;rintro e j ⟨rfl,rfl⟩;dsimp only[zcg];go_wp2;go_ret;exact⟨zae b.out.symm,rfl⟩
 |some n=>
  rw[c]at f;have d:s.data.toList.length=s.size:=by simp
  have g:0<s.size:=by
   unfold numL at c
   split at c
   ·cases c
   ·omega
  have k:s.data.toList.head? = some s[0]:=by
   have:=zaH s 0 g;rw[List.drop_zero]at this;rw[this];rfl
  have b:Hid (numB most s.data.toList=if most<n\/(s[0].toNat=48/\1<s.size)then -1 else n):=by
   unfold Hid numB;rw[c];dsimp only
   have:(s.data.toList.head? = some 48)↔s[0].toNat=48:=by
    rw[k]
    constructor
    ·intro h;have:=QG h;rw[this];rfl
    ·intro h;congr 1;exact Zr.1 h
   simp only[this,d]
  have i:=hIx f;clear c f k d
  by_cases c1:most<n
  ·have o:decide (most<n)=true:=Qx c1
   have a:Hid (numB most s.data.toList=-1):=by unfold Hid;rw[b.out,Qj (.inl c1)]
   clear b c1
   go_in
   go_wp2_with fail;refine i.out.mono ?_;rintro e j ⟨rfl,rfl⟩;dsimp only[zcg];go_wp2;go_ret;exact⟨zae a.out.symm,rfl⟩
  ·have o:decide (most<n)=false:=Qt c1
   by_cases c2:s[0].toNat=48
   ·have l:((s[0].toNat:Int)==48)=true:=by rw[c2];rfl
    by_cases c3:1<s.size
    have m:decide ((1:Int)<(s.size:Int))=true:=Qx (by omega);have a:Hid (numB most s.data.toList=-1):=by unfold Hid;rw[b.out,Qj (.inr ⟨c2,c3⟩)]
    rotate_left
    have m:decide ((1:Int)<(s.size:Int))=false:=Qt (by omega);have a:Hid (numB most s.data.toList=n):=by unfold Hid;rw[b.out,Qf (λh=>h.elim c1 (λh=>c3 h.2))]
    all_goals
     clear b c1 c2 c3
     go_in
     go_wp2_with fail;refine i.out.mono ?_;rintro e j ⟨rfl,rfl⟩;dsimp only[zcg];go_wp2;go_ret;exact⟨zae a.out.symm,rfl⟩
   ·have l:((s[0].toNat:Int)==48)=false:=by rw[Qc];omega
    have a:Hid (numB most s.data.toList=n):=by unfold Hid;rw[b.out,Qf (λh=>h.elim c1 (λh=>c2 h.1))]
    clear b c1 c2
    go_in
    go_wp2_with fail;refine i.out.mono ?_;rintro e j ⟨rfl,rfl⟩;dsimp only[zcg];go_wp2;go_ret;exact⟨zae a.out.symm,rfl⟩
attribute [go_sem] results72
theorem zwe:∀k:Nat,k<=32->IntKind.u32.wrap (IntKind.u64.wrap (4294967295*2 ^ (32-k)))=((4294967296-2 ^ (32-k):Nat):Int):=by
 have h:((List.range 33).all λk=>IntKind.u32.wrap (IntKind.u64.wrap (4294967295*2 ^ (32-k)))==((4294967296-2 ^ (32-k):Nat):Int))=true:=by decide+kernel
 intro k a;exact Zn.1 (Zv.1 h k (ZQ.2 (by omega)))
theorem zdB(b:Int)(w:World):Calls prog 104 #[jA b] w λe w'=>e=jC (.int .u32 (zeZ b:Nat))/\w'=w:=by
 obtain⟨k,c⟩:∃k:Nat,min (max b 0) 32=(k:Int):=⟨(min (max b 0) 32).toNat,by omega⟩
 have a:k<=32:=by omega
 have d:Hid (((zeZ b:Nat):Int)=IntKind.u32.wrap (IntKind.u64.wrap (4294967295*2 ^ (32-k)))):=by
  unfold Hid;rw[zwe k a];unfold zeZ topN;rw[c]
  rfl
 have f:IntKind.i64.wrap (32-(k:Int))=32-(k:Int):=Qz _ (by omega);have i:(32-(k:Int)).toNat=32-k:=by omega
 have g:(0:Int)<=32-(k:Int):=by omega
 have h:32-(k:Int)<=64:=by omega
 go_in
 go_wp2;go_ret;exact⟨zae (by rw[d.out];exact(IntKind.wrap_u32' _).symm),rfl⟩
def netV:Except Int (Nat × Int)->Value
 |.error x=>.tuple #[.agg #[.int .u32 0,jA 0],jA x]
 |.ok (a,b)=>.tuple #[.agg #[.int .u32 (a:Int),jA b],jA 0]
def zeC(l:jE)(w:World)(e:Ending)(w':World):Prop:=e=jC (netV (netP l))/\w w'
def NetAt(R:Nat)(a b:Int)(w:World):Prop:=w.heap[R]? = some (.cells #[.int .u32 a,jA b] 151 (0,0))
theorem NetAt.cells{R:Nat}{a b:Int}{w:World}(h:NetAt R a b w):w.cell? R=some (.int .u32 a)/\w.cell? ⟨R,1,none⟩=some (jA b):=
 ⟨Qo w _ 0 _ _ _ h,Qo w _ 1 _ _ _ h⟩
theorem NetAt.free{R:Nat}{a b:Int}{w:World}(h:NetAt R a b w)(j:Nat):w.frozen? ⟨R,j,none⟩=false:=by
 unfold NetAt at h;simp[World.frozen?, h]
theorem NetAt.below{R B:Nat}{a b:Int}{w w':World}(h:NetAt R a b w)(hb:Below B w w')(c:R<B):NetAt R a b w':=(hb.block R c).trans h
theorem NetAt.put{R:Nat}{a b:Int}{w:World}(h:NetAt R a b w)(x:Int):NetAt R x b (w.setCell R (.int .u32 x)):=by
 unfold NetAt at h ⊢;simp[World.setCell,Q5,h]
def RowsT(w:World)(g:Nat)(a:List ByteArray):Prop:=w.heap[g]? = some (.cells (a.map Value.string).toArray 9 (0,0))
theorem RowsT.cell{w:World}{g:Nat}{a:List ByteArray}(h:RowsT w g a)(j:Nat)(b:j<a.length):w.cell? ⟨g,j,none⟩=some (.string a[j]):=by
 have:=Qo w g j _ _ (0,0) h;rw[this];simp[b]
theorem RowsT.below{B:Nat}{w w':World}{g:Nat}{a:List ByteArray}(h:RowsT w g a)(hb:Below B w w')(b:g<B):RowsT w' g a:=(hb.block g b).trans h
def NRel(d:List jE)(b:Int)(c:World)(i:Value)(wr:World):Prop:=
 ∃(k a:Nat),k<=d.length/\i=jA k/\a<4294967296/\Hid (zgt d 0=zgt (d.drop k) a)/\NetAt c.heap.size (a:Int) b wr/\c wr
theorem zx9(a n:Nat)(b:n<256):bits .or .u32 (IntKind.u32.wrap ((a:Int)*256)) (n:Int)=(((a*256+n) % 4294967296:Nat):Int):=by
 have e:IntKind.u32.wrap ((a:Int)*256)=((a*256 % 4294967296:Nat):Int):=by rw[IntKind.wrap_u32'];omega
 rw[e,u32_or_nat _ _ (Nat.mod_lt _ (by decide)) (by omega),nat_join 8 _ _ (by simp only[Nat.reducePow];omega) (by simp only[Nat.reducePow];omega)];omega
theorem zjo(s:ByteArray)(w:World)(V:LibOk w)(hs:s.size<=4194304):
 Calls prog 72 #[.string s] w (zeC s.data.toList w):=by
 have hg:s.data.toList.length=s.size:=by simp
 obtain⟨A,I⟩:∃A,w.alloc (.cells #[.int .u32 0,jA 0] 151)=A:=⟨_,rfl⟩
 have hr:NetAt w.heap.size 0 0 A:=by rw[<-I];exact Qv w _
 have h3:w A:=by rw[<-I];exact WaL
 have hN:w.heap.size<A.heap.size:=by rw[<-I];simp
 have hL:=V.below h3
 have y:Hid (∀x W,netP s.data.toList=.error x->w W->zeC s.data.toList w (jC (.tuple #[.agg #[.int .u32 0,jA 0],jA x])) ((W.setCell w.heap.size (.int .u32 0)).setCell ⟨w.heap.size,1,none⟩ (jA 0))):=λx W h hb=>
  ⟨by rw[h];rfl,(hb.setCell (p:=⟨w.heap.size,0,none⟩) (Qd _) _).setCell (p:=⟨w.heap.size,1,none⟩) (Qd _) _⟩
 have hR:=hIx I;obtain⟨m0,h0⟩:=hL;have hcut:=strings_Cut s ⟨#[47]⟩ m0 A (by omega) h0;have hK:=zcP s.data.toList [47];have K:Hid (zmI s.data.toList=if (Lib.cut s.data.toList [47]).2.2=true then numB 32 (Lib.cut s.data.toList [47]).2.1 else 32):=rfl
 have G:Hid (netP s.data.toList=if zmI s.data.toList<0 then .error 3 else if (splL 46 (Lib.cut s.data.toList [47]).1).length≠4 then .error 3
  else match zgt (splL 46 (Lib.cut s.data.toList [47]).1) 0 with
  |none=>.error 3
  |some a=>if a % 2 ^ topN (zmI s.data.toList)≠0 then .error 4 else .ok (a,zmI s.data.toList)):=rfl
 rw[show (ByteArray.mk #[47]).data.toList=[47]from rfl]at hcut;generalize zmI s.data.toList=g at *;generalize Lib.cut s.data.toList [47]=q at *;obtain⟨o,cb,cc⟩:=q;dsimp only at hcut hK K G;have Y:=hIx hcut;have hC:(bs cb).size<=maxLen:=by rw[zah];unfold maxLen;omega
 have hu:Hid (∀W,Calls prog 74 #[.string (ByteArray.mk cb.toArray),jA 32] W λe w'=>e=jC (jA (numB 32 cb))/\w'=W):=λW=>by
  have:=zkC (bs cb) 32 W hC;rw[zam]at this;exact this
 have ht:=hIx h0;clear V I h0 hcut hC;have h9:Hid (NetAt w.heap.size 0 0 A):=hr;have hp:=hIx h3;have hZ:∀n,A.heap=(A.drewN n).heap:=λ_=>rfl
 clear hr h3 hg
 go_in
 go_upto_region 1 with fail
 rw[hR.out]
 go_upto_if 19 with (go_at_call 73;refine Y.out.mono ?_;rintro e w1 ⟨rfl,nq,rfl⟩)
 have J:Hid (NetAt w.heap.size 0 0 (A.drewN nq)):=h9.out;have h5:Hid (w (A.drewN nq)):=below_drewN hp.out nq;have hJ:Hid ((A.drewN nq).cell? (0:)=some (jA m0)):=ht.out;have h7:w.heap.size<(A.drewN nq).heap.size:=hN;generalize A.drewN nq=L at *
 go_cut [6,7,13,15,18,19]from 20 to 24 (λ_ s7 _ _ _ _ wx=>s7=jA g/\0<=g/\wx=L)
 case first=>
  cases hD:cc with
  |true=>
   rw[hD]at K;have j:Hid (g=numB 32 cb):=K.out
   by_cases b:g<0
   ·have U:=hIx (y.out 3 L (by rw[G.out,Qj b]) h5.out)
    have d0:decide (numB 32 cb<0)=true:=Qx (by rw[<-j.out];exact b);have HR:=J.out;have ⟨r0,r1⟩:=HR.cells;have f0:=HR.free;clear b HR;go_wp2_with (go_at_call 74;refine(hu.out _).mono ?_;rintro e w2 ⟨rfl,f⟩;rw[f]);have t:=za9 (.int .u32 0) (jA 0) r0 r1;exact zad U.out
   ·have d0:decide (numB 32 cb<0)=false:=Qt (by rw[<-j.out];exact b)
    have D:0<=g:=by omega
    have hy:=hIx D;clear b D;go_wp2_with (go_at_call 74;refine(hu.out _).mono ?_;rintro e w2 ⟨rfl,f⟩;rw[f]);go_meet;exact⟨by rw[j.out],hy.out,rfl⟩
  |false=>
   rw[hD]at K;have j:Hid (g=32):=K.out;go_wp2;go_meet;exact⟨by rw[j.out],by rw[j.out];decide,rfl⟩
 case rest=>
  obtain⟨rfl,D,hw⟩:=hcut;rw[hw];clear hw;have hV:s.data.toList.length=s.size:=by simp
  have C:=strings_Split (bs o) ⟨#[46]⟩ m0 L (by rw[zah];omega) hJ.out (by decide);have H:=zb1 46 (bs o);have P:=Z9 ⟨#[46]⟩ (by decide) 0 _ (bs o) rfl;rw[zam]at H;have hH:=zdL 46 o;have hg:s.data.toList.length=s.size:=by simp
  generalize Lib.splitB ⟨#[46]⟩ 0 (Lib.countB (bs o) ⟨#[46]⟩) (bs o)=m at C H P;generalize Lib.countB (bs o) ⟨#[46]⟩=nc at C P;rw[<-P]at C;have X:(splL 46 o).length=m.length:=by rw[<-H,Qk]
  have g0:m.length<=4194305:=by omega
  have hW:o.length<=s.size:=by omega
  obtain⟨r,E⟩:∃r,L.alloc (.cells (m.map Value.string).toArray 9)=r:=⟨_,rfl⟩
  have Z:RowsT r L.heap.size m:=by rw[<-E];exact Qv L _
  have h8:L r:=by rw[<-E];exact WaL
  have hF:L.heap.size<r.heap.size:=by rw[<-E];simp
  rw[E]at C;have he:=hIx C;have hv:Hid (w r):=h5.out.trans (h8.mono (QZ h7));have hf:Hid (NetAt w.heap.size 0 0 r):=NetAt.below J.out h8 h7;have hq:=hIx Z;have hO:=hIx H;have d:=hIx X;have hh:w.heap.size<r.heap.size:=ZA h7 hF;clear C H P hH X E Z h8 hJ ht Y h9 hp J h5 hK
  by_cases c4:m.length=4
  rotate_left
  ·have U:=hIx (y.out 3 r (by rw[G.out,Qf (by omega),Qj (by rw[d.out];exact c4)]) hv.out)
   have d4:((m.length:Int) != 4)=true:=by simp;omega
   have HR:=hf.out;have ⟨r0,r1⟩:=HR.cells;have f0:=HR.free;clear c4 HR D;go_wp2_with (go_at_call 49;refine he.out.mono ?_;rintro e w2 ⟨rfl,f⟩;rw[f]);have t:=za9 (.int .u32 0) (jA 0) r0 r1;exact zad U.out
  ·have d4:((m.length:Int) != 4)=false:=by simp;omega
   have F:Hid (netP s.data.toList=match zgt (splL 46 o) 0 with|none=>.error 3|some a=>if a % 2 ^ topN g≠0 then .error 4 else .ok (a,g)):=by
    unfold Hid;rw[G.out,Qf (by omega),Qf (by rw[d.out];omega)]
   obtain⟨W5,S⟩:∃W5,r.alloc (.cells #[.int .u32 0,jA g] 151)=W5:=⟨_,rfl⟩
   have ho:NetAt r.heap.size 0 g W5:=by rw[<-S];exact Qv r _
   have hE:r W5:=by rw[<-S];exact WaL
   have hP:=hIx S;have hy:=hIx D;clear G c4 S D;go_wp2_with (go_at_call 49;refine he.out.mono ?_;rintro e w2 ⟨rfl,f⟩;rw[f]);rw[hP.out];clear f w2
   go_loopw [35] (λi wr=>NRel (splL 46 o) g r i wr) (λi _=>m.length-(intOf i).toNat)
   case atStart=>exact⟨0,0,Qn _,rfl,by decide,rfl,ho,hE⟩
   case round=>
    obtain⟨k,c,hk,rfl,hi,B,hA,hB⟩:=hrel;clear ho hE;rw[d.out]at hk;have u:NetAt w.heap.size 0 0 wr:=hf.out.below hB hh;have h4:w wr:=hv.out.trans (hB.mono (QZ hh));have Q:RowsT wr L.heap.size m:=hq.out.below hB hF
    by_cases N:k<m.length
    ·have d2:decide ((k:Int)<(m.length:Int))=true:=by simp;omega
     have i7:IntKind.i64.wrap ((k:Int)+1)=(k:Int)+1:=Qz _ (by omega);have hc:=Q.cell k N
     have hx:(splL 46 o)[k]'(by rw[d.out];exact N)=m[k].data.toList:=by
      have:=hO.out;simp only[<-this,Zo]
     have hQ:m[k].size<=s.size:=by
      have h1:=zbY 46 o _ (QC (by rw[d.out];exact N));rw[hx]at h1;have h2:m[k].size<=o.length:=by simpa using h1
      omega
     have h6:Hid ((splL 46 o).drop k=m[k].data.toList::(splL 46 o).drop (k+1)):=by
      unfold Hid;rw[Zb (by rw[d.out];exact N),hx]
     clear hx;generalize m[k]=x at hc h6 hQ;have HN:Hid (∀W,Calls prog 74 #[.string x,jA 255] W λe w'=>e=jC (jA (numB 255 x.data.toList))/\w'=W):=λW=>zkC x 255 W (by unfold maxLen;omega)
     have l:Hid (zgt (splL 46 o) 0=if numB 255 x.data.toList<0 then none else zgt ((splL 46 o).drop (k+1)) ((c*256+(numB 255 x.data.toList).toNat) % 4294967296)):=by
      unfold Hid;rw[B.out,h6.out,zgt]
     clear B h6
     by_cases b:numB 255 x.data.toList<0
     ·have U:=hIx (y.out 3 wr (by rw[F.out,l.out,Qj b]) h4)
      have d3:decide (numB 255 x.data.toList<0)=true:=Qx b;have ⟨r0,r1⟩:=u.cells;have f0:=u.free;clear b u hA Q;go_wp2_with (go_at_call 74;refine(HN.out _).mono ?_;rintro e w2 ⟨rfl,f⟩;rw[f]);have t:=za9 (.int .u32 0) (jA 0) r0 r1;exact zad U.out
     ·obtain⟨n,ha,hT,_⟩:=zvp b
      rw[Qf b,ha,Q9]at l;rw[ha]at HN b;have d3:decide ((n:Int)<0)=false:=Qt b;have ow:=zx9 c n hT;rw[IntKind.wrap_u32']at ow;have cw:IntKind.u32.wrap (n:Int)=(n:Int):=by rw[IntKind.wrap_u32'];omega
      have hm:=hA.put (((c*256+n) % 4294967296:Nat):Int);have hj:r (wr.setCell r.heap.size (.int .u32 (((c*256+n) % 4294967296:Nat):Int))):=hB.setCell (p:=⟨r.heap.size,0,none⟩) (Qd _) _;have hn:=hIx hm;have hI:=hIx hj;have r0:=hA.cells;have f0:=hA.free 0;clear b hm hj hA Q u;go_wp2_with (go_at_call 74;refine(HN.out _).mono ?_;rintro e w2 ⟨rfl,f⟩;rw[f]);exact⟨⟨k+1,(c*256+n) % 4294967296,by rw[d.out];omega,rfl,Nat.mod_lt _ (by decide),l.out,hn.out,hI.out⟩,by simp only[intOf];omega⟩
    ·have hd:k=m.length:=by omega
     have l:Hid (zgt (splL 46 o) 0=some c):=by
      unfold Hid;rw[B.out,hd,<-d.out,List.drop_length]
      rfl
     have hY:m.length<=k:=by omega
     have d2:decide ((k:Int)<(m.length:Int))=false:=Qt (by omega);have r0:=hA.cells;have ⟨q0,q1⟩:=u.cells;have f0:=u.free;have hG:Hid (topN g<=32):=ziq g
     have O:Hid (bits .andNot .u32 (c:Int) (zeZ g:Nat)=((c % 2 ^ topN g:Nat):Int)):=by
      unfold Hid;rw[u32_andNot_nat c (zeZ g) hi (zks g)];unfold zeZ;rw[zi3 _ _ (ziq g)]
     clear B hd hA u Q hG;have hX:=O.out
     have T:Hid (netP s.data.toList=if c % 2 ^ topN g≠0 then .error 4 else .ok (c,g)):=by
      unfold Hid;rw[F.out,l.out]
     have hU:=O.out;clear F l;generalize c % 2 ^ topN g=z at *
     by_cases hz:z=0
     ·have e1:((z:Int) != 0)=false:=by simp[hz]
      have U:Hid (netP s.data.toList=.ok (c,g)):=by unfold Hid;rw[T.out,Qf (λh=>h hz)]
      have hS:Hid (∀n,w (((wr.drewN n).setCell w.heap.size (.int .u32 (c:Int))).setCell ⟨w.heap.size,1,none⟩ (jA g))):=λn=>((below_drewN h4 n).setCell (p:=⟨w.heap.size,0,none⟩) (Qd _) _).setCell (p:=⟨w.heap.size,1,none⟩) (Qd _) _
      clear hz O T;go_upto_region 19 with fail
      go_quiet ((go_at_call 104;exact Za (zdB _ _)))
      go_wp2_with fail;have t:=za9 (w:=wr.drewN nq) (.int .u32 (c:Int)) (jA g) q0 q1;exact QD (v:=.tuple #[.agg #[.int .u32 (c:Int),jA g],jA 0]) (by simp[results,results72,go_sem,t.1,t.2]) rfl ⟨by rw[U.out];rfl,hS.out nq⟩
     ·have e1:((z:Int) != 0)=true:=by simp;omega
      have U:=hIx (λn=>y.out 4 (wr.drewN n) (by rw[T.out,Qj hz]) (below_drewN h4 n));clear hz O T;go_upto_region 19 with fail
      go_quiet ((go_at_call 104;exact Za (zdB _ _)))
      go_wp2_with fail;have t:=za9 (w:=wr.drewN nq) (.int .u32 0) (jA 0) q0 q1;exact zad (U.out nq)
abbrev zd5:=Int × Int
def zce(x:zd5):List Value:=[.int .u32 x.1,jA x.2]
theorem zqO(l:List zd5):(l.flatMap zce).length=l.length*2:=by
 induction l with
 |nil=>rfl
 |cons x l ih=>rw[QV,Qb,ih];simp only[zce,Qq,QP];omega
theorem zqT(l:List zd5):∀u∈l.flatMap zce,u.oneCell'=true:=λu a=>by
 obtain⟨x,_,h⟩:=List.mem_flatMap.1 a;simp only[zce,QN,Zz,XA]at h
 rcases h with rfl|rfl <;> rfl
def OwnN(w:World)(base:Nat)(v:Value)(l:List zd5):Prop:=w.ownsRow base 151 2 v l.length (l.flatMap zce)
theorem OwnN.nil(w:World)(base:Nat):OwnN w base (jD 0 0) []:=ZH w base 151 2
theorem OwnN.below{w w':World}{base:Nat}{v:Value}{l:List zd5}(h:OwnN w base v l)(hb:w w'):OwnN w' base v l:=zaM h hb
theorem OwnN.keep{w w':World}{base:Nat}{v:Value}{l:List zd5}(h:OwnN w base v l)(b:∀g,v.ownBlock=some g->w'.heap[g]? = w.heap[g]?):OwnN w' base v l:=by
 refine⟨h.1,?_⟩
 rcases h.2 with d|⟨g,cap,a,h1,h2,e,c⟩
 ·exact .inl d
 ·exact .inr ⟨g,cap,a,h1,h2,(b g (by rw[h1];rfl)).trans e,c⟩
theorem OwnN.low{w:World}{base b:Nat}{v:Value}{l:List zd5}(h:OwnN w base v l)(hb:b<=base):OwnN w b v l:=
 ⟨h.1,h.2.imp_right λ⟨g,cap,a,h1,h2,c⟩=>⟨g,cap,a,h1,Ql hb h2,c⟩⟩
theorem OwnN.form{w:World}{base:Nat}{v:Value}{l:List zd5}(h:OwnN w base v l):∃A c,v=.slice A l.length c/\Sl w w.heap.size 2 A l.length (l.flatMap zce):=by
 rcases h.2 with ⟨h1,h2⟩|⟨g,cap,a,h1,hb,e,_⟩
 ·have:l=[]:=QA h2
  subst this;exact⟨none,0,h1,Sl.nil _ _ _ _⟩
 ·refine⟨_,_,h1,zqO l,λd=>⟨g,0,rfl,?_,λj b=>?_⟩⟩
  ·exact(QE h g (by rw[h1];simp[Value.ownBlock])).2
  ·have:=Zq (g:=g) h (by rw[h1];simp[Value.ownBlock]) j _ (Qe b)
   rw[zbd]at this;rw[Ze];exact this
theorem zvq:(prog.info? 151).map (λi=>(i.zero,i.size,i.bytes))=some (some (.agg #[.int .u32 0,jA 0]),2,16):=by kernel_rfl
section
variable {ops:Array Oper} {rest:List Oper} {o:Oper} {a:Act} {Q:Exit->Act->World->Prop} {w:World}
theorem zhC(f:o.guard=none)(s x:Operand)(z:o.op=.call {callee:=.builtin .append,args:=#[s,x],argTypes:=#[112,112]})
 (base:Nat) (v:Value) (l:List zd5) (C:a.eval s=v) (d:OwnN w base v l) (b:base<=w.heap.size)
 (n:List Value) (new:zd5) (F:n=zce new) (q:Nat) (m:w.heap.size=q) (c:Nat) (E:a.eval x=.slice q 1 c)
 (e:l.length<=4194304)
 (h:∀v' w',OwnN w' base v' (l++[new])->Below base w w'->(∀g,g<w.heap.size->v.ownBlock≠some g->w'.heap[g]? = w.heap[g]?)->w.heap.size<w'.heap.size->wpList prog ops Q rest (a.put o.dst v') w'):
 wpList prog ops Q (o::rest) a (w.alloc (.cells n.toArray 151)):=by
 subst F;subst m
 obtain⟨y,D,i,j,k⟩:=ZG zvq
 refine Z3 f λ_ t=>zaT s x 112 z base 151 y _ 2 16 underlying112 D i j k rfl (by decide) v l.length (l.flatMap zce) C d b (zce new) 1 c E rfl
  (λu A=>zqT [new] u (by simpa using A)) (by unfold maxLen;omega) (by omega) λv' w' h1 h2 B r=>t _ _ (h v' w' (by unfold OwnN;rw[Qb,Q7];simpa using h1) h2 B r)
end
section
open Go.Sort
def TabOk (w:World):Prop:=∀w',w w'->Lib.TabIs prog w' "internal/strconv.uint64pow10" .u64 Lib.pow10Tab
theorem TabOk.of {w:World} (h:Lib.TabIs prog w "internal/strconv.uint64pow10" .u64 Lib.pow10Tab):TabOk w:=Lib.tabBelow_of_tabIs h
theorem TabOk.below{w w':World}(h:TabOk w)(hb:w w'):TabOk w':=λw2 a=>h w2 (hb.trans (a.mono hb.size))
theorem zhR(w:World)(k:Nat)(os:Array Obj):w (grow (w.drewN k) os):=
 ⟨rfl,rfl,rfl,by rw[size_grow];exact Nat.le_add_right _ _,λj a=>heap_grow_old (w.drewN k) os a⟩
theorem zfI(n:Nat)(w:World)(b:n<=9223372036854775807)(h:TabOk w):
 Calls prog 31 #[jA (n:Int)] w λe w'=>e=jC (.string (bs (Lib.decDigits n)))/\w w':=
 (strconv_Itoa (n:Int) (by omega) (by omega) w (h w (Qi _ _))).mono λe w' ⟨h1,a,os,h2⟩=>by
  subst h2;refine⟨?_,zhR w a os⟩;rw[h1];unfold Lib.itoa;rw[Qf (by omega)]
  rfl
end
attribute [go_sem] results226
def zgz(a:Nat)(b:Int)(w:World)(e:Ending)(w':World):Prop:=
 e=jC (if zqh a b=true then .tuple #[.string (bs (netT a b)),jA 0]else .tuple #[.string (.mk #[]),jA 1])/\w w'
def zf1(a:Nat):List ByteArray:=[bs (decS (octN a 24)),bs (decS (octN a 16)),bs (decS (octN a 8)),bs (decS (octN a 0))]
def zAe(a:Nat)(b:Int)(w c:World)(v i:Value)(wr:World):Prop:=
 ∃(k:Nat) (z:Int),k<=4/\z=24-8*(k:Int)/\i=jA z/\OwnS wr (w.heap.size+1) v ((zf1 a).take k)/\NetAt w.heap.size (a:Int) b wr/\Below (w.heap.size+1) c wr
theorem zqW(a:Nat)(b:Int)(w:World)(ha:a<4294967296)(o:TabOk w):
 Calls prog 226 #[.agg #[.int .u32 (a:Int),jA b]] w (zgz a b w):=by
 obtain⟨u,t⟩:∃u,w.alloc (.cells #[.int .u32 (a:Int),jA b] 151)=u:=⟨_,rfl⟩
 have K:NetAt w.heap.size (a:Int) b u:=by rw[<-t];exact Qv w _
 have G:w u:=by rw[<-t];exact WaL
 have hh:w.heap.size<u.heap.size:=by rw[<-t];simp
 have h8:=o.below G;have B:=hIx t;have hC:=hIx h8;have h0:=hIx G;have l:Hid (zqh a b=(decide (0<=b)&&decide (b<=32)&&(a % 2 ^ topN b==0))):=rfl
 have q:Hid (bits .andNot .u32 (a:Int) (zeZ b:Nat)=((a % 2 ^ topN b:Nat):Int)):=by
  unfold Hid;rw[u32_andNot_nat a (zeZ b) ha (zks b)];unfold zeZ;rw[zi3 _ _ (ziq b)]
 have f:Hid (zqh a b=false->∀n,zgz a b w (jC (.tuple #[.string (.mk #[]),jA 1])) (u.drewN n)):=λh n=>⟨by rw[h];rfl,below_drewN h0.out n⟩
 have X:=hIx o;clear o t G h8;have r0:=K.cells;have g:=q.out
 by_cases c1:b<0
 ·have d1:decide (b<0)=true:=Qx c1
  have HP:=hIx (f.out (by rw[l.out,Qt (by omega)];rfl));clear c1 q g
  go_in
  go_upto_region 1 with fail
  rw[B.out]
  go_quiet ((go_at_call 104;exact Za (zdB _ _)))
  go_wp2;exact zad (HP.out nq)
 ·have d1:decide (b<0)=false:=Qt c1
  by_cases c2:32<b
  ·have d2:decide (32<b)=true:=Qx c2
   have HP:=hIx (f.out (by rw[l.out,Qt (by omega:¬b<=32),Bool.and_false];rfl));clear c1 c2 q g
   go_in
   go_upto_region 1 with fail
   rw[B.out]
   go_quiet ((go_at_call 104;exact Za (zdB _ _)))
   go_wp2;exact zad (HP.out nq)
  ·have d2:decide (32<b)=false:=Qt c2
   by_cases T:a % 2 ^ topN b=0
   rotate_left
   ·have HP:=hIx (f.out (by rw[l.out,Qc.2 T,Bool.and_false]))
    generalize a % 2 ^ topN b=z at *;have e1:((z:Int) != 0)=true:=by simp;omega
    clear c1 c2 q T l
    go_in
    go_upto_region 1 with fail
    rw[B.out]
    go_quiet ((go_at_call 104;exact Za (zdB _ _)))
    go_wp2;exact zad (HP.out nq)
   ·have h5:Hid (zqh a b=true):=by unfold Hid;rw[l.out,Qx (by omega),Qx (by omega),T];rfl
    rw[T]at g;clear q T l f
    go_in
    go_upto_region 1 with fail
    rw[B.out]
    go_quiet ((go_at_call 104;exact Za (zdB _ _)))
    go_wp2_with fail;have U:NetAt w.heap.size (a:Int) b (u.drewN nq):=K;have hd:Below (w.heap.size+1) u (u.drewN nq):=below_drewN (Qi _ _) nq
    go_loopw [4,5] (λv i wr=>zAe a b w u v i wr) (λ_ i _=>(8+intOf i).toNat)
    case atStart=>exact⟨0,24,Qn _,rfl,rfl,OwnS.nil _ _,U,hd⟩
    case round=>
     obtain⟨k,z,hk,I,rfl,E,Y,Z⟩:=hrel;have HA:=hIx ha;clear U hd K g r0 ha;have h6:w wr:=h0.out.trans (Z.mono (Zd _));have HI:Hid (∀n:Nat,n<256->Calls prog 31 #[jA (n:Int)] wr λe w'=>e=jC (.string (bs (decS n)))/\wr w'):=λn hn=>zfI n wr (by omega) (X.out.below h6)
     have c:w.heap.size+1<=wr.heap.size:=Ql hh Z.size;have r0:=Y.cells;obtain⟨Ao,co,rfl,_⟩:=E.form;have hv:((zf1 a).take k).length<=4:=by rw[QK];omega
     by_cases hy:k<4
     ·have hs:0<=z:=by omega
      have hw:z<=32:=by omega
      have d3:decide (0<=z)=true:=Qx hs;have i8:IntKind.i64.wrap (z-8)=z-8:=Qz _ (by omega);have ho:=zrg a z.toNat
      have hu:bits .and .u32 ((a:Int) / 2 ^ z.toNat) 255=((octN a z.toNat:Nat):Int):=by
       have e:(a:Int) / 2 ^ z.toNat=((a / 2 ^ z.toNat:Nat):Int):=by push_cast;rfl
       have hp:a / 2 ^ z.toNat<4294967296:=Nat.lt_of_le_of_lt (Nat.div_le_self _ _) HA.out;rw[e,show (255:Int)=((255:Nat):Int)from rfl,u32_and_nat _ _ hp (by decide),show 255=2 ^ 8-1 from rfl,Nat.and_two_pow_sub_one_eq_mod]
       rfl
      have hq:Hid ((zf1 a).take (k+1)=(zf1 a).take k++[bs (decS (octN a z.toNat))]):=by
       unfold Hid;obtain rfl|rfl|rfl|rfl:k=0\/k=1\/k=2\/k=3:=by omega
       ·obtain rfl:z=24:=by omega
        rfl
       ·obtain rfl:z=16:=by omega
        rfl
       ·obtain rfl:z=8:=by omega
        rfl
       ·obtain rfl:z=0:=by omega
        rfl
      have H:=hIx (HI.out (octN a z.toNat) ho);have i9:IntKind.i64.wrap ((octN a z.toNat:Nat):Int)=((octN a z.toNat:Nat):Int):=Qz _ (by omega);generalize octN a z.toNat=oc at *;generalize (zf1 a).take k=h7 at *;have HO:=hIx E;have y:=hIx Y;have m:=hIx Z;have hr:=hIx I;clear HI ho Y E Z I;go_wp2_with (first|(go_at_call 31;refine H.out.mono ?_;rintro e w2 ⟨rfl,J⟩;have hg:=HO.out.below J;have A:=Ql c J.size)|(at_builtin;refine zbw rfl (.tmp 28) (.tmp 36) rfl (w.heap.size+1) (.slice Ao h7.length co) h7 rfl hg A _ [bs (decS oc)] rfl 1 1 rfl rfl (by omega) ?_;intro v5 w5 he d hE hD));have D:Below (w.heap.size+1) wr w5:=(J.mono c).trans d;exact⟨⟨k+1,z-8,by omega,by have:=hr.out;omega,rfl,by rw[hq.out];exact he,y.out.below D (Zu _),m.out.trans D⟩,by dsimp only[intOf];omega⟩
     ·obtain rfl:k=4:=by omega
      obtain rfl:z=-8:=by omega
      have r:∀i,(decS (octN a i)).length<=6:=λi=>(ze8 5 (octN a i) (by have:=zrg a i;omega)).2
      have hc:(zf8 a).length<=30:=by
       unfold zf8;rw[zrE];have h1:=r 24;have h2:=r 16;have h3:=r 8;have h4:=r 0;simp only[Qb,Qq];omega
      have Q:=E.sl;have N:(zf1 a).take 4=zf1 a:=rfl;rw[N]at E Q;obtain⟨bo,oo,rfl,hi,S⟩:=Q.src (by rw[Qk];show 0<4;decide)
      have C:(zf1 a).length<=co:=by
       rcases E.2 with ⟨e,_⟩|⟨_,_,_,e,_,_,h9,_⟩
       ·cases e
       ·injection e with _ _ e;rw[e];exact h9
      have P:Lib.join ((zf1 a).map (·.data.toList)) [46]=zf8 a:=rfl
      have hj:=strings_Join bo oo co (zf1 a) ⟨#[46]⟩ wr (λj x hx=>by
       have hf:j<((zf1 a).map Value.string).length:=by rw[Qk];exact(Qy.1 hx).1
       rw[S j hf,Zo];obtain⟨h9,hm⟩:=Qy.1 hx;rw[hm]) hi (by show 4<=_;decide) C (by show (Lib.join ((zf1 a).map (·.data.toList)) [46]).length<=_;rw[P];omega)
      rw[show (ByteArray.mk #[46]).data.toList=[46]from rfl,P,show ByteArray.mk (zf8 a).toArray=bs (zf8 a)from rfl]at hj;obtain⟨n4,L⟩:∃n4,n4=(zf1 a).length:=⟨_,rfl⟩
      rw[N,<-L];rw[<-L]at hj;have V:=hIx hj;have m:=hIx h6;have y:=hIx Y;have hF:(bs (zf8 a)).size<=30:=by rw[zah];exact hc
      clear hj E Q S C P r hc HI Z Y I N L
      by_cases c3:b<32
      ·have d4:decide (b<32)=true:=Qx c3
       obtain⟨n,rfl⟩:∃n:Nat,b=(n:Int):=⟨b.toNat,by omega⟩
       have F:Hid (bs (netT a (n:Int))=bs (zf8 a)++(ByteArray.mk #[47]++bs (decS n))):=by
        unfold Hid netT;rw[Qj c3,Q9]
        apply ByteArray.ext
        simp[bs]
       have hG:(bs (decS n)).size<=6:=by rw[zah];exact(ze8 5 n (by omega)).2
       have H:Hid (∀W,w W->Calls prog 31 #[jA (n:Int)] W λe w'=>e=jC (.string (bs (decS n)))/\W w'):=λW hb=>zfI n W (by omega) (X.out.below hb)
       have s1:(1:Nat)+(bs (decS n)).size<=9223372036854775807:=by omega
       have s2:(bs (zf8 a)).size+(1+(bs (decS n)).size)<=9223372036854775807:=by omega
       generalize bs (zf8 a)=AT at *;generalize bs (decS n)=DT at *;clear c1 c2 c3;go_wp2_with (first|(go_at_call 250;refine V.out.mono ?_;rintro e w5 ⟨rfl,d⟩;have s:w w5:=m.out.trans (d.mono m.out.size);have O:=y.out.below d c;have ⟨q0,q1⟩:=O.cells)|(go_at_call 31;refine(H.out _ s).mono ?_;rintro e w7 ⟨rfl,ht⟩));exact zad ⟨by rw[h5.out,Qj rfl,F.out],s.trans (ht.mono s.size)⟩
      ·have d4:decide (b<32)=false:=Qt c3
       have F:Hid (bs (netT a b)=bs (zf8 a)):=by unfold Hid netT;rw[Qf c3]
       generalize bs (zf8 a)=AT at *;clear c1 c2 c3;go_wp2_with (go_at_call 250;refine V.out.mono ?_;rintro e w5 ⟨rfl,d⟩;have s:w w5:=m.out.trans (d.mono m.out.size);have O:=y.out.below d c;have ⟨q0,q1⟩:=O.cells);exact zad ⟨by rw[h5.out,Qj rfl,F.out],s⟩
def zfd:List jE->Int
 | []=>0
 |x::r=>match netP x with
  |.ok _=>zfd r
  |.error e=>e
def zbT:List jE->List zd5
 | []=>[]
 |x::r=>match netP x with
  |.ok p=>((p.1:Int),p.2)::zbT r
  |.error _=>zbT r
theorem zmM:∀(c:List jE) (k:Nat) (b:k<c.length) (e:Int),zfd (c.take k)=0->netP c[k]=.error e->zfd c=e
 | [],_,b,_,_,_=>absurd b (by simp)
 |x::r,0,_,e,_,h=>by
  have f:netP x=.error e:=h;rw[zfd,f]
 |x::r,k+1,b,e,a,h=>by
  rw[Xe,zfd]at a;rw[zfd];cases d:netP x with
  |ok p=>rw[d]at a;exact zmM r k (by simpa using b) e a h
  |error g=>
   rw[d]at a;dsimp only at a;rcases zkl d with h1|h1 <;> omega
theorem zjD:∀(a:List jE) (k:Nat) (c:k<a.length) (p:Nat × Int),zfd (a.take k)=0->netP a[k]=.ok p->zfd (a.take (k+1))=0/\zbT (a.take (k+1))=zbT (a.take k)++[((p.1:Int),p.2)]
 | [],_,c,_,_,_=>absurd c (by simp)
 |x::r,0,_,p,_,h=>by
  have f:netP x=.ok p:=h;have e:(x::r).take 1=[x]:=rfl;rw[e,zfd,zbT,f];exact⟨rfl,rfl⟩
 |x::r,k+1,c,p,b,h=>by
  rw[Xe,zfd]at b;rw[Xe,Xe,zfd,zbT,zbT];cases d:netP x with
  |ok q=>
   rw[d]at b;obtain⟨h1,h2⟩:=zjD r k (by simpa using c) p b h;exact⟨h1,by dsimp only;rw[h2];rfl⟩
  |error g=>
   rw[d]at b;dsimp only at b;rcases zkl d with h1|h1 <;> omega
def zjb(s:jE):Int:=if 30<(splL 44 s).length then 2 else zfd (splL 44 s)
def zdy(s:jE)(w:World)(e:Ending)(w':World):Prop:=
 ∃v,e=jC (.tuple #[v,jA (zjb s)])/\(zjb s=0->OwnN w' w.heap.size v (zbT (splL 44 s)))/\(zjb s≠0->v=jD 0 0)/\w w'
def zAr(a:List jE)(w b:World)(v i:Value)(wr:World):Prop:=
 ∃k:Nat,k<=a.length/\i=jA k/\Hid (zfd (a.take k)=0/\(zbT (a.take k)).length<=30)/\OwnN wr (w.heap.size+1) v (zbT (a.take k))/\Below (w.heap.size+1) b wr
theorem ziD:∀a:List jE,(zbT a).length<=a.length
 | []=>Qd _
 |x::r=>by
  have:=ziD r;rw[zbT]
  split
  ·simpa using this
  ·rw[Qq];omega
theorem zl1(s:ByteArray)(w:World)(hs:s.size<=4194304)(G:LibOk w):
 Calls prog 51 #[.string s] w (zdy s.data.toList w):=by
 have h6:Hid (∀W,w W->LibOk W):=λW hb=>G.below hb
 obtain⟨m0,Q⟩:=G;have hz:0<w.heap.size:=QT w _ Q;have A:=strings_Split s ⟨#[44]⟩ m0 w (by omega) Q (by decide);have D:=zb1 44 s;have E:=Z9 ⟨#[44]⟩ (by decide) 0 _ s rfl;have h5:=zbY 44 s.data.toList;have hh:s.data.toList.length=s.size:=by simp
 generalize Lib.splitB ⟨#[44]⟩ 0 (Lib.countB s ⟨#[44]⟩) s=d at A D E;generalize Lib.countB s ⟨#[44]⟩=n at A E;rw[<-E]at A;have r:(splL 44 s.data.toList).length=d.length:=by rw[<-D,Qk]
 have u:∀j (h:j<d.length) (h2:j<(splL 44 s.data.toList).length),(splL 44 s.data.toList)[j]=d[j].data.toList/\d[j].size<=4194304:=λj h h2=>by
  have e:(splL 44 s.data.toList)[j]=d[j].data.toList:=by simp[<-D]
  refine⟨e,?_⟩;have h3:=h5 _ (QC h2);rw[e]at h3;simp at h3;omega
 obtain⟨V,z⟩:∃V,w.alloc (.cells (d.map Value.string).toArray 9)=V:=⟨_,rfl⟩
 have h9:∀W,Below (w.heap.size+1) V W->∀j (h:j<d.length),W.cell? ⟨w.heap.size,j,none⟩=some (.string d[j]):=λW hb j h=>by
  have hi:Below (w.alloc (.cells (d.map Value.string).toArray 9)).heap.size (w.alloc (.cells (d.map Value.string).toArray 9)) W:=by rw[<-z]at hb;simpa using hb
  rw[zar hi j];simp[h]
 have hr:w.heap.size+1<=V.heap.size:=by rw[<-z];simp
 have J:w V:=by rw[<-z];exact WaL
 have K:Calls prog 49 #[.string s,.string ⟨#[44]⟩] w λe w'=>e=jC (.slice w.heap.size d.length d.length)/\w'=V:=by rw[<-z];exact A
 have Z:=hIx K;have C:=hIx h9;have I:=hIx J;have B:=hIx u
 have c:Hid (∀(v:Value) (f:Int) (W:World),f=(if 30<(splL 44 s.data.toList).length then 2 else zfd (splL 44 s.data.toList))->(f=0->OwnN W w.heap.size v (zbT (splL 44 s.data.toList)))->(f≠0->v=jD 0 0)->w W->zdy s.data.toList w (jC (.tuple #[v,jA f])) W):=hIx λv f W h1 h2 h3 h4=>by
  have e:zjb s.data.toList=f:=h1.symm;unfold zdy;rw[e];exact⟨v,rfl,h2,h3,h4⟩
 rw[r]at c;generalize zdy s.data.toList w=P at *;generalize splL 44 s.data.toList=qs at *;clear A K D E h9 J u z Q h5 hh
 by_cases h8:30<d.length
 ·rw[Qj h8]at c
  have d1:decide (30<(d.length:Int))=true:=by simp;omega
  clear C B
  go_in
  go_wp2_with (go_at_call 49;refine Z.out.mono ?_;rintro e w1 ⟨rfl,N⟩;rw[N]);exact c.out _ _ _ rfl (λe=>absurd e (by decide)) (λ_=>rfl) I.out
 ·rw[Qf h8]at c
  have d1:decide (30<(d.length:Int))=false:=by simp;omega
  have F:=hIx r
  go_in
  go_wp2_with (go_at_call 49;refine Z.out.mono ?_;rintro e w1 ⟨rfl,N⟩;rw[N]);clear r
  go_loopw [5,17] (λv i wr=>zAr qs w V v i wr) (λ_ i _=>d.length-(intOf i).toNat)
  case atStart=>exact⟨0,Qn _,rfl,⟨rfl,Qn _⟩,OwnN.nil _ _,Qi _ _⟩
  case round=>
   obtain⟨k,hk,rfl,H,L,S⟩:=hrel;rw[F.out]at hk;have q:w.heap.size+1<=wr.heap.size:=Ql hr S.size;have y:w wr:=I.out.trans (S.mono (Zd _));obtain⟨Ao,co,rfl,_⟩:=L.form;have hy:=H.out.2
   by_cases t:k<d.length
   ·have d2:decide ((k:Int)<(d.length:Int))=true:=by simp;omega
    have i7:IntKind.i64.wrap ((k:Int)+1)=(k:Int)+1:=Qz _ (by omega);have hc:=C.out wr S k t;obtain⟨u,hm⟩:=B.out k t (by rw[F.out];exact t);have m:=zjo d[k] wr (h6.out wr y) hm;unfold zeC at m;rw[<-u]at m;cases X:netP (qs[k]'(by rw[F.out];exact t))with
    |error e0=>
     have he:=zmM qs k (by rw[F.out];exact t) e0 H.out.1 X;have hv:=zkl X;rw[X]at m;have O:=hIx m;have hg:=hIx he.symm;have l:=hIx y;have hu:(e0==0)=false:=Qc.2 (by omega);generalize d[k]=x at *;clear L S y m X he u B C H;go_wp2_with (first|(go_at_call 72;refine O.out.mono ?_;rintro e w2 ⟨rfl,g⟩;unfold netV));exact c.out _ _ _ hg.out (λe=>by omega) (λ_=>rfl) ((l.out.trans (g.mono l.out.size)).alloc (l.out.trans (g.mono l.out.size)).size _)
    |ok p=>
     obtain⟨h1,h2⟩:=zjD qs k (by rw[F.out];exact t) p H.out.1 X;rw[X]at m;have O:=hIx m;have Y:=ziD (qs.take (k+1));have T:(qs.take (k+1)).length<=d.length:=by rw[QK,F.out];omega
     have hj:Hid (zfd (qs.take (k+1))=0/\(zbT (qs.take (k+1))).length<=30):=⟨h1,by omega⟩
     have hq:=hIx h2;obtain⟨a,b⟩:=p;generalize zbT (qs.take k)=U at *;generalize d[k]=x at *;have HO:=hIx L;have l:=hIx S;clear L S y m X h1 h2 Y T u B C H;go_wp2_with (first|(go_at_call 72;refine O.out.mono ?_;rintro e w2 ⟨rfl,g⟩;unfold netV;have hf:=λo=>HO.out.below (g.alloc g.size o);have ho:∀o,w.heap.size+1<=(w2.alloc o).heap.size:=λo=>by rw[Qp];exact XL (Ql q g.size))|(at_builtin;refine zhC rfl (.tmp 29) (.tmp 31) rfl (w.heap.size+1) (.slice Ao U.length co) U rfl (by exact hf _) (by exact ho _) _ ((a:Int),b) rfl (w2.heap.size+1) (by rw[Qp]) 1 rfl (by omega) ?_;intro v5 w5 ha ht hx hw));have h0:Below (w.heap.size+1) wr w5:=((g.mono q).trans ((Qi _ _).alloc (Ql q g.size) _)).trans ht;exact⟨⟨k+1,by rw[F.out];omega,rfl,hj,by rw[hq.out];exact ha,l.out.trans h0⟩,by dsimp only[intOf];omega⟩
   ·have hd:k=d.length:=by omega
    subst hd;have h7:qs.take d.length=qs:=QR (Nat.le_of_eq F.out);rw[h7]at H L;have HO:=hIx (L.low (Zd _));have l:=hIx y;have HE:=hIx H.out.1;rw[h7];have hp:Hid (∀W,OwnN W w.heap.size (.slice Ao (zbT qs).length co) (zbT qs)->w W->P (jC (.tuple #[.slice Ao (zbT qs).length co,jA 0])) W):=hIx λW h1 h2=>c.out _ 0 W HE.out.symm (λ_=>h1) (λe=>absurd rfl e) h2
    clear c;generalize zbT qs=U at *;clear L S y H B C;go_wp2;exact hp.out _ HO.out l.out
def zct(l:jE):Set4 × Int:=if okB l=true then (setF (inB l),0)else (.zero,3)
def zis(l:jE)(w:World)(e:Ending)(w':World):Prop:=
 e=jC (.tuple #[setA (zct l).1,jA (zct l).2])/\w w'
def RowsW(w:World)(g:Nat)(a:List ByteArray):Prop:=w.heap[g]? = some (.cells (a.map Value.string).toArray 9 (0,0))
theorem RowsW.cell{w:World}{g:Nat}{a:List ByteArray}(h:RowsW w g a)(j:Nat)(b:j<a.length):w.cell? ⟨g,j,none⟩=some (.string a[j]):=by
 have:=Qo w g j _ _ (0,0) h;rw[this];simp[b]
theorem RowsW.far{w:World}{g:Nat}{b:List ByteArray}(h:RowsW w g b){k:Nat}(a:g≠k)(j:Nat)(u:Value):RowsW (w.setCell ⟨k,j,none⟩ u) g b:=(Qm w ⟨k,j,none⟩ u g a).trans h
theorem RowsW.below{B:Nat}{w w':World}{g:Nat}{a:List ByteArray}(h:RowsW w g a)(hb:Below B w w')(b:g<B):RowsW w' g a:=(hb.block g b).trans h
theorem RowsW.lt{w:World}{g:Nat}{a:List ByteArray}(h:RowsW w g a):g<w.heap.size:=by
 unfold RowsW at h;rw[QI]at h;exact h.1
def mixW(j:Nat)(s u:Set4):Set4:=⟨if 0<j then u.a else s.a,if 1<j then u.b else s.b,if 2<j then u.c else s.c,if 3<j then u.d else s.d⟩
theorem zrU(s u:Set4):mixW 4 s u=u:=rfl
theorem zvz(j:Nat)(a:j<4)(s u:Set4):putW (mixW j s u) j (u.word j)=mixW (j+1) s u:=by
 match j,a with
 |0,_=>rfl
 |1,_=>rfl
 |2,_=>rfl
 |3,_=>rfl
theorem ztc(j:Nat)(a:j<4)(s u:Set4):(mixW j s u).word j=s.word j:=by
 match j,a with
 |0,_=>rfl
 |1,_=>rfl
 |2,_=>rfl
 |3,_=>rfl
theorem zkU(f g:Nat->Bool)(j:Nat)(a:j<4):bits .or .u64 ((setF f).word j) ((setF g).word j)=(setF λk=>f k||g k).word j:=by
 rw[zdz f j a,zdz g j a,zdz _ j a,bits_or_u64_nat _ _ (ziR _ _) (ziR _ _),zwO]
theorem zyr(s:Set4)(k:Nat)(e:k<4):([jB s.a,jB s.b,jB s.c,jB s.d]:List Value)[k]? = some (jB (s.word k)):=by
 match k,e with
 |0,_=>rfl
 |1,_=>rfl
 |2,_=>rfl
 |3,_=>rfl
theorem zsK:(prog.info? 93).map (λi=>(i.zero,i.size,i.bytes))=some (some (jB 0),1,8):=by kernel_rfl
theorem zrs(s:Set4)(k:Nat)(f:k<4)(w:World):(Instr.index 95 (.agg #[jB s.a,jB s.b,jB s.c,jB s.d]) (jA (k:Int))).run prog w=.ok (jB (s.word k)) w:=by
 obtain⟨m,j,i,e,h⟩:=ZG zsK
 have g:(#[jB s.a,jB s.b,jB s.c,jB s.d]:Array Value)[k]? = some (jB (s.word k)):=by
  have:=zyr s k f
  simpa using this
 have l:(Go.sizeOf 93).run prog w=.ok 1 w:=by simp[Go.sizeOf,typeInfo,j,e]
 generalize (#[jB s.a,jB s.b,jB s.c,jB s.d]:Array Value)=cs at *;unfold Instr.index;simp[ZK underlying95,asIntOf,go_sem,f,l,g]
def zzV(P:List jE)(a:List ByteArray)(w:World)(i:Value)(wr:World):Prop:=
 ∃k:Nat,k<=a.length/\i=jA k/\Hid ((P.take k).all okR=true)/\FourW wr (w.heap.size+1) (setF (anyR (P.take k)))/\FourW wr w.heap.size (setF λ_=>false)/\RowsW wr (w.heap.size+2) a/\w wr
def zzl(s u:Set4)(a:List ByteArray)(w:World)(i:Value)(wr:World):Prop:=
 ∃j:Nat,j<=4/\i=jA j/\FourW wr (w.heap.size+1) (mixW j s u)/\FourW wr w.heap.size (setF λ_=>false)/\RowsW wr (w.heap.size+2) a/\w wr
theorem zlY(s:ByteArray)(w:World)(hr:LibOk w)(hs:s.size<=4194304):Calls prog 52 #[.string s] w (zis s.data.toList w):=by
 obtain⟨m0,h6⟩:=hr;have g4:0<w.heap.size:=QT w _ h6;have hp:∀W,w W->W.cell? (0:)=some (jA m0):=λW hb=>(hb.cell (p:=⟨0,0,none⟩) g4).trans h6
 have z:Hid (∀W,w W->Calls prog 49 #[.string s,.string ⟨#[44]⟩] W _):=λW hb=>strings_Split s ⟨#[44]⟩ m0 W (by omega) (hp W hb) (by decide)
 have he:=zb1 44 s;have o:=Z9 ⟨#[44]⟩ (by decide) 0 _ s rfl;generalize Lib.splitB ⟨#[44]⟩ 0 (Lib.countB s ⟨#[44]⟩) s=g at z he o;generalize Lib.countB s ⟨#[44]⟩=n at z o;rw[<-o]at z
 have h0:∀W,W=(w.alloc (.cells #[jB 0,jB 0,jB 0,jB 0] 95)).alloc (.cells #[jB 0,jB 0,jB 0,jB 0] 95)->FourW W (w.heap.size+1) (setF λ_=>false)/\FourW W w.heap.size (setF λ_=>false)/\w W/\W.heap.size=w.heap.size+2:=λW hW=>by
  have hb:w W:=by rw[hW];exact WaL.alloc (by simp) _
  refine⟨?_,?_,hb,by rw[hW];simp⟩
  ·have:=FourW.new (w.alloc (.cells #[jB 0,jB 0,jB 0,jB 0] 95))
   rw[Qp]at this;rw[hW];exact this
  ·rw[hW]
   exact(Qs _ _ _ (by simp)).trans (FourW.new w)
 have H0:=hIx h0;have hC:=hIx he;have hQ:=hIx hp;clear he o h6 h0 hp
 go_in
 obtain⟨Y,h3,L,h5⟩:=H0.out _ rfl;have hm:=z.out _ L;go_wp2_with fail;generalize (w.alloc (.cells #[jB 0,jB 0,jB 0,jB 0] 95)).alloc (.cells #[jB 0,jB 0,jB 0,jB 0] 95)=W0 at *;have B:RowsW (W0.alloc (.cells (g.map Value.string).toArray 9)) (w.heap.size+2) g:=by rw[<-h5];exact Qv W0 _
 have t:w (W0.alloc (.cells (g.map Value.string).toArray 9)):=L.alloc L.size _;have hg:=Y.below ((Qi _ _).alloc (Qd _) (.cells (g.map Value.string).toArray 9)) Y.lt;have hh:=h3.below ((Qi _ _).alloc (Qd _) (.cells (g.map Value.string).toArray 9)) h3.lt;rw[h5]at hm;clear Y h3 L h5 z H0;refine hm.mono ?_;rintro e w1 ⟨rfl,hu⟩;rw[<-hu]at B t hg hh;clear hu hm W0;have o:(splL 44 s.data.toList).length=g.length:=by rw[<-hC.out,Qk]
 have g7:g.length<=4194305:=by
  have h1:=zdL 44 s.data.toList;rw[show s.data.toList.length=s.size by simp]at h1;omega
 have N:=hIx o;clear o;go_wp2
 go_loopw [17] (λi wr=>zzV (splL 44 s.data.toList) g w i wr) (λi _=>g.length-(intOf i).toNat)
 case atStart=>exact⟨0,Qn _,rfl,rfl,hg,hh,B,t⟩
 case round=>
  obtain⟨k,hk,rfl,J,u,Q,G,T⟩:=hrel;clear B t hg hh
  by_cases K:k<g.length
  ·have d2:decide ((k:Int)<(g.length:Int))=true:=by simp;omega
   have i7:IntKind.i64.wrap ((k:Int)+1)=(k:Int)+1:=Qz _ (by omega);have hc:=G.cell k K
   have hx:(splL 44 s.data.toList)[k]'(by rw[N.out];exact K)=g[k].data.toList:=by
    have:=hC.out;simp only[<-this,Zo]
   have g1:g[k].size<=s.size:=by
    have h1:=zbY 44 s.data.toList _ (QC (by rw[N.out];exact K));rw[hx]at h1
    simpa using h1
   have I:Hid ((splL 44 s.data.toList).take (k+1)=(splL 44 s.data.toList).take k++[g[k].data.toList]):=by
    unfold Hid;rw[Qu (by rw[N.out];exact K),hx]
   have V:Hid (g[k].data.toList∈splL 44 s.data.toList):=by
    unfold Hid;rw[<-hx];exact QC _
   clear hx;generalize g[k]=x at hc I V g1;have hcut:=strings_Cut x ⟨#[45]⟩ m0 wr (by omega) (hQ.out wr T);have g3:=zcP x.data.toList [45];have hT:x.data.toList.length=x.size:=by simp
   have t:(bs (Lib.cut x.data.toList [45]).1).size<=4194304:=by rw[zah];omega
   have hd:(bs (Lib.cut x.data.toList [45]).2.1).size<=4194304:=by rw[zah];omega
   have h9:Hid (loR x.data.toList=numB 255 (Lib.cut x.data.toList [45]).1):=rfl;have F:Hid (hiR x.data.toList=numB 255 (if (Lib.cut x.data.toList [45]).2.2=true then (Lib.cut x.data.toList [45]).2.1 else (Lib.cut x.data.toList [45]).1)):=rfl;have X:Hid (∀(y:jE) W,(bs y).size<=4194304->Calls prog 74 #[.string (bs y),jA 255] W λe w'=>e=jC (jA (numB 255 y))/\w'=W):=λy W h=>zkC (bs y) 255 W (by unfold maxLen;omega)
   have hL:=hIx hcut;clear hcut g3 hT;go_wp2_with fail;refine hL.out.mono ?_;rintro e w2 ⟨rfl,nq,rfl⟩;have D:FourW (wr.drewN nq) (w.heap.size+1) (setF (anyR ((splL 44 s.data.toList).take k))):=u;have m:FourW (wr.drewN nq) w.heap.size (setF λ_=>false):=Q;have O:RowsW (wr.drewN nq) (w.heap.size+2) g:=G;have A:=below_drewN T nq;clear u Q G T hL;generalize wr.drewN nq=wd at *;clear hc;generalize (Lib.cut x.data.toList [45]).1=ca at *;generalize (Lib.cut x.data.toList [45]).2.1=cb at *;generalize (Lib.cut x.data.toList [45]).2.2=two at *;obtain⟨cc,l⟩:∃cc,cc=(if two=true then cb else ca):=⟨_,rfl⟩
   rw[<-l]at F;have hz:(bs cc).size<=4194304:=by rw[l];split <;> assumption
   have hf:=hIx l;have hn:=λW=>X.out ca W t
   have Z:=λW=>X.out cc W hz
   rw[<-h9.out]at hn;rw[<-F.out]at Z;have h8:=hIx hn;have h4:=hIx Z;have hP:-1<=loR x.data.toList:=by rw[h9.out];exact zrk _ _
   have hV:hiR x.data.toList<=255:=by rw[F.out];exact zxj _ _ (by decide)
   have hK:-1<=hiR x.data.toList:=by rw[F.out];exact zrk _ _
   clear hn Z X h9 F l t hd hz
   go_upto_if 28 with fail
   go_cut [8]from 29 to 29 (λs8 wx=>s8=.string (bs cc)/\wx=wd)
   case first=>
    cases two with
    |true=>
     have l:=hf.out;rw[Qj rfl]at l;subst l;go_wp2;go_meet;exact⟨rfl,rfl⟩
    |false=>
     have l:=hf.out;rw[Qf (by decide)]at l;subst l;go_wp2;go_meet;exact⟨rfl,rfl⟩
   case rest=>
    obtain⟨rfl,rfl⟩:=hcut;go_wp2_with fail;refine(h8.out _).mono ?_;rintro e w3 ⟨rfl,rfl⟩;go_wp2_with fail;refine(h4.out _).mono ?_;rintro e w4 ⟨rfl,rfl⟩
    by_cases f:okR x.data.toList=true
    ·have hY:0<=loR x.data.toList/\loR x.data.toList<=hiR x.data.toList:=by unfold okR at f;simpa using f
     obtain⟨a,ha⟩:∃a:Nat,loR x.data.toList=a:=⟨(loR x.data.toList).toNat,by omega⟩
     obtain⟨b,hb⟩:∃b:Nat,hiR x.data.toList=b:=⟨(hiR x.data.toList).toNat,by omega⟩
     have g0:a<=b:=by omega
     have hd:b<256:=by omega
     have hE:Hid (setF (λy=>decide (a<=y)&&decide (y<=b))=setF (inR x.data.toList)):=zbZ λy _=>by
      unfold inR;rw[ha,hb]
      congr 1
      ·exact decide_eq_decide.2 (by omega)
      ·exact decide_eq_decide.2 (by omega)
     have P:=zcv a b g0 hd;rw[hE.out]at P
     have hD:Hid (setF (λy=>anyR ((splL 44 s.data.toList).take k) y||inR x.data.toList y)=setF (anyR ((splL 44 s.data.toList).take (k+1)))):=zbZ λy _=>by
      rw[I.out];unfold anyR;rw[List.any_append];simp
     have hX:Hid (((splL 44 s.data.toList).take (k+1)).all okR=true):=by
      unfold Hid;rw[I.out,List.all_append,J.out];simp[f]
     have o0:=zkU (anyR ((splL 44 s.data.toList).take k)) (inR x.data.toList) 0 (by decide);have o1:=zkU (anyR ((splL 44 s.data.toList).take k)) (inR x.data.toList) 1 (by decide);have o2:=zkU (anyR ((splL 44 s.data.toList).take k)) (inR x.data.toList) 2 (by decide);have o3:=zkU (anyR ((splL 44 s.data.toList).take k)) (inR x.data.toList) 3 (by decide);rw[hD.out]at o0 o1 o2 o3;rw[ha,hb];have hN:=hIx (And.intro o0 (And.intro o1 (And.intro o2 o3)));obtain⟨S,hS⟩:∃S,S=setF (anyR ((splL 44 s.data.toList).take k)):=⟨_,rfl⟩
     obtain⟨U,hU⟩:∃U,U=setF (anyR ((splL 44 s.data.toList).take (k+1))):=⟨_,rfl⟩
     obtain⟨R,G⟩:∃R,R=setF (inR x.data.toList):=⟨_,rfl⟩
     rw[<-hS,<-hU,<-G]at hN;rw[<-hS]at D;rw[<-G]at P;have HU:=hIx hU;have hI:=hIx P;have d3:decide ((a:Int)<0)=false:=Qt (by omega);have d4:decide ((b:Int)<(a:Int))=false:=Qt (by omega);clear P hS hU G o0 o1 o2 o3 hD hE ha hb hY f J I h8 h4 hf hP hV hK;go_wp2_with fail;refine(hI.out _).mono ?_;rintro e w5 ⟨rfl,E⟩;have hq:=D.below E D.lt;have hH:=m.below E m.lt;have hJ:=O.below E O.lt;have hG:=A.trans (E.mono A.size);unfold setA;clear E D m O A hI;go_wp2
     go_loopw [45] (λi wr=>zzl S U g w i wr) (λi _=>4-(intOf i).toNat)
     case atStart=>exact⟨0,by decide,rfl,hq,hH,hJ,hG⟩
     case round=>
      obtain⟨j,hj,rfl,u,Q,G,T⟩:=hrel;clear hq hH hJ hG
      by_cases C:j<4
      ·have H:=u.put j C (U.word j)
       rw[zvz j C]at H;have h7:=u.cell j C;rw[ztc j C]at h7;have g5:=u.free j;have ht:=Q.far (k:=w.heap.size+1) (by omega) j (jB (U.word j));have hA:=G.far (k:=w.heap.size+1) (by omega) j (jB (U.word j));have hv:=T.setCell (p:=⟨w.heap.size+1,j,none⟩) (Zd _) (jB (U.word j));have X:=hIx (And.intro H (And.intro ht (And.intro hA hv)));clear u Q G T H ht hA hv;have g6:=λW=>zrs R j C W
       have hw:bits .or .u64 (S.word j) (R.word j)=U.word j:=by
        obtain⟨o0,o1,o2,o3⟩:=hN.out;obtain rfl|rfl|rfl|rfl:j=0\/j=1\/j=2\/j=3:=by omega
        ·exact o0
        ·exact o1
        ·exact o2
        ·exact o3
       generalize R.word j=rj at *;generalize S.word j=sj at *;generalize U.word j=uj at *;go_wp2_with fail
       go_roundw
       case rel=>exact⟨j+1,by omega,by go_num,X.out.1,X.out.2.1,X.out.2.2.1,X.out.2.2.2⟩
       case measure=>simp[intOf] <;> omega
      ·obtain rfl:j=4:=by omega
       rw[zrU,HU.out]at u;go_wp2_with fail
       go_roundw
       case rel=>exact⟨k+1,by omega,by go_num,hX,u,Q,G,T⟩
       case measure=>simp[intOf] <;> omega
    ·have hy:okB s.data.toList=false:=by
      cases h:okB s.data.toList with
      |false=>rfl
      |true=>exact absurd (Zv.1 h _ V.out) f
     have ho:Hid (zct s.data.toList=(.zero,3)):=by unfold Hid zct;rw[hy];rfl
     have hw:loR x.data.toList<0\/(0<=loR x.data.toList/\hiR x.data.toList<loR x.data.toList):=by
      unfold okR at f;simp only[Q3,QX]at f;omega
     have z0:=m.cells;have y0:=m.free;have q:=m.fill .zero;have r:=(((A.setCell (p:=⟨w.heap.size,0,none⟩) (Qd _) (jB 0)).setCell (p:=⟨w.heap.size,1,none⟩) (Qd _) (jB 0)).setCell (p:=⟨w.heap.size,2,none⟩) (Qd _) (jB 0)).setCell (p:=⟨w.heap.size,3,none⟩) (Qd _) (jB 0);have hO:=hIx q;have g2:=hIx r;generalize loR x.data.toList=lo at *;generalize hiR x.data.toList=hi at *;clear q r hy f D m O A h8 h4
     rcases hw with h1|⟨h1,h2⟩
     have d3:decide (lo<0)=true:=Qx h1
     rotate_left
     have d3:decide (lo<0)=false:=Qt (by omega);have d4:decide (hi<lo)=true:=Qx h2
     all_goals
      go_wp2_with fail;have q:=hO.out;have r:=g2.out;rw[show Set4.zero.a=0 from rfl,show Set4.zero.b=0 from rfl,show Set4.zero.c=0 from rfl,show Set4.zero.d=0 from rfl]at q;generalize ((((w4.setCell w.heap.size (jB 0)).setCell ⟨w.heap.size,1,none⟩ (jB 0)).setCell ⟨w.heap.size,2,none⟩ (jB 0)).setCell ⟨w.heap.size,3,none⟩ (jB 0))=WF at *;obtain⟨s0,s1,s2,s3⟩:=q.cells;exact QD (v:=.tuple #[setA .zero,jA 3]) (by simp[results,results52,go_sem,s0,s1,s2,s3,setA]) rfl ⟨by rw[ho.out],r⟩
  ·obtain rfl:k=g.length:=by omega
   have d2:decide ((g.length:Int)<(g.length:Int))=false:=by simp
   rw[<-N.out,Q0]at J u;have ho:Hid (zct s.data.toList=(setF (inB s.data.toList),0)):=by unfold Hid zct okB;rw[Qj J.out]
   obtain⟨S,hS⟩:∃S,S=setF (anyR (splL 44 s.data.toList)):=⟨_,rfl⟩
   rw[<-hS]at u;have HS:=hIx hS;clear hS;have c0:=u.cells;have z0:=Q.cells;have y0:=Q.free;go_wp2_with fail;have q:=Q.fill S;have r:=(((T.setCell (p:=⟨w.heap.size,0,none⟩) (Qd _) (jB S.a)).setCell (p:=⟨w.heap.size,1,none⟩) (Qd _) (jB S.b)).setCell (p:=⟨w.heap.size,2,none⟩) (Qd _) (jB S.c)).setCell (p:=⟨w.heap.size,3,none⟩) (Qd _) (jB S.d);generalize ((((wr.setCell w.heap.size (jB S.a)).setCell ⟨w.heap.size,1,none⟩ (jB S.b)).setCell ⟨w.heap.size,2,none⟩ (jB S.c)).setCell ⟨w.heap.size,3,none⟩ (jB S.d))=WF at *;obtain⟨s0,s1,s2,s3⟩:=q.cells;exact QD (v:=.tuple #[setA S,jA 0]) (by simp[results,results52,go_sem,s0,s1,s2,s3,setA]) rfl ⟨by rw[ho.out,HS.out];rfl,r⟩
