/- Lemmas for the last texts. -/
import Derived.Test.YtnnokglddolglaaGreatDoorM03
import Derived.Lib.SplitLaws
import Derived.Laws.Bits64b
import Derived.Laws.Bits64
set_option maxHeartbeats 1600000
set_option maxRecDepth 100000
namespace Go.Proofs.YtnnokglddolglaaGreatDoor
open Go.RowKit Go.Proofs.Tryz
def splL(c:UInt8):jE->List jE
 | []=>[[]]
 |b::l=>if b=c then []::splL c l else match splL c l with
  | []=>[[b]]
  |x::r=>(b::x)::r
theorem zk9(c:UInt8)(l:jE):splL c l≠[]:=by
 cases l with
 |nil=>simp[splL]
 |cons b l=>
  rw[splL]
  split
  ·simp
  ·split <;> simp
theorem zh2(c:UInt8)(s t:jE):splL c (s++c::t)=splL c s++splL c t:=by
 induction s with
 |nil=>show splL c (c::t)=[]::splL c t;simp[splL]
 |cons b s ih=>
  have a:∀l,splL c (b::l)=if b=c then []::splL c l else match splL c l with | []=>[[b]]|x::r=>(b::x)::r:=λl=>by rw[splL]
  rw[ZQ,a,a,ih]
  split
  ·rfl
  ·cases h:splL c s with
   |nil=>exact absurd h (zk9 c s)
   |cons x r=>rfl
theorem zdK(c:UInt8)(l:jE):(splL c l).length<=l.length+1:=by
 induction l with
 |nil=>exact Qc _
 |cons b l ih=>
  rw[splL]
  split
  ·simp only[Qn];omega
  ·cases h:splL c l with
   |nil=>simp
   |cons x r=>rw[h]at ih;simp only[Qn]at ih ⊢;omega
theorem zuc(c:UInt8)(l:jE):((splL c l).filter λx=>!x.isEmpty).length<=l.length:=by
 induction l with
 |nil=>exact Qc _
 |cons b l ih=>
  rw[splL]
  split
  ·rw[List.filter_cons_of_neg (by simp)];simp only[Qn];omega
  ·cases h:splL c l with
   |nil=>simp
   |cons x r=>
    rw[h]at ih;rw[List.filter_cons_of_pos (by simp)];cases x with
    |nil=>rw[List.filter_cons_of_neg (by simp)]at ih;simp only[Qn];omega
    |cons y x=>rw[List.filter_cons_of_pos (by simp)]at ih;simp only[Qn]at ih ⊢;omega
theorem zbV(c:UInt8)(l:jE):∀x∈splL c l,x.length<=l.length:=by
 induction l with
 |nil=>intro x a;simp[splL]at a;subst a;exact Qc _
 |cons b l ih=>
  intro x a;rw[splL]at a
  split at a
  ·rcases QI.1 a with h|h
   ·subst h;simp
   ·have:=ih x h;simp only[Qn];omega
  ·cases h:splL c l with
   |nil=>exact absurd h (zk9 c l)
   |cons y r=>
    rw[h]at a ih
    rcases QI.1 a with h1|h1
    ·subst h1;have:=ih y (by simp);simp only[Qn];omega
    ·have:=ih x (by simp[h1]);simp only[Qn];omega
theorem zfI(b c:UInt8)(l:jE)(h:b≠c):Lib.index (b::l) [c]=if Lib.index l [c]==-1 then -1 else Lib.index l [c]+1:=by
 have a:([c]:jE).isPrefixOf (b::l)=false:=by simp[List.isPrefixOf,Xv h]
 rw[Lib.index,a];simp
theorem zjP(c:UInt8):∀l:jE,Lib.splitK [c] 0 (Lib.count l [c]) l=splL c l
 | []=>by rw[Lib.count_miss (by simp[Lib.index])];rfl
 |b::l=>by
  have ih:=zjP c l
  by_cases h:b=c
  ·subst h
   have a:Lib.index (b::l) [b]=0:=by rw[Lib.index];simp[List.isPrefixOf]
   rw[Lib.count_cons_eq,Nat.add_comm,Lib.splitK,Qe (by rw[a];decide),a,splL,Qg rfl,<-ih]
   rfl
  ·rw[Lib.count_cons_ne b c l h,splL,Qe h,<-ih]
   by_cases f:Lib.index l [c]=-1
   ·rw[Lib.count_miss f];rfl
   ·have g:=Lib.index_ge l [c]
    obtain⟨j,d⟩:∃j:Nat,Lib.index l [c]=j:=⟨(Lib.index l [c]).toNat,by omega⟩
    have e:Lib.count l [c]=Lib.count (l.drop (j+1)) [c]+1:=by rw[Lib.count_hit (by simp) d,Nat.add_comm];rfl
    have a:Lib.index (b::l) [c]=((j+1:Nat):Int):=by rw[zfI b c l h,Qe (λe=>f (Zo.1 e)),d];omega
    rw[e,Lib.splitK,Qe (by rw[a,Zo];omega),a,Lib.splitK,Qe (by rw[d,Zo];omega),d]
    rfl
theorem zbZ(c:UInt8)(s:ByteArray):(Lib.splitB ⟨#[c]⟩ 0 (Lib.countB s ⟨#[c]⟩) s).map (·.data.toList)=splL c s.data.toList:=by
 rw[Lib.splitB_data];exact zjP c _
theorem zcM(l a:jE):(Lib.cut l a).1.length<=l.length/\(Lib.cut l a).2.1.length<=l.length:=by
 unfold Lib.cut
 split
 ·exact⟨by rw[QJ];exact Nat.min_le_right _ _,by rw[QM];exact Nat.sub_le _ _⟩
 ·exact⟨Qc _,Qm _⟩
def zaq(b:UInt8):Int:=
 if 48<=b.toNat/\b.toNat<=57 then (b.toNat:Int)-48 else if 97<=b.toNat/\b.toNat<=102 then (b.toNat:Int)-87 else if 65<=b.toNat/\b.toNat<=70 then (b.toNat:Int)-55 else -1
theorem zit(b:UInt8)(w:World):
 Calls prog 131 #[.int .u8 b.toNat] w λe w'=>e=jC (jA (zaq b))/\w'=w:=by
 have hb:(b.toNat:Int)<=255:=by have:=b.toNat_lt;omega
 unfold zaq;generalize b.toNat=n at *
 go_in
 go_wp2
 all_goals
  go_ret;exact⟨zac (by (repeat' split) <;> omega),rfl⟩
theorem zdk(b:UInt8)(w:World):
 Calls prog 151 #[.int .u8 b.toNat] w λe w'=>e=jC (jA (zaq b))/\w'=w:=by
 go_in
 go_wp2_with (go_at_call 131;refine(zit _ _).mono ?_;rintro e w' ⟨rfl,rfl⟩);go_ret;exact⟨rfl,rfl⟩
theorem zlu(b:UInt8):zaq b<16:=by
 have:=b.toNat_lt;unfold zaq;(repeat' split) <;> omega
def zbr(base:Int):jE->Int->Option Int
 | [],n=>some n
 |b::l,n=>if zaq b<0\/base<=zaq b then none else zbr base l (n*base+zaq b)
def numL(base:Int)(most:Nat)(l:jE):Option Int:=
 if l.length=0\/most<l.length then none else zbr base l 0
def zcb(o:Option Int):Value:=match o with
 |some n=>.tuple #[jA n,jA 0]
 |none=>.tuple #[jA 0,jA 4]
def zwR(base:Int)(most:Nat)(s:ByteArray)(n i:Value):Prop:=
 ∃(k:Nat) (v:Int),k<=s.size/\i=jA k/\n=jA v/\0<=v/\v<16 ^ k/\numL base most s.data.toList=zbr base (s.data.toList.drop k) v
theorem zvq(s:ByteArray)(w:World)(m:s.size<=maxLen):
 Calls prog 96 #[.string s,jA 10,jA 9] w λe w'=>e=jC (zcb (numL 10 9 s.data.toList))/\w'=w:=by
 unfold maxLen at m;have a:s.data.toList.length=s.size:=by simp
 by_cases b:s.size=0\/9<s.size
 ·have H:Hid (numL 10 9 s.data.toList=none):=by unfold numL;rw[Qg (by omega)];exact rfl
  rcases b with b|b
  all_goals
   clear a
   go_in
   go_wp2
   all_goals (go_ret2;exact⟨by rw[H.out];rfl,rfl⟩)
 ·obtain⟨r,u⟩:=not_or.1 b
  have H:Hid (numL 10 9 s.data.toList=zbr 10 s.data.toList 0):=by unfold numL;rw[Qe (by omega)];exact rfl
  have h1:((s.size:Int)==0)=false:=Qb.2 (by omega);have h2:(s.size:Int)<=9:=by omega
  have x:s.size<=9:=by omega
  clear a b
  go_in
  go_wp2
  go_loop [8,22] (λn i=>zwR 10 9 s n i) (λ_ i=>s.size-(intOf i).toNat)
  case atStart=>exact⟨0,0,Qm _,rfl,rfl,by decide,by decide,H⟩
  case round=>
   obtain⟨k,v,q,rfl,rfl,l,j,c⟩:=hrel;have f:=hIx c;clear c
   have t:(16:Int) ^ k<=68719476736:=by
    have:(16:Nat) ^ k<=16 ^ 9:=ZX (by decide) (by omega);have h:((16 ^ k:Nat):Int)<=68719476736:=by omega
    simpa using h
   by_cases d:k<s.size
   ·have p:=zlu s[k]
    have g:=hIx (zaH s k d);have o:Hid ((16:Int) ^ (k+1)=16 ^ k*16):=Int.pow_succ _ _;go_wp2_with (go_at_call 131;refine(zit _ _).mono ?_;rintro e w' ⟨rfl,rfl⟩)
    all_goals first
     |(
      go_ret2
      exact⟨by rw[f.out,g.out,zbr,Qg (by omega)];rfl,rfl⟩)
     |(
      go_round
      case rel=>exact⟨k+1,_,by omega,by go_num,rfl,by omega,by rw[o.out];omega,by rw[f.out,g.out,zbr,Qe (by omega)]⟩
      case measure=>simp[intOf];omega)
   ·go_wp2
    go_ret2
    exact⟨by rw[f.out,QN (by simp;omega)];rfl,rfl⟩
theorem zf6(s:ByteArray)(w:World)(a:s.size<=maxLen):
 Calls prog 65 #[.string s] w λe w'=>e=jC (zcb (numL 10 9 s.data.toList))/\w'=w:=by
 go_in
 cases h:numL 10 9 s.data.toList
 all_goals
  have H:=hIx h;clear h;go_wp2_with (go_at_call 96;refine(zvq _ _ a).mono ?_;rintro e w' ⟨rfl,rfl⟩;rw[H.out];simp only[zcb])
  go_ret2
  exact⟨rfl,rfl⟩
theorem zww(s:ByteArray)(w:World)(m:s.size<=maxLen):
 Calls prog 96 #[.string s,jA 16,jA 7] w λe w'=>e=jC (zcb (numL 16 7 s.data.toList))/\w'=w:=by
 unfold maxLen at m;have a:s.data.toList.length=s.size:=by simp
 by_cases b:s.size=0\/7<s.size
 ·have H:Hid (numL 16 7 s.data.toList=none):=by unfold numL;rw[Qg (by omega)];exact rfl
  rcases b with b|b
  all_goals
   clear a
   go_in
   go_wp2
   all_goals (go_ret2;exact⟨by rw[H.out];rfl,rfl⟩)
 ·obtain⟨r,u⟩:=not_or.1 b
  have H:Hid (numL 16 7 s.data.toList=zbr 16 s.data.toList 0):=by unfold numL;rw[Qe (by omega)];exact rfl
  have h1:((s.size:Int)==0)=false:=Qb.2 (by omega);have h2:(s.size:Int)<=7:=by omega
  have x:s.size<=7:=by omega
  clear a b
  go_in
  go_wp2
  go_loop [8,22] (λn i=>zwR 16 7 s n i) (λ_ i=>s.size-(intOf i).toNat)
  case atStart=>exact⟨0,0,Qm _,rfl,rfl,by decide,by decide,H⟩
  case round=>
   obtain⟨k,v,q,rfl,rfl,l,j,c⟩:=hrel;have f:=hIx c;clear c
   have t:(16:Int) ^ k<=68719476736:=by
    have:(16:Nat) ^ k<=16 ^ 9:=ZX (by decide) (by omega);have h:((16 ^ k:Nat):Int)<=68719476736:=by omega
    simpa using h
   by_cases d:k<s.size
   ·have p:=zlu s[k]
    have g:=hIx (zaH s k d);have o:Hid ((16:Int) ^ (k+1)=16 ^ k*16):=Int.pow_succ _ _;go_wp2_with (go_at_call 131;refine(zit _ _).mono ?_;rintro e w' ⟨rfl,rfl⟩)
    all_goals first
     |(
      go_ret2
      exact⟨by rw[f.out,g.out,zbr,Qg (by omega)];rfl,rfl⟩)
     |(
      go_round
      case rel=>exact⟨k+1,_,by omega,by go_num,rfl,by omega,by rw[o.out];omega,by rw[f.out,g.out,zbr,Qe (by omega)]⟩
      case measure=>simp[intOf];omega)
   ·go_wp2
    go_ret2
    exact⟨by rw[f.out,QN (by simp;omega)];rfl,rfl⟩
theorem ztN(s:ByteArray)(w:World)(a:s.size<=maxLen):
 Calls prog 213 #[.string s] w λe w'=>e=jC (zcb (numL 16 7 s.data.toList))/\w'=w:=by
 go_in
 cases h:numL 16 7 s.data.toList
 all_goals
  have H:=hIx h;clear h;go_wp2_with (go_at_call 96;refine(zww _ _ a).mono ?_;rintro e w' ⟨rfl,rfl⟩;rw[H.out];simp only[zcb])
  go_ret2
  exact⟨rfl,rfl⟩
def zne(f:Nat->Bool):Nat->Nat
 |0=>0
 |i+1=>zne f i|||if f i then 2 ^ i else 0
theorem zpe(f:Nat->Bool):∀n,zne f n<2 ^ n
 |0=>Nat.one_pos
 |n+1=>by
  have h:=zpe f n;rw[zne];refine Nat.or_lt_two_pow (Qv h (ZX (by decide) (by omega))) ?_
  split
  ·exact Nat.pow_lt_pow_right (by decide) (by omega)
  ·exact Nat.two_pow_pos _
theorem zj7(f:Nat->Bool):∀n i,(zne f n).testBit i=(decide (i<n)&&f i)
 |0,i=>by simp[zne]
 |n+1,i=>by
  have ih:=zj7 f n i;rw[zne,Nat.testBit_or,ih]
  have b:(if f n then 2 ^ n else 0).testBit i=(decide (n=i)&&f n):=by
   split
   ·rename_i h;rw[Nat.testBit_two_pow,h,Bool.and_true]
   ·rename_i h;simp[h]
  rw[b]
  by_cases e:i=n
  ·subst e;simp
  ·have a:¬n=i:=λh=>e h.symm
   by_cases h2:i<n
   ·simp[h2,Nat.lt_succ_of_lt h2,a]
   ·have:¬i<n+1:=by omega
    simp[h2,this,a]
def wdF(f:Nat->Bool)(j:Nat):Nat:=zne (λi=>f (64*j+i)) 64
theorem ziR(f:Nat->Bool)(j:Nat):wdF f j<18446744073709551616:=zpe _ 64
theorem za1(f:Nat->Bool)(j i:Nat):(wdF f j).testBit i=(decide (i<64)&&f (64*j+i)):=zj7 _ 64 i
theorem zwO(f g:Nat->Bool)(j:Nat):wdF f j|||wdF g j=wdF (λk=>f k||g k) j:=by
 refine ZF λi=>?_
 rw[Nat.testBit_or,za1,za1,za1];cases decide (i<64) <;> simp
theorem zyj(f:Nat->Bool)(k:Nat):wdF f (k / 64)|||2 ^ (k % 64)=wdF (λx=>f x||decide (x=k)) (k / 64):=by
 refine ZF λi=>?_
 rw[Nat.testBit_or,za1,za1,Nat.testBit_two_pow]
 by_cases h:i<64
 ·by_cases e:k % 64=i
  ·have:64*(k / 64)+i=k:=by omega
   simp[h,e,this]
  ·have:¬64*(k / 64)+i=k:=by omega
   simp[h,e,this]
 ·have:¬k % 64=i:=by omega
  simp[h,this]
theorem zsq(f:Nat->Bool)(k j:Nat)(h:j≠k / 64):wdF (λx=>f x||decide (x=k)) j=wdF f j:=by
 refine ZF λi=>?_
 rw[za1,za1]
 by_cases h2:i<64
 ·have:¬64*j+i=k:=by omega
  simp[h2,this]
 ·simp[h2]
theorem zfb{f g:Nat->Bool}{j:Nat}(a:j<4)(h:∀k,k<256->f k=g k):wdF f j=wdF g j:=by
 refine ZF λi=>?_
 rw[za1,za1]
 by_cases h2:i<64
 ·rw[h _ (by omega)]
 ·simp[h2]
def setF(f:Nat->Bool):Set4:=⟨wdF f 0,wdF f 1,wdF f 2,wdF f 3⟩
theorem zdw(f:Nat->Bool)(j:Nat)(a:j<4):(setF f).word j=(wdF f j:Nat):=by
 match j,a with
 |0,_=>rfl
 |1,_=>rfl
 |2,_=>rfl
 |3,_=>rfl
theorem zbW{f g:Nat->Bool}(h:∀k,k<256->f k=g k):setF f=setF g:=by
 unfold setF;rw[zfb (by decide) h,zfb (by decide) h,zfb (by decide) h,zfb (by decide) h]
theorem zuX(j:Nat):wdF (λ_=>false) j=0:=ZF λi=>by rw[za1];simp
theorem zij:setF (λ_=>false)=.zero:=by
 unfold setF Set4.zero;simp only[zuX]
 rfl
def numB(most:Int)(l:jE):Int:=match numL 10 9 l with
 |some n=>if most<n\/(l.head? = some 48/\1<l.length)then -1 else n
 |none=>-1
def loR(x:jE):Int:=numB 255 (Lib.cut x [45]).1
def hiR(x:jE):Int:=numB 255 (if (Lib.cut x [45]).2.2=true then (Lib.cut x [45]).2.1 else (Lib.cut x [45]).1)
def okR(x:jE):Bool:=decide (0<=loR x)&&decide (loR x<=hiR x)
def inR(x:jE)(k:Nat):Bool:=decide (loR x<=k)&&decide ((k:Int)<=hiR x)
def anyR(a:List jE)(k:Nat):Bool:=a.any λx=>inR x k
def okB(l:jE):Bool:=(splL 44 l).all okR
def inB(l:jE):Nat->Bool:=anyR (splL 44 l)
theorem zgQ:∀(l:jE) (n v:Int),0<=n->zbr 10 l n=some v->0<=v
 | [],n,v,h,e=>by cases e;exact h
 |b::l,n,v,h,e=>by
  rw[zbr]at e
  split at e
  ·cases e
  ·exact zgQ l _ v (by omega) e
theorem zxg(most:Int)(l:jE)(h:0<=most):numB most l<=most:=by
 unfold numB
 split
 ·split <;> omega
 ·omega
theorem zrq(most:Int)(l:jE):-1<=numB most l:=by
 unfold numB
 split
 ·rename_i n a
  have:0<=n:=by
   unfold numL at a
   split at a
   ·cases a
   ·exact zgQ l 0 n (by decide) a
  split <;> omega
 ·omega
def setA(s:Set4):Value:=.agg #[jB s.a,jB s.b,jB s.c,jB s.d]
def FourW(w:World)(g:Nat)(s:Set4):Prop:=w.heap[g]? = some (.cells #[jB s.a,jB s.b,jB s.c,jB s.d] 182 (0,0))
section
variable {w w':World} {g:Nat} {s:Set4}
theorem FourW.cells(h:FourW w g s):w.cell? g=some (jB s.a)/\w.cell? ⟨g,1,none⟩=some (jB s.b)/\w.cell? ⟨g,2,none⟩=some (jB s.c)/\w.cell? ⟨g,3,none⟩=some (jB s.d):=
 ⟨Qf w g 0 _ _ (0,0) h,Qf w g 1 _ _ (0,0) h,Qf w g 2 _ _ (0,0) h,Qf w g 3 _ _ (0,0) h⟩
theorem FourW.cell(h:FourW w g s)(j:Nat)(a:j<4):w.cell? ⟨g,j,none⟩=some (jB (s.word j)):=by
 obtain⟨b,h1,h2,c⟩:=h.cells
 match j,a with
 |0,_=>exact b
 |1,_=>exact h1
 |2,_=>exact h2
 |3,_=>exact c
theorem FourW.free(h:FourW w g s)(j:Nat):w.frozen? ⟨g,j,none⟩=false:=by unfold FourW at h;simp[World.frozen?, h]
theorem FourW.far(h:FourW w g s){k:Nat}(a:g≠k)(j:Nat)(u:Value):FourW (w.setCell ⟨k,j,none⟩ u) g s:=(Qk w ⟨k,j,none⟩ u g a).trans h
theorem FourW.lt(h:FourW w g s):g<w.heap.size:=by
 unfold FourW at h;rw[QV]at h;exact h.1
theorem FourW.drew(h:FourW w g s):FourW w.drew g s:=h
theorem FourW.below{B:Nat}(h:FourW w g s)(hb:Below B w w')(a:g<B):FourW w' g s:=(hb.block g a).trans h
def putW(s:Set4)(j:Nat)(u:Int):Set4:=if j=0 then ⟨u,s.b,s.c,s.d⟩else if j=1 then ⟨s.a,u,s.c,s.d⟩else if j=2 then ⟨s.a,s.b,u,s.d⟩else ⟨s.a,s.b,s.c,u⟩
theorem FourW.put(h:FourW w g s)(j:Nat)(a:j<4)(u:Int):FourW (w.setCell ⟨g,j,none⟩ (jB u)) g (putW s j u):=by
 unfold FourW at h ⊢
 match j,a with
 |0,_=>simp[World.setCell,Q4,h,putW]
 |1,_=>simp[World.setCell,Q4,h,putW]
 |2,_=>simp[World.setCell,Q4,h,putW]
 |3,_=>simp[World.setCell,Q4,h,putW]
theorem FourW.fill(h:FourW w g s)(t:Set4):FourW ((((w.setCell g (jB t.a)).setCell ⟨g,1,none⟩ (jB t.b)).setCell ⟨g,2,none⟩ (jB t.c)).setCell ⟨g,3,none⟩ (jB t.d)) g t:=by unfold FourW at h ⊢;simp[World.setCell,Q4,h]
theorem FourW.new(w:World):FourW (w.alloc (.cells #[jB 0,jB 0,jB 0,jB 0] 182)) w.heap.size (setF λ_=>false):=by rw[zij];exact Qt w _
end
theorem zuD(f:Nat->Bool)(k:Nat)(d:k<256):putW (setF f) (k / 64) ((wdF f (k / 64)|||2 ^ (k % 64):Nat):Int)=setF (λx=>f x||decide (x=k)):=by
 have c:k / 64<4:=by omega
 rw[zyj];have a:=zsq f k;generalize b:k / 64=j at *;unfold putW setF
 match j,c with
 |0,_=>simp[a 1 (by decide),a 2 (by decide),a 3 (by decide)]
 |1,_=>simp[a 0 (by decide),a 2 (by decide),a 3 (by decide)]
 |2,_=>simp[a 0 (by decide),a 1 (by decide),a 3 (by decide)]
 |3,_=>simp[a 0 (by decide),a 1 (by decide),a 2 (by decide)]
theorem zzC(f:Nat->Bool)(k:Nat):bits .or .u64 ((wdF f (k / 64):Nat):Int) (IntKind.u64.wrap (2 ^ (k % 64)))=((wdF f (k / 64)|||2 ^ (k % 64):Nat):Int):=by
 have h1:2 ^ (k % 64)<18446744073709551616:=by have h:=Nat.pow_lt_pow_right (a:=2) (by decide) (XJ k (show 64>0 by decide));exact h
 have:=bits_or_u64_nat (wdF f (k / 64)) (2 ^ (k % 64)) (ziR _ _) h1
 have h2:IntKind.u64.wrap (2 ^ (k % 64))=((2 ^ (k % 64):Nat):Int):=by
  rw[IntKind.wrap_u64,show (2:Int) ^ (k % 64)=((2 ^ (k % 64):Nat):Int)by rw[Int.natCast_pow];rfl];generalize 2 ^ (k % 64)=q at h1;omega
 rw[<-this,h2]
def zb0(s:Set4)(w:World)(e:Ending)(w':World):Prop:=e=jC (setA s)/\w w'
theorem zyH(k:Nat)(a:k<256):bits .and .i64 (k:Int) 63=((k % 64:Nat):Int):=by
 have h:∀k:Fin 256,bits .and .i64 ((k.val:Nat):Int) 63=((k.val % 64:Nat):Int):=by decide+kernel
 exact h ⟨k,a⟩
def zzP(a c:Nat)(w:World)(b:Value)(wr:World):Prop:=
 ∃k:Nat,a<=k/\k<=c+1/\b=jA k/\FourW wr (w.heap.size+1) (setF λx=>decide (a<=x)&&decide (x<k))/\FourW wr w.heap.size (setF λ_=>false)/\w wr
theorem zcs(h f:Nat)(h1:h<=f)(h2:f<256)(w:World):
 Calls prog 148 #[jA h,jA f] w (zb0 (setF λx=>decide (h<=x)&&decide (x<=f)) w):=by
 have F:∀W,W=(w.alloc (.cells #[jB 0,jB 0,jB 0,jB 0] 182)).alloc (.cells #[jB 0,jB 0,jB 0,jB 0] 182)->FourW W (w.heap.size+1) (setF λx=>decide (h<=x)&&decide (x<h))/\FourW W w.heap.size (setF λ_=>false)/\w W:=λW u=>by
  have hb:w W:=by rw[u];exact WaL.alloc (by simp) _
  refine⟨?_,?_,hb⟩
  ·have:=FourW.new (w.alloc (.cells #[jB 0,jB 0,jB 0,jB 0] 182))
   rw[Qp]at this;rw[u,zbW (g:=λ_=>false) (λk _=>by simp)];exact this
  ·rw[u]
   exact(Qr _ _ _ (by simp)).trans (FourW.new w)
 have H:=hIx F;clear F
 go_in
 go_wp2
 go_loopw [6] (λb wr=>zzP h f w b wr) (λb _=>256-(intOf b).toNat)
 case atStart=>exact⟨h,Qc _,by omega,rfl,H.out _ rfl⟩
 case round=>
  obtain⟨k,s,I,rfl,l,j,hb⟩:=hrel
  by_cases G:k<=f
  ·have K:decide ((k:Int)<=(f:Int))=true:=by simp;omega
   have m:Hid ((λx=>(decide (h<=x)&&decide (x<k))||decide (x=k))=λx=>decide (h<=x)&&decide (x<k+1)):=by
    unfold Hid
    funext x
    by_cases e:x=k
    ·subst e;simp[s]
    ·by_cases h2:x<k
     ·simp[h2,e,Nat.lt_succ_of_lt h2]
     ·have:¬x<k+1:=by omega
      simp[h2,e,this]
   have i:=l.cell (k / 64) (by omega);rw[zdw _ _ (by omega)]at i;have r:=l.free (k / 64);have n:=hIx (zuD (λx=>decide (h<=x)&&decide (x<k)) k (by omega));have O:=zzC (λx=>decide (h<=x)&&decide (x<k)) k;have N:=zyH k (by omega);rw[m.out]at n;generalize wdF (λx=>decide (h<=x)&&decide (x<k)) (k / 64)=q at *;have A:=hIx l;have y:=hIx j;have B:=hIx hb;clear l j hb;go_wp2_with fail
   go_region
   have o:=A.out.put (k / 64) (by omega) ((q|||2 ^ (k % 64):Nat):Int);rw[n.out]at o;have t:=y.out.far (k:=w.heap.size+1) (by omega) (k / 64) (jB ((q|||2 ^ (k % 64):Nat):Int));have E:=B.out.setCell (p:=⟨w.heap.size+1,k / 64,none⟩) (Zc _) (jB ((q|||2 ^ (k % 64):Nat):Int));clear i r;generalize wr.setCell ⟨w.heap.size+1,k / 64,none⟩ (jB ((q|||2 ^ (k % 64):Nat):Int))=w3 at *;go_wp2_with fail
   go_roundw
   case rel=>exact⟨k+1,by omega,by omega,by go_num,o.drew,t.drew,E.drew⟩
   case measure=>simp[intOf] <;> omega
  ·obtain rfl:k=f+1:=by omega
   have K:decide (((f+1:Nat):Int)<=(f:Int))=false:=by simp;omega
   have m:Hid (setF (λx=>decide (h<=x)&&decide (x<f+1))=setF λx=>decide (h<=x)&&decide (x<=f)):=zbW λx hx=>by
    rw[show decide (x<f+1)=decide (x<=f)from decide_eq_decide.2 Nat.lt_succ_iff]
   rw[m.out]at l;obtain⟨S,D⟩:∃S,S=setF λx=>decide (h<=x)&&decide (x<=f):=⟨_,rfl⟩
   rw[<-D]at l;have Q:=hIx D;clear D;have ⟨c0,c1,c2,c3⟩:=l.cells;have ⟨z0,Y,V,z3⟩:=j.cells;have y0:=j.free 0;have U:=j.free 1;have y2:=j.free 2;have X:=j.free 3;go_wp2_with fail;have C:=j.fill S;have z:=(((hb.setCell (p:=⟨w.heap.size,0,none⟩) (Qc _) (jB S.a)).setCell (p:=⟨w.heap.size,1,none⟩) (Qc _) (jB S.b)).setCell (p:=⟨w.heap.size,2,none⟩) (Qc _) (jB S.c)).setCell (p:=⟨w.heap.size,3,none⟩) (Qc _) (jB S.d);generalize ((((wr.setCell w.heap.size (jB S.a)).setCell ⟨w.heap.size,1,none⟩ (jB S.b)).setCell ⟨w.heap.size,2,none⟩ (jB S.c)).setCell ⟨w.heap.size,3,none⟩ (jB S.d))=Z at *;obtain⟨L,P,J,T⟩:=C.cells;exact Qi (v:=setA S) (by simp[results,results148,go_sem,L,P,J,T,setA]) rfl ⟨by rw[Q.out],z⟩
theorem zoR(f h:Nat->Bool)(k j:Nat):wdF (λx=>if x / 64=k then h x else f x) j=if j=k then wdF h j else wdF f j:=by
 have e:∀i,i<64->(64*j+i) / 64=j:=λi b=>by omega
 by_cases a:j=k
 ·rw[Qg a]
  refine ZF λi=>?_
  rw[za1,za1]
  by_cases b:i<64
  ·rw[e i b,Qg a]
  ·simp[b]
 ·rw[Qe a]
  refine ZF λi=>?_
  rw[za1,za1]
  by_cases b:i<64
  ·rw[e i b,Qe a]
  ·simp[b]
theorem zxG(f h:Nat->Bool)(k:Nat)(a:k<4):putW (setF f) k ((wdF h k:Nat):Int)=setF (λx=>if x / 64=k then h x else f x):=by
 unfold setF;rw[zoR,zoR,zoR,zoR];have:k=0\/k=1\/k=2\/k=3:=by omega
 rcases this with rfl|rfl|rfl|rfl <;> rfl
def upW(f h:Nat->Bool)(k:Nat)(x:Nat):Bool:=if x / 64<k then h x else f x
theorem zoA(f h:Nat->Bool)(k:Nat)(b:k<4):putW (setF (upW f h k)) k ((wdF h k:Nat):Int)=setF (upW f h (k+1)):=by
 rw[zxG _ _ _ b];refine zbW λx _=>?_
 unfold upW
 by_cases e:x / 64=k
 ·rw[Qg e,Qg (by omega)]
 ·rw[Qe e]
  by_cases a:x / 64<k
  ·rw[Qg a,Qg (by omega)]
  ·rw[Qe a,Qe (by omega)]
theorem zoD(f h:Nat->Bool)(k:Nat):wdF (upW f h k) k=wdF f k:=by
 refine ZF λi=>?_
 rw[za1,za1]
 by_cases a:i<64
 ·unfold upW;rw[Qe (by omega)]
 ·simp[a]
theorem zo2(f h:Nat->Bool):setF (upW f h 0)=setF f:=zbW λx _=>by unfold upW;rw[Qe (by omega)]
theorem zt3(f h:Nat->Bool):setF (upW f h 4)=setF h:=zbW λx a=>by unfold upW;rw[Qg (by omega)]
theorem zuF(f h:Nat->Bool)(j:Nat):bits .or .u64 ((wdF f j:Nat):Int) ((wdF h j:Nat):Int)=((wdF (λx=>f x||h x) j:Nat):Int):=by
 rw[bits_or_u64_nat (wdF f j) (wdF h j) (ziR _ _) (ziR _ _),zwO]
def zyO(f h:Nat->Bool)(w:World)(i:Value)(wr:World):Prop:=
 ∃k:Nat,k<=4/\i=jA k/\FourW wr w.heap.size (setF (upW f (λx=>f x||h x) k))/\FourW wr (w.heap.size+1) (setF h)/\FourW wr (w.heap.size+2) (setF λ_=>false)/\w wr
theorem zej(f h:Nat->Bool)(w:World):
 Calls prog 306 #[setA (setF f),setA (setF h)] w (zb0 (setF λx=>f x||h x) w):=by
 have D:∀W,W=((w.alloc (.cells #[jB (setF f).a,jB (setF f).b,jB (setF f).c,jB (setF f).d] 182)).alloc (.cells #[jB (setF h).a,jB (setF h).b,jB (setF h).c,jB (setF h).d] 182)).alloc (.cells #[jB 0,jB 0,jB 0,jB 0] 182)->zyO f h w (jA 0) W:=λW t=>by
  refine⟨0,by omega,rfl,?_,?_,?_,?_⟩
  ·rw[zo2,t]
   exact(Qr _ _ _ (by simp;omega)).trans ((Qr _ _ _ (by simp)).trans (Qt w _))
  ·rw[t]
   have:=Qt (w.alloc (.cells #[jB (setF f).a,jB (setF f).b,jB (setF f).c,jB (setF f).d] 182)) (.cells #[jB (setF h).a,jB (setF h).b,jB (setF h).c,jB (setF h).d] 182);rw[Qp]at this;exact(Qr _ _ _ (by simp)).trans this
  ·have:=FourW.new ((w.alloc (.cells #[jB (setF f).a,jB (setF f).b,jB (setF f).c,jB (setF f).d] 182)).alloc (.cells #[jB (setF h).a,jB (setF h).b,jB (setF h).c,jB (setF h).d] 182))
   rw[Qp,Qp]at this;rw[t];exact this
  ·rw[t]
   exact(WaL.alloc (by simp) _).alloc (by simp;omega) _
 have A:=hIx D;clear D;have C:Hid (setF (upW f (λx=>f x||h x) 4)=setF λx=>f x||h x):=zt3 _ _;unfold setA
 go_in
 go_wp2
 go_loopw [5,6] (λ_ i wr=>zyO f h w i wr) (λ_ i _=>4-(intOf i).toNat)
 case atStart=>exact A.out _ rfl
 case round=>
  obtain⟨k,U,rfl,l,u,g,hb⟩:=hrel
  by_cases e:k<4
  ·have I:decide ((k:Int)<4)=true:=by simp;omega
   have Y:IntKind.i64.wrap ((k:Int)+1)=(k:Int)+1:=Qx _ (by omega);have m:=l.cell k e;have r:=u.cell k e;rw[zdw _ _ e]at m r;rw[zoD]at m;have B:=l.free k;have K:=zuF f h k;have n:=hIx (zoA f (λx=>f x||h x) k e);have j:=l.put k e ((wdF (λx=>f x||h x) k:Nat):Int);rw[n.out]at j;have o:=u.far (k:=w.heap.size) (by omega) k (.int .u64 ((wdF (λx=>f x||h x) k:Nat):Int));have q:=g.far (k:=w.heap.size) (by omega) k (.int .u64 ((wdF (λx=>f x||h x) k:Nat):Int));have s:=hb.setCell (p:=⟨w.heap.size,k,none⟩) (Qc _) (.int .u64 ((wdF (λx=>f x||h x) k:Nat):Int));generalize wdF (λx=>f x||h x) k=G at *;generalize wdF f k=Q at *;generalize wdF h k=w2 at *;have y:=hIx (And.intro j (And.intro o (And.intro q s)));clear l u g hb j o q s n C A;go_wp2_with fail
   go_region
   generalize z:wr.setCell ⟨w.heap.size,k,none⟩ (jB (G:Int))=w3 at *;clear z m r B;go_wp2;exact⟨⟨k+1,by omega,rfl,y.out.1.drew,y.out.2.1.drew,y.out.2.2.1.drew,y.out.2.2.2.drew⟩,by dsimp only[intOf];omega⟩
  ·obtain rfl:k=4:=by omega
   have I:decide (((4:Nat):Int)<4)=false:=by decide
   rw[C.out]at l;generalize E:setF (λx=>f x||h x)=S at *;have N:=hIx E;clear E;have ⟨c0,c1,c2,c3⟩:=l.cells;have ⟨z0,Z,X,z3⟩:=g.cells;have y0:=g.free 0;have T:=g.free 1;have y2:=g.free 2;have V:=g.free 3;have P:=hIx (g.fill S);have F:=hIx ((((hb.setCell (p:=⟨w.heap.size+2,0,none⟩) (by show w.heap.size<=w.heap.size+2;omega) (jB S.a)).setCell (p:=⟨w.heap.size+2,1,none⟩) (by show w.heap.size<=w.heap.size+2;omega) (jB S.b)).setCell (p:=⟨w.heap.size+2,2,none⟩) (by show w.heap.size<=w.heap.size+2;omega) (jB S.c)).setCell (p:=⟨w.heap.size+2,3,none⟩) (by show w.heap.size<=w.heap.size+2;omega) (jB S.d));clear l u g hb C A;go_wp2_with fail;have ⟨J,L,H,O⟩:=P.out.cells;exact Qi (v:=setA S) (by simp[results,results306,go_sem,J,L,H,O,setA]) rfl ⟨by rw[N.out],F.out⟩
theorem zv3(f:Nat->Bool)(j:Nat):bits .xor .u64 (if IntKind.u64.signed=true then -1 else IntKind.u64.max) ((wdF f j:Nat):Int)=((wdF (λx=>!f x) j:Nat):Int):=by
 have e:(if IntKind.u64.signed=true then -1 else IntKind.u64.max)=((18446744073709551615:Nat):Int):=rfl;rw[e,bits_xor_u64_nat _ _ (by decide) (ziR _ _)]
 congr 1
 refine ZF λi=>?_
 rw[Nat.testBit_xor,show (18446744073709551615:Nat)=2 ^ 64-1 from rfl,Nat.testBit_two_pow_sub_one,za1,za1]
 by_cases a:i<64
 ·simp[a]
 ·simp[a]
def zzJ(f:Nat->Bool)(w:World)(i:Value)(wr:World):Prop:=
 ∃k:Nat,k<=4/\i=jA k/\FourW wr w.heap.size (setF (upW f (λx=>!f x) k))/\FourW wr (w.heap.size+1) (setF λ_=>false)/\w wr
theorem zoN(f:Nat->Bool)(w:World):
 Calls prog 286 #[setA (setF f)] w (zb0 (setF λx=>!f x) w):=by
 have u:∀W,W=(w.alloc (.cells #[jB (setF f).a,jB (setF f).b,jB (setF f).c,jB (setF f).d] 182)).alloc (.cells #[jB 0,jB 0,jB 0,jB 0] 182)->zzJ f w (jA 0) W:=λW q=>by
  refine⟨0,by omega,rfl,?_,?_,?_⟩
  ·rw[zo2,q]
   exact(Qr _ _ _ (by simp)).trans (Qt w _)
  ·have:=FourW.new (w.alloc (.cells #[jB (setF f).a,jB (setF f).b,jB (setF f).c,jB (setF f).d] 182))
   rw[Qp]at this;rw[q];exact this
  ·rw[q]
   exact WaL.alloc (by simp) _
 have o:=hIx u;clear u;have r:Hid (setF (upW f (λx=>!f x) 4)=setF λx=>!f x):=zt3 _ _;unfold setA
 go_in
 go_wp2
 go_loopw [3,4] (λ_ i wr=>zzJ f w i wr) (λ_ i _=>4-(intOf i).toNat)
 case atStart=>exact o.out _ rfl
 case round=>
  obtain⟨k,L,rfl,j,g,hb⟩:=hrel
  by_cases e:k<4
  ·have C:decide ((k:Int)<4)=true:=by simp;omega
   have Q:IntKind.i64.wrap ((k:Int)+1)=(k:Int)+1:=Qx _ (by omega);have s:=j.cell k e;rw[zdw _ _ e,zoD]at s;have z:=j.free k;have E:=zv3 f k;have n:=hIx (zoA f (λx=>!f x) k e);have h:=j.put k e ((wdF (λx=>!f x) k:Nat):Int);rw[n.out]at h;have l:=g.far (k:=w.heap.size) (by omega) k (jB ((wdF (λx=>!f x) k:Nat):Int));have m:=hb.setCell (p:=⟨w.heap.size,k,none⟩) (Qc _) (jB ((wdF (λx=>!f x) k:Nat):Int));generalize wdF (λx=>!f x) k=P at *;generalize wdF f k=J at *;have t:=hIx (And.intro h (And.intro l m));clear j g hb h l m n r o;go_wp2;exact⟨⟨k+1,by omega,rfl,t.out.1,t.out.2.1,t.out.2.2⟩,by dsimp only[intOf];omega⟩
  ·obtain rfl:k=4:=by omega
   have C:decide (((4:Nat):Int)<4)=false:=by decide
   rw[r.out]at j;generalize y:setF (λx=>!f x)=S at *;have G:=hIx y;clear y;have ⟨c0,c1,c2,c3⟩:=j.cells;have ⟨V,T,O,U⟩:=g.cells;have X:=g.free 0;have K:=g.free 1;have Y:=g.free 2;have N:=g.free 3;have I:=hIx (g.fill S);have A:=hIx ((((hb.setCell (p:=⟨w.heap.size+1,0,none⟩) (by show w.heap.size<=w.heap.size+1;omega) (jB S.a)).setCell (p:=⟨w.heap.size+1,1,none⟩) (by show w.heap.size<=w.heap.size+1;omega) (jB S.b)).setCell (p:=⟨w.heap.size+1,2,none⟩) (by show w.heap.size<=w.heap.size+1;omega) (jB S.c)).setCell (p:=⟨w.heap.size+1,3,none⟩) (by show w.heap.size<=w.heap.size+1;omega) (jB S.d));clear j g hb r o;go_wp2_with fail;have ⟨D,F,B,H⟩:=I.out.cells;exact Qi (v:=setA S) (by simp[results,results286,go_sem,D,F,B,H,setA]) rfl ⟨by rw[G.out],A.out⟩
