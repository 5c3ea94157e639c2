/- Lemmas for the last texts. -/
import Derived.Test.YtnnokglddolglaaGreatDoorM22
set_option maxHeartbeats 3200000
set_option maxRecDepth 100000
namespace Go.Proofs.YtnnokglddolglaaGreatDoor
open Go.RowKit Go.Proofs.Tryz
def EntPost(r:UInt8 × Nat)(w:World)(e:Ending)(w':World):Prop:=e=.returned (.tuple #[.int .u8 (r.1.toNat:Int),.int .i64 (r.2:Int)])/\Below w.heap.size w w'
theorem EntPost.mk{r:UInt8 × Nat}{w w':World}{e:Ending}(a b:Int)(c:e=.returned (.tuple #[.int .u8 a,.int .i64 b]))(d:a=(r.1.toNat:Int))(hb:b=(r.2:Int))(h:Below w.heap.size w w'):EntPost r w e w':=by
 subst d;subst hb;exact⟨c,h⟩
theorem zvI(s:ByteArray):(s.extract 0 (min (s.size:Int) 7).toNat).data.toList=s.data.toList.take 7:=by
 rw[ZG,List.drop_zero,Nat.sub_zero]
 rcases ZN s.size 7 with h|h
 ·rw[show (min (s.size:Int) 7).toNat=s.size by omega,QC (by simp),QC (by simp;omega)]
 ·rw[show (min (s.size:Int) 7).toNat=7 by omega]
theorem znP(s:ByteArray)(e:Nat):(s.extract 2 e).data.toList=(s.data.toList.take e).drop 2:=by
 rw[ZG,List.drop_take]
theorem zkC(s:ByteArray)(w:World)(P:s.size<=maxLen):
 Calls prog 238 #[.string s] w (EntPost (entL s.data.toList) w):=by
 have T:=P;unfold maxLen at P
 by_cases c0:Lib.hasPrefix s.data.toList [38,108,116,59]=true
 ·have b:Hid (entL s.data.toList=(60,4)):=by unfold Hid entL;rw[Qi c0]
  go_in
  go_wp2_with fail;refine Zs 5 ?_;rw[rounds_succ];go_wp2_with (first|rw[rounds_succ]|(go_at_call 209;refine(strings_HasPrefix _ _ _).mono ?_;rintro e w' ⟨rfl,rfl⟩))
  go_ret2
  rw[b.out];exact⟨rfl,WaL⟩
 rw[XS]at c0
 by_cases c1:Lib.hasPrefix s.data.toList [38,103,116,59]=true
 ·have b:Hid (entL s.data.toList=(62,4)):=by unfold Hid entL;rw[Qe (by rw[c0];decide),Qi c1]
  go_in
  go_wp2_with fail;refine Zs 5 ?_;rw[rounds_succ];go_wp2_with (first|rw[rounds_succ]|(go_at_call 209;refine(strings_HasPrefix _ _ _).mono ?_;rintro e w' ⟨rfl,rfl⟩))
  go_ret2
  rw[b.out];exact⟨rfl,WaL⟩
 rw[XS]at c1
 by_cases c2:Lib.hasPrefix s.data.toList [38,97,109,112,59]=true
 ·have b:Hid (entL s.data.toList=(38,5)):=by unfold Hid entL;rw[Qe (by rw[c0];decide),Qe (by rw[c1];decide),Qi c2]
  go_in
  go_wp2_with fail;refine Zs 5 ?_;rw[rounds_succ];go_wp2_with (first|rw[rounds_succ]|(go_at_call 209;refine(strings_HasPrefix _ _ _).mono ?_;rintro e w' ⟨rfl,rfl⟩))
  go_ret2
  rw[b.out];exact⟨rfl,WaL⟩
 rw[XS]at c2
 by_cases c3:Lib.hasPrefix s.data.toList [38,113,117,111,116,59]=true
 ·have b:Hid (entL s.data.toList=(34,6)):=by unfold Hid entL;rw[Qe (by rw[c0];decide),Qe (by rw[c1];decide),Qe (by rw[c2];decide),Qi c3]
  go_in
  go_wp2_with fail;refine Zs 5 ?_;rw[rounds_succ];go_wp2_with (first|rw[rounds_succ]|(go_at_call 209;refine(strings_HasPrefix _ _ _).mono ?_;rintro e w' ⟨rfl,rfl⟩))
  go_ret2
  rw[b.out];exact⟨rfl,WaL⟩
 rw[XS]at c3
 have q:Hid (entL s.data.toList=if Lib.indexByte (s.data.toList.take 7) 59<0\/Lib.hasPrefix s.data.toList [38,35]=false then (0,0)else zgO s.data.toList (Lib.indexByte (s.data.toList.take 7) 59).toNat):=by
  unfold Hid entL;rw[Qe (by rw[c0];decide),Qe (by rw[c1];decide),Qe (by rw[c2];decide),Qe (by rw[c3];decide)]
 have c:=hIx (zvI s);obtain⟨x,K⟩:∃x,Lib.indexByte (s.data.toList.take 7) 59=x:=⟨_,rfl⟩
 have f:=hIx K;have i:=@zyi s.data.toList;have j:=@zgb s.data.toList 59 7;rw[K]at i j;rw[K]at q;clear K
 by_cases L:x<0
 ·have b:Hid (entL s.data.toList=(0,0)):=q.out.trans (Qi (Or.inl L))
  clear i j
  go_in
  go_wp2_with fail;refine Zs 5 ?_;rw[rounds_succ];go_wp2_with (first|rw[rounds_succ]|(go_at_call 209;refine(strings_HasPrefix _ _ _).mono ?_;rintro e w' ⟨rfl,rfl⟩));refine(strings_IndexByte _ _ _).mono ?_;rintro e a ⟨rfl,rfl⟩;rw[show (59:Int).toNat.toUInt8=(59:UInt8)from rfl,c.out,f.out];go_wp2
  go_ret2
  rw[b.out];exact⟨rfl,WaL⟩
 have O:0<=x:=by omega
 by_cases c4:Lib.hasPrefix s.data.toList [38,35]=true
 case neg=>
  rw[XS]at c4;have b:Hid (entL s.data.toList=(0,0)):=q.out.trans (Qi (Or.inr c4));have u:=hIx c4;clear i j c4
  go_in
  go_wp2_with fail;refine Zs 5 ?_;rw[rounds_succ];go_wp2_with (first|rw[rounds_succ]|(go_at_call 209;refine(strings_HasPrefix _ _ _).mono ?_;rintro e w' ⟨rfl,rfl⟩));refine(strings_IndexByte _ _ _).mono ?_;rintro e a ⟨rfl,rfl⟩;rw[show (59:Int).toNat.toUInt8=(59:UInt8)from rfl,c.out,f.out];go_wp2_with fail;refine(strings_HasPrefix _ _ _).mono ?_;rintro e a ⟨rfl,rfl⟩;rw[show (ByteArray.mk #[38,35]).data.toList=[38,35]from rfl,u.out];go_wp2
  go_ret2
  rw[b.out];exact⟨rfl,WaL⟩
 case pos=>
  have C:Hid (entL s.data.toList=zgO s.data.toList x.toNat):=q.out.trans (Qe (λh=>h.elim L (λh=>by rw[c4]at h;cases h)));have U:=i O c4;obtain⟨V,Q,_⟩:=j O;rw[show s.data.toList.length=s.size by simp]at Q;have u:=hIx c4;clear i j c4 L;obtain⟨k,rfl⟩:=Zv O;rw[Q9]at *;have v:=hIx (znP s k);obtain⟨d,H⟩:∃d,(s.data.toList.take k).drop 2=d:=⟨_,rfl⟩
  have l:d.length=k-2:=by rw[<-H,QF,Qz];simp;omega
  have I:Hid (zgO s.data.toList k=if Lib.hasPrefix d [120]=true then (if d.length<=3 then zkx (numL 16 7 (d.drop 1)) k else (0,0))else if d.length<=3 then zkx (numL 10 9 d) k else (0,0)):=by
   unfold Hid zgO;rw[H]
  have S:=hIx H;rw[H]at v;clear H
  by_cases c5:Lib.hasPrefix d [120]=true
  ·obtain⟨B,p⟩:∃B,d.drop 1=B:=⟨_,rfl⟩
   have A:Hid (Lib.trimPrefix d [120]=B):=by unfold Hid Lib.trimPrefix;rw[Qi c5];exact p
   have N:=zb7 c5;have y:=hIx c5;have r:=hIx ((I.out).trans (Qi c5));rw[p]at r;simp only[Qo,QR]at N;have t:B.length=d.length-1:=by rw[<-p];exact QF
   clear c5 p
   by_cases J:d.length<=3
   ·have m:=hIx (r.out.trans (Qi J))
    have o:(bs B).size<=maxLen:=by rw[zaj,t];unfold maxLen;omega
    have E:(B.length:Int)<=2:=by omega
    cases g:numL 16 7 B with
    |none=>
     have z:=hIx g;have b:Hid (entL s.data.toList=(0,0)):=by unfold Hid;rw[C.out,m.out,g];rfl
     clear g l t
     go_in
     go_wp2_with fail;refine Zs 5 ?_;rw[rounds_succ];go_wp2_with (first|rw[rounds_succ]|(go_at_call 209;refine(strings_HasPrefix _ _ _).mono ?_;rintro e w' ⟨rfl,rfl⟩));refine(strings_IndexByte _ _ _).mono ?_;rintro e a ⟨rfl,rfl⟩;rw[show (59:Int).toNat.toUInt8=(59:UInt8)from rfl,c.out,f.out];go_wp2_with fail;refine(strings_HasPrefix _ _ _).mono ?_;rintro e a ⟨rfl,rfl⟩;rw[show (ByteArray.mk #[38,35]).data.toList=[38,35]from rfl,u.out];go_wp2_with fail;refine(strings_CutPrefix _ _ _).mono ?_;rintro e a ⟨rfl,rfl⟩;rw[show (ByteArray.mk #[120]).data.toList=[120]from rfl,v.out,A.out,y.out];go_wp2_with fail;refine(zlJ _ _ o).mono ?_;rintro e a ⟨rfl,rfl⟩;rw[zae,z.out];simp only[zbx];go_wp2
     go_ret2
     rw[b.out];exact⟨rfl,WaL⟩
    |some n=>
     have z:=hIx g;have G:=ziy 16 7 (by decide) _ _ g
     by_cases F:255<n
     ·have b:Hid (entL s.data.toList=(0,0)):=by unfold Hid;rw[C.out,m.out,g];exact Qi F
      clear g l t
      go_in
      go_wp2_with fail;refine Zs 5 ?_;rw[rounds_succ];go_wp2_with (first|rw[rounds_succ]|(go_at_call 209;refine(strings_HasPrefix _ _ _).mono ?_;rintro e w' ⟨rfl,rfl⟩));refine(strings_IndexByte _ _ _).mono ?_;rintro e a ⟨rfl,rfl⟩;rw[show (59:Int).toNat.toUInt8=(59:UInt8)from rfl,c.out,f.out];go_wp2_with fail;refine(strings_HasPrefix _ _ _).mono ?_;rintro e a ⟨rfl,rfl⟩;rw[show (ByteArray.mk #[38,35]).data.toList=[38,35]from rfl,u.out];go_wp2_with fail;refine(strings_CutPrefix _ _ _).mono ?_;rintro e a ⟨rfl,rfl⟩;rw[show (ByteArray.mk #[120]).data.toList=[120]from rfl,v.out,A.out,y.out];go_wp2_with fail;refine(zlJ _ _ o).mono ?_;rintro e a ⟨rfl,rfl⟩;rw[zae,z.out];simp only[zbx];go_wp2
      go_ret2
      rw[b.out];exact⟨rfl,WaL⟩
     ·have b:Hid (entL s.data.toList=(UInt8.ofNat n.toNat,k+1)):=by unfold Hid;rw[C.out,m.out,g];exact Qe F
      have D:n<=255:=by omega
      clear g l t F
      go_in
      go_wp2_with fail;refine Zs 5 ?_;rw[rounds_succ];go_wp2_with (first|rw[rounds_succ]|(go_at_call 209;refine(strings_HasPrefix _ _ _).mono ?_;rintro e w' ⟨rfl,rfl⟩));refine(strings_IndexByte _ _ _).mono ?_;rintro e a ⟨rfl,rfl⟩;rw[show (59:Int).toNat.toUInt8=(59:UInt8)from rfl,c.out,f.out];go_wp2_with fail;refine(strings_HasPrefix _ _ _).mono ?_;rintro e a ⟨rfl,rfl⟩;rw[show (ByteArray.mk #[38,35]).data.toList=[38,35]from rfl,u.out];go_wp2_with fail;refine(strings_CutPrefix _ _ _).mono ?_;rintro e a ⟨rfl,rfl⟩;rw[show (ByteArray.mk #[120]).data.toList=[120]from rfl,v.out,A.out,y.out];go_wp2_with fail;refine(zlJ _ _ o).mono ?_;rintro e a ⟨rfl,rfl⟩;rw[zae,z.out];simp only[zbx];go_wp2
      go_ret2
      rw[b.out];exact EntPost.mk _ _ rfl (zlA n G D).symm (by show (k:Int)+1=_;simp) WaL
   ·have b:Hid (entL s.data.toList=(0,0)):=by unfold Hid;rw[C.out,r.out,Qe J]
    have E:2<(B.length:Int):=by omega
    clear l t
    go_in
    go_wp2_with fail;refine Zs 5 ?_;rw[rounds_succ];go_wp2_with (first|rw[rounds_succ]|(go_at_call 209;refine(strings_HasPrefix _ _ _).mono ?_;rintro e w' ⟨rfl,rfl⟩));refine(strings_IndexByte _ _ _).mono ?_;rintro e a ⟨rfl,rfl⟩;rw[show (59:Int).toNat.toUInt8=(59:UInt8)from rfl,c.out,f.out];go_wp2_with fail;refine(strings_HasPrefix _ _ _).mono ?_;rintro e a ⟨rfl,rfl⟩;rw[show (ByteArray.mk #[38,35]).data.toList=[38,35]from rfl,u.out];go_wp2_with fail;refine(strings_CutPrefix _ _ _).mono ?_;rintro e a ⟨rfl,rfl⟩;rw[show (ByteArray.mk #[120]).data.toList=[120]from rfl,v.out,A.out,y.out];go_wp2
    go_ret2
    rw[b.out];exact⟨rfl,WaL⟩
  ·have A:Hid (Lib.trimPrefix d [120]=d):=by unfold Hid Lib.trimPrefix;rw[Qe c5]
   have r:=hIx ((I.out).trans (Qe c5));rw[XS]at c5;have y:=hIx c5;clear c5
   by_cases J:d.length<=3
   ·have m:=hIx (r.out.trans (Qi J))
    have o:(bs d).size<=maxLen:=by rw[zaj];unfold maxLen;omega
    have E:(d.length:Int)<=3:=by omega
    cases g:numL 10 9 d with
    |none=>
     have z:=hIx g;have b:Hid (entL s.data.toList=(0,0)):=by unfold Hid;rw[C.out,m.out,g];rfl
     clear g l
     go_in
     go_wp2_with fail;refine Zs 5 ?_;rw[rounds_succ];go_wp2_with (first|rw[rounds_succ]|(go_at_call 209;refine(strings_HasPrefix _ _ _).mono ?_;rintro e w' ⟨rfl,rfl⟩));refine(strings_IndexByte _ _ _).mono ?_;rintro e a ⟨rfl,rfl⟩;rw[show (59:Int).toNat.toUInt8=(59:UInt8)from rfl,c.out,f.out];go_wp2_with fail;refine(strings_HasPrefix _ _ _).mono ?_;rintro e a ⟨rfl,rfl⟩;rw[show (ByteArray.mk #[38,35]).data.toList=[38,35]from rfl,u.out];go_wp2_with fail;refine(strings_CutPrefix _ _ _).mono ?_;rintro e a ⟨rfl,rfl⟩;rw[show (ByteArray.mk #[120]).data.toList=[120]from rfl,v.out,A.out,y.out];go_wp2_with fail;refine(zei _ _ o).mono ?_;rintro e a ⟨rfl,rfl⟩;rw[zae,z.out];simp only[zbx];go_wp2
     go_ret2
     rw[b.out];exact⟨rfl,WaL⟩
    |some n=>
     have z:=hIx g;have G:=ziy 10 9 (by decide) _ _ g
     by_cases F:255<n
     ·have b:Hid (entL s.data.toList=(0,0)):=by unfold Hid;rw[C.out,m.out,g];exact Qi F
      clear g l
      go_in
      go_wp2_with fail;refine Zs 5 ?_;rw[rounds_succ];go_wp2_with (first|rw[rounds_succ]|(go_at_call 209;refine(strings_HasPrefix _ _ _).mono ?_;rintro e w' ⟨rfl,rfl⟩));refine(strings_IndexByte _ _ _).mono ?_;rintro e a ⟨rfl,rfl⟩;rw[show (59:Int).toNat.toUInt8=(59:UInt8)from rfl,c.out,f.out];go_wp2_with fail;refine(strings_HasPrefix _ _ _).mono ?_;rintro e a ⟨rfl,rfl⟩;rw[show (ByteArray.mk #[38,35]).data.toList=[38,35]from rfl,u.out];go_wp2_with fail;refine(strings_CutPrefix _ _ _).mono ?_;rintro e a ⟨rfl,rfl⟩;rw[show (ByteArray.mk #[120]).data.toList=[120]from rfl,v.out,A.out,y.out];go_wp2_with fail;refine(zei _ _ o).mono ?_;rintro e a ⟨rfl,rfl⟩;rw[zae,z.out];simp only[zbx];go_wp2
      go_ret2
      rw[b.out];exact⟨rfl,WaL⟩
     ·have b:Hid (entL s.data.toList=(UInt8.ofNat n.toNat,k+1)):=by unfold Hid;rw[C.out,m.out,g];exact Qe F
      have D:n<=255:=by omega
      clear g l F
      go_in
      go_wp2_with fail;refine Zs 5 ?_;rw[rounds_succ];go_wp2_with (first|rw[rounds_succ]|(go_at_call 209;refine(strings_HasPrefix _ _ _).mono ?_;rintro e w' ⟨rfl,rfl⟩));refine(strings_IndexByte _ _ _).mono ?_;rintro e a ⟨rfl,rfl⟩;rw[show (59:Int).toNat.toUInt8=(59:UInt8)from rfl,c.out,f.out];go_wp2_with fail;refine(strings_HasPrefix _ _ _).mono ?_;rintro e a ⟨rfl,rfl⟩;rw[show (ByteArray.mk #[38,35]).data.toList=[38,35]from rfl,u.out];go_wp2_with fail;refine(strings_CutPrefix _ _ _).mono ?_;rintro e a ⟨rfl,rfl⟩;rw[show (ByteArray.mk #[120]).data.toList=[120]from rfl,v.out,A.out,y.out];go_wp2_with fail;refine(zei _ _ o).mono ?_;rintro e a ⟨rfl,rfl⟩;rw[zae,z.out];simp only[zbx];go_wp2
      go_ret2
      rw[b.out];exact EntPost.mk _ _ rfl (zlA n G D).symm (by show (k:Int)+1=_;simp) WaL
   ·have b:Hid (entL s.data.toList=(0,0)):=by unfold Hid;rw[C.out,r.out,Qe J]
    have E:3<(d.length:Int):=by omega
    clear l
    go_in
    go_wp2_with fail;refine Zs 5 ?_;rw[rounds_succ];go_wp2_with (first|rw[rounds_succ]|(go_at_call 209;refine(strings_HasPrefix _ _ _).mono ?_;rintro e w' ⟨rfl,rfl⟩));refine(strings_IndexByte _ _ _).mono ?_;rintro e a ⟨rfl,rfl⟩;rw[show (59:Int).toNat.toUInt8=(59:UInt8)from rfl,c.out,f.out];go_wp2_with fail;refine(strings_HasPrefix _ _ _).mono ?_;rintro e a ⟨rfl,rfl⟩;rw[show (ByteArray.mk #[38,35]).data.toList=[38,35]from rfl,u.out];go_wp2_with fail;refine(strings_CutPrefix _ _ _).mono ?_;rintro e a ⟨rfl,rfl⟩;rw[show (ByteArray.mk #[120]).data.toList=[120]from rfl,v.out,A.out,y.out];go_wp2
    go_ret2
    rw[b.out];exact⟨rfl,WaL⟩
def zx9(s:ByteArray)(w:World)(v i:Value)(wr:World):Prop:=
 ∃(k:Nat) (a:List UInt8),k<=s.size/\i=.int .i64 k/\a.length<=k/\OwnB wr w.heap.size v a/\zck s.data.toList=a++zck (s.data.toList.drop k)/\Below w.heap.size w wr
theorem OwnB.below{w w':World}{base:Nat}{v:Value}{l:List UInt8}(h:OwnB w base v l)(hb:Below w.heap.size w w'):OwnB w' base v l:=
 h.kept (row:=none) ⟨hb.os,hb.tape,hb.output,hb.size,λk a _=>hb.block k a⟩ (by cases b:v.ownBlock <;> simp)
theorem zjE(s:ByteArray)(w:World)(S:s.size<=140737488351232):
 Calls prog 194 #[.string s] w (zbN (bs (zck s.data.toList)) w):=by
 have E:Hid (s.data.toList.length=s.size):=by unfold Hid;simp
 go_in
 go_wp2
 go_loopw [3,4] (λv i wr=>zx9 s w v i wr) (λ_ i _=>s.size-(intOf i).toNat)
 case atStart=>exact⟨0,[],Qm _,rfl,Qd _,OwnB.nil _ _,rfl,Qg _ _⟩
 case round=>
  obtain⟨k,f,Q,rfl,G,d,H,g⟩:=hrel;have b:=g.size;have u:=hIx H;clear H
  by_cases A:k<s.size
  ·have z:=hIx (zaG s k A)
   have B:=hIx (zem zcm s[k] (s.data.toList.drop (k+1)));have K:=s[k].toNat_lt
   by_cases a:s[k]=38
   ·have N:((s[k].toNat:Int)==38)=true:=by rw[a];decide
    have y:(s.extract k s.size).data.toList=s.data.toList.drop k:=Lib.extract_to_end s k;have m:(s.extract k s.size).size=s.size-k:=by rw[Lib.size_eq,y];simp
    obtain⟨x,n,q⟩:∃x n,entL (s.data.toList.drop k)=(x,n):=⟨_,_,rfl⟩
    have t:=zyO (s.data.toList.drop k);rw[q,QF,E.out]at t;have j:entL (38::s.data.toList.drop (k+1))=(x,n):=by rw[<-q,z.out,a]
    have J:=hIx y;have p:=hIx m;have I:=hIx q;simp only[]at t
    by_cases F:0<n
    ·have r:Hid (zcm s[k] (s.data.toList.drop (k+1))=([x],n-1)):=by unfold Hid zcm;rw[j,Qi ⟨a,F⟩]
     have O:(0:Int)<n:=by omega
     clear y m q j a;go_wp2_with (first|(go_at_call 238;refine(zkC _ _ (by rw[p.out];unfold maxLen;omega)).mono ?_;rintro e D ⟨rfl,a⟩;rw[J.out,I.out])|(at_builtin;refine zaf rfl _ _ rfl w.heap.size _ f rfl (by exact d.below a) (by exact Qn b a.size) _ [x] rfl 1 1 rfl rfl (by omega) ?_;intro v' w2 c o l));exact⟨⟨k+n,f++[x],by omega,by go_num,by simp;omega,c,by rw[u.out,z.out];unfold zck;rw[B.out,r.out,Zy,show k+1+(n-1)=k+n by omega];simp,(g.trans (a.mono b)).trans o⟩,by simp[intOf];omega⟩
    ·have r:Hid (zcm s[k] (s.data.toList.drop (k+1))=([s[k]],0)):=by unfold Hid zcm;rw[j,Qe (λh=>F h.2)]
     have C:n=0:=by omega
     subst C;clear y m q j a;go_wp2_with (first|(go_at_call 238;refine(zkC _ _ (by rw[p.out];unfold maxLen;omega)).mono ?_;rintro e D ⟨rfl,a⟩;rw[J.out,I.out])|(at_builtin;refine zaf rfl _ _ rfl w.heap.size _ f rfl (by exact d.below a) (by exact Qn b a.size) _ [s[k]] rfl 1 1 rfl rfl (by omega) ?_;intro v' w2 c o l));exact⟨⟨k+1,f++[s[k]],by omega,by go_num,by simp;omega,c,by rw[u.out,z.out];unfold zck;rw[B.out,r.out];simp,(g.trans (a.mono b)).trans o⟩,by simp[intOf];omega⟩
   ·have N:((s[k].toNat:Int)==38)=false:=Qb.2 (λh=>a (Zu.1 (by show s[k].toNat=38;omega)))
    have r:Hid (zcm s[k] (s.data.toList.drop (k+1))=([s[k]],0)):=by unfold Hid zcm;rw[Qe (λh=>a h.1)]
    clear a;go_wp2_with (at_builtin;refine zaf rfl _ _ rfl w.heap.size _ f rfl (by exact d) (by exact b) _ [s[k]] rfl 1 1 rfl rfl (by omega) ?_;intro v' D c a l);exact⟨⟨k+1,f++[s[k]],by omega,by go_num,by simp;omega,c,by rw[u.out,z.out];unfold zck;rw[B.out,r.out];simp,g.trans a⟩,by simp[intOf];omega⟩
  ·have P:=d.string
   have L:Hid (zck s.data.toList=f):=by unfold Hid;rw[u.out,QP (by rw[E.out];omega)];unfold zck;rw[zpr,QI]
   clear d;go_wp2;go_ret;exact⟨by rw[L.out];rfl,g⟩
def zzp(s:ByteArray)(w:World)(v i:Value)(wr:World):Prop:=
 ∃(k:Nat) (a:List UInt8),k<=s.size/\i=.int .i64 k/\a.length<=k/\OwnB wr w.heap.size v a/\zbQ s.data.toList=(zbQ (s.data.toList.drop k)).map (a++·)/\Below w.heap.size w wr
theorem zlB(s:ByteArray)(w:World)(N:s.size<=140737488351232):
 Calls prog 192 #[.string s] w (ze5 (zkq 4 (zbQ s.data.toList)) w):=by
 have m:Hid (s.data.toList.length=s.size):=by unfold Hid;simp
 go_in
 go_wp2
 go_loopw [4,5] (λv i wr=>zzp s w v i wr) (λ_ i _=>s.size-(intOf i).toNat)
 case atStart=>exact⟨0,[],Qm _,rfl,Qd _,OwnB.nil _ _,by simp,Qg _ _⟩
 case round=>
  obtain⟨k,d,L,rfl,A,a,B,b⟩:=hrel;have c:=b.size;have o:=hIx B;clear B
  by_cases F:k<s.size
  ·have g:0<(s.data.toList.drop k).length:=by rw[QF,m.out];omega
   have j:=zc1 (s.data.toList.drop k);have x:=hIx (zjT (s.data.toList.drop k) g);have D:=hIx (ziW (s.data.toList.drop k) g);obtain⟨n,q⟩:∃n,zc6 (s.data.toList.drop k)=n:=⟨_,rfl⟩
   rw[q]at j x D;have C:=hIx q;obtain⟨J,H,l⟩:=j;rw[QF,m.out]at l;clear q g
   by_cases p:n<0
   ·have h:=hIx (x.out p)
    clear l;go_wp2_with (go_at_call 111;refine(zht _ _ (by omega) (by omega) _).mono ?_;rintro e u ⟨rfl,nq,rfl⟩;rw[Q9,C.out])
    go_ret2
    exact⟨by rw[o.out,h.out];rfl,below_drewN b _⟩
   ·have z:0<=n:=by omega
    have K:=l z;have h:=hIx (D.out p);have G:=hIx (zlA n z H);have r:Hid ([Value.int .u8 n]=[UInt8.ofNat n.toNat].map zd6):=by unfold Hid zd6;simp only[QX,ZE];rw[G.out]
    clear l p;go_wp2_with (first|(go_at_call 111;refine(zht _ _ (by omega) (by omega) _).mono ?_;rintro e u ⟨rfl,nq,rfl⟩;rw[Q9,C.out])|(at_builtin;refine zaf rfl _ _ rfl w.heap.size _ d rfl (by exact a.drewN _) (by exact c) _ [UInt8.ofNat n.toNat] r.out 1 1 rfl rfl (by omega) ?_;intro v' u f t E));exact⟨⟨k+2,d++[UInt8.ofNat n.toNat],by omega,by go_num,by simp;omega,f,by rw[o.out,h.out,Zy,Option.map_map];congr 1;funext y;simp,(below_drewN b _).trans t⟩,by simp[intOf];omega⟩
  ·have I:=a.string
   have h:Hid (zbQ s.data.toList=some d):=by unfold Hid;rw[o.out,QP (by rw[m.out];omega),zgC];simp
   clear a;go_wp2
   go_ret2
   exact⟨by rw[h.out];rfl,b⟩
theorem zpQ(step:UInt8->List UInt8->List UInt8 × Nat)(h:∀b r,(step b r).1.length=1):∀(n:Nat) (l:List UInt8),l.length<=n->(scan step l).length<=l.length:=by
 intro n
 induction n with
 |zero=>
  intro l hl;have:l=[]:=QA (by omega);subst this;exact Qd _
 |succ n ih=>
  intro l hl;cases l with
  |nil=>exact Qd _
  |cons b r=>
   simp only[Qo]at hl;rw[zem,Qa,h b r,Qo];have:=ih (r.drop (step b r).2) (by rw[QF];omega);rw[QF]at this;omega
theorem zqM(l:List UInt8):(zcg l).length<=l.length:=zpQ zb8 (λb r=>(zqB b r).2) _ l (Qd _)
theorem zn0(l:List UInt8):(zck l).length<=l.length:=zpQ zcm (λb r=>by unfold zcm;split <;> rfl) _ l (Qd _)
def b64T:List UInt8:=[65,66,67,68,69,70,71,72,73,74,75,76,77,78,79,80,81,82,83,84,85,86,87,88,89,90,97,98,99,100,101,102,103,104,105,106,107,108,109,110,111,112,113,114,115,116,117,118,119,120,121,122,48,49,50,51,52,53,54,55,56,57,43,47]
def sgn(n:Nat):UInt8:=(b64T[n]?).getD 0
def idx(b:UInt8):Int:=Lib.indexByte b64T b
theorem zyv(b:UInt8):-1<=idx b/\idx b<64/\(0<=idx b->sgn (idx b).toNat=b/\b≠61):=
 Zq (zcs (p:=λb=>decide (-1<=idx b/\idx b<64/\(0<=idx b->sgn (idx b).toNat=b/\b≠61))) (by decide+kernel) b)
def zcb(n a:Nat):List UInt8->Option (List UInt8)
 | []=>if n≠0\/a=6 then none else some []
 |x::r=>if idx x<0 then none else
  if a=0 then zcb (n*64+(idx x).toNat) 6 r
  else (zcb ((n*64+(idx x).toNat) % 2 ^ (a-2)) (a-2) r).map (UInt8.ofNat ((n*64+(idx x).toNat) / 2 ^ (a-2))::·)
theorem zyM(n a:Nat)(x:UInt8)(r:List UInt8)(h:idx x<0):zcb n a (x::r)=none:=by rw[zcb,Qi h]
theorem zAx(n:Nat)(x:UInt8)(r:List UInt8)(h:¬idx x<0):zcb n 0 (x::r)=zcb (n*64+(idx x).toNat) 6 r:=by
 rw[zcb,Qe h,Qi rfl]
theorem zAi(n:Nat)(x:UInt8)(r:List UInt8)(h:¬idx x<0):zcb n 6 (x::r)=(zcb ((n*64+(idx x).toNat) % 16) 4 r).map (UInt8.ofNat ((n*64+(idx x).toNat) / 16)::·):=by
 rw[zcb,Qe h,Qe (by omega)]
theorem zAv(n:Nat)(x:UInt8)(r:List UInt8)(h:¬idx x<0):zcb n 4 (x::r)=(zcb ((n*64+(idx x).toNat) % 4) 2 r).map (UInt8.ofNat ((n*64+(idx x).toNat) / 4)::·):=by
 rw[zcb,Qe h,Qe (by omega)]
theorem zAu(n:Nat)(x:UInt8)(r:List UInt8)(h:¬idx x<0):zcb n 2 (x::r)=(zcb 0 0 r).map (UInt8.ofNat (n*64+(idx x).toNat)::·):=by
 rw[zcb,Qe h,Qe (by omega)];simp[Nat.mod_one]
def zdI(l:List UInt8):List UInt8:=Lib.trimSuffix l [61]
def b64D(l:List UInt8):Option (List UInt8):=if l.length % 4≠0 then none else zcb 0 0 (zdI (zdI l))
theorem zyD{l p:List UInt8}(h:Lib.hasSuffix l p=true):p <:+l:=by
 exact XI.1 h
theorem zrA(l:List UInt8):zdI (l++[61])=l:=by
 unfold zdI Lib.trimSuffix Lib.hasSuffix;rw[Qi (XI.2 (List.suffix_append _ _))];simp
theorem zik(l:List UInt8):(zdI l=l/\¬[61] <:+l)\/l=zdI l++[61]:=by
 by_cases h:[61] <:+l
 ·obtain⟨t,rfl⟩:=h
  right;rw[zrA]
 ·left
  refine⟨?_,h⟩;unfold zdI Lib.trimSuffix;rw[Qe];intro a;exact h (zyD a)
theorem zzQ(x y:Int)(i:Nat)(a:0<=x)(f:x % 2 ^ i=0)(c:x<4294967296)(b:0<=y)(e:y<2 ^ i)(d:y<4294967296):bits .or .u32 x y=x+y:=
 bits_join .u32 32 (by decide) (λn g h1=>by rw[IntKind.wrap_u32];omega) i x y a f (by omega) b e (by omega)
def zzu(s:ByteArray)(w:World)(v n b i:Value)(wr:World):Prop:=
 ∃(k m c:Nat) (a:List UInt8),k<=s.size/\i=.int .i64 k/\n=.int .u32 m/\b=.int .i64 c/\(c=0/\m=0\/c=2/\m<4\/c=4/\m<16\/c=6/\m<64)/\a.length<=k/\OwnB wr w.heap.size v a/\
  zcb 0 0 s.data.toList=(zcb m c (s.data.toList.drop k)).map (a++·)/\Below w.heap.size w wr
theorem zxI(m k:Nat)(a:m<64)(b:k<64):bits .or .u32 ((m:Int)*64) (k:Int)=((m*64+k:Nat):Int):=by
 rw[zzQ _ _ 6 (by omega) (by omega) (by omega) (by omega) (by omega) (by omega)];omega
theorem ziV(M i:Nat)(h:M<4294967296)(a:i<=32):bits .and .u32 (M:Int) (2 ^ i-1)=((M % 2 ^ i:Nat):Int):=by
 rw[bits_mask .u32 32 (by decide) (λn b h1=>by rw[IntKind.wrap_u32];omega) i a (M:Int) (by omega) (by omega)];simp
theorem zmp(t:ByteArray)(W:World)(h:t.size<=140737488351232):Calls prog 237 #[.string t,.string (.mk #[61])] W λe w'=>e=.returned (.string (bs (zdI t.data.toList)))/\w'=W:=
 strings_TrimSuffix t (ByteArray.mk #[61]) W (by omega)
theorem zhf(s:ByteArray)(w:World)(hs:s.size<=140737488351232):
 Calls prog 193 #[.string s] w (ze5 (zkq 4 (b64D s.data.toList)) w):=by
 have V:s.data.toList.length=s.size:=by simp
 by_cases h4:s.size % 4=0
 ·have q4:((s.size:Int) % 4 != 0)=false:=by rw[show (s.size:Int) % 4=0 by omega];rfl
  have W:Hid (b64D s.data.toList=zcb 0 0 (zdI (zdI s.data.toList))):=by unfold Hid b64D;rw[Qe (by omega)]
  have z1:(bs (zdI s.data.toList)).size<=s.size:=by
   rw[zaj];rcases zik s.data.toList with ⟨e,-⟩|e
   ·rw[e];omega
   ·have:=Zt List.length e;rw[Qa]at this;omega
  have z2:(bs (zdI (zdI s.data.toList))).size<=s.size:=by
   rw[zaj]at z1 ⊢;rcases zik (zdI s.data.toList)with ⟨e,-⟩|e
   ·rw[e];omega
   ·have:=Zt List.length e;rw[Qa]at this;omega
  clear V h4
  go_in
  go_wp2_with fail;refine(zmp _ _ hs).mono ?_;rintro e T ⟨rfl,I⟩;have I:=I.symm;subst I;go_wp2_with fail;refine(zmp _ _ (by omega)).mono ?_;rintro e T ⟨rfl,I⟩;have I:=I.symm;subst I;rw[zae];obtain⟨z,Y⟩:∃z,bs (zdI (zdI s.data.toList))=z:=⟨_,rfl⟩
  rw[Y]at z2 ⊢;have D:Hid (b64D s.data.toList=zcb 0 0 z.data.toList):=by unfold Hid;rw[W.out,<-Y];rfl
  clear Y W z1;have V:Hid (z.data.toList.length=z.size):=by unfold Hid;simp
  go_wp2
  go_loopw [5,6,7,19] (λv n b i wr=>zzu z w v n b i wr) (λ_ _ _ i _=>z.size-(intOf i).toNat)
  case atStart=>exact⟨0,0,0,[],Qm _,rfl,rfl,rfl,.inl ⟨rfl,rfl⟩,Qd _,OwnB.nil _ _,by simp,Qg _ _⟩
  case round=>
   obtain⟨k,m,P,l,hk,rfl,rfl,rfl,E,h3,d,hr,f⟩:=hrel;have o:=f.size;have H:=hIx hr;clear hr
   by_cases X:k<z.size
   ·have q:=hIx (zaG z k X)
    have h0:(k:Int)<(z.size:Int):=by omega
    have O:=zyv z[k];obtain⟨x,Z⟩:∃x,idx z[k]=x:=⟨_,rfl⟩
    have U:=hIx (λ(h:idx z[k]<0) n b=>zyM n b z[k] (z.data.toList.drop (k+1)) h);have A:=hIx (λ(h:¬idx z[k]<0) n=>zAx n z[k] (z.data.toList.drop (k+1)) h);have C:=hIx (λ(h:¬idx z[k]<0) n=>zAu n z[k] (z.data.toList.drop (k+1)) h);have B:=hIx (λ(h:¬idx z[k]<0) n=>zAv n z[k] (z.data.toList.drop (k+1)) h);have u:=hIx (λ(h:¬idx z[k]<0) n=>zAi n z[k] (z.data.toList.drop (k+1)) h);rw[Z]at U A C B u O;obtain⟨x1,x2,-⟩:=O;have S:=hIx Z;clear Z
    by_cases c:x<0
    ·have g:=hIx (U.out c m P)
     clear U A C B u;go_wp2_with (go_at_call 122;refine(zaY _ _ _).mono ?_;rintro e w' ⟨rfl,rfl⟩;rw[show (Lib.indexByte (ByteArray.mk #[65,66,67,68,69,70,71,72,73,74,75,76,77,78,79,80,81,82,83,84,85,86,87,88,89,90,97,98,99,100,101,102,103,104,105,106,107,108,109,110,111,112,113,114,115,116,117,118,119,120,121,122,48,49,50,51,52,53,54,55,56,57,43,47]).data.toList z[k]=x)from S.out])
     go_ret2
     exact⟨by rw[D.out,H.out,q.out,g.out];rfl,f⟩
    ·obtain⟨y,rfl⟩:=Zv (Int.not_lt.1 c)
     rw[Q9]at A C B u;have A:=hIx (A.out c);have C:=hIx (C.out c);have B:=hIx (B.out c);have u:=hIx (u.out c);have hy:y<64:=by omega
     clear U c x1 x2;have N:=zxI m y (by omega) hy;obtain⟨M,hM⟩:∃M,m*64+y=M:=⟨_,rfl⟩
     rw[hM]at N
     rcases E with ⟨rfl,rfl⟩|⟨rfl,J⟩|⟨rfl,J⟩|⟨rfl,J⟩
     ·have g:=hIx (A.out 0)
      have h5:bits .or .u32 0 (y:Int)=y:=by have:=zxI 0 y (by omega) hy;simpa using this
      clear A C B u hM N;go_wp2_with (go_at_call 122;refine(zaY _ _ _).mono ?_;rintro e w' ⟨rfl,rfl⟩;rw[show (Lib.indexByte (ByteArray.mk #[65,66,67,68,69,70,71,72,73,74,75,76,77,78,79,80,81,82,83,84,85,86,87,88,89,90,97,98,99,100,101,102,103,104,105,106,107,108,109,110,111,112,113,114,115,116,117,118,119,120,121,122,48,49,50,51,52,53,54,55,56,57,43,47]).data.toList z[k]=y)from S.out]);exact⟨⟨k+1,y,6,l,by omega,by go_num,rfl,rfl,by omega,by omega,d,by rw[H.out,q.out,g.out,XZ,Zc],f⟩,by simp[intOf];omega⟩
     ·have g:=hIx (C.out m)
      rw[hM]at g
      have r:Hid ([Value.int .u8 ((M:Int) % 256)]=[UInt8.ofNat (M)].map zd6):=by
       unfold Hid zd6;simp only[QX,ZE,UInt8.toNat_ofNat'];rfl
      have j:bits .and .u32 (M:Int) 0=((M % 1:Nat):Int):=ziV M 0 (by omega) (by omega);obtain⟨Q,p⟩:∃Q,M % 1=Q:=⟨_,rfl⟩
      have L:=hIx hM;rw[p]at j;have HQ:=hIx p;have K:Q<1:=by omega
      clear A C B u hM p;go_wp2_with (first|(go_at_call 122;refine(zaY _ _ _).mono ?_;rintro e w' ⟨rfl,rfl⟩;rw[show (Lib.indexByte (ByteArray.mk #[65,66,67,68,69,70,71,72,73,74,75,76,77,78,79,80,81,82,83,84,85,86,87,88,89,90,97,98,99,100,101,102,103,104,105,106,107,108,109,110,111,112,113,114,115,116,117,118,119,120,121,122,48,49,50,51,52,53,54,55,56,57,43,47]).data.toList z[k]=y)from S.out])|(at_builtin;refine zaf rfl _ _ rfl w.heap.size _ l rfl (by exact d) (by exact o) _ [UInt8.ofNat (M)] r.out 1 1 rfl rfl (by omega) ?_;intro v' T a t F));exact⟨⟨k+1,0,0,l++[UInt8.ofNat (M)],by omega,by go_num,by go_num,rfl,by omega,by simp;omega,a,by rw[H.out,q.out,g.out,Option.map_map];congr 1;funext y;simp,f.trans t⟩,by simp[intOf];omega⟩
     ·have g:=hIx (B.out m)
      rw[hM]at g
      have r:Hid ([Value.int .u8 ((M:Int) / 4 % 256)]=[UInt8.ofNat (M / 4)].map zd6):=by
       unfold Hid zd6;simp only[QX,ZE,UInt8.toNat_ofNat'];rfl
      have j:bits .and .u32 (M:Int) 3=((M % 4:Nat):Int):=ziV M 2 (by omega) (by omega);obtain⟨Q,p⟩:∃Q,M % 4=Q:=⟨_,rfl⟩
      have L:=hIx hM;rw[p]at j g;have HQ:=hIx p;have K:Q<4:=by omega
      clear A C B u hM p;go_wp2_with (first|(go_at_call 122;refine(zaY _ _ _).mono ?_;rintro e w' ⟨rfl,rfl⟩;rw[show (Lib.indexByte (ByteArray.mk #[65,66,67,68,69,70,71,72,73,74,75,76,77,78,79,80,81,82,83,84,85,86,87,88,89,90,97,98,99,100,101,102,103,104,105,106,107,108,109,110,111,112,113,114,115,116,117,118,119,120,121,122,48,49,50,51,52,53,54,55,56,57,43,47]).data.toList z[k]=y)from S.out])|(at_builtin;refine zaf rfl _ _ rfl w.heap.size _ l rfl (by exact d) (by exact o) _ [UInt8.ofNat (M / 4)] r.out 1 1 rfl rfl (by omega) ?_;intro v' T a t F));exact⟨⟨k+1,Q,2,l++[UInt8.ofNat (M / 4)],by omega,by go_num,rfl,rfl,by omega,by simp;omega,a,by rw[H.out,q.out,g.out,Option.map_map];congr 1;funext y;simp,f.trans t⟩,by simp[intOf];omega⟩
     ·have g:=hIx (u.out m)
      rw[hM]at g
      have r:Hid ([Value.int .u8 ((M:Int) / 16 % 256)]=[UInt8.ofNat (M / 16)].map zd6):=by
       unfold Hid zd6;simp only[QX,ZE,UInt8.toNat_ofNat'];rfl
      have j:bits .and .u32 (M:Int) 15=((M % 16:Nat):Int):=ziV M 4 (by omega) (by omega);obtain⟨Q,p⟩:∃Q,M % 16=Q:=⟨_,rfl⟩
      have L:=hIx hM;rw[p]at j g;have HQ:=hIx p;have K:Q<16:=by omega
      clear A C B u hM p;go_wp2_with (first|(go_at_call 122;refine(zaY _ _ _).mono ?_;rintro e w' ⟨rfl,rfl⟩;rw[show (Lib.indexByte (ByteArray.mk #[65,66,67,68,69,70,71,72,73,74,75,76,77,78,79,80,81,82,83,84,85,86,87,88,89,90,97,98,99,100,101,102,103,104,105,106,107,108,109,110,111,112,113,114,115,116,117,118,119,120,121,122,48,49,50,51,52,53,54,55,56,57,43,47]).data.toList z[k]=y)from S.out])|(at_builtin;refine zaf rfl _ _ rfl w.heap.size _ l rfl (by exact d) (by exact o) _ [UInt8.ofNat (M / 16)] r.out 1 1 rfl rfl (by omega) ?_;intro v' T a t F));exact⟨⟨k+1,Q,4,l++[UInt8.ofNat (M / 16)],by omega,by go_num,rfl,rfl,by omega,by simp;omega,a,by rw[H.out,q.out,g.out,Option.map_map];congr 1;funext y;simp,f.trans t⟩,by simp[intOf];omega⟩
   ·have HN:Hid (z.data.toList.drop k=[]):=QP (by rw[V.out];omega)
    have h6:=d.string;clear d
    by_cases J:m=0/\P≠6
    ·obtain⟨rfl,J⟩:=J
     have g:Hid (zcb 0 0 z.data.toList=some l):=by unfold Hid;rw[H.out,HN.out,zcb,Qe (by omega)];simp
     have qb:((P:Int)==6)=false:=Qb.2 (by omega);clear E;go_wp2
     go_ret2
     exact⟨by rw[D.out,g.out];rfl,f⟩
    ·have g:Hid (zcb 0 0 z.data.toList=none):=by unfold Hid;rw[H.out,HN.out,zcb,Qi (by omega)];rfl
     by_cases G:m=0
     ·have qm:((m:Int) != 0)=false:=by rw[G];rfl
      have qb:((P:Int)==6)=true:=by rw[show P=6 by omega];rfl
      clear J E G;go_wp2
      go_ret2
      exact⟨by rw[D.out,g.out];rfl,f⟩
     ·have qm:((m:Int) != 0)=true:=Q6.2 (by omega)
      clear J E G;go_wp2
      go_ret2
      exact⟨by rw[D.out,g.out];rfl,f⟩
 ·have q4:((s.size:Int) % 4 != 0)=true:=Q6.2 (by omega)
  have W:Hid (b64D s.data.toList=none):=by unfold Hid b64D;rw[Qi (by omega)]
  clear V h4
  go_in
  go_wp2
  go_ret2
  exact⟨by rw[W.out];rfl,Qg _ _⟩
def zdd(b:UInt8):Bool:=decide (9<=b.toNat)&&decide (b.toNat<=13)||b==32
def sqGo:Bool->List UInt8->List UInt8
 |_,[]=>[]
 |p,b::l=>if zdd b=true then (if p=true then sqGo true l else 32::sqGo true l)else b::sqGo false l
def zb6(l:List UInt8):List UInt8:=sqGo false l
def outL(set l:List UInt8):List UInt8:=l.filter λb=>decide (Lib.indexByte set b<0)
def zbW(b:UInt8):UInt8:=if b=44\/b=59 then 32 else b
def dsL:List UInt8->List UInt8
 | []=>[]
 | [b]=>[b]
 |b::c::l=>if b=32/\(c=47\/c=40)then dsL (c::l)else b::dsL (c::l)
def zgT:List UInt8:=[92,34,39,94]
def cmdL(l:List UInt8):List UInt8:=zav (dsL (zb6 ((outL zgT l).map zbW)))
def adj(R:UInt8->UInt8->Bool):List UInt8->Bool
 |a::b::l=>R a b&&adj R (b::l)
 |_=>true
def n2(a b:UInt8):Bool:=!(a==32&&b==32)
def n3(a b:UInt8):Bool:=!(a==32&&(b==47||b==40))
def Good(l:List UInt8):Prop:=(∀b∈l,zdd b=true->b=32)/\adj n2 l=true
theorem zu1{R:UInt8->UInt8->Bool}{a:UInt8}{l:List UInt8}:adj R (a::l)=true↔(∀b,l.head? = some b->R a b=true)/\adj R l=true:=by
 cases l with
 |nil=>simp[adj]
 |cons b l=>simp[adj]
theorem zwE:Good []:=⟨λ_ h=>absurd h (by simp),rfl⟩
theorem zmw{a:UInt8}{l:List UInt8}:Good (a::l)↔(zdd a=true->a=32)/\(∀b,l.head? = some b->n2 a b=true)/\Good l:=by
 unfold Good;rw[zu1];simp only[QJ,forall_eq_or_imp];exact⟨λh=>⟨h.1.1,h.2.1,h.1.2,h.2.2⟩,λh=>⟨⟨h.1,h.2.2.1⟩,h.2.1,h.2.2.2⟩⟩
theorem zzb:zdd 32=true:=by decide
theorem zrR:∀(l:List UInt8) (p:Bool),Good (sqGo p l)/\(p=true->(sqGo p l).head? ≠ some 32)
 | [],_=>⟨zwE,λ_=>by simp[sqGo]⟩
 |b::l,p=>by
  unfold sqGo
  by_cases a:zdd b=true
  ·rw[Qi a]
   obtain⟨h1,h2⟩:=zrR l true
   by_cases d:p=true
   ·rw[Qi d];exact⟨h1,λ_=>h2 rfl⟩
   ·rw[Qe d]
    exact⟨zmw.2 ⟨λ_=>rfl,λc f=>by
     have:c≠32:=λe=>h2 rfl (by rw[f,e])
     simp[n2,this],h1⟩,λe=>absurd e d⟩
  ·rw[Qe a]
   have hb:b≠32:=λe=>a (by rw[e];exact zzb)
   exact⟨zmw.2 ⟨λe=>absurd e a,λc _=>by simp[n2,hb],(zrR l false).1⟩,λ_=>by simpa using hb⟩
theorem zy2{R:UInt8->UInt8->Bool}{f:UInt8->UInt8}(h:∀a b,R (f a) (f b)=R a b):∀l:List UInt8,adj R (l.map f)=adj R l
 | []=>rfl
 | [a]=>rfl
 |a::b::l=>by
  have ih:=zy2 h (b::l);simp only[QX]at ih;simp only[QX,adj,h,ih]
theorem zmM:∀(l:List UInt8) (p:Bool),(sqGo p l).length<=l.length
 | [],_=>Qd _
 |b::l,p=>by
  have h1:=zmM l true;have h2:=zmM l false;unfold sqGo
  (repeat' split) <;> simp only[Qo] <;> omega
theorem zxs:∀l:List UInt8,(dsL l).length<=l.length
 | []=>Qd _
 | [_]=>Qd _
 |a::c::l=>by
  have h:=zxs (c::l);unfold dsL
  split <;> simp only[Qo]at*<;> omega
