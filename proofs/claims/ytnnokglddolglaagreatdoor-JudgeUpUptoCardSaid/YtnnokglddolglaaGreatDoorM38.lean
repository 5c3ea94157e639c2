/- Lemmas for the last texts. -/
import Derived.Test.YtnnokglddolglaaGreatDoorM37
set_option maxHeartbeats 1600000
set_option maxRecDepth 100000
namespace Go.Proofs.YtnnokglddolglaaGreatDoor
open Go.RowKit Go.Proofs.Tryz
def zkN(p:UInt8->Bool)(s:ByteArray)(i:Value):Prop:=∃k:Nat,k<=s.size/\i=.int .i64 k/\s.data.toList.all p=(s.data.toList.drop k).all p
theorem zrQ{p:UInt8->Bool}{s:ByteArray}{k:Nat}(h:s.size<=k):(s.data.toList.drop k).all p=true:=by
 rw[QP (by simpa using h)];rfl
theorem ztZ(s:ByteArray)(w:World)(m:s.size<=maxLen):
 Calls prog 88 #[.string s] w λe w'=>e=.returned (.bool (zdm s.data.toList))/\w'=w:=by
 unfold maxLen at m
 go_in
 go_wp2_with fail
 go_loop [6] (λi=>zkN zfI s i) (λi=>s.size-(intOf i).toNat)
 case atStart=>exact⟨0,Qm _,rfl,rfl⟩
 case round=>
  obtain⟨k,n,rfl,f⟩:=hrel;have b:=hIx f;clear f
  by_cases c:k<s.size
  ·have d:=hIx (zaG s k c)
   have g:=s[k].toNat_lt
   by_cases c1:s[k].toNat<33
   ·have a:Hid (zdm s.data.toList=false):=by unfold Hid zdm;rw[b.out,d.out,ZT];simp[zfI,c1]
    have j:decide ((s[k].toNat:Int)<33)=true:=Qu (by omega);clear c1;go_wp2;go_ret;exact⟨zaI a.out.symm,rfl⟩
   ·have j:decide ((s[k].toNat:Int)<33)=false:=Qs (by omega)
    by_cases c2:126<s[k].toNat
    ·have a:Hid (zdm s.data.toList=false):=by unfold Hid zdm;rw[b.out,d.out,ZT];simp[zfI,c2]
     have h:decide ((126:Int)<(s[k].toNat:Int))=true:=Qu (by omega);clear c1 c2;go_wp2;go_ret;exact⟨zaI a.out.symm,rfl⟩
    ·have h:decide ((126:Int)<(s[k].toNat:Int))=false:=Qs (by omega)
     have l:Hid (s.data.toList.all zfI=(s.data.toList.drop (k+1)).all zfI):=by unfold Hid;rw[b.out,d.out,ZT];simp[zfI,c1,c2]
     clear c1 c2;go_wp2_with fail
     go_round
     case rel=>exact⟨k+1,by omega,by go_num,l.out⟩
     case measure=>simp[intOf] <;> omega
  ·have a:Hid (zdm s.data.toList=true):=by unfold Hid zdm;rw[b.out,zrQ (by omega)]
   obtain rfl:k=s.size:=by omega
   go_wp2;go_ret;exact⟨zaI a.out.symm,rfl⟩
theorem ztf(s:ByteArray)(w:World)(n:s.size<=maxLen):
 Calls prog 89 #[.string s] w λe w'=>e=.returned (.bool (zd2 s.data.toList))/\w'=w:=by
 have f:=n;unfold maxLen at n
 go_in
 go_wp2_with fail
 go_loop [7] (λi=>zkN valB s i) (λi=>s.size-(intOf i).toNat)
 case atStart=>exact⟨0,Qm _,rfl,rfl⟩
 case round=>
  obtain⟨k,t,rfl,m⟩:=hrel;have g:=hIx m;clear m
  by_cases d:k<s.size
  ·have o:=hIx (zaG s k d)
   have p:=s[k].toNat_lt;have b:Hid (valB s[k]=false->zd2 s.data.toList=false):=λh=>by unfold zd2;rw[g.out,o.out,ZT,h];rfl
   have a:Hid (valB s[k]=true->s.data.toList.all valB=(s.data.toList.drop (k+1)).all valB):=λh=>by rw[g.out,o.out,ZT,h];rfl
   by_cases c1:s[k].toNat<32
   ·have r:decide ((s[k].toNat:Int)<32)=true:=Qu (by omega)
    by_cases c2:s[k].toNat=9
    ·have q:((s[k].toNat:Int) != 9)=false:=by rw[bne_eq_false_iff_eq];omega
     have l:((s[k].toNat:Int)==127)=false:=by rw[Qb];omega
     have j:=hIx (a.out (by unfold valB;simp[c2]));clear c1 c2;go_wp2_with fail
     go_round
     case rel=>exact⟨k+1,by omega,by go_num,j.out⟩
     case measure=>simp[intOf] <;> omega
    ·have q:((s[k].toNat:Int) != 9)=true:=by rw[Q6];omega
     have c:=hIx (b.out (by unfold valB;simp[c1,c2]));clear c1 c2;go_wp2;go_ret;exact⟨zaI c.out.symm,rfl⟩
   ·have r:decide ((s[k].toNat:Int)<32)=false:=Qs (by omega)
    by_cases c3:s[k].toNat=127
    ·have l:((s[k].toNat:Int)==127)=true:=by rw[Zk];omega
     have c:=hIx (b.out (by unfold valB;simp[c3]));clear c1 c3;go_wp2;go_ret;exact⟨zaI c.out.symm,rfl⟩
    ·have l:((s[k].toNat:Int)==127)=false:=by rw[Qb];omega
     have j:=hIx (a.out (by unfold valB;simp[c1,c3]));clear c1 c3;go_wp2_with fail
     go_round
     case rel=>exact⟨k+1,by omega,by go_num,j.out⟩
     case measure=>simp[intOf] <;> omega
  ·have c:Hid (zd2 s.data.toList=(zaF s.data.toList==s.data.toList)):=by unfold Hid zd2;rw[g.out,zrQ (by omega)];rfl
   obtain rfl:k=s.size:=by omega
   go_wp2_with (go_at_call 80;refine(zdK _ _ f).mono ?_;rintro e w' ⟨rfl,rfl⟩);go_ret;exact⟨zaI (by rw[c.out,QS]),rfl⟩
theorem zic{s:ByteArray}{w:World}(a:s.size<=maxLen){b:Bool}(h:zdp s.data.toList=b):Calls prog 87 #[.string s] w λe w'=>e=.returned (.bool b)/\w'=w:=by
 rw[<-h];exact zuq s w a
theorem zfx{s:ByteArray}{w:World}(a:s.size<=maxLen){b:Bool}(h:zdm s.data.toList=b):Calls prog 88 #[.string s] w λe w'=>e=.returned (.bool b)/\w'=w:=by
 rw[<-h];exact ztZ s w a
theorem zmK{s:ByteArray}{w:World}(a:s.size<=maxLen){b:Bool}(h:zd2 s.data.toList=b):Calls prog 89 #[.string s] w λe w'=>e=.returned (.bool b)/\w'=w:=by
 rw[<-h];exact ztf s w a
def zqo(h:zbh)(w:World)(i:Value)(wr:World):Prop:=
 ∃k:Nat,k<=h.fs.length/\i=.int .i64 k/\Hid (zbp h.fs=zbp (h.fs.drop k))/\Below w.heap.size w wr
theorem znQ{f:zao}{r:List zao}(h:zcd f≠0):zbp (f::r)=zcd f:=by rw[zbp,Qe h]
theorem znn{f:zao}{r:List zao}(h:zcd f=0):zbp (f::r)=zbp r:=by rw[zbp,Qi h]
theorem zeE(h:zbh)(A:Option Addr)(c:Nat)(w:World)(Z:Sl w w.heap.size 2 A h.fs.length (h.fs.flatMap zaL))(P:h.m.size<=maxLen)(V:h.t.size<=maxLen)
 (hs:∀f∈h.fs,f.1.size<=maxLen/\f.2.size<=maxLen) (hl:h.fs.length<=4398046511104):
 Calls prog 56 #[.agg #[.string h.m,.string h.t,.slice A h.fs.length c]] w λe w'=>e=.returned (.int .i64 (zak h))/\Below w.heap.size w w':=by
 have F:h.m.data.toList.length=h.m.size:=by simp
 have s:∀o,Below w.heap.size w (w.alloc o):=λo=>(Qg _ _).alloc (Qd _) o
 have g:=hIx s;clear s
 by_cases q:zfl h.m.data.toList h.t.data.toList=false
 ·have r:Hid (zak h=4):=by unfold Hid zak;rw[Qi q]
  cases h1:zdp h.m.data.toList with
  |false=>
   have d:=λW=>hIx (zic (w:=W) P h1)
   clear q h1
   go_in
   go_wp2_with (go_at_call 87;refine(d _).out.mono ?_;rintro e w' ⟨rfl,rfl⟩);go_ret;exact⟨zac r.out.symm,g.out _⟩
  |true=>
   have d:=λW=>hIx (zic (w:=W) P h1)
   by_cases h2:20<h.m.size
   ·have U:decide ((20:Int)<(h.m.size:Int))=true:=Qu (by omega)
    clear q h1 h2
    go_in
    go_wp2_with (go_at_call 87;refine(d _).out.mono ?_;rintro e w' ⟨rfl,rfl⟩);go_ret;exact⟨zac r.out.symm,g.out _⟩
   ·have U:decide ((20:Int)<(h.m.size:Int))=false:=Qs (by omega)
    cases y:h.t.data.toList.isEmpty with
    |true=>
     have Y:h.t.toList.isEmpty=true:=by rw[QS];exact y
     clear q h1 h2 y
     go_in
     go_wp2_with (go_at_call 87;refine(d _).out.mono ?_;rintro e w' ⟨rfl,rfl⟩);go_ret;exact⟨zac r.out.symm,g.out _⟩
    |false=>
     have Y:h.t.toList.isEmpty=false:=by rw[QS];exact y
     have E:zdm h.t.data.toList=false:=by
      unfold zfl at q;rw[h1,y,F,Qu (by omega:h.m.size<=20)]at q
      simpa using q
     have I:=λW=>hIx (zfx (w:=W) V E)
     clear q h1 h2 y E
     go_in
     go_wp2_with (first|(go_at_call 87;refine(d _).out.mono ?_;rintro e w' ⟨rfl,rfl⟩)|(go_at_call 88;refine(I _).out.mono ?_;rintro e w' ⟨rfl,rfl⟩));go_ret;exact⟨zac r.out.symm,g.out _⟩
 ·rw[Bool.not_eq_false]at q
  have B:=q;unfold zfl at B;simp only[QW,QY,Bool.not_eq_true',F]at B;obtain⟨⟨⟨h1,h2⟩,y⟩,E⟩:=B;have d:=λW=>hIx (zic (w:=W) P h1)
  have I:=λW=>hIx (zfx (w:=W) V E)
  have U:decide ((20:Int)<(h.m.size:Int))=false:=Qs (by omega);have Y:h.t.toList.isEmpty=false:=by rw[QS];exact y
  have r:Hid (zak h=if 1000<h.t.size\/30<h.fs.length then 5 else zbp h.fs):=by unfold Hid zak;rw[Qe (by rw[q];decide)]
  clear q h1 h2 y E
  by_cases J:1000<h.t.size
  ·have d5:decide ((1000:Int)<(h.t.size:Int))=true:=Qu (by omega)
   have j:Hid (zak h=5):=by unfold Hid;rw[r.out,Qi (.inl J)]
   clear J r
   go_in
   go_wp2_with (first|(go_at_call 87;refine(d _).out.mono ?_;rintro e w' ⟨rfl,rfl⟩)|(go_at_call 88;refine(I _).out.mono ?_;rintro e w' ⟨rfl,rfl⟩));go_ret;exact⟨zac j.out.symm,g.out _⟩
  ·have d5:decide ((1000:Int)<(h.t.size:Int))=false:=Qs (by omega)
   by_cases Q:30<h.fs.length
   ·have d6:decide ((30:Int)<(h.fs.length:Int))=true:=Qu (by omega)
    have j:Hid (zak h=5):=by unfold Hid;rw[r.out,Qi (.inr Q)]
    clear J Q r
    go_in
    go_wp2_with (first|(go_at_call 87;refine(d _).out.mono ?_;rintro e w' ⟨rfl,rfl⟩)|(go_at_call 88;refine(I _).out.mono ?_;rintro e w' ⟨rfl,rfl⟩));go_ret;exact⟨zac j.out.symm,g.out _⟩
   ·have d6:decide ((30:Int)<(h.fs.length:Int))=false:=Qs (by omega)
    have j:Hid (zak h=zbp h.fs):=by unfold Hid;rw[r.out,Qe (by omega)]
    have s:=g.out (.cells #[.string h.m,.string h.t,.slice A h.fs.length c] 27);have h7:h.fs.length<=30:=by omega
    clear J Q r
    go_in
    go_wp2_with (first|(go_at_call 87;refine(d _).out.mono ?_;rintro e w' ⟨rfl,rfl⟩)|(go_at_call 88;refine(I _).out.mono ?_;rintro e w' ⟨rfl,rfl⟩))
    go_loopw [41] (λi wr=>zqo h w i wr) (λi _=>h.fs.length-(intOf i).toNat)
    case atStart=>exact⟨0,Qm _,rfl,by unfold Hid;rw[List.drop_zero],s⟩
    case round=>
     obtain⟨k,hk,rfl,T,hb⟩:=hrel;clear s
     by_cases z:k<h.fs.length
     ·have d1:decide ((k:Int)<(h.fs.length:Int))=true:=Qu (by omega)
      have i7:IntKind.i64.wrap ((k:Int)+1)=(k:Int)+1:=Qx _ (by omega);obtain⟨b,h0,rfl,h8,L,O⟩:=zpj (Z.below hb) k z;have C:=hs _ (Qy z);have D:Hid (h.fs.drop k=h.fs[k]::h.fs.drop (k+1)):=Zf z;have HB:=hIx hb;have G:Below w.heap.size w (wr.alloc (.cells #[.string h.fs[k].1,.string h.fs[k].2] 133)):=hb.alloc hb.size _;have l:=hIx G;generalize h.fs[k]=f at *;obtain⟨n,v⟩:=f;dsimp only at L O C l;have N:=C.1;have S:=C.2;unfold maxLen at N S;clear hb Z G hs;have a:Hid (∀e,zcd (n,v)=e->e≠0->zak h=e):=λe h1 h2=>by rw[j.out,T.out,D.out,znQ (by rw[h1];exact h2),h1]
      cases p:zdp n.data.toList with
      |false=>
       have d:=λW=>hIx (zic (w:=W) C.1 p)
       have x:=hIx (a.out 4 (by unfold zcd;rw[Qi];dsimp only;rw[p];rfl) (by decide));clear p a;go_wp2_with (first|(go_at_call 87;refine(d _).out.mono ?_;rintro e w' ⟨rfl,rfl⟩));go_ret;exact⟨zac x.out.symm,l.out⟩
      |true=>
       have d:=λW=>hIx (zic (w:=W) C.1 p)
       cases u:zd2 v.data.toList with
       |false=>
        have H:=λW=>hIx (zmK (w:=W) C.2 u)
        have x:=hIx (a.out 4 (by unfold zcd;rw[Qi];dsimp only;rw[p,u];rfl) (by decide));clear p u a;go_wp2_with (first|(go_at_call 87;refine(d _).out.mono ?_;rintro e w' ⟨rfl,rfl⟩)|(go_at_call 89;refine(H _).out.mono ?_;rintro e w' ⟨rfl,rfl⟩));go_ret;exact⟨zac x.out.symm,l.out⟩
       |true=>
        have H:=λW=>hIx (zmK (w:=W) C.2 u)
        by_cases K:1000<n.size
        ·have d3:decide ((1000:Int)<(n.size:Int))=true:=Qu (by omega)
         have x:=hIx (a.out 5 (by unfold zcd;rw[Qe (by dsimp only;rw[p,u];decide),Qi (by dsimp only;omega)]) (by decide));clear p u K a;go_wp2_with (first|(go_at_call 87;refine(d _).out.mono ?_;rintro e w' ⟨rfl,rfl⟩)|(go_at_call 89;refine(H _).out.mono ?_;rintro e w' ⟨rfl,rfl⟩));go_ret;exact⟨zac x.out.symm,l.out⟩
        ·have d3:decide ((1000:Int)<(n.size:Int))=false:=Qs (by omega)
         have i8:IntKind.i64.wrap (1000-(n.size:Int))=1000-(n.size:Int):=Qx _ (by omega)
         by_cases X:1000<n.size+v.size
         ·have d4:decide ((1000:Int)-(n.size:Int)<(v.size:Int))=true:=Qu (by omega)
          have x:=hIx (a.out 5 (by unfold zcd;rw[Qe (by dsimp only;rw[p,u];decide),Qi (by dsimp only;omega)]) (by decide));clear p u K X a;go_wp2_with (first|(go_at_call 87;refine(d _).out.mono ?_;rintro e w' ⟨rfl,rfl⟩)|(go_at_call 89;refine(H _).out.mono ?_;rintro e w' ⟨rfl,rfl⟩));go_ret;exact⟨zac x.out.symm,l.out⟩
         ·have d4:decide ((1000:Int)-(n.size:Int)<(v.size:Int))=false:=Qs (by omega)
          have HN:Hid (zbp h.fs=zbp (h.fs.drop (k+1))):=by
           unfold Hid;rw[T.out,D.out,znn];unfold zcd;rw[Qe (by dsimp only;rw[p,u];decide),Qe (by dsimp only;omega)]
          clear p u K X a;go_wp2_with (first|(go_at_call 87;refine(d _).out.mono ?_;rintro e w' ⟨rfl,rfl⟩)|(go_at_call 89;refine(H _).out.mono ?_;rintro e w' ⟨rfl,rfl⟩))
          go_roundw
          case rel=>exact⟨k+1,by omega,by go_num,HN,l.out⟩
          case measure=>simp[intOf] <;> omega
     ·obtain rfl:k=h.fs.length:=by omega
      have d1:decide ((h.fs.length:Int)<(h.fs.length:Int))=false:=by simp
      have x:Hid (zak h=0):=by unfold Hid;rw[j.out,T.out,List.drop_length];rfl
      go_wp2;go_ret;exact⟨zac x.out.symm,hb⟩
def zia(l:List UInt8)(w:World)(e:Ending)(w':World):Prop:=
 (zdb l=none/\e=.returned (.tuple #[.slice none 0 0,.bool false])/\Below w.heap.size w w')\/
 ∃a,zdb l=some a/\e=.returned (.tuple #[.slice (some ⟨w.heap.size,0,none⟩) a.length a.length,.bool true])/\w'=w.alloc (.cells (a.map λx=>Value.string (bs x)).toArray 9)
def ztn(a:List (List UInt8))(i:Value):Prop:=∃k:Nat,k<=a.length/\i=.int .i64 k/\Hid ((a.take k).all zb9=true)
theorem zwS(l:List UInt8)(h:Lib.hasSuffix l endL=true):Lib.trimSuffix l endL=l.take (l.length-4):=by
 unfold Lib.trimSuffix;rw[Qi h]
 rfl
theorem zsF(l:List UInt8)(b:UInt8):decide (0<=Lib.indexByte l b)=l.contains b:=(Lib.contains_iff_indexByte l b).symm
theorem zso(s:ByteArray)(w:World)(D:LibOk w)(hs:s.size<=4194304):
 Calls prog 93 #[.string s] w (zia s.data.toList w):=by
 obtain⟨m0,A⟩:=D;have d:=strings_CutSuffix s (ByteArray.mk #[13,10,13,10]) w (by omega);have E:s.data.toList.length=s.size:=by simp
 rw[show (ByteArray.mk #[13,10,13,10]).data.toList=endL from rfl]at d;cases f:Lib.hasSuffix s.data.toList endL with
 |false=>
  rw[f]at d;have HN:Hid (zdb s.data.toList=none):=by unfold Hid zdb;rw[Qe (by rw[f];decide)]
  have J:=hIx d;clear d f A E
  go_in
  go_wp2_with fail;refine J.out.mono ?_;rintro e z ⟨rfl,rfl⟩;go_wp2;exact Qj (v:=.tuple #[.slice none 0 0,.bool false]) (by simp[results,results93,go_sem]) rfl (.inl ⟨HN.out,rfl,Qg _ _⟩)
 |true=>
  rw[f,zwS _ f]at d;obtain⟨t,H⟩:∃t,bs (s.data.toList.take (s.data.toList.length-4))=t:=⟨_,rfl⟩
  have C:t.data.toList=s.data.toList.take (s.data.toList.length-4):=by rw[<-H];rfl
  have P:t.size<=4194304:=by rw[<-H,zaj,Qz];omega
  rw[show (ByteArray.mk (s.data.toList.take (s.data.toList.length-4)).toArray)=t from H]at d;have m:=strings_Split t ⟨#[13,10]⟩ m0 w (by omega) A (by decide);have l:=zrK t;have p:=Xi ⟨#[13,10]⟩ (by decide) 0 _ t rfl;generalize Lib.splitB ⟨#[13,10]⟩ 0 (Lib.countB t ⟨#[13,10]⟩) t=c at m l p;generalize Lib.countB t ⟨#[13,10]⟩=n at m p;rw[<-p]at m;have u:(spl2 t.data.toList).length=c.length:=by rw[<-l,Qh]
  have Q:=zhq t.data.toList;have O:t.data.toList.length=t.size:=by simp
  have h0:c.length<=4194305:=by omega
  have T:Hid (zdb s.data.toList=if (spl2 t.data.toList).all zb9=true then some (spl2 t.data.toList)else none):=by unfold Hid zdb;rw[Qi f,C]
  have I:=hIx l;have L:=hIx m;have g:=hIx u;have J:=hIx d
  have N:Hid (∀j (h:j<c.length),(w.alloc (.cells (c.map Value.string).toArray 9)).cell? ⟨w.heap.size,j,none⟩=some (.string c[j])):=λj h=>by
   rw[zar (Qg _ _) j];simp[h]
  have K:Hid (Below w.heap.size w (w.alloc (.cells (c.map Value.string).toArray 9))):=WaL
  have G:Hid ((c.map Value.string)=(spl2 t.data.toList).map λx=>Value.string (bs x)):=by
   unfold Hid;rw[<-l,Xu]
   rfl
  clear d f A m l p u Q C H P O E
  go_in
  go_wp2_with fail;refine J.out.mono ?_;rintro e z ⟨rfl,rfl⟩;go_wp2_with fail;refine L.out.mono ?_;rintro e w2 ⟨rfl,rfl⟩;go_wp2_with fail
  go_loop [19] (λi=>ztn (spl2 t.data.toList) i) (λi=>c.length-(intOf i).toNat)
  case atStart=>exact⟨0,Qm _,rfl,rfl⟩
  case round=>
   obtain⟨k,X,rfl,F⟩:=hrel;rw[g.out]at X
   by_cases B:k<c.length
   ·have i7:IntKind.i64.wrap ((k:Int)+1)=(k:Int)+1:=Qx _ (by omega)
    have Z:decide ((k:Int)<(c.length:Int))=true:=by simp;omega
    have hc:=N.out k B;have y:k<(spl2 t.data.toList).length:=by rw[g.out];exact B
    have V:Hid (c[k].data.toList=(spl2 t.data.toList)[k]):=by
     unfold Hid;have:=I.out;simp only[<-this,Zd]
    have b:Hid (zb9 (spl2 t.data.toList)[k]=false->zia s.data.toList z (.returned (.tuple #[.slice none 0 0,.bool false])) (z.alloc (.cells (c.map Value.string).toArray 9))):=λh=>.inl ⟨(by
     rw[T.out,Qe];intro ha;have:=Zn.1 ha _ (Qy y);rw[h]at this;cases this),rfl,K.out⟩
    have a:Hid (zb9 (spl2 t.data.toList)[k]=true->((spl2 t.data.toList).take (k+1)).all zb9=true):=λh=>by
     rw[Qq y,List.all_append,F.out];simp[h]
    rw[<-V.out]at b a;generalize c[k]=x at hc V b a;cases c1:x.data.toList.isEmpty with
    |true=>
     have Y:x.toList.isEmpty=true:=by rw[QS];exact c1
     have r:=hIx (b.out (by unfold zb9;rw[c1];rfl));clear c1 b a;go_wp2;exact Qj (v:=.tuple #[.slice none 0 0,.bool false]) (by simp[results,results93,go_sem]) rfl r.out
    |false=>
     have Y:x.toList.isEmpty=false:=by rw[QS];exact c1
     have S:=zsF x.data.toList 13;have U:=zsF x.data.toList 10;have o:=λW=>hIx (strings_IndexByte x 13 W)
     have q:=λW=>hIx (strings_IndexByte x 10 W)
     rw[show (13:Int).toNat.toUInt8=13 from rfl]at o;rw[show (10:Int).toNat.toUInt8=10 from rfl]at q;generalize Lib.indexByte x.data.toList 13=z1 at *;generalize Lib.indexByte x.data.toList 10=z2 at *;cases c2:x.data.toList.contains 13 with
     |true=>
      rw[c2]at S;have r:=hIx (b.out (by unfold zb9;rw[c2];simp));clear c1 c2 b a;go_wp2_with (go_at_call 122;first|(refine(o _).out.mono ?_;rintro e w' ⟨rfl,rfl⟩)|(refine(q _).out.mono ?_;rintro e w' ⟨rfl,rfl⟩));exact Qj (v:=.tuple #[.slice none 0 0,.bool false]) (by simp[results,results93,go_sem]) rfl r.out
     |false=>
      rw[c2]at S;cases c3:x.data.toList.contains 10 with
      |true=>
       rw[c3]at U;have r:=hIx (b.out (by unfold zb9;rw[c3];simp));clear c1 c2 c3 b a;go_wp2_with (go_at_call 122;first|(refine(o _).out.mono ?_;rintro e w' ⟨rfl,rfl⟩)|(refine(q _).out.mono ?_;rintro e w' ⟨rfl,rfl⟩));exact Qj (v:=.tuple #[.slice none 0 0,.bool false]) (by simp[results,results93,go_sem]) rfl r.out
      |false=>
       rw[c3]at U;have r:=hIx (a.out (by unfold zb9;rw[c1,c2,c3];rfl));clear c1 c2 c3 b a;go_wp2_with (go_at_call 122;first|(refine(o _).out.mono ?_;rintro e w' ⟨rfl,rfl⟩)|(refine(q _).out.mono ?_;rintro e w' ⟨rfl,rfl⟩))
       go_round
       case rel=>exact⟨k+1,by rw[g.out];omega,by go_num,r⟩
       case measure=>simp[intOf] <;> omega
   ·obtain rfl:k=c.length:=by omega
    have Z:decide ((c.length:Int)<(c.length:Int))=false:=by simp
    have r:Hid (zia s.data.toList z (.returned (.tuple #[.slice (some ⟨z.heap.size,0,none⟩) c.length c.length,.bool true])) (z.alloc (.cells (c.map Value.string).toArray 9))):=by
     refine .inr ⟨spl2 t.data.toList,?_,by rw[g.out],by rw[G.out]⟩;have:=F.out;rw[<-g.out,QV]at this;rw[T.out,Qi this]
    go_wp2;exact Qj (v:=.tuple #[.slice (some ⟨z.heap.size,0,none⟩) c.length c.length,.bool true]) (by simp[results,results93,go_sem]) rfl r.out
theorem zpc{T e:TypeId}{B b:Nat}{p:Value}{l:List Value}{w w':World}(h:Lib.BuilderAt T e B b p l w)(hb:Below w.heap.size w w'):Lib.BuilderAt T e B b p l w':=by
 have c:=h.lt;obtain⟨g,v,f,a,d⟩:=h;exact⟨g,v,(hb.block b c).trans f,zaP a hb,d⟩
theorem znX{T e:TypeId}{B b:Nat}{l:List Value}{w w':World}(h:Lib.IsBuilder T e B b l w)(hb:Below w.heap.size w w'):Lib.IsBuilder T e B b l w':=
 h.imp (λx=>zpc x hb) λx=>zpc x hb
theorem zme{T e:TypeId}{B b:Nat}{l:List UInt8}{s:ByteArray}{w:World}{p:Value}(h:Lib.BuilderAt T e B b p (Lib.byteCells l++Lib.strCells s) w):Lib.BuilderAt T e B b p (Lib.byteCells (l++s.data.toList)) w:=by
 rw[Lib.strCells_eq]at h;unfold Lib.byteCells at h ⊢;rw[QU];exact h
def zdU(h:zbh)(w:World)(e:Ending)(w':World):Prop:=
 (zak h=0/\e=.returned (.tuple #[.string (bs (zaT h)),.int .i64 0])/\Below w.heap.size w w')\/(zak h≠0/\e=.returned (.tuple #[.string ByteArray.empty,.int .i64 (zak h)])/\Below w.heap.size w w')
def zju(a:List zao):List UInt8:=a.flatMap λf=>zc4 f++[13,10]
theorem zix:∀(a:List zao),(∀f∈a,f.1.size+f.2.size<=1000)->(zju a).length<=a.length*1004
 | [],_=>by simp[zju]
 |f::r,h=>by
  have ih:=zix r λg b=>h g (by simp[b])
  have h1:=h f (by simp);have c:f.1.data.toList.length=f.1.size:=by simp
  have d:f.2.data.toList.length=f.2.size:=by simp
  unfold zju at ih ⊢;unfold zc4 at ih ⊢;simp only[QM,Qa,Qo,QR]at ih ⊢;omega
theorem zjQ(h:zbh)(a:zih h):(zcD h).length<=1030:=by
 have c:h.m.data.toList.length=h.m.size:=by simp
 have b:h.t.data.toList.length=h.t.size:=by simp
 have:=a.short;have:=a.line;unfold zcD verL;simp only[Qa,Qo,QR];omega
theorem zkA(h:zbh)(a:zih h):(zaT h).length<=31154:=by
 have h1:=zjQ h a;have h2:=zix h.fs a.lens;have b:=a.few;unfold zaT;unfold zju at h2;simp only[Qa,Qo,QR];omega
def PRel(h:zbh)(a:World)(g:Nat)(i:Value)(wr:World):Prop:=
 ∃(k:Nat) (l:List UInt8),k<=h.fs.length/\i=.int .i64 k/\Hid (l=zcD h++[13,10]++zju (h.fs.take k))/\Lib.IsBuilder 142 5 g g (Lib.byteCells l) wr/\Below g a wr
theorem zrG(h:zbh)(A:Option Addr)(c:Nat)(w:World)(P:Sl w w.heap.size 2 A h.fs.length (h.fs.flatMap zaL))(hm:h.m.size<=maxLen)(ht:h.t.size<=maxLen)
 (hs:∀f∈h.fs,f.1.size<=maxLen/\f.2.size<=maxLen) (hl:h.fs.length<=4398046511104):
 Calls prog 42 #[.agg #[.string h.m,.string h.t,.slice A h.fs.length c]] w (zdU h w):=by
 have s:Below w.heap.size w (w.alloc (.cells #[.string h.m,.string h.t,.slice A h.fs.length c] 27)):=WaL;have O:=zeE h A c (w.alloc (.cells #[.string h.m,.string h.t,.slice A h.fs.length c] 27)) ((P.below s).more s.size) hm ht hs hl;have HC:=hIx O;have hr:=hIx s;clear O s
 by_cases D:zak h=0
 ·have B:=zek D
  rw[D]at HC;have h0:=hIx (zjQ h B)
  have h4:Hid (∀k,(zju (h.fs.take k)).length<=30120):=λk=>by
   have h1:=zix (h.fs.take k) λf P=>B.lens f (ZK P)
   have h2:=B.few;rw[Qz]at h1;have:min k h.fs.length*1004<=30*1004:=XM _ (by omega);omega
  have hw:=B.short;have hj:=B.line;have hn:=B.few;have h6:=hIx B.lens;have V:∀W,(Op.stringOp .add h.m (ByteArray.mk #[32])).run prog W=.ok (.string (h.m++ByteArray.mk #[32])) W:=λW=>Xd W _ _ (by show h.m.size+1<=_;omega)
  have y2:∀W,(Op.stringOp .add (h.m++ByteArray.mk #[32]) h.t).run prog W=.ok (.string (h.m++ByteArray.mk #[32]++h.t)) W:=λW=>Xd W _ _ (by rw[Zp];show h.m.size+1+h.t.size<=_;omega)
  have y3:∀W,(Op.stringOp .add (h.m++ByteArray.mk #[32]++h.t) (ByteArray.mk #[32,72,84,84,80,47,49,46,49,13,10])).run prog W=.ok (.string (h.m++ByteArray.mk #[32]++h.t++ByteArray.mk #[32,72,84,84,80,47,49,46,49,13,10])) W:=λW=>Xd W _ _ (by rw[Zp,Zp];show h.m.size+1+h.t.size+11<=_;omega)
  have h9:Hid ((h.m++ByteArray.mk #[32]++h.t++ByteArray.mk #[32,72,84,84,80,47,49,46,49,13,10]).data.toList=zcD h++[13,10]):=by unfold Hid zcD verL;simp
  have ha:Hid ((h.m++ByteArray.mk #[32]++h.t++ByteArray.mk #[32,72,84,84,80,47,49,46,49,13,10]).size<=1100):=by
   unfold Hid;rw[Zp,Zp,Zp];show h.m.size+1+h.t.size+11<=_
   omega
  have h7:=hIx D;clear B D hs hl
  go_in
  go_wp2_with fail;refine HC.out.mono ?_;rintro e d ⟨rfl,j⟩;obtain⟨b0,b1,b2⟩:d.cell? ⟨w.heap.size,0,none⟩=some (.string h.m)/\d.cell? ⟨w.heap.size,1,none⟩=some (.string h.t)/\d.cell? ⟨w.heap.size,2,none⟩=some (.slice A h.fs.length c):=⟨zar j 0,zar j 1,zar j 2⟩
  have a:=zaJ j (Qd _);have u:w.heap.size<d.heap.size:=by have:=j.size;simp at this;omega
  have Q:=Lib.fresh_isBuilder 142 5 d;have q:=(Qg d.heap.size d).alloc (Qd _) (.cells #[.pointer none,.slice none 0 0] 142)
  have T:Hid (∀W,Below d.heap.size d W->(W.cell? ⟨w.heap.size,0,none⟩=some (.string h.m)/\W.cell? ⟨w.heap.size,1,none⟩=some (.string h.t)/\W.cell? ⟨w.heap.size,2,none⟩=some (.slice A h.fs.length c))/\Below w.heap.size w W/\Sl W W.heap.size 2 A h.fs.length (h.fs.flatMap zaL)):=λW hb=>
   ⟨⟨(hb.cell (p:=⟨w.heap.size,0,none⟩) u).trans b0,(hb.cell (p:=⟨w.heap.size,1,none⟩) u).trans b1,(hb.cell (p:=⟨w.heap.size,2,none⟩) u).trans b2⟩,a.trans (hb.mono a.size),(P.below (a.trans (hb.mono a.size))).more (a.trans (hb.mono a.size)).size⟩
  have Z:=hIx (zed d.heap.size d.heap.size [] (h.m++ByteArray.mk #[32]++h.t++ByteArray.mk #[32,72,84,84,80,47,49,46,49,13,10]) (d.alloc (.cells #[.pointer none,.slice none 0 0] 142)) Q (by rw[QR];have:=ha.out;omega) (by simp));have h5:=hIx q;clear j a Q P q;go_wp2_with fail;refine Z.out.mono ?_;rintro e w2 ⟨rfl,z,q⟩;have o:=zme (l:=[]) z;rw[Xa,h9.out]at o;have g:Below d.heap.size d w2:=h5.out.trans q;have hu:d.heap.size<=w2.heap.size:=g.size;obtain⟨⟨c0,c1,c2⟩,_,_⟩:=T.out w2 g;clear b0 b1 b2 z q V y2 y3;go_wp2
  go_loopw [24] (λi wr=>PRel h d d.heap.size i wr) (λi _=>h.fs.length-(intOf i).toNat)
  case atStart=>exact⟨0,_,Qm _,rfl,by unfold Hid zju;rw[XR,XE,QI],.inr o,g⟩
  case round=>
   obtain⟨k,l,hk,rfl,HL,r,hb⟩:=hrel;clear c0 c1 c2 g o;obtain⟨⟨c0,c1,c2⟩,K,H⟩:=T.out wr hb
   have hv:l.length<=31152:=by
    have h1:=h0.out;have h2:=h4.out k;rw[HL.out,Qa,Qa];show (zcD h).length+2+_<=_
    omega
   have N:d.heap.size<=wr.heap.size:=hb.size
   by_cases G:k<h.fs.length
   ·have d1:decide ((k:Int)<(h.fs.length:Int))=true:=Qu (by omega)
    have i7:IntKind.i64.wrap ((k:Int)+1)=(k:Int)+1:=Qx _ (by omega);obtain⟨b,hq,rfl,hp,I,J⟩:=zpj H k G;have HS:=h6.out _ (Qy G)
    have S:Hid (zju (h.fs.take (k+1))=zju (h.fs.take k)++(zc4 h.fs[k]++[13,10])):=by
     unfold Hid zju;rw[Qq G,Q4,QM,XE,QI]
    generalize h.fs[k]=f at I J HS S;obtain⟨n,v⟩:=f;dsimp only at I J HS S;have V:∀W,(Op.stringOp .add n (ByteArray.mk #[58,32])).run prog W=.ok (.string (n++ByteArray.mk #[58,32])) W:=λW=>Xd W _ _ (by show n.size+2<=_;omega)
    have y2:∀W,(Op.stringOp .add (n++ByteArray.mk #[58,32]) v).run prog W=.ok (.string (n++ByteArray.mk #[58,32]++v)) W:=λW=>Xd W _ _ (by rw[Zp];show n.size+2+v.size<=_;omega)
    have y3:∀W,(Op.stringOp .add (n++ByteArray.mk #[58,32]++v) (ByteArray.mk #[13,10])).run prog W=.ok (.string (n++ByteArray.mk #[58,32]++v++ByteArray.mk #[13,10])) W:=λW=>Xd W _ _ (by rw[Zp,Zp];show n.size+2+v.size+2<=_;omega)
    have L:(n++ByteArray.mk #[58,32]++v++ByteArray.mk #[13,10]).data.toList=zc4 (n,v)++[13,10]:=by unfold zc4;simp
    have h8:(n++ByteArray.mk #[58,32]++v++ByteArray.mk #[13,10]).size<=1004:=by
     rw[Zp,Zp,Zp];show n.size+2+v.size+2<=_
     omega
    have F:=(Qg wr.heap.size wr).alloc (Qd _) (.cells #[.string n,.string v] 133);have HW:=hIx (zed d.heap.size d.heap.size (Lib.byteCells l) (n++ByteArray.mk #[58,32]++v++ByteArray.mk #[13,10]) (wr.alloc (.cells #[.string n,.string v] 133)) (znX r F) (by rw[Lib.byteCells_length];omega) (by simp;omega));have X:=hIx L;have U:Below d.heap.size d (wr.alloc (.cells #[.string n,.string v] 133)):=hb.trans (F.mono N);have Y:=hIx U;clear L h8 F r hb U H K;go_wp2_with fail;refine HW.out.mono ?_;rintro e w3 ⟨rfl,C,g⟩;have E:=zme C;rw[X.out]at E;have y:Below d.heap.size d w3:=Y.out.trans g;clear C g c0 c1 c2 I J V y2 y3;go_wp2_with fail
    go_roundw
    case rel=>exact⟨k+1,_,by omega,by go_num,by unfold Hid;rw[HL.out,S.out,QH],.inr E,y⟩
    case measure=>simp[intOf] <;> omega
   ·obtain rfl:k=h.fs.length:=by omega
    have d1:decide ((h.fs.length:Int)<(h.fs.length:Int))=false:=by simp
    have he:=hIx (Builder_String_any d.heap.size d.heap.size l wr r N);have hd:=hIx K;have V:∀W,(Op.stringOp .add (ByteArray.mk l.toArray) (ByteArray.mk #[13,10])).run prog W=.ok (.string (ByteArray.mk l.toArray++ByteArray.mk #[13,10])) W:=λW=>Xd W _ _ (by show l.length+2<=_;omega)
    have L:(ByteArray.mk l.toArray++ByteArray.mk #[13,10])=bs (zaT h):=by
     show bs l++bs [13,10]=_
     rw[zmI,HL.out,QV]
     rfl
    clear r hb H K;go_wp2_with fail;refine he.out.mono ?_;rintro e w3 ⟨rfl,g⟩;have y:=hd.out.trans (g.mono (Q5 u));have hg:(ByteArray.mk l.toArray).size=l.length:=rfl;have HP:Hid (zdU h w (.returned (.tuple #[.string (ByteArray.mk l.toArray++ByteArray.mk #[13,10]),.int .i64 0])) w3):=.inl ⟨h7.out,by rw[L],y⟩;clear L y g;go_wp2;exact Qj (v:=.tuple #[.string (ByteArray.mk l.toArray++ByteArray.mk #[13,10]),.int .i64 0]) (by simp[results,results42,go_sem]) rfl HP.out
 ·have S:=hIx D
  have hi:(zak h==0)=false:=Qb.2 D;have hh:(zak h != 0)=true:=Q6.2 D;have h3:Hid (zak h=zak h):=rfl;generalize hx:zak h=x at *;have X:=hIx hx;clear D hx h3
  go_in
  go_wp2_with fail;refine HC.out.mono ?_;rintro e d ⟨rfl,j⟩;have a:=zaJ j (Qd _);clear j;go_wp2;exact Qj (v:=.tuple #[.string ByteArray.empty,.int .i64 x]) (by simp[results,results42,go_sem];rfl) rfl (.inr ⟨by rw[X.out];exact S.out,by rw[X.out],a⟩)
