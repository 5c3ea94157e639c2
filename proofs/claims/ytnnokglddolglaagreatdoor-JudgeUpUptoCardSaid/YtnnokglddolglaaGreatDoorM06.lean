/- Lemmas for the last texts. -/
import Derived.Test.YtnnokglddolglaaGreatDoorM03
import Derived.Lib.IndexBytes
import Derived.Lib.SplitLaws
import Derived.Laws.Bits64b
set_option maxHeartbeats 6400000
set_option maxRecDepth 100000
namespace Go.Proofs.YtnnokglddolglaaGreatDoor
open Go.RowKit Go.Proofs.Tryz
structure RS where
 pos:Nat
 op:Nat
 e:Int
def RdAt(g:Nat)(s:ByteArray)(r:RS)(w:World):Prop:=w.heap[g]? = some (.cells #[.string s,.int .i64 r.pos,.int .i64 r.op,.int .i64 r.e] 229 (0,0))
theorem RdAt.cells{g:Nat}{s:ByteArray}{r:RS}{w:World}(h:RdAt g s r w):w.cell? ⟨g,0,none⟩=some (.string s)/\w.cell? ⟨g,1,none⟩=some (.int .i64 r.pos)/\w.cell? ⟨g,2,none⟩=some (.int .i64 r.op)/\w.cell? ⟨g,3,none⟩=some (.int .i64 r.e):=
 ⟨Qf w g 0 _ _ _ h,Qf w g 1 _ _ _ h,Qf w g 2 _ _ _ h,Qf w g 3 _ _ _ h⟩
theorem RdAt.free{g:Nat}{s:ByteArray}{r:RS}{w:World}(h:RdAt g s r w)(j:Nat):w.frozen? ⟨g,j,none⟩=false:=by
 unfold RdAt at h;simp[World.frozen?, h]
theorem RdAt.lt{g:Nat}{s:ByteArray}{r:RS}{w:World}(h:RdAt g s r w):g<w.heap.size:=by
 rcases ZN g w.heap.size with a|a
 ·exact a
 ·unfold RdAt at h;simp[Z1 a]at h
theorem RdAt.drew{g:Nat}{s:ByteArray}{r:RS}{w:World}(h:RdAt g s r w)(n:Nat):RdAt g s r (w.drewN n):=h
theorem RdAt.below{g:Nat}{s:ByteArray}{r:RS}{w w':World}(h:RdAt g s r w)(hb:Below w.heap.size w w'):RdAt g s r w':=(hb.block g h.lt).trans h
theorem RdAt.setPos{g:Nat}{s:ByteArray}{r:RS}{w:World}(h:RdAt g s r w)(n:Nat):RdAt g s {r with pos:=n} (w.setCell ⟨g,1,none⟩ (.int .i64 n)):=by
 unfold RdAt at h ⊢;simp only[World.setCell,Q8,h]
 rfl
theorem RdAt.setE{g:Nat}{s:ByteArray}{r:RS}{w:World}(h:RdAt g s r w)(n:Int):RdAt g s {r with e:=n} (w.setCell ⟨g,3,none⟩ (.int .i64 n)):=by
 unfold RdAt at h ⊢;simp only[World.setCell,Q8,h]
 rfl
theorem RdAt.setOp{g:Nat}{s:ByteArray}{r:RS}{w:World}(h:RdAt g s r w)(n:Nat):RdAt g s {r with op:=n} (w.setCell ⟨g,2,none⟩ (.int .i64 n)):=by
 unfold RdAt at h ⊢;simp only[World.setCell,Q8,h]
 rfl
def RdEnd(g:Nat)(s:ByteArray)(r:RS)(w w':World):Prop:=RdAt g s r w'/\w.grownBy w' (some g)
theorem RdEnd.drew{g:Nat}{s:ByteArray}{r:RS}{w:World}(h:RdAt g s r w)(n:Nat):RdEnd g s r w (w.drewN n):=⟨h,rfl,rfl,rfl,Qd _,λ_ _ _=>rfl⟩
theorem zaU(w:World)(row:Option Nat):w.grownBy w row:=⟨rfl,rfl,rfl,Qd _,λ_ _ _=>rfl⟩
def zad(s:List UInt8)(r:RS):Int:=if r.e=0 then (match s[r.pos]? with|some b=>(b.toNat:Int)|none=>-1)else -1
def zaA(r:RS)(e:Int):RS:=if r.e=0 then {r with e:=e}else r
def zaH(s:List UInt8)(r:RS)(b:Int):Bool × RS:=if zad s r=b then (true,{r with pos:=r.pos+1})else (false,r)
def zgx(s:List UInt8)(r:RS):Bool:=decide (zad s r<0)||(decide (zad s r=124)||decide (zad s r=41))
theorem zgc(g:Nat)(s:ByteArray)(r:RS)(w:World)(h:RdAt g s r w)(q:r.pos<=s.size):
 Calls prog 218 #[.pointer (some ⟨g,0,none⟩)] w λe w'=>e=.returned (.int .i64 (zad s.data.toList r))/\∃n,w'=w.drewN n:=by
 have ⟨c0,c1,c2,c3⟩:=h.cells;have H:=hIx h
 by_cases d:r.e=0
 ·have o:(r.e != 0)=false:=by rw[d];rfl
  rcases ZN r.pos s.size with i|m
  ·have k:((r.pos:Int)==(s.size:Int))=false:=by rw[Qb];omega
   have f:Hid (zad s.data.toList r=(s[r.pos].toNat:Int)):=by
    unfold Hid zad;rw[Qi d,XL s r.pos i]
   clear h d
   go_in
   go_wp2_with fail
   go_quiet (fail)
   obtain⟨b,a⟩:∃b,w.drewN nq=b:=⟨_,rfl⟩
   have c:Hid (RdAt g s r b/\∃n,b=w.drewN n):=by rw[<-a];exact⟨H.out.drew nq,nq,rfl⟩
   rw[a];have ⟨c0,c1,c2,c3⟩:=c.out.1.cells;clear a;go_wp2_with fail
   go_quiet (fail)
   go_wp2;exact Qj (v:=.int .i64 (s[r.pos].toNat:Int)) (by simp[results,results218,go_sem];exact IntWalk.wrap64_in (s[r.pos].toNat:Int) (by have:=s[r.pos].toNat_lt;omega)) rfl ⟨by rw[f.out],by obtain⟨n,p⟩:=c.out.2;exact⟨n+nq,by rw[p,World.drewN_drewN]⟩⟩
  ·obtain j:r.pos=s.size:=by omega
   have k:((r.pos:Int)==(s.size:Int))=true:=by rw[Zk];omega
   have f:Hid (zad s.data.toList r=-1):=by
    unfold Hid zad;rw[Qi d,List.getElem?_eq_none (by simp;omega)]
   clear h d j
   go_in
   go_wp2_with fail
   go_quiet (fail)
   obtain⟨b,a⟩:∃b,w.drewN nq=b:=⟨_,rfl⟩
   have c:Hid (RdAt g s r b/\∃n,b=w.drewN n):=by rw[<-a];exact⟨H.out.drew nq,nq,rfl⟩
   rw[a];have ⟨c0,c1,c2,c3⟩:=c.out.1.cells;clear a;go_wp2;exact Qj (v:=.int .i64 (-1)) (by simp[results,results218,go_sem]) rfl ⟨by rw[f.out],c.out.2⟩
 ·have o:(r.e != 0)=true:=Q6.2 d
  have f:Hid (zad s.data.toList r=-1):=by
   unfold Hid zad;rw[Qe d]
  clear h d
  go_in
  by_cases l:r.pos=s.size
  ·have k:((r.pos:Int)==(s.size:Int))=true:=by rw[Zk];omega
   clear l;go_wp2_with fail
   go_quiet (fail)
   obtain⟨b,a⟩:∃b,w.drewN nq=b:=⟨_,rfl⟩
   have c:Hid (RdAt g s r b/\∃n,b=w.drewN n):=by rw[<-a];exact⟨H.out.drew nq,nq,rfl⟩
   rw[a];have ⟨c0,c1,c2,c3⟩:=c.out.1.cells;clear a;go_wp2;exact Qj (v:=.int .i64 (-1)) (by simp[results,results218,go_sem]) rfl ⟨by rw[f.out],c.out.2⟩
  ·have k:((r.pos:Int)==(s.size:Int))=false:=by rw[Qb];omega
   clear l;go_wp2_with fail
   go_quiet (fail)
   obtain⟨b,a⟩:∃b,w.drewN nq=b:=⟨_,rfl⟩
   have c:Hid (RdAt g s r b/\∃n,b=w.drewN n):=by rw[<-a];exact⟨H.out.drew nq,nq,rfl⟩
   rw[a];have ⟨c0,c1,c2,c3⟩:=c.out.1.cells;clear a;go_wp2;exact Qj (v:=.int .i64 (-1)) (by simp[results,results218,go_sem]) rfl ⟨by rw[f.out],c.out.2⟩
theorem zeM(g:Nat)(s:ByteArray)(r:RS)(w:World)(h:RdAt g s r w)(a:r.pos<=s.size):
 Calls prog 218 #[.pointer (some ⟨g,0,none⟩)] w λe w'=>e=.returned (.int .i64 (zad s.data.toList r))/\RdEnd g s r w w':=
 (zgc g s r w h a).mono λe w' ⟨h1,n,h2⟩=>⟨h1,by rw[h2];exact RdEnd.drew h n⟩
theorem zcn(g:Nat)(s:ByteArray)(r:RS)(x:Int)(w:World)(h:RdAt g s r w):
 Calls prog 138 #[.pointer (some ⟨g,0,none⟩),.int .i64 x] w λe w'=>e=.returned (.tuple #[])/\RdEnd g s (zaA r x) w w':=by
 have ⟨c0,c1,c2,c3⟩:=h.cells;have d:=h.free 3
 by_cases a:r.e=0
 ·have c:(r.e==0)=true:=by rw[a];rfl
  have b:Hid (RdEnd g s (zaA r x) w (w.setCell ⟨g,3,none⟩ (.int .i64 x))):=by unfold Hid zaA;rw[Qi a];exact⟨h.setE x,zan (zaU w _) 3 _⟩
  clear h a
  go_in
  go_wp2;exact bodyPost_end (v:=.tuple #[]) (by simp[results,results138,go_sem]) rfl ⟨rfl,b.out⟩
 ·have c:(r.e==0)=false:=Qb.2 a
  have b:Hid (RdEnd g s (zaA r x) w w):=by unfold Hid zaA;rw[Qe a];exact⟨h,zaU w _⟩
  clear h a
  go_in
  go_wp2;exact bodyPost_end (v:=.tuple #[]) (by simp[results,results138,go_sem]) rfl ⟨rfl,b.out⟩
theorem RdEnd.trans{g:Nat}{s:ByteArray}{b:RS}{w a w2:World}(h:w.grownBy a (some g))(k:RdEnd g s b a w2):RdEnd g s b w w2:=⟨k.1,zay h k.2⟩
theorem zaQ{s:List UInt8}{r:RS}{b:Int}(h:zad s r=b)(hb:0<=b):r.pos<s.length/\r.e=0:=by
 unfold zad at h
 split at h
 ·rename_i c
  cases a:s[r.pos]? with
  |none=>rw[a]at h;dsimp only at h;omega
  |some y=>exact⟨(Qw.1 a).1,c⟩
 ·omega
theorem zcM(g:Nat)(s:ByteArray)(r:RS)(b:Int)(w:World)(h:RdAt g s r w)(k:r.pos<=s.size)(n:s.size<=4096):
 Calls prog 175 #[.pointer (some ⟨g,0,none⟩),.int .i64 b] w λe w'=>e=.returned (.bool (zaH s.data.toList r b).1)/\RdEnd g s (zaH s.data.toList r b).2 w w':=by
 have c:=hIx (zeM g s r w h k);clear h
 by_cases hb:zad s.data.toList r=b
 ·have j:(zad s.data.toList r != b)=false:=by rw[hb];simp
  have m:IntKind.i64.wrap ((r.pos:Int)+1)=((r.pos+1:Nat):Int):=Qx _ (by omega);have a:Hid (zaH s.data.toList r b=(true,{r with pos:=r.pos+1})):=by unfold Hid zaH;rw[Qi hb]
  go_in
  go_wp2_with (go_at_call 218;apply Hid.out);refine WhM c ?_;rintro e f ⟨rfl,h1,i⟩;have ⟨c0,c1,c2,c3⟩:=h1.cells;have l:=h1.free 1;have d:Hid (RdEnd g s {r with pos:=r.pos+1} w (f.setCell ⟨g,1,none⟩ (.int .i64 ((r.pos+1:Nat):Int)))):=⟨h1.setPos _,zan i 1 _⟩
  clear hb h1 i c;go_wp2;exact Qj (v:=.bool true) (by simp[results,results175,go_sem]) rfl ⟨by rw[a.out],by rw[a.out];exact d.out⟩
 ·have j:(zad s.data.toList r != b)=true:=Q6.2 hb
  have a:Hid (zaH s.data.toList r b=(false,r)):=by unfold Hid zaH;rw[Qe hb]
  clear hb
  go_in
  go_wp2_with (go_at_call 218;apply Hid.out);refine WhM c ?_;rintro e f ⟨rfl,h1⟩;have d:=hIx h1;clear h1 c;go_wp2;exact Qj (v:=.bool false) (by simp[results,results175,go_sem]) rfl ⟨by rw[a.out],by rw[a.out];exact d.out⟩
theorem znB(g:Nat)(s:ByteArray)(r:RS)(w:World)(h:RdAt g s r w)(k:r.pos<=s.size):
 Calls prog 216 #[.pointer (some ⟨g,0,none⟩)] w λe w'=>e=.returned (.bool (zgx s.data.toList r))/\RdEnd g s r w w':=by
 have i:=hIx (zeM g s r w h k);have a:Hid (zgx s.data.toList r=(decide (zad s.data.toList r<0)||(decide (zad s.data.toList r=124)||decide (zad s.data.toList r=41)))):=rfl;generalize zgx s.data.toList r=R at *;generalize zad s.data.toList r=N at *;clear h
 go_in
 go_wp2_with (go_at_call 218;apply Hid.out);refine WhM i ?_;rintro e l ⟨rfl,h1⟩;have f:=hIx h1;clear h1 i
 by_cases c:N<0
 ·have d:decide (N<0)=true:=Qu c
  rw[d,Bool.true_or]at a;clear c;go_wp2;exact Qj (v:=.bool true) (by simp[results,results216,go_sem]) rfl ⟨by rw[a.out],f.out⟩
 ·have d:decide (N<0)=false:=Qs c
  rw[d,Bool.false_or]at a;clear c
  by_cases b:N=124
  ·have j:(N==124)=true:=by rw[b];rfl
   rw[Qu b,Bool.true_or]at a;clear b;go_wp2;exact Qj (v:=.bool true) (by simp[results,results216,go_sem]) rfl ⟨by rw[a.out],f.out⟩
  ·have j:(N==124)=false:=Qb.2 b
   rw[Qs b,Bool.false_or]at a;clear b;go_wp2;exact Qj (v:=.bool (N==41)) (by simp[results,results216,go_sem]) rfl ⟨by rw[a.out,Bool.beq_eq_decide_eq],f.out⟩
def hexL:List UInt8:=[48,49,50,51,52,53,54,55,56,57,97,98,99,100,101,102]
def zaN(s:List UInt8)(r:RS):Int × RS:=
 if zad s r<0 then (0,zaA r 3)
 else if Lib.indexByte hexL (zad s r).toNat.toUInt8<0 then (0,zaA r 3)
 else (Lib.indexByte hexL (zad s r).toNat.toUInt8,{r with pos:=r.pos+1})
theorem zdr{s:List UInt8}{r:RS}:-1<=zad s r/\zad s r<=255:=by
 unfold zad
 split
 ·cases s[r.pos]? with
  |none=>dsimp only;omega
  |some b=>dsimp only;have:=b.toNat_lt;omega
 ·omega
theorem zkf(g:Nat)(s:ByteArray)(r:RS)(w:World)(h:RdAt g s r w)(u:r.pos<=s.size)(B:s.size<=4096):
 Calls prog 307 #[.pointer (some ⟨g,0,none⟩)] w λe w'=>e=.returned (.int .i64 (zaN s.data.toList r).1)/\RdEnd g s (zaN s.data.toList r).2 w w':=by
 have n:=hIx (zeM g s r w h u);have x:=zdr (s:=s.data.toList) (r:=r);have a:0<=zad s.data.toList r->r.pos<s.size:=λh=>by have:=(zaQ rfl h).1;simpa using this
 have b:Hid (zaN s.data.toList r=if zad s.data.toList r<0 then (0,zaA r 3)
 else if Lib.indexByte hexL (zad s.data.toList r).toNat.toUInt8<0 then (0,zaA r 3)
 else (Lib.indexByte hexL (zad s.data.toList r).toNat.toUInt8,{r with pos:=r.pos+1})):=rfl
 have f:Hid (∀W,RdAt g s r W->Calls prog 138 #[.pointer (some ⟨g,0,none⟩),.int .i64 3] W λe w'=>e=.returned (.tuple #[])/\RdEnd g s (zaA r 3) W w'):=λW h=>zcn g s r 3 W h
 generalize zaN s.data.toList r=R at *;generalize zad s.data.toList r=N at *;clear h
 go_in
 go_wp2_with (go_at_call 218;apply Hid.out);refine WhM n ?_;rintro e l ⟨rfl,h1,m⟩;have k:=hIx m;clear n m
 by_cases i:N<0
 ·have t:decide (N<0)=true:=Qu i
  rw[Qi i]at b;have c:=hIx (f.out l h1);clear i h1 f a;go_wp2_with (go_at_call 138;apply Hid.out);refine WhM c ?_;rintro e w2 ⟨rfl,h2⟩;have j:=hIx (RdEnd.trans k.out h2);clear h2;go_wp2;exact Qj (v:=.int .i64 0) (by simp[results,results307,go_sem]) rfl ⟨by rw[b.out],by rw[b.out];exact j.out⟩
 have t:decide (N<0)=false:=Qs i;rw[Qe i]at b;have p:=a (by omega);have y:IntKind.u8.wrap N=N:=by rw[show IntKind.u8.wrap N=N % 256 from rfl];omega
 have q:Hid (∀W,Calls prog 122 #[.string (.mk #[48,49,50,51,52,53,54,55,56,57,97,98,99,100,101,102]),.int .u8 N] W λe w'=>e=.returned (.int .i64 (Lib.indexByte hexL N.toNat.toUInt8))/\w'=W):=λW=>strings_IndexByte _ N W
 generalize Lib.indexByte hexL N.toNat.toUInt8=K at *;go_wp2_with (go_at_call 122;apply Hid.out);unfold Hid;refine(q.out l).mono ?_;rintro e w2 ⟨rfl,rfl⟩
 by_cases d:K<0
 ·have o:decide (K<0)=true:=Qu d
  rw[Qi d]at b;have c:=hIx (f.out w2 h1);clear d h1 f a;go_wp2_with (go_at_call 138;apply Hid.out);refine WhM c ?_;rintro e w3 ⟨rfl,h2⟩;have j:=hIx (RdEnd.trans k.out h2);clear h2;go_wp2;exact Qj (v:=.int .i64 0) (by simp[results,results307,go_sem]) rfl ⟨by rw[b.out],by rw[b.out];exact j.out⟩
 ·have o:decide (K<0)=false:=Qs d
  rw[Qe d]at b;have A:IntKind.i64.wrap ((r.pos:Int)+1)=((r.pos+1:Nat):Int):=Qx _ (by omega);have ⟨c0,c1,c2,c3⟩:=h1.cells;have z:=h1.free 1;have j:Hid (RdEnd g s {r with pos:=r.pos+1} w (w2.setCell ⟨g,1,none⟩ (.int .i64 ((r.pos+1:Nat):Int)))):=⟨h1.setPos _,zan k.out 1 _⟩
  clear d h1 f a;go_wp2;exact Qj (v:=.int .i64 K) (by simp[results,results307,go_sem]) rfl ⟨by rw[b.out],by rw[b.out];exact j.out⟩
def zus:List UInt8:=[40,41,91,93,124,42,43,63,46,94,36,45,92]
def zfS(b:Int):Bool:=decide (0<=Lib.indexByte zus b.toNat.toUInt8)
def zxx(s:List UInt8)(r:RS):Int × RS:=
 if zad s r<33 then (0,zaA r 3)else if 126<zad s r then (0,zaA r 3)else if zfS (zad s r)=true then (0,zaA r 3)else (zad s r,{r with pos:=r.pos+1})
def escR(s:List UInt8)(r:RS):Int × RS:=
 if zad s r=110 then (10,{r with pos:=r.pos+1})
 else if zad s r=116 then (9,{r with pos:=r.pos+1})
 else if zad s r=114 then (13,{r with pos:=r.pos+1})
 else if zad s r=120 then ((zaN s {r with pos:=r.pos+1}).1*16+(zaN s (zaN s {r with pos:=r.pos+1}).2).1,(zaN s (zaN s {r with pos:=r.pos+1}).2).2)
 else if zad s r<0 then (0,zaA r 3)else if zfS (zad s r)=true then (zad s r,{r with pos:=r.pos+1})else (0,zaA r 3)
def zbi(s:List UInt8)(r:RS):Int × RS:=if zad s r=92 then escR s {r with pos:=r.pos+1}else zxx s r
theorem zqG{s:List UInt8}{r:RS}(h:r.pos<=s.length):(zaN s r).2.pos<=s.length:=by
 have a:(zaA r 3).pos=r.pos:=by unfold zaA;split <;> rfl
 unfold zaN
 split
 ·show (zaA r 3).pos<=_;omega
 ·rename_i h1
  split
  ·show (zaA r 3).pos<=_;omega
  ·have:=(zaQ (s:=s) (r:=r) rfl (by omega)).1
   show r.pos+1<=_
   omega
theorem zkX(l:List UInt8)(b:UInt8):Lib.indexByte l b<=l.length:=by
 have h1:=Lib.indexByte_ge l b
 rcases Int.lt_or_le (Lib.indexByte l b) 0 with h|h
 ·omega
 ·obtain⟨o,a⟩:∃o:Nat,Lib.indexByte l b=o:=⟨(Lib.indexByte l b).toNat,by omega⟩
  have:=(Qw.1 (Lib.indexByte_some a).1).1;omega
theorem zj9{s:List UInt8}{r:RS}:0<=(zaN s r).1/\(zaN s r).1<=16:=by
 unfold zaN
 split
 ·exact⟨Zw _,by show (0:Int)<=16;decide⟩
 ·split
  ·exact⟨Zw _,by show (0:Int)<=16;decide⟩
  ·rename_i h1 h2
   have:=zkX hexL (zad s r).toNat.toUInt8;exact⟨by show 0<=Lib.indexByte hexL _;omega,by show Lib.indexByte hexL _<=16;exact this⟩
theorem zeh(g:Nat)(s:ByteArray)(r:RS)(w:World)(h:RdAt g s r w)(hp:r.pos<=s.size)(hs:s.size<=4096):
 Calls prog 290 #[.pointer (some ⟨g,0,none⟩)] w λe w'=>e=.returned (.int .i64 (zbi s.data.toList r).1)/\RdEnd g s (zbi s.data.toList r).2 w w':=by
 have I:=hIx (zeM g s r w h hp);have h8:=zdr (s:=s.data.toList) (r:=r);have hj:s.data.toList.length=s.size:=by simp
 have i:0<=zad s.data.toList r->r.pos<s.size:=λh=>by have:=(zaQ rfl h).1;omega
 have X:Hid (zbi s.data.toList r=if zad s.data.toList r=92 then escR s.data.toList {r with pos:=r.pos+1}else if zad s.data.toList r<33 then (0,zaA r 3)else if 126<zad s.data.toList r then (0,zaA r 3)else if zfS (zad s.data.toList r)=true then (0,zaA r 3)else (zad s.data.toList r,{r with pos:=r.pos+1})):=rfl;have y:Hid (∀(N:Int) W,Calls prog 122 #[.string (.mk #[40,41,91,93,124,42,43,63,46,94,36,45,92]),.int .u8 N] W λe w'=>e=.returned (.int .i64 (Lib.indexByte zus N.toNat.toUInt8))/\w'=W):=λN W=>strings_IndexByte _ N W
 have c:Hid (∀N:Int,zfS N=decide (0<=Lib.indexByte zus N.toNat.toUInt8)):=λ_=>rfl
 generalize zbi s.data.toList r=R at *;generalize zad s.data.toList r=N at *;clear h
 go_in
 go_wp2_with (go_at_call 218;apply Hid.out);unfold Hid;refine(I.out).mono ?_;rintro e w1 ⟨rfl,h1,hk⟩;have D:=hIx hk;clear I hk
 by_cases Q:N=92
 rotate_left
 ·have d0:(N != 92)=true:=Q6.2 Q
  have k:Hid (∀W,RdAt g s r W->Calls prog 138 #[.pointer (some ⟨g,0,none⟩),.int .i64 3] W λe w'=>e=.returned (.tuple #[])/\RdEnd g s (zaA r 3) W w'):=λW h=>zcn g s r 3 W h
  have a:Hid (R=if N<33 then (0,zaA r 3)else if 126<N then (0,zaA r 3)else if zfS N=true then (0,zaA r 3)else (N,{r with pos:=r.pos+1})):=by unfold Hid;rw[X.out,Qe Q]
  clear X Q
  by_cases x:N<33
  ·have d1:decide (N<33)=true:=Qu x
   rw[Qi x]at a;clear x i y c;have j:=hIx (k.out w1 h1);clear h1 k;go_wp2_with (go_at_call 138;apply Hid.out);unfold Hid;refine(j.out).mono ?_;rintro e wf ⟨rfl,t⟩;have f:=hIx (RdEnd.trans D.out t);clear t;go_wp2;exact Qj (v:=.int .i64 0) (by simp[results,results290,go_sem]) rfl ⟨by rw[a.out],by rw[a.out];exact f.out⟩
  have d1:decide (N<33)=false:=Qs x;rw[Qe x]at a
  by_cases E:126<N
  ·have d2:decide (126<N)=true:=Qu E
   rw[Qi E]at a;clear x E i y c;have j:=hIx (k.out w1 h1);clear h1 k;go_wp2_with (go_at_call 138;apply Hid.out);unfold Hid;refine(j.out).mono ?_;rintro e wf ⟨rfl,t⟩;have f:=hIx (RdEnd.trans D.out t);clear t;go_wp2;exact Qj (v:=.int .i64 0) (by simp[results,results290,go_sem]) rfl ⟨by rw[a.out],by rw[a.out];exact f.out⟩
  have d2:decide (126<N)=false:=Qs E;rw[Qe E,c.out N]at a;have P:=i (by omega);have i8:IntKind.u8.wrap N=N:=by rw[show IntKind.u8.wrap N=N % 256 from rfl];omega
  have m:=hIx (y.out N);generalize Lib.indexByte zus N.toNat.toUInt8=K at *;clear y c x E i;go_wp2_with (go_at_call 122;apply Hid.out);unfold Hid;refine(m.out w1).mono ?_;rintro e w2 ⟨rfl,rfl⟩
  by_cases z:0<=K
  ·have B:decide (0<=K)=true:=Qu z
   rw[B,Qi rfl]at a;clear z m;have j:=hIx (k.out w2 h1);clear h1 k;go_wp2_with (go_at_call 138;apply Hid.out);unfold Hid;refine(j.out).mono ?_;rintro e wf ⟨rfl,t⟩;have f:=hIx (RdEnd.trans D.out t);clear t;go_wp2;exact Qj (v:=.int .i64 0) (by simp[results,results290,go_sem]) rfl ⟨by rw[a.out],by rw[a.out];exact f.out⟩
  ·have B:decide (0<=K)=false:=Qs z
   rw[B,Qe (by decide)]at a;have i7:IntKind.i64.wrap ((r.pos:Int)+1)=((r.pos+1:Nat):Int):=Qx _ (by omega);clear z m k;have ⟨c0,c1,c2,c3⟩:=h1.cells;have A:=h1.free 1;have f:Hid (RdEnd g s {r with pos:=r.pos+1} w (w2.setCell ⟨g,1,none⟩ (.int .i64 ((r.pos+1:Nat):Int)))):=⟨h1.setPos _,zan D.out 1 _⟩
   clear h1;go_wp2;exact Qj (v:=.int .i64 N) (by simp[results,results290,go_sem]) rfl ⟨by rw[a.out],by rw[a.out];exact f.out⟩
 ·have P:=i (by omega)
  have a:Hid (R=escR s.data.toList {r with pos:=r.pos+1}):=by unfold Hid;rw[X.out,Qi Q]
  subst Q;have i7:IntKind.i64.wrap ((r.pos:Int)+1)=((r.pos+1:Nat):Int):=Qx _ (by omega);have ⟨c0,c1,c2,c3⟩:=h1.cells;have A:=h1.free 1;have h2:=h1.setPos (r.pos+1);have F:=zan D.out 1 (.int .i64 ((r.pos+1:Nat):Int));have ha:({r with pos:=r.pos+1}:RS).pos<=s.size:=P;generalize hq:({r with pos:=r.pos+1}:RS)=q at *;have I:=hIx (zeM g s q _ h2 ha);have hd:=zdr (s:=s.data.toList) (r:=q);have d:0<=zad s.data.toList q->q.pos<s.size:=λh=>by have:=(zaQ rfl h).1;omega
  have U:Hid (escR s.data.toList q=if zad s.data.toList q=110 then (10,{q with pos:=q.pos+1})
   else if zad s.data.toList q=116 then (9,{q with pos:=q.pos+1})
   else if zad s.data.toList q=114 then (13,{q with pos:=q.pos+1})
   else if zad s.data.toList q=120 then ((zaN s.data.toList {q with pos:=q.pos+1}).1*16+(zaN s.data.toList (zaN s.data.toList {q with pos:=q.pos+1}).2).1,(zaN s.data.toList (zaN s.data.toList {q with pos:=q.pos+1}).2).2)
   else if zad s.data.toList q<0 then (0,zaA q 3)else if zfS (zad s.data.toList q)=true then (zad s.data.toList q,{q with pos:=q.pos+1})else (0,zaA q 3)):=rfl
  have T:=a;clear a
  have a:Hid (R=if zad s.data.toList q=110 then (10,{q with pos:=q.pos+1})
   else if zad s.data.toList q=116 then (9,{q with pos:=q.pos+1})
   else if zad s.data.toList q=114 then (13,{q with pos:=q.pos+1})
   else if zad s.data.toList q=120 then ((zaN s.data.toList {q with pos:=q.pos+1}).1*16+(zaN s.data.toList (zaN s.data.toList {q with pos:=q.pos+1}).2).1,(zaN s.data.toList (zaN s.data.toList {q with pos:=q.pos+1}).2).2)
   else if zad s.data.toList q<0 then (0,zaA q 3)else if zfS (zad s.data.toList q)=true then (zad s.data.toList q,{q with pos:=q.pos+1})else (0,zaA q 3)):=by unfold Hid;rw[T.out,U.out]
  have k:Hid (∀W,RdAt g s q W->Calls prog 138 #[.pointer (some ⟨g,0,none⟩),.int .i64 3] W λe w'=>e=.returned (.tuple #[])/\RdEnd g s (zaA q 3) W w'):=λW h=>zcn g s q 3 W h
  generalize zad s.data.toList q=M at *;have i9:IntKind.i64.wrap ((q.pos:Int)+1)=((q.pos+1:Nat):Int):=Qx _ (by omega);have H:=hIx F;clear X T U h8 i h1 h2 F hq D;go_wp2_with (go_at_call 218;apply Hid.out);unfold Hid;refine(I.out).mono ?_;rintro e w2 ⟨rfl,b,L⟩;have l:=hIx (zay H.out L);clear I L H c0 c1 c2 c3 A
  by_cases n:M=110
  ·subst n
   rw[Qi rfl]at a;clear y c k;have ⟨c0,c1,c2,c3⟩:=b.cells;have A:=b.free 1;have f:Hid (RdEnd g s {q with pos:=q.pos+1} w (w2.setCell ⟨g,1,none⟩ (.int .i64 ((q.pos+1:Nat):Int)))):=⟨b.setPos _,zan l.out 1 _⟩
   clear b;go_wp2;exact Qj (v:=.int .i64 10) (by simp[results,results290,go_sem]) rfl ⟨by rw[a.out],by rw[a.out];exact f.out⟩
  have he:(M==110)=false:=Qb.2 n;rw[Qe n]at a;clear n
  by_cases p:M=116
  ·subst p
   rw[Qi rfl]at a;clear y c k;have ⟨c0,c1,c2,c3⟩:=b.cells;have A:=b.free 1;have f:Hid (RdEnd g s {q with pos:=q.pos+1} w (w2.setCell ⟨g,1,none⟩ (.int .i64 ((q.pos+1:Nat):Int)))):=⟨b.setPos _,zan l.out 1 _⟩
   clear b;go_wp2;exact Qj (v:=.int .i64 9) (by simp[results,results290,go_sem]) rfl ⟨by rw[a.out],by rw[a.out];exact f.out⟩
  have hh:(M==116)=false:=Qb.2 p;rw[Qe p]at a;clear p
  by_cases o:M=114
  ·subst o
   rw[Qi rfl]at a;clear y c k;have ⟨c0,c1,c2,c3⟩:=b.cells;have A:=b.free 1;have f:Hid (RdEnd g s {q with pos:=q.pos+1} w (w2.setCell ⟨g,1,none⟩ (.int .i64 ((q.pos+1:Nat):Int)))):=⟨b.setPos _,zan l.out 1 _⟩
   clear b;go_wp2;exact Qj (v:=.int .i64 13) (by simp[results,results290,go_sem]) rfl ⟨by rw[a.out],by rw[a.out];exact f.out⟩
  have hg:(M==114)=false:=Qb.2 o;rw[Qe o]at a;clear o
  by_cases u:M=120
  ·subst u
   rw[Qi rfl]at a;have Y:=d (by omega);have ⟨c0,c1,c2,c3⟩:=b.cells;have A:=b.free 1;have h4:=b.setPos (q.pos+1);have V:=zan l.out 1 (.int .i64 ((q.pos+1:Nat):Int));have h0:=zqG (s:=s.data.toList) (r:={q with pos:=q.pos+1}) (by show q.pos+1<=_;omega);have HG:=hIx (zkf g s {q with pos:=q.pos+1} _ h4 (by show q.pos+1<=_;omega) hs);have C:Hid (∀W,RdAt g s (zaN s.data.toList {q with pos:=q.pos+1}).2 W->Calls prog 307 #[.pointer (some ⟨g,0,none⟩)] W λe w'=>e=.returned (.int .i64 (zaN s.data.toList (zaN s.data.toList {q with pos:=q.pos+1}).2).1)/\RdEnd g s (zaN s.data.toList (zaN s.data.toList {q with pos:=q.pos+1}).2).2 W w'):=λW h=>zkf g s _ W h (by omega) hs
   have h9:=zj9 (s:=s.data.toList) (r:={q with pos:=q.pos+1});have h7:=zj9 (s:=s.data.toList) (r:=(zaN s.data.toList {q with pos:=q.pos+1}).2);generalize zaN s.data.toList (zaN s.data.toList {q with pos:=q.pos+1}).2=D2 at *;generalize zaN s.data.toList {q with pos:=q.pos+1}=D1 at *;obtain⟨O,r1⟩:=D1;obtain⟨Z,r2⟩:=D2;dsimp only at a HG C h9 h7;have hm:IntKind.i64.wrap (O*16)=O*16:=Qx _ (by omega);have hi:IntKind.i64.wrap (O*16+Z)=O*16+Z:=Qx _ (by omega);have S:=hIx V;clear b h4 V y c k d h0 l;go_wp2_with (go_at_call 307;apply Hid.out);unfold Hid;refine(HG.out).mono ?_;rintro e w3 ⟨rfl,h5,G⟩;have J:=hIx (zay S.out G);clear G HG S c0 c1 c2 c3 A;go_wp2_with (go_at_call 307;apply Hid.out);unfold Hid;refine(C.out w3 h5).mono ?_;rintro e w4 ⟨rfl,h6⟩;have f:=hIx (RdEnd.trans J.out h6);clear h5 h6 J C;go_wp2;exact Qj (v:=.int .i64 (O*16+Z)) (by simp[results,results290,go_sem]) rfl ⟨by rw[a.out],by rw[a.out];exact f.out⟩
  have hc:(M==120)=false:=Qb.2 u;rw[Qe u]at a;clear u
  by_cases x:M<0
  ·have d1:decide (0<=M)=false:=Qs (by omega)
   rw[Qi x]at a;clear x d y c;have j:=hIx (k.out w2 b);clear b k;go_wp2_with (go_at_call 138;apply Hid.out);unfold Hid;refine(j.out).mono ?_;rintro e wf ⟨rfl,t⟩;have f:=hIx (RdEnd.trans l.out t);clear t;go_wp2;exact Qj (v:=.int .i64 0) (by simp[results,results290,go_sem]) rfl ⟨by rw[a.out],by rw[a.out];exact f.out⟩
  have d1:decide (0<=M)=true:=Qu (by omega);rw[Qe x,c.out M]at a;have Y:=d (by omega);have i8:IntKind.u8.wrap M=M:=by rw[show IntKind.u8.wrap M=M % 256 from rfl];omega
  have m:=hIx (y.out M);generalize Lib.indexByte zus M.toNat.toUInt8=K at *;clear y c x d;go_wp2_with (go_at_call 122;apply Hid.out);unfold Hid;refine(m.out w2).mono ?_;rintro e w3 ⟨rfl,rfl⟩
  by_cases z:0<=K
  ·have B:decide (0<=K)=true:=Qu z
   rw[B,Qi rfl]at a;clear z m k;have ⟨c0,c1,c2,c3⟩:=b.cells;have A:=b.free 1;have f:Hid (RdEnd g s {q with pos:=q.pos+1} w (w3.setCell ⟨g,1,none⟩ (.int .i64 ((q.pos+1:Nat):Int)))):=⟨b.setPos _,zan l.out 1 _⟩
   clear b;go_wp2;exact Qj (v:=.int .i64 M) (by simp[results,results290,go_sem]) rfl ⟨by rw[a.out],by rw[a.out];exact f.out⟩
  ·have B:decide (0<=K)=false:=Qs z
   rw[B,Qe (by decide)]at a;clear z m;have j:=hIx (k.out w3 b);clear b k;go_wp2_with (go_at_call 138;apply Hid.out);unfold Hid;refine(j.out).mono ?_;rintro e wf ⟨rfl,t⟩;have f:=hIx (RdEnd.trans l.out t);clear t;go_wp2;exact Qj (v:=.int .i64 0) (by simp[results,results290,go_sem]) rfl ⟨by rw[a.out],by rw[a.out];exact f.out⟩
def splL(c:UInt8):List UInt8->List (List UInt8)
 | []=>[[]]
 |b::l=>if b=c then []::splL c l else match splL c l with
  | []=>[[b]]
  |x::r=>(b::x)::r
theorem zlz(c:UInt8)(l:List UInt8):splL c l≠[]:=by
 cases l with
 |nil=>simp[splL]
 |cons b l=>
  rw[splL]
  split
  ·simp
  ·split <;> simp
theorem zdR(c:UInt8)(l:List UInt8):(splL c l).length<=l.length+1:=by
 induction l with
 |nil=>exact Qd _
 |cons b l ih=>
  rw[splL]
  split
  ·simp only[Qo];omega
  ·cases h:splL c l with
   |nil=>simp
   |cons x r=>rw[h]at ih;simp only[Qo]at ih ⊢;omega
theorem zuX(c:UInt8)(l:List UInt8):((splL c l).filter λx=>!x.isEmpty).length<=l.length:=by
 induction l with
 |nil=>exact Qd _
 |cons b l ih=>
  rw[splL]
  split
  ·rw[List.filter_cons_of_neg (by simp)];simp only[Qo];omega
  ·cases h:splL c l with
   |nil=>simp
   |cons x r=>
    rw[h]at ih;rw[List.filter_cons_of_pos (by simp)];cases x with
    |nil=>rw[List.filter_cons_of_neg (by simp)]at ih;simp only[Qo];omega
    |cons y x=>rw[List.filter_cons_of_pos (by simp)]at ih;simp only[Qo]at ih ⊢;omega
theorem zbZ(c:UInt8)(l:List UInt8):∀x∈splL c l,x.length<=l.length:=by
 induction l with
 |nil=>intro x a;simp[splL]at a;subst a;exact Qd _
 |cons b l ih=>
  intro x a;rw[splL]at a
  split at a
  ·rcases QJ.1 a with h|h
   ·subst h;simp
   ·have:=ih x h;simp only[Qo];omega
  ·cases h:splL c l with
   |nil=>exact absurd h (zlz c l)
   |cons y r=>
    rw[h]at a ih
    rcases QJ.1 a with h1|h1
    ·subst h1;have:=ih y (by simp);simp only[Qo];omega
    ·have:=ih x (by simp[h1]);simp only[Qo];omega
theorem zfW(b c:UInt8)(l:List UInt8)(h:b≠c):Lib.index (b::l) [c]=if Lib.index l [c]==-1 then -1 else Lib.index l [c]+1:=by
 have a:([c]:List UInt8).isPrefixOf (b::l)=false:=by simp[List.isPrefixOf,XB h]
 rw[Lib.index,a];simp
theorem zka(c:UInt8):∀l:List UInt8,Lib.splitK [c] 0 (Lib.count l [c]) l=splL c l
 | []=>by rw[Lib.count_miss (by simp[Lib.index])];rfl
 |b::l=>by
  have ih:=zka c l
  by_cases h:b=c
  ·subst h
   have a:Lib.index (b::l) [b]=0:=by rw[Lib.index];simp[List.isPrefixOf]
   rw[Lib.count_cons_eq,Nat.add_comm,Lib.splitK,Qe (by rw[a];decide),a,splL,Qi rfl,<-ih]
   rfl
  ·rw[Lib.count_cons_ne b c l h,splL,Qe h,<-ih]
   by_cases f:Lib.index l [c]=-1
   ·rw[Lib.count_miss f];rfl
   ·have g:=Lib.index_ge l [c]
    obtain⟨j,d⟩:∃j:Nat,Lib.index l [c]=j:=⟨(Lib.index l [c]).toNat,by omega⟩
    have e:Lib.count l [c]=Lib.count (l.drop (j+1)) [c]+1:=by rw[Lib.count_hit (by simp) d,Nat.add_comm];rfl
    have a:Lib.index (b::l) [c]=((j+1:Nat):Int):=by rw[zfW b c l h,Qe (λe=>f (Zk.1 e)),d];omega
    rw[e,Lib.splitK,Qe (by rw[a,Zk];omega),a,Lib.splitK,Qe (by rw[d,Zk];omega),d]
    rfl
theorem zb2(c:UInt8)(s:ByteArray):(Lib.splitB ⟨#[c]⟩ 0 (Lib.countB s ⟨#[c]⟩) s).map (·.data.toList)=splL c s.data.toList:=by
 rw[Lib.splitB_data];exact zka c _
theorem zcQ(l a:List UInt8):(Lib.cut l a).1.length<=l.length/\(Lib.cut l a).2.1.length<=l.length:=by
 unfold Lib.cut
 split
 ·exact⟨by rw[Qz];exact Nat.min_le_right _ _,by rw[QF];exact Nat.sub_le _ _⟩
 ·exact⟨Qd _,Qm _⟩
def zat(b:UInt8):Int:=
 if 48<=b.toNat/\b.toNat<=57 then (b.toNat:Int)-48 else if 97<=b.toNat/\b.toNat<=102 then (b.toNat:Int)-87 else if 65<=b.toNat/\b.toNat<=70 then (b.toNat:Int)-55 else -1
theorem ziI(b:UInt8)(w:World):
 Calls prog 131 #[.int .u8 b.toNat] w λe w'=>e=.returned (.int .i64 (zat b))/\w'=w:=by
 have hb:(b.toNat:Int)<=255:=by have:=b.toNat_lt;omega
 unfold zat;generalize b.toNat=n at *
 go_in
 go_wp2
 all_goals
  go_ret;exact⟨zac (by (repeat' split) <;> omega),rfl⟩
theorem zdn(b:UInt8)(w:World):
 Calls prog 151 #[.int .u8 b.toNat] w λe w'=>e=.returned (.int .i64 (zat b))/\w'=w:=by
 go_in
 go_wp2_with (go_at_call 131;refine(ziI _ _).mono ?_;rintro e w' ⟨rfl,rfl⟩);go_ret;exact⟨rfl,rfl⟩
theorem zlW(b:UInt8):zat b<16:=by
 have:=b.toNat_lt;unfold zat;(repeat' split) <;> omega
def zby(base:Int):List UInt8->Int->Option Int
 | [],n=>some n
 |b::l,n=>if zat b<0\/base<=zat b then none else zby base l (n*base+zat b)
def numL(base:Int)(most:Nat)(l:List UInt8):Option Int:=
 if l.length=0\/most<l.length then none else zby base l 0
def zbx(o:Option Int):Value:=match o with
 |some n=>.tuple #[.int .i64 n,.int .i64 0]
 |none=>.tuple #[.int .i64 0,.int .i64 4]
def zxD(base:Int)(most:Nat)(s:ByteArray)(n i:Value):Prop:=
 ∃(k:Nat) (v:Int),k<=s.size/\i=.int .i64 k/\n=.int .i64 v/\0<=v/\v<16 ^ k/\numL base most s.data.toList=zby base (s.data.toList.drop k) v
theorem zwg(s:ByteArray)(w:World)(m:s.size<=maxLen):
 Calls prog 96 #[.string s,.int .i64 10,.int .i64 9] w λe w'=>e=.returned (zbx (numL 10 9 s.data.toList))/\w'=w:=by
 unfold maxLen at m;have a:s.data.toList.length=s.size:=by simp
 by_cases b:s.size=0\/9<s.size
 ·have H:Hid (numL 10 9 s.data.toList=none):=by unfold numL;rw[Qi (by omega)];exact rfl
  rcases b with b|b
  all_goals
   clear a
   go_in
   go_wp2
   all_goals (go_ret2;exact⟨by rw[H.out];rfl,rfl⟩)
 ·obtain⟨r,u⟩:=not_or.1 b
  have H:Hid (numL 10 9 s.data.toList=zby 10 s.data.toList 0):=by unfold numL;rw[Qe (by omega)];exact rfl
  have h1:((s.size:Int)==0)=false:=Qb.2 (by omega);have h2:(s.size:Int)<=9:=by omega
  have x:s.size<=9:=by omega
  clear a b
  go_in
  go_wp2
  go_loop [8,22] (λn i=>zxD 10 9 s n i) (λ_ i=>s.size-(intOf i).toNat)
  case atStart=>exact⟨0,0,Qm _,rfl,rfl,by decide,by decide,H⟩
  case round=>
   obtain⟨k,v,q,rfl,rfl,l,j,c⟩:=hrel;have f:=hIx c;clear c
   have t:(16:Int) ^ k<=68719476736:=by
    have:(16:Nat) ^ k<=16 ^ 9:=ZZ (by decide) (by omega);have h:((16 ^ k:Nat):Int)<=68719476736:=by omega
    simpa using h
   by_cases d:k<s.size
   ·have p:=zlW s[k]
    have g:=hIx (zaG s k d);have o:Hid ((16:Int) ^ (k+1)=16 ^ k*16):=Int.pow_succ _ _;go_wp2_with (go_at_call 131;refine(ziI _ _).mono ?_;rintro e w' ⟨rfl,rfl⟩)
    all_goals first
     |(
      go_ret2
      exact⟨by rw[f.out,g.out,zby,Qi (by omega)];rfl,rfl⟩)
     |(
      go_round
      case rel=>exact⟨k+1,_,by omega,by go_num,rfl,by omega,by rw[o.out];omega,by rw[f.out,g.out,zby,Qe (by omega)]⟩
      case measure=>simp[intOf];omega)
   ·go_wp2
    go_ret2
    exact⟨by rw[f.out,QP (by simp;omega)];rfl,rfl⟩
theorem zei(s:ByteArray)(w:World)(a:s.size<=maxLen):
 Calls prog 65 #[.string s] w λe w'=>e=.returned (zbx (numL 10 9 s.data.toList))/\w'=w:=by
 go_in
 cases h:numL 10 9 s.data.toList
 all_goals
  have H:=hIx h;clear h;go_wp2_with (go_at_call 96;refine(zwg _ _ a).mono ?_;rintro e w' ⟨rfl,rfl⟩;rw[H.out];simp only[zbx])
  go_ret2
  exact⟨rfl,rfl⟩
theorem zxj(s:ByteArray)(w:World)(m:s.size<=maxLen):
 Calls prog 96 #[.string s,.int .i64 16,.int .i64 7] w λe w'=>e=.returned (zbx (numL 16 7 s.data.toList))/\w'=w:=by
 unfold maxLen at m;have a:s.data.toList.length=s.size:=by simp
 by_cases b:s.size=0\/7<s.size
 ·have H:Hid (numL 16 7 s.data.toList=none):=by unfold numL;rw[Qi (by omega)];exact rfl
  rcases b with b|b
  all_goals
   clear a
   go_in
   go_wp2
   all_goals (go_ret2;exact⟨by rw[H.out];rfl,rfl⟩)
 ·obtain⟨r,u⟩:=not_or.1 b
  have H:Hid (numL 16 7 s.data.toList=zby 16 s.data.toList 0):=by unfold numL;rw[Qe (by omega)];exact rfl
  have h1:((s.size:Int)==0)=false:=Qb.2 (by omega);have h2:(s.size:Int)<=7:=by omega
  have x:s.size<=7:=by omega
  clear a b
  go_in
  go_wp2
  go_loop [8,22] (λn i=>zxD 16 7 s n i) (λ_ i=>s.size-(intOf i).toNat)
  case atStart=>exact⟨0,0,Qm _,rfl,rfl,by decide,by decide,H⟩
  case round=>
   obtain⟨k,v,q,rfl,rfl,l,j,c⟩:=hrel;have f:=hIx c;clear c
   have t:(16:Int) ^ k<=68719476736:=by
    have:(16:Nat) ^ k<=16 ^ 9:=ZZ (by decide) (by omega);have h:((16 ^ k:Nat):Int)<=68719476736:=by omega
    simpa using h
   by_cases d:k<s.size
   ·have p:=zlW s[k]
    have g:=hIx (zaG s k d);have o:Hid ((16:Int) ^ (k+1)=16 ^ k*16):=Int.pow_succ _ _;go_wp2_with (go_at_call 131;refine(ziI _ _).mono ?_;rintro e w' ⟨rfl,rfl⟩)
    all_goals first
     |(
      go_ret2
      exact⟨by rw[f.out,g.out,zby,Qi (by omega)];rfl,rfl⟩)
     |(
      go_round
      case rel=>exact⟨k+1,_,by omega,by go_num,rfl,by omega,by rw[o.out];omega,by rw[f.out,g.out,zby,Qe (by omega)]⟩
      case measure=>simp[intOf];omega)
   ·go_wp2
    go_ret2
    exact⟨by rw[f.out,QP (by simp;omega)];rfl,rfl⟩
theorem zlJ(s:ByteArray)(w:World)(a:s.size<=maxLen):
 Calls prog 213 #[.string s] w λe w'=>e=.returned (zbx (numL 16 7 s.data.toList))/\w'=w:=by
 go_in
 cases h:numL 16 7 s.data.toList
 all_goals
  have H:=hIx h;clear h;go_wp2_with (go_at_call 96;refine(zxj _ _ a).mono ?_;rintro e w' ⟨rfl,rfl⟩;rw[H.out];simp only[zbx])
  go_ret2
  exact⟨rfl,rfl⟩
def znN(f:Nat->Bool):Nat->Nat
 |0=>0
 |i+1=>znN f i|||if f i then 2 ^ i else 0
theorem zpL(f:Nat->Bool):∀n,znN f n<2 ^ n
 |0=>Nat.one_pos
 |n+1=>by
  have h:=zpL f n;rw[znN];refine Nat.or_lt_two_pow (Qv h (ZZ (by decide) (by omega))) ?_
  split
  ·exact Nat.pow_lt_pow_right (by decide) (by omega)
  ·exact Nat.two_pow_pos _
theorem zku(f:Nat->Bool):∀n i,(znN f n).testBit i=(decide (i<n)&&f i)
 |0,i=>by simp[znN]
 |n+1,i=>by
  have ih:=zku f n i;rw[znN,Nat.testBit_or,ih]
  have b:(if f n then 2 ^ n else 0).testBit i=(decide (n=i)&&f n):=by
   split
   ·rename_i h;rw[Nat.testBit_two_pow,h,Bool.and_true]
   ·rename_i h;simp[h]
  rw[b]
  by_cases e:i=n
  ·subst e;simp
  ·have a:¬n=i:=λh=>e h.symm
   by_cases h2:i<n
   ·simp[h2,Nat.lt_succ_of_lt h2,a]
   ·have:¬i<n+1:=by omega
    simp[h2,this,a]
def wdF(f:Nat->Bool)(j:Nat):Nat:=znN (λi=>f (64*j+i)) 64
theorem zi5(f:Nat->Bool)(j:Nat):wdF f j<18446744073709551616:=zpL _ 64
theorem za6(f:Nat->Bool)(j i:Nat):(wdF f j).testBit i=(decide (i<64)&&f (64*j+i)):=zku _ 64 i
theorem zxz(f g:Nat->Bool)(j:Nat):wdF f j|||wdF g j=wdF (λk=>f k||g k) j:=by
 refine ZF λi=>?_
 rw[Nat.testBit_or,za6,za6,za6];cases decide (i<64) <;> simp
theorem zyV(f:Nat->Bool)(k:Nat):wdF f (k / 64)|||2 ^ (k % 64)=wdF (λx=>f x||decide (x=k)) (k / 64):=by
 refine ZF λi=>?_
 rw[Nat.testBit_or,za6,za6,Nat.testBit_two_pow]
 by_cases h:i<64
 ·by_cases e:k % 64=i
  ·have:64*(k / 64)+i=k:=by omega
   simp[h,e,this]
  ·have:¬64*(k / 64)+i=k:=by omega
   simp[h,e,this]
 ·have:¬k % 64=i:=by omega
  simp[h,this]
theorem zs6(f:Nat->Bool)(k j:Nat)(h:j≠k / 64):wdF (λx=>f x||decide (x=k)) j=wdF f j:=by
 refine ZF λi=>?_
 rw[za6,za6]
 by_cases h2:i<64
 ·have:¬64*j+i=k:=by omega
  simp[h2,this]
 ·simp[h2]
theorem zfo{f g:Nat->Bool}{j:Nat}(a:j<4)(h:∀k,k<256->f k=g k):wdF f j=wdF g j:=by
 refine ZF λi=>?_
 rw[za6,za6]
 by_cases h2:i<64
 ·rw[h _ (by omega)]
 ·simp[h2]
def setF(f:Nat->Bool):Set4:=⟨wdF f 0,wdF f 1,wdF f 2,wdF f 3⟩
theorem zdA(f:Nat->Bool)(j:Nat)(a:j<4):(setF f).word j=(wdF f j:Nat):=by
 match j,a with
 |0,_=>rfl
 |1,_=>rfl
 |2,_=>rfl
 |3,_=>rfl
theorem zb0{f g:Nat->Bool}(h:∀k,k<256->f k=g k):setF f=setF g:=by
 unfold setF;rw[zfo (by decide) h,zfo (by decide) h,zfo (by decide) h,zfo (by decide) h]
theorem zvK(j:Nat):wdF (λ_=>false) j=0:=ZF λi=>by rw[za6];simp
theorem ziz:setF (λ_=>false)=.zero:=by
 unfold setF Set4.zero;simp only[zvK]
 rfl
def numB(most:Int)(l:List UInt8):Int:=match numL 10 9 l with
 |some n=>if most<n\/(l.head? = some 48/\1<l.length)then -1 else n
 |none=>-1
def loR(x:List UInt8):Int:=numB 255 (Lib.cut x [45]).1
def hiR(x:List UInt8):Int:=numB 255 (if (Lib.cut x [45]).2.2=true then (Lib.cut x [45]).2.1 else (Lib.cut x [45]).1)
def okR(x:List UInt8):Bool:=decide (0<=loR x)&&decide (loR x<=hiR x)
def inR(x:List UInt8)(k:Nat):Bool:=decide (loR x<=k)&&decide ((k:Int)<=hiR x)
def anyR(a:List (List UInt8))(k:Nat):Bool:=a.any λx=>inR x k
def okB(l:List UInt8):Bool:=(splL 44 l).all okR
def inB(l:List UInt8):Nat->Bool:=anyR (splL 44 l)
theorem zg8:∀(l:List UInt8) (n v:Int),0<=n->zby 10 l n=some v->0<=v
 | [],n,v,h,e=>by cases e;exact h
 |b::l,n,v,h,e=>by
  rw[zby]at e
  split at e
  ·cases e
  ·exact zg8 l _ v (by omega) e
theorem zx0(most:Int)(l:List UInt8)(h:0<=most):numB most l<=most:=by
 unfold numB
 split
 ·split <;> omega
 ·omega
theorem zr7(most:Int)(l:List UInt8):-1<=numB most l:=by
 unfold numB
 split
 ·rename_i n a
  have:0<=n:=by
   unfold numL at a
   split at a
   ·cases a
   ·exact zg8 l 0 n (by decide) a
  split <;> omega
 ·omega
