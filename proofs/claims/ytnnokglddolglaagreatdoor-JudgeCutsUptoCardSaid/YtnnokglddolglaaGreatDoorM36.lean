/- Lemmas for the last texts. -/
import Derived.Test.YtnnokglddolglaaGreatDoorM35
import Derived.Lib.SlBytesConst
import Derived.OneCell
import Derived.Lib.AppendStr
set_option maxHeartbeats 6400000
set_option maxRecDepth 100000
namespace Go.Proofs.YtnnokglddolglaaGreatDoor
open Go.RowKit Go.Proofs.Tryz
theorem zmj:∀(f:Nat) {l:jE} {room:Int} {e:Int},za7 f l room=.inl e->e≠0
 |0,l,room,e,h=>by unfold za7 at h;cases h;decide
 |f+1,l,room,e,h=>by
  unfold za7 at h
  split at h
  ·rename_i h1;cases h;exact h1
  ·split at h
   ·cases h
   ·cases a:za7 f (l.drop (zaj l room).c) (room-(zaj l room).n)with
    |inl b=>rw[a]at h;cases h;exact zmj f a
    |inr p=>rw[a]at h;cases h
theorem zhi:∀(l:jE) (v w:Int),0<=v->zbr 10 l v=some w->0<=w/\w<(v+1)*10 ^ l.length
 | [],v,w,c,h=>by
  unfold zbr at h;have e:v=w:=QD h;subst e;rw[QS,Int.pow_zero];omega
 |b::l,v,w,c,h=>by
  unfold zbr at h
  split at h
  ·cases h
  ·rename_i d
   have:=zhi l _ w (by omega) h;refine⟨this.1,?_⟩;rw[Qn,Int.pow_succ'];have a:(0:Int)<10 ^ l.length:=Int.pow_pos (by decide);have h2:(v*10+zaq b+1)*10 ^ l.length<=((v+1)*10)*10 ^ l.length:=Int.mul_le_mul_of_nonneg_right (by omega) (Int.le_of_lt a);rw[<-Int.mul_assoc];omega
theorem zp8{l:jE}{n:Int}(h:numL 10 9 l=some n):0<=n/\n<1000000000:=by
 unfold numL at h
 split at h
 ·cases h
 ·rename_i hl
  obtain⟨h1,h2⟩:=zhi l 0 n (ZD _) h;refine⟨h1,?_⟩;have b:(10:Nat) ^ l.length<=10 ^ 9:=ZX (by decide) (by omega);have a:(10:Int) ^ l.length=((10 ^ l.length:Nat):Int):=by simp
  rw[a]at h2;omega
def zb8(r:Int × Int × Int)(l:jE)(most:Int):Told:=
 if r.2.2≠0 then .inl r.2.2 else if r.1=1 then .inr ([],0)else if r.1=3 then zbe l (max most 0)
 else if most<r.2.1 then .inl 6 else if (l.length:Int)<r.2.1 then .inl 7 else .inr (l.take r.2.1.toNat,r.2.1.toNat)
def zam(h:za3):Int × Int × Int:=ofL (getL h.fs clen) (getL h.fs tenc)
structure ReqV where
 h:za3
 b:jE
def zeX(l:jE)(H:Int):jE:=l.take (min (l.length:Int) H).toNat
def oneR(l:jE)(H B:Int):Except Int (ReqV × Nat):=
 if Lib.index (zeX l H) endL<0 then (if H<=(l.length:Int)then .error 5 else .error 7)
 else match zbq (l.take ((Lib.index (zeX l H) endL).toNat+4))with
  |.error e=>.error e
  |.ok h=>match zb8 (zam h) (l.drop ((Lib.index (zeX l H) endL).toNat+4)) B with
   |.inl e=>.error e
   |.inr (t,k)=>.ok (⟨h,t⟩,(Lib.index (zeX l H) endL).toNat+4+k)
def zbk(H B A:Int):Bool:=decide (30<=H)&&decide (H<=4096)&&(decide (0<=B)&&decide (B<=4096))&&(decide (1<=A)&&decide (A<=40))
theorem zhD(S C:List ByteArray):(ofL S C).2.2=4\/((ofL S C).2.2=0/\((ofL S C).1=1\/(ofL S C).1=3\/((ofL S C).1=2/\0<=(ofL S C).2.1/\(ofL S C).2.1<1000000000))):=by
 match S,C with
 | [],[]=>exact .inr ⟨rfl,.inl rfl⟩
 | [],[c]=>
  rw[zsL]
  split
  ·exact .inr ⟨rfl,.inr (.inl rfl)⟩
  ·exact .inl rfl
 | [],_::_::_=>exact .inl rfl
 |_::_,_::_=>exact .inl rfl
 |s::S,[]=>
  rw[zo0];cases a:numL 10 9 s.data.toList with
  |none=>exact .inl rfl
  |some n=>
   dsimp only
   split
   ·exact .inl rfl
   ·refine .inr ⟨rfl,.inr (.inr ⟨rfl,?_⟩)⟩
    exact zp8 a
theorem zr4{r:Int × Int × Int}{l:jE}{B e:Int}(h:zb8 r l B=.inl e):e≠0:=by
 unfold zb8 at h
 split at h
 ·cases h;assumption
 ·split at h
  ·cases h
  ·split at h
   ·exact zmj _ h
   ·split at h
    ·cases h;decide
    ·split at h
     ·cases h;decide
     ·cases h
theorem zzg{l:jE}{H B e:Int}(h:oneR l H B=.error e):e≠0:=by
 unfold oneR at h
 split at h
 ·split at h <;> cases h <;> decide
 ·split at h
  ·rename_i b a
   cases h
   rcases zlH a with h|h <;> rw[h] <;> decide
  ·split at h
   ·rename_i b a
    cases h;exact zr4 a
   ·cases h
theorem zps{r:Int × Int × Int}{l:jE}{B:Int}{t:jE}{k:Nat}(a:0<=B)(h:zb8 r l B=.inr (t,k)):(t.length:Int)<=B/\k<=l.length:=by
 unfold zb8 at h
 by_cases c1:r.2.2≠0
 ·rw[Qg c1]at h;cases h
 ·rw[Qe c1]at h
  by_cases c2:r.1=1
  ·rw[Qg c2]at h;cases h;exact⟨by simpa using a,Qm _⟩
  ·rw[Qe c2]at h
   by_cases c3:r.1=3
   ·rw[Qg c3]at h
    have:=zk1 _ _ _ _ h;omega
   ·rw[Qe c3]at h
    by_cases c4:B<r.2.1
    ·rw[Qg c4]at h;cases h
    ·rw[Qe c4]at h
     by_cases c5:(l.length:Int)<r.2.1
     ·rw[Qg c5]at h;cases h
     ·rw[Qe c5]at h
      injection h with h
      injection h with h1 h2
      rw[<-h1,<-h2,QJ];omega
theorem zou{l:jE}{n i:Nat}(h:Lib.occAt (l.take n) endL i=true):Lib.occAt l endL i=true/\i+4<=n/\i+4<=l.length:=by
 unfold Lib.occAt at h ⊢;rw[Zd]at h ⊢;have a:=h.length_le;rw[QM,QJ]at a;have b:endL.length=4:=rfl;refine⟨?_,by omega,by omega⟩;rw[List.drop_take]at h;exact h.trans (List.take_prefix _ _)
theorem zfV{l:jE}{n i:Nat}(h:Lib.occAt l endL i=true)(c:i+4<=n):Lib.occAt (l.take n) endL i=true:=by
 unfold Lib.occAt at h ⊢;rw[Zd]at h ⊢;rw[List.drop_take];obtain⟨r,a⟩:=h;rw[<-a];have b:endL.length=4:=rfl;rw[Z1];exact⟨r.take (n-i-endL.length),by rw[QF (l:=endL) (by omega)]⟩
def zc8(l:jE)(i:Nat):Prop:=Lib.occAt l endL i=true/\∀j,j<i->Lib.occAt l endL j=false
theorem zr1{l:jE}{i:Nat}(h:Lib.index l endL=(i:Int)):zc8 l i:=by
 rcases Lib.index_spec l endL with ⟨h1,_⟩|⟨k,h1,_,b,a⟩
 ·rw[h1]at h;omega
 ·have:k=i:=by omega
  subst this;exact⟨b,a⟩
theorem znL{l:jE}{i:Nat}(h:zc8 l i):Lib.index l endL=(i:Int):=by
 rcases Lib.index_spec l endL with ⟨_,h2⟩|⟨k,h1,f,d,c⟩
 ·have e:i<=l.length:=by
   have:=h.1;unfold Lib.occAt at this;rw[Zd]at this;have hl:=this.length_le;rw[QM]at hl;have:endL.length=4:=rfl;omega
  have:=h.1;rw[h2 i e]at this;cases this
 ·rcases Nat.lt_trichotomy k i with b|he|a
  ·have:=h.2 k b;rw[d]at this;cases this
  ·rw[h1,he]
  ·have:=c i a;rw[h.1]at this;cases this
theorem zqe{l:jE}{n i:Nat}(h:zc8 (l.take n) i):zc8 l i/\i+4<=n/\i+4<=l.length:=by
 obtain⟨h1,h2,c⟩:=zou h.1;refine⟨⟨h1,λj b=>?_⟩,h2,c⟩;cases a:Lib.occAt l endL j with
 |false=>rfl
 |true=>have:=zfV a (by omega:j+4<=n);rw[h.2 j b]at this;cases this
theorem zuy{l:jE}{n i:Nat}(h:zc8 l i)(c:i+4<=n):zc8 (l.take n) i:=by
 refine⟨zfV h.1 c,λj b=>?_⟩;cases a:Lib.occAt (l.take n) endL j with
 |false=>rfl
 |true=>have:=(zou a).1;rw[h.2 j b]at this;cases this
structure zkZ(l:jE)(H:Int)(i:Nat):Prop where
 first:zc8 l i
 fits:((i+4:Nat):Int)<=H
 len:i+4<=l.length
theorem zeS{l:jE}{H:Int}{i:Nat}(b:0<=H):Lib.index (zeX l H) endL=(i:Int)↔zkZ l H i:=by
 unfold zeX
 constructor
 ·intro h
  obtain⟨h1,h2,a⟩:=zqe (zr1 h);exact⟨h1,by omega,a⟩
 ·intro h
  have:=h.fits;have:=h.len;exact znL (zuy h.first (by omega))
theorem zro{l:jE}{H B:Int}{i:Nat}(a:0<=H)(h:zkZ l H i):oneR l H B=match zbq (l.take (i+4))with
 |.error e=>.error e
 |.ok h=>match zb8 (zam h) (l.drop (i+4)) B with
  |.inl e=>.error e
  |.inr (t,k)=>.ok (⟨h,t⟩,i+4+k):=by
 unfold oneR;rw[(zeS a).2 h,Qe (by omega),Q8]
theorem zwQ{l:jE}{H B:Int}{q:ReqV}{n:Nat}(d:0<=H)(h:oneR l H B=.ok (q,n)):
 ∃i k,zkZ l H i/\zbq (l.take (i+4))=.ok q.h/\zb8 (zam q.h) (l.drop (i+4)) B=.inr (q.b,k)/\n=i+4+k:=by
 have a:=h;unfold oneR at h
 split at h
 ·split at h <;> cases h
 ·rename_i j
  obtain⟨i,f⟩:∃i:Nat,Lib.index (zeX l H) endL=(i:Int):=⟨(Lib.index (zeX l H) endL).toNat,by omega⟩
  have c:=(zeS d).1 f;rw[zro d c]at a
  split at a
  ·cases a
  ·rename_i g e
   split at a
   ·cases a
   ·rename_i t k hb
    cases a;exact⟨i,k,c,e,hb,rfl⟩
theorem znE{l:jE}{H B:Int}{q:ReqV}{n:Nat}(c:0<=H)(d:0<=B)(h:oneR l H B=.ok (q,n)):(q.b.length:Int)<=B/\1<=n/\n<=l.length:=by
 obtain⟨i,k,a,e,hb,rfl⟩:=zwQ c h;have h1:=zps d hb;rw[QM]at h1;have:=a.len;exact⟨h1.1,by omega,by omega⟩
theorem zlz(m t:ByteArray)(l:List zal)(b c:Option Addr)(c1 c2:Nat)(w:World)(h1:Sl w w.heap.size 2 b l.length (l.flatMap zaA))(h2:Sl w w.heap.size 2 c l.length (l.flatMap zaA))(hl:l.length<=4398046511104):
 Calls prog 70 #[.agg #[.string m,.string t,.slice b l.length c1],.agg #[.string m,.string t,.slice c l.length c2]] w λe w'=>e=jC (.bool true)/\w w':=by
 have a:w ((w.alloc (.cells #[.string m,.string t,.slice b l.length c1] 27)).alloc (.cells #[.string m,.string t,.slice c l.length c2] 27)):=WaL.alloc (by simp) _;have f:=hIx (zq0 l b c c1 c2 _ ((h1.below a).more a.size) ((h2.below a).more a.size) hl);have h:(m.toList==m.toList)=true:=by simp
 have g:(t.toList==t.toList)=true:=by simp
 clear h1 h2
 go_in
 go_wp2_with (go_at_call 99;refine f.out.mono ?_;rintro e w2 ⟨rfl,d⟩);go_ret;exact⟨rfl,a.trans (d.mono a.size)⟩
theorem OwnV.sl{w:World}{base:Nat}{A:Option Addr}{n c:Nat}{l:List zal}(h:OwnV w base (.slice A n c) l):Sl w w.heap.size 2 A l.length (l.flatMap zaA):=by
 obtain⟨f,g,e,b⟩:=h.form;injection e with a i d
 subst a;exact b
structure Rd(w:World)(g B:Nat)(s:ByteArray)(a m:Int)(v:Value)(acc:jE):Prop where
 blk:w.heap[g]? = some (.cells #[.string s,jA a,jA m,v] 216 (0,0))
 own:OwnB w B v acc
 hB:B<=g
section
variable {w w':World} {g B:Nat} {s:ByteArray} {a m:Int} {v:Value} {acc:jE}
theorem Rd.lt(h:Rd w g B s a m v acc):g<w.heap.size:=by
 rcases ZI g w.heap.size with c|b
 ·exact c
 ·have:=h.blk;rw[ZZ b]at this;cases this
theorem Rd.c0(h:Rd w g B s a m v acc):w.cell? g=some (.string s):=Qf w g 0 _ _ (0,0) h.blk
theorem Rd.c1(h:Rd w g B s a m v acc):w.cell? ⟨g,1,none⟩=some (jA a):=Qf w g 1 _ _ (0,0) h.blk
theorem Rd.c2(h:Rd w g B s a m v acc):w.cell? ⟨g,2,none⟩=some (jA m):=Qf w g 2 _ _ (0,0) h.blk
theorem Rd.c3(h:Rd w g B s a m v acc):w.cell? ⟨g,3,none⟩=some v:=Qf w g 3 _ _ (0,0) h.blk
theorem Rd.free(h:Rd w g B s a m v acc)(i:Nat):w.frozen? ⟨g,i,none⟩=false:=by simp[World.frozen?, h.blk]
theorem Rd.apart(h:Rd w g B s a m v acc):v.ownBlock≠some g:=by
 intro d;obtain⟨c,f,b⟩:=Xx h.own g d;rw[h.blk]at b;injection b with b
 injection b with _ e
 exact absurd e (by decide)
theorem Rd.eq(h:Rd w g B s a m v acc){b:Int}(e:a=b):Rd w g B s b m v acc:=e ▸ h
theorem Rd.alloc(h:Rd w g B s a m v acc)(o:Obj):Rd (w.alloc o) g B s a m v acc:=⟨(Qr w o g h.lt).trans h.blk,h.own.alloc o,h.hB⟩
theorem Rd.drewN(h:Rd w g B s a m v acc)(n:Nat):Rd (w.drewN n) g B s a m v acc:=⟨h.blk,h.own,h.hB⟩
theorem Rd.at_(h:Rd w g B s a m v acc)(b:Int):Rd (w.setCell ⟨g,1,none⟩ (jA b)) g B s b m v acc:=by
 refine⟨?_,ownsRow_setCell_other h.own h.apart _,h.hB⟩;have:=h.blk;simp[World.setCell,Q4,this]
end
theorem zkB(s:ByteArray)(k:Nat)(h:s.size<=k):s.data.toList.drop k=[]:=QN (by rw[Zy];exact h)
theorem zwi(b:UInt8)(r:jE):zar (13::b::r)=if b=10 then (0,2)else (4,1):=rfl
theorem zpW(a:UInt8)(r:jE)(h:a≠13):zar (a::r)=(4,0):=by unfold zar;exact Qe h
def zem(w:World)(g B:Nat)(s:ByteArray)(k:Nat)(m:Int)(v:Value)(a:jE)(e:Ending)(w':World):Prop:=
 e=jC (jA (zar (s.data.toList.drop k)).1)/\Rd w' g B s ((k+(zar (s.data.toList.drop k)).2:Nat):Int) m v a/\Below B w w'
theorem zg8(w:World)(g B:Nat)(s:ByteArray)(k:Nat)(m:Int)(v:Value)(o:jE)(h:Rd w g B s (k:Int) m v o)(z:s.size<=maxLen)(G:k<=s.size)(D:B<=w.heap.size):
 Calls prog 168 #[.pointer g] w (zem w g B s k m v o):=by
 unfold maxLen at z;have A:=λ(w:World) (C:Array Value) (n c:Nat)=>Lib.run_convert_bytes_const (P:=prog) w 140 5 C n c underlying140 underlying5
 by_cases c0:k<s.size
 rotate_left
 have j:Hid (zar (s.data.toList.drop k)=(7,0)):=by unfold Hid;rw[zkB s k (by omega)];rfl
 have u:((k:Int)==(s.size:Int))=true:=Zo.2 (by omega)
 rotate_left
 have r:=hIx (zaH s k c0);have u:((k:Int)==(s.size:Int))=false:=Qb.2 (by omega);have J:(k:Int)<(s.size:Int):=by omega
 by_cases c1:s[k]=13
 rotate_left
 have x:((s[k].toNat:Int) != 13)=true:=Q7.2 (λe=>c1 (Zs.1 (by show s[k].toNat=13;omega)));have j:Hid (zar (s.data.toList.drop k)=(4,0)):=by unfold Hid;rw[r.out];exact zpW _ _ c1
 clear c1
 rotate_right
 have x:((s[k].toNat:Int) != 13)=false:=by rw[c1];decide
 by_cases c2:k+1<s.size
 rotate_left
 have E:((k:Int)+1==(s.size:Int))=true:=Zo.2 (by omega);have j:Hid (zar (s.data.toList.drop k)=(7,1)):=by unfold Hid;rw[r.out,zkB s (k+1) (by omega),c1];rfl
 clear c1
 rotate_right
 have l:=hIx (zaH s (k+1) c2);have E:((k:Int)+1==(s.size:Int))=false:=Qb.2 (by omega);have F:(k:Int)+1<(s.size:Int):=by omega
 have K:0<=(k:Int)+1:=by omega
 have I:((k:Int)+1).toNat=k+1:=by omega
 by_cases c3:s[k+1]=10
 have y:((s[k+1].toNat:Int) != 10)=false:=by rw[c3];decide
 have j:Hid (zar (s.data.toList.drop k)=(0,2)):=by unfold Hid;rw[r.out,l.out,c1,c3];rfl
 clear c1 c3
 rotate_left
 have y:((s[k+1].toNat:Int) != 10)=true:=Q7.2 (λe=>c3 (Zs.1 (by show s[k+1].toNat=10;omega)));have j:Hid (zar (s.data.toList.drop k)=(4,1)):=by unfold Hid;rw[r.out,l.out,c1];rw[zwi,Qe c3]
 clear c1 c3
 all_goals
  go_in
  go_wp2_with fail;have a:=h.alloc (.cells #[.int .u8 13,.int .u8 10] 5 (2,3));have b:Below B w (w.alloc (.cells #[.int .u8 13,.int .u8 10] 5 (2,3))):=(Qj _ _).alloc D _;have H:(w.alloc (.cells #[.int .u8 13,.int .u8 10] 5 (2,3))).cell? w.heap.size=some (.int .u8 13):=Qf _ _ 0 _ _ (2,3) (Qt w _);have d:(w.alloc (.cells #[.int .u8 13,.int .u8 10] 5 (2,3))).cell? ⟨w.heap.size,1,none⟩=some (.int .u8 10):=Qf _ _ 1 _ _ (2,3) (Qt w _);have t:g≠w.heap.size:=Nat.ne_of_lt h.lt;generalize w.alloc (.cells #[.int .u8 13,.int .u8 10] 5 (2,3))=W at *;have f:=a.c0;have h1:=a.c1;have i:=a.free 1;have q:=h.hB;clear h A;refine wp_loop_rounds 3 ?_;rw[rounds_succ];go_wp2_with (first|rw[rounds_succ]|fail)
  go_quiet (fail)
  have a:=a.drewN nq;have b:=below_drewN b nq;have d:(W.drewN nq).cell? ⟨w.heap.size,1,none⟩=some (.int .u8 10):=d;clear f h1 i;generalize W.drewN nq=W at *;have f:=a.c0;have h1:=a.c1;have i:=a.free 1;go_wp2_with (first|rw[rounds_succ]|fail)
  first
   |(
    go_ret
    unfold zem;rw[j.out];exact⟨rfl,a.eq (by omega),b⟩)
   |(
    go_quiet (fail)
    have a:=a.drewN nq;have b:=below_drewN b nq;have d:(W.drewN nq).cell? ⟨w.heap.size,1,none⟩=some (.int .u8 10):=d;clear f h1 i;generalize W.drewN nq=W at *;have f:=a.c0;have h1:=a.c1;have i:=a.free 1;go_wp2_with (first|rw[rounds_succ]|fail)
    first
     |(
      go_ret
      unfold zem;rw[j.out];exact⟨rfl,a.eq (by omega),b⟩)
     |(
      have a:=a.at_ ((k:Int)+1)
      have b:=b.setCell (p:=⟨g,1,none⟩) q (jA ((k:Int)+1));have d:(W.setCell ⟨g,1,none⟩ (jA ((k:Int)+1))).cell? ⟨w.heap.size,1,none⟩=some (.int .u8 10):=(QT W ⟨g,1,none⟩ ⟨w.heap.size,1,none⟩ _ (λe=>t (by injection e))).trans d;clear f h1 i;generalize W.setCell ⟨g,1,none⟩ (jA ((k:Int)+1))=W at *;have f:=a.c0;have h1:=a.c1;have i:=a.free 1
      go_quiet (fail)
      have a:=a.drewN nq;have b:=below_drewN b nq;have d:(W.drewN nq).cell? ⟨w.heap.size,1,none⟩=some (.int .u8 10):=d;clear f h1 i;generalize W.drewN nq=W at *;have f:=a.c0;have h1:=a.c1;have i:=a.free 1;go_wp2_with (first|rw[rounds_succ]|fail)
      first
       |(
        go_ret
        unfold zem;rw[j.out];exact⟨rfl,a.eq (by omega),b⟩)
       |(
        go_quiet (fail)
        have a:=a.drewN nq;have b:=below_drewN b nq;have d:(W.drewN nq).cell? ⟨w.heap.size,1,none⟩=some (.int .u8 10):=d;clear f h1 i;generalize W.drewN nq=W at *;have f:=a.c0;have h1:=a.c1;have i:=a.free 1;go_wp2_with (first|rw[rounds_succ]|fail)
        first
         |(
          go_ret
          unfold zem;rw[j.out];exact⟨rfl,a.eq (by omega),b⟩)
         |(
          go_ret
          unfold zem;rw[j.out];exact⟨rfl,(a.at_ _).eq (by omega),b.setCell (p:=⟨g,1,none⟩) q _⟩))))
def atOf(g:Nat)(w:World):Nat:=match w.cell? ⟨g,1,none⟩with|some (.int _ n)=>n.toNat|_=>0
theorem Rd.atOf{w:World}{g B:Nat}{s:ByteArray}{a m:Int}{v:Value}{b:jE}(h:Rd w g B s a m v b):atOf g w=a.toNat:=by
 unfold Go.Proofs.YtnnokglddolglaaGreatDoor.atOf;rw[h.c1]
def zrN(w:World)(g B:Nat)(s:ByteArray)(k:Nat)(m:Int)(v:Value)(a:jE)(wr:World):Prop:=
 ∃p:Nat,k<=p/\p<=k+7/\p<=s.size/\Rd wr g B s (p:Int) m v a/\Below B w wr/\digN 7 (s.data.toList.drop k)=(p-k)+digN (k+7-p) (s.data.toList.drop p)
theorem zuH{f:Nat}{b:UInt8}{r:jE}(h:0<=zaq b):digN (f+1) (b::r)=digN f r+1:=by
 rw[digN,Qg h]
theorem zvW{f:Nat}{b:UInt8}{r:jE}(h:¬0<=zaq b):digN (f+1) (b::r)=0:=by
 rw[digN,Qe h]
theorem zlp(s:ByteArray)(k p:Nat)(h1:k<p)(h2:p<=k+7)(c:p<=s.size)(h:digN 7 (s.data.toList.drop k)=p-k)(W:World):
 Calls prog 213 #[.string (s.extract k p)] W λe w'=>e=jC (.tuple #[jA (hexV ((s.data.toList.drop k).take (p-k))),jA 0])/\w'=W:=by
 have e:(s.extract k p).data.toList=(s.data.toList.drop k).take (p-k):=ZK _ _ _;have a:=(zto 7 (s.data.toList.drop k)).2.2;rw[h]at a
 have hl:((s.data.toList.drop k).take (p-k)).length=p-k:=by
  rw[QJ,QM,Zy];show min (p-k) (s.size-k)=p-k;omega
 have b:(s.extract k p).size<=maxLen:=by rw[Z0];unfold maxLen;omega
 have:=ztN (s.extract k p) W b;rw[e,ztQ _ a (by omega) (by omega)]at this;exact this
def zcu(w:World)(g B:Nat)(s:ByteArray)(k:Nat)(m:Int)(v:Value)(a:jE)(p:zvB)(e:Ending)(w':World):Prop:=
 e=jC (.tuple #[jA p.n,jA p.e])/\Rd w' g B s ((k+p.c:Nat):Int) m v a/\Below B w w'
theorem zlR(w:World)(g B:Nat)(s:ByteArray)(k:Nat)(m:Int)(v:Value)(l:jE)(h:Rd w g B s (k:Int) m v l)(X:s.size<=4611686018427387904)(T:k<=s.size)(I:B<=w.heap.size):
 Calls prog 167 #[.pointer g] w (zcu w g B s k m v l (zaD (s.data.toList.drop k))):=by
 have y:s.size<=maxLen:=by unfold maxLen;omega
 have h1:=h.c1;have W:IntKind.i64.wrap ((k:Int)+7)=(k:Int)+7:=Qx _ (by omega)
 go_in
 go_wp2
 go_loopw [] (λwr=>zrN w g B s k m v l wr) (λwr=>s.size-atOf g wr)
 case atStart=>exact⟨k,Qc _,by omega,T,h,Qj _ _,by simp⟩
 case round=>
  obtain⟨p,S,x,j,i,d,J⟩:=hrel;clear h1;have C:=i.atOf;have t:=i.c0;have h1:=i.c1;have E:=i.free 1;have H:=hIx J;clear J
  by_cases c0:p<s.size
  ·have V:(p:Int)<(s.size:Int):=by omega
   have D:=hIx (zaH s p c0)
   by_cases c1:p<k+7
   ·have U:(p:Int)<(k:Int)+7:=by omega
    by_cases c2:0<=zaq s[p]
    ·go_wp2_with fail
     go_quiet ((go_at_call 151;exact Q9 (zdk _ _)))
     go_wp2_with fail;have a:=(i.drewN nq).at_ ((p:Int)+1);exact⟨⟨p+1,by omega,by omega,by omega,a.eq (by omega),(below_drewN d nq).setCell i.hB _,by rw[H.out,D.out,show k+7-p=(k+7-(p+1))+1 by omega,zuH c2];omega⟩,by rw[a.atOf,C];omega⟩
    ·have u:Hid (digN 7 (s.data.toList.drop k)=p-k):=by unfold Hid;rw[H.out,D.out,show k+7-p=(k+7-(p+1))+1 by omega,zvW c2];omega
     by_cases o:k<p
     ·have G:((p:Int)==(k:Int))=false:=Qb.2 (by omega)
      have F:=zlp s k p o x j u.out
      have r:Hid (zaD (s.data.toList.drop k)=⟨hexV ((s.data.toList.drop k).take (p-k)),(zar (s.data.toList.drop p)).1,p-k+(zar (s.data.toList.drop p)).2,[]⟩):=by
       unfold Hid zaD;rw[u.out,Qe (by omega),Zz,show k+(p-k)=p by omega]
      have Q:(k:Int)<=(p:Int):=by omega
      have N:(p:Int)<=(s.size:Int):=by omega
      have L:0<=(p:Int):=by omega
      have P:0<=(k:Int):=by omega
      go_wp2_with fail
      go_quiet ((go_at_call 151;exact Q9 (zdk _ _)))
      have a:=i.drewN nq;have b:=below_drewN d nq;generalize wr.drewN nq=A at *;clear t h1 E C i d;have t:=a.c0;have h1:=a.c1;go_wp2_with fail
      go_quiet ((go_at_call 213;exact Q9 (F _)))
      have q:=a.drewN nq;have c:=below_drewN b nq;generalize A.drewN nq=O at *;go_wp2_with (go_at_call 168;refine(zg8 _ g B s p m v l q y j (Ql I c.size)).mono ?_;rintro e K ⟨rfl,n,f⟩)
      go_ret2
      unfold zcu;rw[r.out];exact⟨rfl,n.eq (by show ((p+_:Nat):Int)=((k+(p-k+_):Nat):Int);omega),c.trans f⟩
     ·have G:((p:Int)==(k:Int))=true:=Zo.2 (by omega)
      have r:Hid (zaD (s.data.toList.drop k)=⟨0,if (s.data.toList.drop k).length=0 then 7 else 4,0,[]⟩):=by unfold Hid zaD;rw[u.out,Qg (by omega)]
      have z:(s.data.toList.drop k).length=s.size-k:=by rw[QM,Zy];rfl
      have qs:((p:Int)==(s.size:Int))=false:=Qb.2 (by omega);rw[Qe (by omega)]at r;clear z;go_wp2_with fail
      go_quiet ((go_at_call 151;exact Q9 (zdk _ _)))
      have a:=i.drewN nq;have b:=below_drewN d nq;generalize wr.drewN nq=A at *;clear t h1 E C i d;have t:=a.c0;have h1:=a.c1;go_wp2_with fail
      go_quiet (fail)
      go_wp2
      go_ret2
      unfold zcu;rw[r.out];exact⟨rfl,(a.drewN nq).eq (by show (p:Int)=((k+0:Nat):Int);omega),below_drewN b nq⟩
   ·have U:decide ((p:Int)<(k:Int)+7)=false:=Qq (by omega)
    have u:Hid (digN 7 (s.data.toList.drop k)=p-k):=by unfold Hid;rw[H.out,show k+7-p=0 by omega,digN];omega
    by_cases o:k<p
    ·have G:((p:Int)==(k:Int))=false:=Qb.2 (by omega)
     have F:=zlp s k p o x j u.out
     have r:Hid (zaD (s.data.toList.drop k)=⟨hexV ((s.data.toList.drop k).take (p-k)),(zar (s.data.toList.drop p)).1,p-k+(zar (s.data.toList.drop p)).2,[]⟩):=by
      unfold Hid zaD;rw[u.out,Qe (by omega),Zz,show k+(p-k)=p by omega]
     have Q:(k:Int)<=(p:Int):=by omega
     have N:(p:Int)<=(s.size:Int):=by omega
     have L:0<=(p:Int):=by omega
     have P:0<=(k:Int):=by omega
     go_wp2_with fail
     go_quiet (fail)
     have a:=i.drewN nq;have b:=below_drewN d nq;generalize wr.drewN nq=A at *;clear t h1 E C i d;have t:=a.c0;have h1:=a.c1;go_wp2_with fail
     go_quiet ((go_at_call 213;exact Q9 (F _)))
     have q:=a.drewN nq;have c:=below_drewN b nq;generalize A.drewN nq=O at *;go_wp2_with (go_at_call 168;refine(zg8 _ g B s p m v l q y j (Ql I c.size)).mono ?_;rintro e K ⟨rfl,n,f⟩)
     go_ret2
     unfold zcu;rw[r.out];exact⟨rfl,n.eq (by show ((p+_:Nat):Int)=((k+(p-k+_):Nat):Int);omega),c.trans f⟩
    ·omega
  ·have u:Hid (digN 7 (s.data.toList.drop k)=p-k):=by unfold Hid;rw[H.out,zkB s p (by omega)];cases k+7-p <;> simp[digN]
   by_cases o:k<p
   ·have G:((p:Int)==(k:Int))=false:=Qb.2 (by omega)
    have F:=zlp s k p o x j u.out
    have r:Hid (zaD (s.data.toList.drop k)=⟨hexV ((s.data.toList.drop k).take (p-k)),(zar (s.data.toList.drop p)).1,p-k+(zar (s.data.toList.drop p)).2,[]⟩):=by
     unfold Hid zaD;rw[u.out,Qe (by omega),Zz,show k+(p-k)=p by omega]
    have Q:(k:Int)<=(p:Int):=by omega
    have N:(p:Int)<=(s.size:Int):=by omega
    have L:0<=(p:Int):=by omega
    have P:0<=(k:Int):=by omega
    go_wp2_with fail
    go_quiet (fail)
    have a:=i.drewN nq;have b:=below_drewN d nq;generalize wr.drewN nq=A at *;clear t h1 E C i d;have t:=a.c0;have h1:=a.c1;go_wp2_with fail
    go_quiet ((go_at_call 213;exact Q9 (F _)))
    have q:=a.drewN nq;have c:=below_drewN b nq;generalize A.drewN nq=O at *;go_wp2_with (go_at_call 168;refine(zg8 _ g B s p m v l q y j (Ql I c.size)).mono ?_;rintro e K ⟨rfl,n,f⟩)
    go_ret2
    unfold zcu;rw[r.out];exact⟨rfl,n.eq (by show ((p+_:Nat):Int)=((k+(p-k+_):Nat):Int);omega),c.trans f⟩
   ·have G:((p:Int)==(k:Int))=true:=Zo.2 (by omega)
    have r:Hid (zaD (s.data.toList.drop k)=⟨0,if (s.data.toList.drop k).length=0 then 7 else 4,0,[]⟩):=by unfold Hid zaD;rw[u.out,Qg (by omega)]
    have z:(s.data.toList.drop k).length=s.size-k:=by rw[QM,Zy];rfl
    have qs:((p:Int)==(s.size:Int))=true:=Zo.2 (by omega);rw[Qg (by omega)]at r;clear z;go_wp2_with fail
    go_quiet (fail)
    have a:=i.drewN nq;have b:=below_drewN d nq;generalize wr.drewN nq=A at *;clear t h1 E C i d;have t:=a.c0;have h1:=a.c1;go_wp2_with fail
    go_quiet (fail)
    go_wp2
    go_ret2
    unfold zcu;rw[r.out];exact⟨rfl,(a.drewN nq).eq (by show (p:Int)=((k+0:Nat):Int);omega),below_drewN b nq⟩
section
variable {ops:Array Oper} {rest:List Oper} {o:Oper} {a:Act} {Q:Exit->Act->World->Prop} {w:World}
theorem zk0{K:Act->World->Prop}(sl x:Operand)(s:o.op=.call {callee:=.builtin .append,args:=#[sl,x],argTypes:=#[140,9]})
 (base:Nat) (v:Value) (l:jE) (y:a.eval sl=v) (d:OwnB w base v l) (b:base<=w.heap.size) (t:ByteArray) (A:a.eval x=.string t)
 (c:l.length+t.size<=140737488355328)
 (h:∀v' w',OwnB w' base v' (l++t.data.toList)->Below base w w'->(∀g,g<w.heap.size->v.ownBlock≠some g->w'.heap[g]? = w.heap[g]?)->K (a.put o.dst v') w'):
 o.wp prog a w K Q:=by
 obtain⟨r,z,i,m,n⟩:=ZG zli
 obtain⟨v',w',u,h2,p,B⟩:=Lib.run_append_own_string (P:=prog) w base 140 9 o.type 5 r underlying140 underlying9 z i m n v l.length (l.map zdX) d t
  (by unfold maxLen;omega) c b
 have hl:(l++t.data.toList).length=l.length+t.size:=by rw[Qa,Zy];rfl
 have j:=h v' w' (by unfold OwnB;rw[hl,Q2];exact h2) ((Qj _ _).grown p b (λk j=>(d.lt k j).1)) (λg q f=>p.block g q (λe=>f e.symm));unfold Oper.wp execOp;simp only[s,resolve,invoke,builtin,Xf,Sem.run_pure,Zx,List.map_toArray,QW,Zu,y,A,u];exact j
theorem zh5{K:Act->World->Prop}{E:Prop}(e:o.guard=none)(sl x:Operand)(i:o.op=.call {callee:=.builtin .append,args:=#[sl,x],argTypes:=#[140,9]})
 (base:Nat) (v:Value) (l:jE) (j:a.eval sl=v) (d:OwnB w base v l) (c:base<=w.heap.size) (t:ByteArray) (k:a.eval x=.string t)
 (b:l.length+t.size<=140737488355328)
 (h:∀v' w',OwnB w' base v' (l++t.data.toList)->Below base w w'->(∀g,g<w.heap.size->v.ownBlock≠some g->w'.heap[g]? = w.heap[g]?)->K (a.put o.dst v') w'):
 if Region.wanted o (yielded ops a.tmps)=true then Oper.wp prog o a w K Q else E:=by
 have f:Region.wanted o (yielded ops a.tmps)=true:=by simp[Region.wanted,e]
 rw[Qg f];exact zk0 sl x i base v l j d c t k b h
end
theorem zwE{l:jE}(h:(zaD l).e=0):(zaD l).c<=l.length/\0<=(zaD l).n/\(zaD l).n<268435456:=by
 obtain⟨a,r,o⟩:=zsW h;rw[o.e,zfp a r o.dig o.lo o.hi];refine⟨?_,zfP a⟩;rw[Qa,Qn,Qn];show a.length+2<=_;omega
theorem OwnB.form{w:World}{B:Nat}{v:Value}{l:jE}(h:OwnB w B v l):∃A c L,v=.slice A L c:=by
 rcases h.2 with ⟨h1,h2⟩|⟨b,cap,a,h1,_⟩
 ·exact⟨none,0,0,h1⟩
 ·exact⟨_,_,_,h1⟩
theorem Rd.drew{w:World}{g B:Nat}{s:ByteArray}{a m:Int}{v:Value}{b:jE}(h:Rd w g B s a m v b):Rd w.drew g B s a m v b:=⟨h.blk,h.own,h.hB⟩
theorem Rd.freeAfter{w w':World}{g B:Nat}{s:ByteArray}{a m:Int}{v:Value}{b:jE}(h:Rd w g B s a m v b)(c:∀q,q<w.heap.size->v.ownBlock≠some q->w'.heap[q]? = w.heap[q]?):w'.frozen? ⟨g,3,none⟩=false:=by
 simp[World.frozen?, (c g h.lt h.apart).trans h.blk]
theorem Rd.afters{w w':World}{g B:Nat}{s:ByteArray}{a m:Int}{v:Value}{b:jE}(h:Rd w g B s a m v b)(c:∀q,q<w.heap.size->v.ownBlock≠some q->w'.heap[q]? = w.heap[q]?):w'.cell? ⟨g,1,none⟩=some (jA a)/\w'.frozen? ⟨g,1,none⟩=false:=
 ⟨Qf w' g 1 _ _ (0,0) ((c g h.lt h.apart).trans h.blk),by simp[World.frozen?, (c g h.lt h.apart).trans h.blk]⟩
theorem Rd.cellAfter{w w':World}{g B:Nat}{s:ByteArray}{a m:Int}{v:Value}{b:jE}(h:Rd w g B s a m v b)(c:∀q,q<w.heap.size->v.ownBlock≠some q->w'.heap[q]? = w.heap[q]?):w'.cell? ⟨g,3,none⟩=some v:=
 Qf w' g 3 _ _ (0,0) ((c g h.lt h.apart).trans h.blk)
theorem Rd.form{w:World}{g B:Nat}{s:ByteArray}{a m:Int}{v:Value}{b:jE}(h:Rd w g B s a m v b):∃A c,v=.slice A b.length c:=by
 rcases h.own.2 with ⟨h1,h2⟩|⟨e,cap,d,h1,_⟩
 ·exact⟨none,0,by rw[h1,h2]⟩
 ·exact⟨_,_,h1⟩
theorem Rd.grown{w w':World}{g B:Nat}{s:ByteArray}{a m:Int}{v v':Value}{f l:jE}(h:Rd w g B s a m v f)(b:OwnB w' B v' l)(j:∀q,q<w.heap.size->v.ownBlock≠some q->w'.heap[q]? = w.heap[q]?):
 Rd (w'.setCell ⟨g,3,none⟩ v') g B s a m v' l:=by
 have hb:w'.heap[g]? = some (.cells #[.string s,jA a,jA m,v] 216 (0,0)):=(j g h.lt h.apart).trans h.blk
 have e:v'.ownBlock≠some g:=by
  intro k;obtain⟨c,n,d⟩:=Xx b g k;rw[hb]at d;injection d with d
  injection d with _ i
  exact absurd i (by decide)
 refine⟨?_,ownsRow_setCell_other b e _,h.hB⟩;simp[World.setCell,Q4,hb]
theorem zom(l:jE)(room:Int):zaj l room=if (zaD l).e≠0 then ⟨0,(zaD l).e,(zaD l).c,[]⟩
 else if room<(zaD l).n then ⟨0,6,(zaD l).c,[]⟩
 else if (l.length:Int)-(zaD l).c<(zaD l).n then ⟨0,7,(zaD l).c,[]⟩
 else ⟨(zaD l).n,(zar (l.drop ((zaD l).c+(zaD l).n.toNat))).1,(zaD l).c+(zaD l).n.toNat+(zar (l.drop ((zaD l).c+(zaD l).n.toNat))).2,(l.drop (zaD l).c).take (zaD l).n.toNat⟩:=rfl
def zdn(w:World)(g B:Nat)(s:ByteArray)(k:Nat)(m:Int)(a:jE)(p:zvB)(e:Ending)(w':World):Prop:=
 e=jC (.tuple #[jA p.n,jA p.e])/\(∃v',Rd w' g B s ((k+p.c:Nat):Int) m v' (a++p.d))/\Below B w w'
theorem zrE(w:World)(g B:Nat)(s:ByteArray)(k:Nat)(m:Int)(v:Value)(a:jE)(h:Rd w g B s (k:Int) m v a)(N:s.size<=4611686018427387904)(hk:k<=s.size)(V:B<=w.heap.size)
 (h5:0<=m) (hi:m<=9223372036854775807) (Z:a.length<=k) (r:(a.length:Int)+(zaj (s.data.toList.drop k) (m-a.length)).n<=140737488355328):
 Calls prog 129 #[.pointer g] w (zdn w g B s k m a (zaj (s.data.toList.drop k) (m-a.length))):=by
 have r:=hIx r;have L:s.size<=maxLen:=by unfold maxLen;omega
 obtain⟨A,cp,rfl⟩:=h.form;have u:(s.data.toList.drop k).length=s.size-k:=by rw[QM,Zy];rfl
 have l:=zlR w g B s k m _ a h N hk V;have d:=hIx (zom (s.data.toList.drop k) (m-a.length))
 by_cases c0:(zaD (s.data.toList.drop k)).e≠0
 ·rw[Qg c0]at d
  obtain⟨n,C⟩:∃n,(zaD (s.data.toList.drop k)).n=n:=⟨_,rfl⟩
  obtain⟨e,z⟩:∃e,(zaD (s.data.toList.drop k)).e=e:=⟨_,rfl⟩
  have qe:(e != 0)=true:=Q7.2 (by rw[<-z];exact c0);unfold zcu at l;rw[C,z]at l;have HE:=hIx z;clear z C c0 u
  go_in
  go_wp2_with (go_at_call 167;refine l.mono ?_;rintro O G ⟨rfl,b,f⟩)
  go_ret2
  unfold zdn;rw[d.out];exact⟨by rw[HE.out];rfl,⟨_,by rw[QE];exact b⟩,f⟩
 ·have z:(zaD (s.data.toList.drop k)).e=0:=Z2.1 c0
  rw[Qe c0]at d;have I:=zwE z;obtain⟨n,C⟩:∃n,(zaD (s.data.toList.drop k)).n=n:=⟨_,rfl⟩
  obtain⟨c,K⟩:∃c,(zaD (s.data.toList.drop k)).c=c:=⟨_,rfl⟩
  rw[C,K,u]at I;obtain⟨l1,l2,l3⟩:=I;obtain⟨n,rfl⟩:=Zt l2;obtain⟨p,X⟩:∃p,k+c=p:=⟨_,rfl⟩
  unfold zcu at l;rw[C,z,K,X]at l;rw[C,K,u]at d;have h8:p<=s.size:=by omega
  have i4:IntKind.i64.wrap (m-(a.length:Int))=m-(a.length:Int):=Qx _ (by omega);have i5:IntKind.i64.wrap ((s.size:Int)-(p:Int))=(s.size:Int)-(p:Int):=Qx _ (by omega);clear C K z c0 u
  by_cases c1:m-(a.length:Int)<(n:Int)
  ·rw[Qg c1]at d
   go_in
   go_wp2_with (go_at_call 167;refine l.mono ?_;rintro O G ⟨rfl,b,f⟩);have h2:=b.c2;have D:=b.c3
   go_quiet (fail)
   go_wp2
   go_ret2
   unfold zdn;rw[d.out];exact⟨rfl,⟨_,by rw[QE];exact(b.drewN nq).eq (by show (p:Int)=((k+c:Nat):Int);omega)⟩,below_drewN f nq⟩
  ·rw[Qe c1]at d
   have d1:decide (m-(a.length:Int)<(n:Int))=false:=Qq c1
   by_cases c2:(s.size:Int)-(p:Int)<(n:Int)
   ·rw[Qg (by omega)]at d
    clear c1
    go_in
    go_wp2_with (go_at_call 167;refine l.mono ?_;rintro O G ⟨rfl,b,f⟩);have h2:=b.c2;have D:=b.c3
    go_quiet (fail)
    have j:=b.drewN nq;have o:=below_drewN f nq;generalize G.drewN nq=W at *;clear h2 D b f;have Q:=j.c0;have h1:=j.c1;go_wp2_with fail
    go_quiet (fail)
    go_wp2
    go_ret2
    unfold zdn;rw[d.out];exact⟨rfl,⟨_,by rw[QE];exact(j.drewN nq).eq (by show (p:Int)=((k+c:Nat):Int);omega)⟩,below_drewN o nq⟩
   ·rw[Qe (by omega)]at d
    have d2:decide ((s.size:Int)-(p:Int)<(n:Int))=false:=Qq c2;have T:p+n<=s.size:=by omega
    have d:Hid (zaj (s.data.toList.drop k) (m-a.length)=⟨n,(zar (s.data.toList.drop (p+n))).1,c+n+(zar (s.data.toList.drop (p+n))).2,(s.extract p (p+n)).data.toList⟩):=by
     unfold Hid;rw[d.out,Q8,Zz,Zz,ZK,show k+(c+n)=p+n by omega,X,show p+n-p=n by omega]
    have U:a.length+n<=140737488355328:=by have q:=r.out;rw[d.out]at q;dsimp only at q;omega
    have i6:IntKind.i64.wrap ((p:Int)+(n:Int))=(p:Int)+(n:Int):=Qx _ (by omega);have i7:(p:Int)<=(p:Int)+(n:Int):=by omega
    have i8:(p:Int)+(n:Int)<=(s.size:Int):=by omega
    have i9:0<=(p:Int):=by omega
    have hd:0<=(p:Int)+(n:Int):=by omega
    have h4:((p:Int)+(n:Int)).toNat=p+n:=by omega
    clear c1 c2
    go_in
    go_wp2_with (go_at_call 167;refine l.mono ?_;rintro O G ⟨rfl,b,f⟩);have h2:=b.c2;have D:=b.c3
    go_quiet (fail)
    have j:=b.drewN nq;have o:=below_drewN f nq;generalize G.drewN nq=W at *;clear h2 D b f;have Q:=j.c0;have h1:=j.c1;go_wp2_with fail
    go_quiet (fail)
    have i:=j.drewN nq;have y:=below_drewN o nq;generalize W.drewN nq=Y at *;clear Q h1 j o;have Q:=i.c0;have h1:=i.c1;have D:=i.c3;have hf:=i.free 3;have ha:=i.apart;have E:B<=Y.heap.size:=Ql V y.size;have S:(s.extract p (p+n)).size=n:=by rw[Z0];omega
    go_wp2_with fail;have J:=i.hB
    go_region_law ((refine zh5 rfl (.tmp 45) (.tmp 60) rfl B (.slice A a.length cp) a rfl (by exact i.own) (by exact E) (s.extract p (p+n)) rfl (by rw[S];omega) ?_);intro v' w4 t H x;obtain⟨A',hg,L',rfl⟩:=t.form;have h6:=Rd.freeAfter i.drew x;have h7:=Rd.cellAfter i.drew x;have ⟨h9,hh⟩:=Rd.afters i.drew x)
    all_goals
     go_wp2_with (go_at_call 168;refine(zg8 _ g B s (p+n) m _ _ (((i.drew.grown t x).at_ _).eq (by omega)) L T (Ql E (by have:=H.size;simp at this ⊢;omega))).mono ?_;rintro e w6 ⟨rfl,P,F⟩)
     go_ret2
     unfold zdn;rw[d.out];exact⟨rfl,⟨_,P.eq (by show ((p+n+_:Nat):Int)=((k+(c+n+_):Nat):Int);omega)⟩,(((y.drew.trans H).setCell (p:=⟨g,3,none⟩) J _).setCell (p:=⟨g,1,none⟩) J _).trans F⟩
