/- Lemmas for the last texts. -/
import Derived.Test.YtnnokglddolglaaGreatDoorM23
set_option maxHeartbeats 3200000
set_option maxRecDepth 100000
namespace Go.Proofs.YtnnokglddolglaaGreatDoor
open Go.RowKit Go.Proofs.Tryz
theorem zfF(b:UInt8)(w:World):
 Calls prog 239 #[.int .u8 b.toNat] w λe w'=>e=.returned (.bool (zdd b))/\w'=w:=by
 have hb:(b.toNat:Int)<=255:=by have:=b.toNat_lt;omega
 have a:(b==32)=decide (b.toNat=32):=by
  rw[Bool.eq_iff_iff,Zk,QY];exact⟨λh=>by rw[h];rfl,λh=>Zu.1 h⟩
 unfold zdd;rw[a];generalize b.toNat=n at *
 go_in
 go_wp2
 all_goals
  go_ret;refine⟨zaI ?_,rfl⟩;rw[Bool.eq_iff_iff];simp
  try omega
def zAn(s:ByteArray)(w:World)(v i:Value)(wr:World):Prop:=
 ∃(k:Nat) (a:List UInt8) (p:Bool),k<=s.size/\i=.int .i64 k/\a.length<=k/\OwnB wr w.heap.size v a/\zb6 s.data.toList=a++sqGo p (s.data.toList.drop k)/\
  (k=0->p=false)/\(∀j (h:j<s.size),k=j+1->p=zdd s[j])/\Below w.heap.size w wr
theorem zuy(p:Bool)(b:UInt8)(l:List UInt8):sqGo p (b::l)=if zdd b=true then (if p=true then sqGo true l else 32::sqGo true l)else b::sqGo false l:=rfl
theorem zjd(s:ByteArray)(w:World)(T:s.size<=140737488351232):
 Calls prog 196 #[.string s] w (zbN (bs (zb6 s.data.toList)) w):=by
 have N:Hid (s.data.toList.length=s.size):=by unfold Hid;simp
 go_in
 go_wp2
 go_loopw [3,7] (λv i wr=>zAn s w v i wr) (λ_ i _=>s.size-(intOf i).toNat)
 case atStart=>exact⟨0,[],false,Qm _,rfl,Qd _,OwnB.nil _ _,rfl,λ_=>rfl,λj _ h=>absurd h (by omega),Qg _ _⟩
 case round=>
  obtain⟨k,g,p,S,rfl,I,c,J,t,o,l⟩:=hrel;have f:=l.size;have y:=hIx J;clear J
  by_cases E:k<s.size
  ·have C:=hIx (zaG s k E)
   have H:=hIx (zuy p s[k] (s.data.toList.drop (k+1)));cases u:zdd s[k]with
   |false=>
    have A:=hIx u
    have a:Hid (∀i (h:i<s.size),k+1=i+1->zdd s[k]=zdd s[i]):=λi h e=>by
     have F:k=i:=by omega
     subst F;rfl
    rw[u]at a;have d:sqGo p (s[k]::s.data.toList.drop (k+1))=s[k]::sqGo false (s.data.toList.drop (k+1)):=by rw[H.out,u,Qe (by decide)]
    have z:=hIx d;clear u t o d;go_wp2_with (first|(go_at_call 239;refine(zfF _ _).mono ?_;rintro e D ⟨rfl,rfl⟩;rw[A.out])|(at_builtin;refine zaf rfl _ _ rfl w.heap.size _ g rfl (by exact c) (by exact f) _ [s[k]] rfl 1 1 rfl rfl (by omega) ?_;intro v' w2 b m n));exact⟨⟨k+1,g++[s[k]],false,by omega,by go_num,by simp;omega,b,by rw[y.out,C.out,z.out];simp,λh=>absurd h (by omega),a.out,l.trans m⟩,by simp[intOf];omega⟩
   |true=>
    have A:=hIx u
    have a:Hid (∀i (h:i<s.size),k+1=i+1->zdd s[k]=zdd s[i]):=λi h e=>by
     have F:k=i:=by omega
     subst F;rfl
    rw[u]at a;have d:sqGo p (s[k]::s.data.toList.drop (k+1))=if p=true then sqGo true (s.data.toList.drop (k+1))else 32::sqGo true (s.data.toList.drop (k+1)):=by rw[H.out,u,Qi rfl]
    have z:=hIx d;clear u d
    by_cases q:k=0
    ·have B:=hIx (t q)
     have G:((k:Int)==0)=true:=Zk.2 (by omega);have O:=hIx q;clear q t o;go_wp2_with (first|(go_at_call 239;refine(zfF _ _).mono ?_;rintro e D ⟨rfl,rfl⟩;rw[A.out])|(at_builtin;refine zaf rfl _ _ rfl w.heap.size _ g rfl (by exact c) (by exact f) _ [32] rfl 1 1 rfl rfl (by omega) ?_;intro v' w2 b m n));exact⟨⟨k+1,g++[32],true,by omega,by go_num,by simp;omega,b,by rw[y.out,C.out,z.out,B.out,Qe (by decide)];simp,λh=>absurd h (by omega),a.out,l.trans m⟩,by simp[intOf];omega⟩
    ·obtain⟨j,rfl⟩:∃j,k=j+1:=⟨k-1,by omega⟩
     have P:j<s.size:=by omega
     have r:=o j P rfl;have G:((j:Int)+1==0)=false:=Qb.2 (by omega);have x:(j:Int)+1-1=j:=by omega
     have K:=hIx x;clear q t o x;cases p with
     |true=>
      have B:=hIx r.symm;clear r;go_wp2_with (first|(go_at_call 239;refine(zfF _ _).mono ?_;rintro e D ⟨rfl,rfl⟩;first|rw[A.out]|rw[B.out])|(at_builtin;refine zaf rfl _ _ rfl w.heap.size _ g rfl (by exact c) (by exact f) _ [32] rfl 1 1 rfl rfl (by omega) ?_;intro v' w2 b m n));exact⟨⟨j+2,g,true,by omega,by go_num,by omega,c,by rw[y.out,C.out,z.out];simp,λh=>absurd h (by omega),a.out,l⟩,by simp[intOf];omega⟩
     |false=>
      have B:=hIx r.symm;clear r;go_wp2_with (first|(go_at_call 239;refine(zfF _ _).mono ?_;rintro e D ⟨rfl,rfl⟩;first|rw[A.out]|rw[B.out])|(at_builtin;refine zaf rfl _ _ rfl w.heap.size _ g rfl (by exact c) (by exact f) _ [32] rfl 1 1 rfl rfl (by omega) ?_;intro v' w2 b m n));exact⟨⟨j+2,g++[32],true,by omega,by go_num,by simp;omega,b,by rw[y.out,C.out,z.out,Qe (by decide)];simp,λh=>absurd h (by omega),a.out,l.trans m⟩,by simp[intOf];omega⟩
  ·have Q:=c.string
   have L:Hid (zb6 s.data.toList=g):=by unfold Hid;rw[y.out,QP (by rw[N.out];omega)];cases p <;> simp[sqGo]
   clear c;go_wp2;go_ret;exact⟨by rw[L.out];rfl,l⟩
def zzF(s t:ByteArray)(w:World)(v i:Value)(wr:World):Prop:=
 ∃k:Nat,k<=s.size/\i=.int .i64 k/\OwnB wr w.heap.size v (outL t.data.toList (s.data.toList.take k))/\Below w.heap.size w wr
theorem zje(s t:ByteArray)(w:World)(D:s.size<=140737488351232):
 Calls prog 240 #[.string s,.string t] w (zbN (bs (outL t.data.toList s.data.toList)) w):=by
 have y:Hid (s.data.toList.length=s.size):=by unfold Hid;simp
 go_in
 go_wp2
 go_loopw [5,9] (λv i wr=>zzF s t w v i wr) (λ_ i _=>s.size-(intOf i).toNat)
 case atStart=>exact⟨0,Qm _,rfl,OwnB.nil _ _,Qg _ _⟩
 case round=>
  obtain⟨k,C,rfl,a,b⟩:=hrel;have c:=b.size
  by_cases l:k<s.size
  ·have u:=hIx (zhT s k l)
   have o:(outL t.data.toList (s.data.toList.take k)).length<=(s.data.toList.take k).length:=Zl _ _;have m:(s.data.toList.take k).length<=k:=ZU _ _;have p:(outL t.data.toList (s.data.toList.take k)).length<=k:=by omega
   clear o m;obtain⟨x,j⟩:∃x,Lib.indexByte t.data.toList s[k]=x:=⟨_,rfl⟩
   have r:=hIx j
   have g:Hid (outL t.data.toList (s.data.toList.take (k+1))=outL t.data.toList (s.data.toList.take k)++(if x<0 then [s[k]]else [])):=by
    unfold Hid outL;rw[u.out,ZM]
    congr 1
    by_cases h:x<0
    ·rw[Qi h];simp[j,h]
    ·rw[Qe h];simp[j,h]
   clear j
   by_cases h:x<0
   ·have f:Hid (outL t.data.toList (s.data.toList.take (k+1))=outL t.data.toList (s.data.toList.take k)++[s[k]]):=by unfold Hid;rw[g.out,Qi h]
    go_wp2_with (first|(go_at_call 122;refine(zaY _ _ _).mono ?_;rintro e w' ⟨rfl,rfl⟩;rw[r.out])|(at_builtin;refine zaf rfl _ _ rfl w.heap.size _ (outL t.data.toList (s.data.toList.take k)) rfl (by exact a) (by exact c) _ [s[k]] rfl 1 1 rfl rfl (by omega) ?_;intro v' B d n q));exact⟨⟨k+1,by omega,by go_num,by rw[f.out];exact d,b.trans n⟩,by simp[intOf];omega⟩
   ·have f:Hid (outL t.data.toList (s.data.toList.take (k+1))=outL t.data.toList (s.data.toList.take k)):=by unfold Hid;rw[g.out,Qe h,QI]
    go_wp2_with (go_at_call 122;refine(zaY _ _ _).mono ?_;rintro e w' ⟨rfl,rfl⟩;rw[r.out]);exact⟨⟨k+1,by omega,by go_num,by rw[f.out];exact a,b⟩,by simp[intOf];omega⟩
  ·have z:Hid (s.data.toList.take k=s.data.toList):=QC (by rw[y.out];omega)
   have A:=a.string;clear a;go_wp2;go_ret;exact⟨by show Ending.returned (.string (bs (outL t.data.toList (s.data.toList.take k))))=_;rw[z.out],b⟩
theorem zqF(s:ByteArray)(w:World)(b:s.size<=140737488351232):
 Calls prog 197 #[.string s] w (zbN (bs (outL [0] s.data.toList)) w):=by
 go_in
 go_wp2_with (go_at_call 240;refine(zje _ _ _ b).mono ?_;rintro e w' ⟨rfl,a⟩);go_ret;exact⟨rfl,a⟩
def zd5(f:UInt8->UInt8)(k:Nat)(l:List UInt8):List UInt8:=(l.take k).map f++l.drop k
theorem znl(f:UInt8->UInt8)(k:Nat)(l:List UInt8):(zd5 f k l).length=l.length:=by simp[zd5];omega
theorem zpk(f:UInt8->UInt8)(k:Nat)(l:List UInt8)(h:k<l.length)(a:k<(zd5 f k l).length):(zd5 f k l)[k]=l[k]:=by
 have e:(zd5 f k l)[k]? = l[k]? := by
  unfold zd5;rw[QZ (by simp;omega)];simp[Xb (Q5 h)]
 rw[Qc a,Qc h]at e;exact QD e
theorem zmP(f:UInt8->UInt8)(k:Nat)(l:List UInt8)(h:k<l.length):(zd5 f k l).set k (f l[k])=zd5 f (k+1) l:=by
 have a:((l.take k).map f).length=k:=by simp;omega
 unfold zd5;rw[ZV k _ (by omega),a,Xh,Zf h,Zb,Qq h,QU,QH]
 rfl
theorem zqy(f:UInt8->UInt8)(k:Nat)(l:List UInt8)(h:k<l.length)(e:f l[k]=l[k]):zd5 f k l=zd5 f (k+1) l:=by
 rw[<-zmP f k l h,e];refine(List.ext_getElem (by simp) λi h1 h2=>?_).symm;rw[List.getElem_set]
 split
 ·rename_i a;subst a;rw[zpk f _ _ h]
 ·rfl
theorem zrI(f:UInt8->UInt8)(l:List UInt8):zd5 f 0 l=l:=by simp[zd5]
theorem ztB(f:UInt8->UInt8)(k:Nat)(l:List UInt8)(h:l.length<=k):zd5 f k l=l.map f:=by
 simp[zd5,QC h,QP h]
theorem zyT(b:UInt8)(r:List UInt8):dsL (b::r)=if b=32/\(r.head? = some 47\/r.head? = some 40)then dsL r else b::dsL r:=by
 cases r with
 |nil=>rw[Qe (by simp)];rfl
 |cons c r=>rw[dsL];simp
def zy5(l:List UInt8)(w:World)(g:Nat)(i:Value)(wr:World):Prop:=
 ∃k:Nat,k<=l.length/\i=.int .i64 k/\BytesAt wr g (zd5 zbW k l)/\Below w.heap.size w wr
def zzf(l:List UInt8)(w:World)(v i:Value)(wr:World):Prop:=
 ∃(k:Nat) (a:List UInt8),k<=l.length/\i=.int .i64 k/\a.length<=k/\OwnB wr w.heap.size v a/\dsL l=a++dsL (l.drop k)/\Below w.heap.size w wr
theorem zym(s:ByteArray)(w:World)(hs:s.size<=140737488351232):
 Calls prog 198 #[.string s] w (zbN (bs (cmdL s.data.toList)) w):=by
 have N:(outL zgT s.data.toList).length<=s.data.toList.length:=Zl _ _;rw[show s.data.toList.length=s.size by simp]at N;have q:Hid (cmdL s.data.toList=zav (dsL (zb6 ((outL zgT s.data.toList).map zbW)))):=rfl;obtain⟨y,hy⟩:∃y,outL zgT s.data.toList=y:=⟨_,rfl⟩
 have HY:=hIx hy;rw[hy]at N q;clear hy
 go_in
 go_wp2_with (first|(go_at_call 240;refine(zje _ _ _ hs).mono ?_;rintro e w1 ⟨rfl,K⟩;rw[show (ByteArray.mk #[92,34,39,94]).data.toList=zgT from rfl,HY.out])|(refine zer rfl _ 9 140 5 rfl underlying9 underlying140 underlying5 _ rfl ?_;intro c w2 hc t O L));have hg:w.heap.size<=w1.heap.size:=K.size;have D:=K.trans (O.mono hg);rw[zae]at t;have HZ:=hIx L;clear L hc;obtain⟨g,B⟩:∃g,w1.heap.size=g:=⟨_,rfl⟩
 rw[B]at t hg;have hf:=hIx B;simp only[B];clear B O K
 go_loopw [13] (λi wr=>zy5 y w g i wr) (λi _=>y.length-(intOf i).toNat)
 case atStart=>exact⟨0,Qm _,rfl,by rw[zrI];exact t,D⟩
 case round=>
  obtain⟨k,hk,rfl,hb,o⟩:=hrel;clear t D;have C:Hid ((zd5 zbW k y).length=y.length):=znl _ _ _
  by_cases u:k<y.length
  ·have hl:k<(zd5 zbW k y).length:=by rw[C.out];exact u
   have h8:=hb.cell hl;have hj:=hb.free hl;have S:=zpk zbW k y u hl;rw[S]at h8;have HB:=hIx hb;have he:=(y[k]).toNat_lt;clear hb S
   by_cases J:y[k]=44\/y[k]=59
   ·have I:Hid (zbW y[k]=32):=by unfold Hid zbW;rw[Qi J]
    have n:(((y[k].toNat:Int)==44)=true)\/(((y[k].toNat:Int)==44)=false/\((y[k].toNat:Int)==59)=true):=by
     rcases J with h|h
     ·left;rw[h];decide
     ·right;rw[h];exact⟨by decide,by decide⟩
    clear J
    rcases n with Y|⟨Y,q2⟩
    all_goals
     go_wp2
     refine⟨⟨k+1,by omega,by go_num,?_,o.setCell (p:=⟨g,k,none⟩) hg _⟩,by simp[intOf];omega⟩;rw[<-zmP zbW k _ u,I.out];exact HB.out.set hl 32
   ·have I:Hid (zbW y[k]=y[k]):=by unfold Hid zbW;rw[Qe J]
    have Y:((y[k].toNat:Int)==44)=false:=Qb.2 (λh=>J (.inl (Zu.1 (by show y[k].toNat=44;omega))));have q2:((y[k].toNat:Int)==59)=false:=Qb.2 (λh=>J (.inr (Zu.1 (by show y[k].toNat=59;omega))));clear J
    go_wp2
    refine⟨⟨k+1,by omega,by go_num,?_,o⟩,by simp[intOf];omega⟩;rw[<-zqy zbW k _ u I.out];exact HB.out
  ·have h4:=zcW (P:=prog) hb 140 9 5 y.length c (by rw[C.out]) underlying140 underlying5 underlying9
   rw[ztB zbW k y (by omega)]at h4;have H:(y.map zbW).length=y.length:=Qh _;have F:=o.size;clear hb;have h0:(bs (y.map zbW)).size<=140737488351232:=by rw[zaj,H];omega
   have G:=zmM (y.map zbW) false;rw[H]at G;obtain⟨z,V⟩:∃z,bs (zb6 (y.map zbW))=z:=⟨_,rfl⟩
   have Q:z.data.toList=zb6 (y.map zbW):=by rw[<-V];rfl
   have hd:z.size<=y.length:=by rw[<-V,zaj];exact G
   rw[<-Q]at q;have h6:=hIx V;have m:Hid (z.data.toList.length=z.size):=by unfold Hid;simp
   clear V G H Q;go_wp2_with (go_at_call 196;refine(zjd _ _ h0).mono ?_;rintro e w3 ⟨rfl,h5⟩;rw[zae,h6.out])
   go_loopw [6,33] (λv i wr=>zzf z.data.toList w v i wr) (λ_ i _=>z.size-(intOf i).toNat)
   case atStart=>exact⟨0,[],Qm _,rfl,Qd _,OwnB.nil _ _,rfl,o.trans (h5.mono F)⟩
   case round=>
    obtain⟨a,l,h3,rfl,h9,j,hr,f⟩:=hrel;have b:=f.size;rw[m.out]at h3;have T:=hIx hr;clear hr
    by_cases U:a<z.size
    ·have X:=hIx (zaG z a U)
     have A:=hIx (zyT z[a] (z.data.toList.drop (a+1)));have hi:(a:Int)<(z.size:Int):=by omega
     by_cases c1:z[a]=32
     ·have Y:((z[a].toNat:Int)==32)=true:=by rw[c1];decide
      by_cases c2:a+1<z.size
      ·have W:(z.data.toList.drop (a+1)).head? = some z[a+1]:=by rw[List.head?_drop,XL z _ c2]
       have q2:(a:Int)+1<(z.size:Int):=by omega
       have i3:0<=(a:Int)+1:=by omega
       have i5:((a:Int)+1).toNat=a+1:=by omega
       by_cases c3:z[a+1]=47\/z[a+1]=40
       ·have x:Hid (dsL (z[a]::z.data.toList.drop (a+1))=dsL (z.data.toList.drop (a+1))):=by
         unfold Hid;rw[A.out,W,Qi ⟨c1,by rcases c3 with h|h;exact .inl (by rw[h]);exact .inr (by rw[h])⟩]
        have n:(((z[a+1].toNat:Int)==47)=true)\/(((z[a+1].toNat:Int)==47)=false/\((z[a+1].toNat:Int)==40)=true):=by
         rcases c3 with h|h
         ·left;rw[h];decide
         ·right;rw[h];exact⟨by decide,by decide⟩
        clear c1 c3 W
        rcases n with q3|⟨q3,q4⟩
        all_goals
         go_wp2;exact⟨⟨a+1,l,by rw[m.out];omega,by go_num,by omega,j,by rw[T.out,X.out,x.out],f⟩,by simp[intOf];omega⟩
       ·have x:Hid (dsL (z[a]::z.data.toList.drop (a+1))=z[a]::dsL (z.data.toList.drop (a+1))):=by
         unfold Hid;rw[A.out,W,Qe (by rintro⟨_,h|h⟩;exact c3 (.inl (QD h));exact c3 (.inr (QD h)))]
        have q3:((z[a+1].toNat:Int)==47)=false:=Qb.2 (λh=>c3 (.inl (Zu.1 (by show z[a+1].toNat=47;omega))));have q4:((z[a+1].toNat:Int)==40)=false:=Qb.2 (λh=>c3 (.inr (Zu.1 (by show z[a+1].toNat=40;omega))));clear c1 c3 W;go_wp2_with (at_builtin;refine zaf rfl _ _ rfl w.heap.size _ l rfl (by exact j) (by exact b) _ [z[a]] rfl 1 1 rfl rfl (by omega) ?_;intro v' w4 d r E);exact⟨⟨a+1,l++[z[a]],by rw[m.out];omega,by go_num,by simp;omega,d,by rw[T.out,X.out,x.out];simp,f.trans r⟩,by simp[intOf];omega⟩
      ·have x:Hid (dsL (z[a]::z.data.toList.drop (a+1))=z[a]::dsL (z.data.toList.drop (a+1))):=by
        unfold Hid;rw[A.out,Qe (by rw[QP (by rw[m.out];omega)];simp)]
       have q2:(z.size:Int)<=(a:Int)+1:=by omega
       clear c1;go_wp2_with (at_builtin;refine zaf rfl _ _ rfl w.heap.size _ l rfl (by exact j) (by exact b) _ [z[a]] rfl 1 1 rfl rfl (by omega) ?_;intro v' w4 d r E);exact⟨⟨a+1,l++[z[a]],by rw[m.out];omega,by go_num,by simp;omega,d,by rw[T.out,X.out,x.out];simp,f.trans r⟩,by simp[intOf];omega⟩
     ·have x:Hid (dsL (z[a]::z.data.toList.drop (a+1))=z[a]::dsL (z.data.toList.drop (a+1))):=by
       unfold Hid;rw[A.out,Qe (λh=>c1 h.1)]
      have Y:((z[a].toNat:Int)==32)=false:=Qb.2 (λh=>c1 (Zu.1 (by show z[a].toNat=32;omega)));clear c1;go_wp2_with (at_builtin;refine zaf rfl _ _ rfl w.heap.size _ l rfl (by exact j) (by exact b) _ [z[a]] rfl 1 1 rfl rfl (by omega) ?_;intro v' w4 d r E);exact⟨⟨a+1,l++[z[a]],by rw[m.out];omega,by go_num,by simp;omega,d,by rw[T.out,X.out,x.out];simp,f.trans r⟩,by simp[intOf];omega⟩
    ·have ha:=j.string
     have x:Hid (dsL z.data.toList=l):=by unfold Hid;rw[T.out,QP (by rw[m.out];omega)];simp[dsL]
     have Z:(bs l).size<=maxLen:=by rw[zaj];unfold maxLen;omega
     clear j;go_wp2_with (go_at_call 64;refine(zbg _ _ Z).mono ?_;rintro e w5 ⟨rfl,h7⟩;rw[zae]);go_ret;exact⟨by rw[q.out,x.out];rfl,f.trans (h7.mono b)⟩
theorem zyK(l:List UInt8):(cmdL l).length<=l.length:=by
 have h1:(outL zgT l).length<=l.length:=Zl _ _;have h2:=zmM ((outL zgT l).map zbW) false;have a:=zxs (zb6 ((outL zgT l).map zbW));rw[Qh]at h2;unfold cmdL zav;rw[Qh];unfold zb6 at *;omega
def upP:List UInt8:=[46,46]
def zjn(a:Bool)(left:List (List UInt8))(p:List UInt8):List (List UInt8):=
 if p=[]\/p=[46]then left else if p=upP then (if left≠[]/\left.getLast? ≠ some upP then left.dropLast else if a=true then left else left++[p])else left++[p]
def zbL(a:Bool)(b:List (List UInt8)):List (List UInt8):=b.foldl (zjn a) []
def dotP(p:List UInt8):Bool:=decide (p=[]\/p=[46]\/p=upP)
def zlH(left a:List (List UInt8)):Bool:=decide (left≠[]/\1<a.length)&&dotP (a.getLast?.getD [])
def outP(a:Bool)(left:List (List UInt8))(sl:Bool):List UInt8:=(if a=true then [47]else [])++Lib.join left [47]++(if sl=true then [47]else [])
def ztU(s:List UInt8):List UInt8:=outP (s.head? == some 47) (zbL (s.head? == some 47) (splL 47 s)) (zlH (zbL (s.head? == some 47) (splL 47 s)) (splL 47 s))
def wtP(l:List (List UInt8)):Nat:=(l.map λp=>p.length+1).sum
theorem zjH(a b:List (List UInt8)):wtP (a++b)=wtP a+wtP b:=by unfold wtP;rw[QU,List.sum_append]
theorem zx2(c:UInt8)(l:List UInt8):wtP (splL c l)=l.length+1:=by
 induction l with
 |nil=>rfl
 |cons b l ih=>
  rw[splL]
  split
  ·have e:wtP ([]::splL c l)=1+wtP (splL c l):=by unfold wtP;simp
   rw[e,ih,Qo];omega
  ·cases h:splL c l with
   |nil=>exact absurd h (zlz c l)
   |cons x r=>
    rw[h]at ih;have a:wtP ((b::x)::r)=x.length+1+1+wtP r:=by unfold wtP;simp
    have d:wtP (x::r)=x.length+1+wtP r:=by unfold wtP;simp
    rw[d]at ih;rw[a,Qo];omega
theorem zw3(l:List (List UInt8)):wtP l.dropLast<=wtP l:=by
 rcases List.eq_nil_or_concat l with e|⟨a,x,e⟩
 ·subst e;exact Qd _
 ·rw[List.concat_eq_append]at e
  subst e;rw[List.dropLast_concat,zjH];omega
theorem zu4(a:Bool)(l:List (List UInt8))(p:List UInt8):wtP (zjn a l p)<=wtP l+(p.length+1):=by
 have h1:wtP (l++[p])=wtP l+(p.length+1):=by rw[zjH];rfl
 have h2:=zw3 l;unfold zjn
 (repeat' split) <;> omega
theorem zpe(b:Bool):∀(a l:List (List UInt8)),wtP (a.foldl (zjn b) l)<=wtP l+wtP a
 | [],l=>Nat.le_add_right _ _
 |p::a,l=>by
  have h1:=zpe b a (zjn b l p);have h2:=zu4 b l p;have c:wtP (p::a)=p.length+1+wtP a:=by unfold wtP;simp
  rw[XK,c];omega
theorem zpg(c:UInt8):∀l:List (List UInt8),(Lib.join l [c]).length<=wtP l
 | []=>by simp[Lib.join_nil]
 |x::r=>by
  have b:∀r:List (List UInt8),(Lib.joinTail [c] r).length=wtP r:=λr=>by
   induction r with
   |nil=>rfl
   |cons y r ih=>
    have a:wtP (y::r)=y.length+1+wtP r:=by unfold wtP;simp
    rw[a,<-ih];simp only[Lib.joinTail,QX,List.flatten_cons,Qa,Qo,QR];omega
  have a:wtP (x::r)=x.length+1+wtP r:=by unfold wtP;simp
  rw[Lib.join_cons,Qa,b,a];omega
theorem zug(a:Bool)(s:List UInt8):wtP (zbL a (splL 47 s))<=s.length+1:=by
 have h:=zpe a (splL 47 s) [];rw[zx2]at h;have e:wtP ([]:List (List UInt8))=0:=rfl;rw[e]at h;unfold zbL;omega
theorem zvZ(s:List UInt8):(ztU s).length<=s.length+3:=by
 have h1:=zug (s.head? == some 47) s;have h2:=zpg 47 (zbL (s.head? == some 47) (splL 47 s));unfold ztU outP;rw[Qa,Qa];have a:(if (s.head? == some 47)=true then [(47:UInt8)]else []).length<=1:=by split <;> simp
 have b:(if zlH (zbL (s.head? == some 47) (splL 47 s)) (splL 47 s)=true then [(47:UInt8)]else []).length<=1:=by split <;> simp
 omega
theorem OwnS.head{w:World}{base:Nat}{v:Value}{l:List ByteArray}(h:OwnS w base v l)(hl:0<l.length):∃g c,v=.slice (some ⟨g,0,none⟩) l.length c/\l.length<=c:=by
 rcases h.2 with ⟨_,h2⟩|⟨g,cap,a,h1,_,_,b,_⟩
 ·omega
 ·exact⟨g,cap,h1,b⟩
theorem OwnS.pop{w:World}{base g c:Nat}{k:ByteArray}{l:List ByteArray}(h:OwnS w base (.slice (some ⟨g,0,none⟩) (l++[k]).length c) (l++[k])):OwnS w base (.slice (some ⟨g,0,none⟩) l.length c) l:=by
 unfold OwnS at h ⊢;rw[Qa,QG,QU]at h;exact ownsRow_pop (by simp) h
theorem OwnS.cell{w:World}{base g c:Nat}{l:List ByteArray}(h:OwnS w base (.slice (some ⟨g,0,none⟩) l.length c) l)(k:Nat)(a:k<l.length):w.cell? ⟨g,k,none⟩=some (.string l[k]):=by
 have h1:=Zx (g:=g) h (by simp[Value.ownBlock]) k (.string l[k]) (by simp[a]);rw[zbq]at h1;exact h1
theorem zwq{base:Nat}(L:List ByteArray)(v:Value)(c:UInt8)(w:World)(d:OwnS w base v L)(b:(Lib.join (L.map (·.data.toList)) [c]).length<=140737488355328)(i:L.length<=140737488355328):
 Calls prog 211 #[v,.string ⟨#[c]⟩] w λe w'=>e=.returned (.string (bs (Lib.join (L.map (·.data.toList)) [c])))/\Below w.heap.size w w':=by
 rcases ZO L.length with h|k
 ·have m:L=[]:=QA h
  subst m;obtain⟨n,f,rfl,_⟩:=d.form;exact(strings_Join_none n f ⟨#[c]⟩ w).mono λe w' ⟨h1,h2⟩=>by subst h2;exact⟨h1,Qg _ _⟩
 ·obtain⟨g,f,rfl,a⟩:=d.head k
  refine strings_Join g 0 f L ⟨#[c]⟩ w (λj x l=>?_) (d.lt g (by simp[Value.ownBlock])).2 i a b;obtain⟨h1,h2⟩:=Qw.1 l;rw[Zc,d.cell j h1,h2]
theorem zs3(a b:List UInt8):(a==b)=decide (a=b):=by by_cases h:a=b <;> simp[h]
def zz2(c:Bool)(a:List (List UInt8))(w b:World)(v i:Value)(wr:World):Prop:=
 ∃(k:Nat) (L:List ByteArray),k<=a.length/\i=.int .i64 k/\OwnS wr (w.heap.size+1) v L/\Hid (L.map (·.data.toList)=zbL c (a.take k))/\L.length<=k/\Below (w.heap.size+1) b wr
theorem zvG(s:ByteArray)(w:World)(h6:LibOk w)(hs:s.size<=4194304):Calls prog 195 #[.string s] w λe w'=>e=.returned (.string (bs (ztU s.data.toList)))/\Below w.heap.size w w':=by
 obtain⟨m0,hg⟩:=h6;have I:=strings_Split s ⟨#[47]⟩ m0 w (by omega) hg (by decide);have P:=zb2 47 s;have q:=Xi ⟨#[47]⟩ (by decide) 0 _ s rfl;generalize Lib.splitB ⟨#[47]⟩ 0 (Lib.countB s ⟨#[47]⟩) s=a at I P q;generalize Lib.countB s ⟨#[47]⟩=n at I q;rw[<-q]at I;have h5:=strings_HasPrefix s ⟨#[47]⟩ w
 have Y:Lib.hasPrefix s.data.toList [47]=(s.data.toList.head? == some 47):=by
  unfold Lib.hasPrefix;cases s.data.toList with
  |nil=>rfl
  |cons b r=>
   by_cases hb:b=47
   ·subst hb;rfl
   ·simp only[List.isPrefixOf,List.head?_cons,Bool.and_true]
    rw[Qb.2 (XB hb),Qb.2 (λe=>hb (QD e))]
 rw[show (ByteArray.mk #[47]).data.toList=[47]from rfl,Y]at h5;have hh:ztU s.data.toList=outP (s.data.toList.head? == some 47) (zbL (s.data.toList.head? == some 47) (splL 47 s.data.toList)) (zlH (zbL (s.data.toList.head? == some 47) (splL 47 s.data.toList)) (splL 47 s.data.toList)):=rfl;have hN:=zug (s.data.toList.head? == some 47) s.data.toList;have hG:s.data.toList.length=s.size:=by simp
 rw[hh];generalize (s.data.toList.head? == some 47)=c at *;obtain⟨X,hX⟩:∃X,bs (outP c (zbL c (splL 47 s.data.toList)) (zlH (zbL c (splL 47 s.data.toList)) (splL 47 s.data.toList)))=X:=⟨_,rfl⟩
 rw[hX];have HX:=hIx hX;clear hX;have h4:=hIx P;have h8:=hIx I;have hq:=hIx h5;have hi:Hid (wtP (zbL c (splL 47 s.data.toList))<=4194305):=by unfold Hid;omega
 have hV:a.length<=4194305:=by
  have h1:=Zt List.length P;have h2:=zdR 47 s.data.toList;rw[Qh]at h1;omega
 clear P I q h5 Y hh hN hg hG
 go_in
 go_wp2_with fail;refine hq.out.mono ?_;rintro e w0 ⟨rfl,hp⟩;rw[hp];clear hp;go_wp2_with fail;refine h8.out.mono ?_;rintro e w1 ⟨rfl,O⟩
 have hy:∀W,Below (w.heap.size+1) w1 W->∀j (h:j<a.length),W.cell? ⟨w.heap.size,j,none⟩=some (.string a[j]):=λW hb j h=>by
  have hI:Below (w.alloc (.cells (a.map Value.string).toArray 9)).heap.size (w.alloc (.cells (a.map Value.string).toArray 9)) W:=by rw[O]at hb;simpa using hb
  rw[zar hI j];simp[h]
 have K:w1.heap.size=w.heap.size+1:=by rw[O];simp
 have V:Below w.heap.size w w1:=by rw[O];exact WaL
 have q:(splL 47 s.data.toList).length=a.length:=by rw[<-h4.out,Qh]
 have hQ:0<a.length:=by rw[<-q];exact XO.2 (zlz 47 _)
 have hv:=hIx hy;have hr:=hIx V;have d:=hIx q;have hw:w.heap.size+1<=w1.heap.size:=Nat.le_of_eq K.symm;clear hy V q O K h8 hq;go_wp2
 go_loopw [5,17] (λv i wr=>zz2 c (splL 47 s.data.toList) w w1 v i wr) (λ_ i _=>a.length-(intOf i).toNat)
 case atStart=>exact⟨0,[],Qm _,rfl,OwnS.nil _ _,rfl,Qm _,Qg _ _⟩
 case round=>
  obtain⟨k,L,hk,rfl,l,HL,hP,E⟩:=hrel;rw[d.out]at hk;have p:w.heap.size+1<=wr.heap.size:=Qn hw E.size;have HO:=hIx l;have U:=hIx E
  by_cases h0:k<a.length
  ·have d2:decide ((k:Int)<(a.length:Int))=true:=by simp;omega
   have i7:IntKind.i64.wrap ((k:Int)+1)=(k:Int)+1:=Qx _ (by omega);have hc:=hv.out wr E k h0
   have D:Hid (zbL c ((splL 47 s.data.toList).take (k+1))=zjn c (zbL c ((splL 47 s.data.toList).take k)) a[k].data.toList):=by
    unfold Hid
    have hx:(splL 47 s.data.toList)[k]'(by rw[d.out];exact h0)=a[k].data.toList:=by
     have:=h4.out;simp only[<-this,Zd]
    rw[Qq (by rw[d.out];exact h0),hx];unfold zbL;rw[Xx]
    rfl
   generalize a[k]=x at hc D;rw[<-HL.out]at D;have hH:L.length<=4194305:=by omega
   by_cases c0:x.data.toList=[]
   ·have q0:x.toList.isEmpty=true:=by rw[QS,c0];rfl
    have A:Hid (L.map (·.data.toList)=zbL c ((splL 47 s.data.toList).take (k+1))):=by
     unfold Hid;rw[D.out];unfold zjn;rw[Qi (.inl c0)]
    obtain⟨Ao,H,rfl,_⟩:=l.form;clear c0 l E;go_wp2;exact⟨⟨k+1,L,by rw[d.out];omega,rfl,HO.out,A.out,by omega,U.out⟩,by dsimp only[intOf];omega⟩
   ·have q0:x.toList.isEmpty=false:=by rw[QS];cases h:x.data.toList with|nil=>exact absurd h c0|cons _ _=>rfl
    by_cases c1:x.data.toList=[46]
    ·have q1:(x.toList==[46])=true:=by rw[QS,c1];rfl
     have A:Hid (L.map (·.data.toList)=zbL c ((splL 47 s.data.toList).take (k+1))):=by
      unfold Hid;rw[D.out];unfold zjn;rw[Qi (.inr c1)]
     obtain⟨Ao,H,rfl,_⟩:=l.form;clear c0 c1 l E;go_wp2;exact⟨⟨k+1,L,by rw[d.out];omega,rfl,HO.out,A.out,by omega,U.out⟩,by dsimp only[intOf];omega⟩
    ·have q1:(x.toList==[46])=false:=by rw[QS,Qb];exact c1
     by_cases c2:x.data.toList=upP
     ·have q2:(x.toList==[46,46])=true:=by rw[QS,c2];rfl
      have C:¬(x.data.toList=[]\/x.data.toList=[46]):=λe=>e.elim c0 c1
      have t:Hid (zbL c ((splL 47 s.data.toList).take (k+1))=if L.map (·.data.toList)≠[]/\(L.map (·.data.toList)).getLast? ≠ some upP then (L.map (·.data.toList)).dropLast else if c=true then L.map (·.data.toList)else (L++[x]).map (·.data.toList)):=by
       unfold Hid;rw[D.out];unfold zjn;rw[Qe C,Qi c2,QU];rfl
      rcases List.eq_nil_or_concat L with e|⟨m,y,e⟩
      ·subst e
       cases c with
       |true=>
        have A:Hid (([]:List ByteArray).map (·.data.toList)=zbL true ((splL 47 s.data.toList).take (k+1))):=by
         unfold Hid;rw[t.out,Qe (λh=>h.1 rfl),Qi rfl]
        obtain⟨Ao,H,rfl,_⟩:=l.form;dsimp only[List.length_nil]at *;clear c0 c1 c2 C l E;go_wp2;exact⟨⟨k+1,[],by rw[d.out];omega,rfl,HO.out,A.out,by simp,U.out⟩,by dsimp only[intOf];omega⟩
       |false=>
        have A:Hid ((([]:List ByteArray)++[x]).map (·.data.toList)=zbL false ((splL 47 s.data.toList).take (k+1))):=by
         unfold Hid;rw[t.out,Qe (λh=>h.1 rfl),Qe (by decide)]
        obtain⟨Ao,H,rfl,_⟩:=l.form;dsimp only[List.length_nil]at *;clear c0 c1 c2 C E;go_wp2_with (at_builtin;refine zbD rfl (.tmp 49) (.tmp 51) rfl (w.heap.size+1) (.slice Ao 0 H) [] rfl l p _ [x] rfl 1 1 rfl rfl (by decide) ?_;intro v5 w5 F u hm hf);exact⟨⟨k+1,[]++[x],by rw[d.out];omega,rfl,F,A.out,by simp,U.out.trans u⟩,by dsimp only[intOf];omega⟩
      ·rw[List.concat_eq_append]at e
       subst e;obtain⟨g,H,rfl,h7⟩:=l.head (by simp);have Z:=l.cell m.length (by simp);rw[Z3 (Qd _)]at Z;simp only[Xh,List.getElem_cons_zero]at Z;have B:=l.pop;rw[Qa,QG]at h7 hP hH ⊢;have f:((m++[y]).map (·.data.toList)).getLast? = some y.data.toList:=by rw[QU,List.getLast?_append];rfl
       have j0:decide ((0:Int)<(m.length:Int)+1)=true:=Qu (by omega);have j1:wrap64 (m.length:Int)=(m.length:Int):=IntWalk.wrap64_in _ (by omega);have j3:(m.length:Int)<(m.length:Int)+1:=by omega
       have j5:m.length<=H:=by omega
       by_cases cy:y.data.toList=upP
       ·have q3:(y.toList==[46,46])=true:=by rw[QS,cy];rfl
        have o:¬((m++[y]).map (·.data.toList)≠[]/\((m++[y]).map (·.data.toList)).getLast? ≠ some upP):=λh=>h.2 (by rw[f,cy])
        cases c with
        |true=>
         have A:Hid ((m++[y]).map (·.data.toList)=zbL true ((splL 47 s.data.toList).take (k+1))):=by
          unfold Hid;rw[t.out,Qe o,Qi rfl]
         clear c0 c1 c2 C cy o f l E B;go_wp2;exact⟨⟨k+1,m++[y],by rw[d.out];omega,rfl,by have:=HO.out;simpa using this,A.out,by simp;omega,U.out⟩,by dsimp only[intOf];omega⟩
        |false=>
         have A:Hid ((m++[y]++[x]).map (·.data.toList)=zbL false ((splL 47 s.data.toList).take (k+1))):=by
          unfold Hid;rw[t.out,Qe o,Qe (by decide)]
         have hE:OwnS wr (w.heap.size+1) (.slice (some ⟨g,0,none⟩) (m.length+1) H) (m++[y]):=by have:=l;simpa using this
         clear c0 c1 c2 C cy o f E B l;go_wp2_with (at_builtin;refine zbD rfl (.tmp 49) (.tmp 51) rfl (w.heap.size+1) (.slice (some ⟨g,0,none⟩) (m.length+1) H) (m++[y]) rfl hE p _ [x] rfl 1 1 rfl rfl (by simp;omega) ?_;intro v5 w5 F u hm hf);exact⟨⟨k+1,m++[y]++[x],by rw[d.out];omega,rfl,F,A.out,by simp;omega,U.out.trans u⟩,by dsimp only[intOf];omega⟩
       ·have q3:(y.toList==[46,46])=false:=by rw[QS,Qb];exact cy
        have A:Hid (m.map (·.data.toList)=zbL c ((splL 47 s.data.toList).take (k+1))):=by
         unfold Hid;rw[t.out,Qi ⟨by simp,λh=>cy (by rw[f]at h;exact QD h)⟩,QU];exact(List.dropLast_concat ..).symm
        have hu:=hIx B;clear c0 c1 c2 C cy f l E B;go_wp2;exact⟨⟨k+1,m,by rw[d.out];omega,rfl,hu.out,A.out,by omega,U.out⟩,by dsimp only[intOf];omega⟩
     ·have q2:(x.toList==[46,46])=false:=by rw[QS,Qb];exact c2
      have A:Hid ((L++[x]).map (·.data.toList)=zbL c ((splL 47 s.data.toList).take (k+1))):=by
       unfold Hid;rw[D.out];unfold zjn;rw[Qe (λe=>e.elim c0 c1),Qe c2,QU];rfl
      obtain⟨Ao,H,rfl,_⟩:=l.form;clear c0 c1 c2 E;go_wp2_with (at_builtin;refine zbD rfl (.tmp 22) (.tmp 24) rfl (w.heap.size+1) (.slice Ao L.length H) L rfl l p _ [x] rfl 1 1 rfl rfl (by omega) ?_;intro v5 w5 F u hm hf);exact⟨⟨k+1,L++[x],by rw[d.out];omega,rfl,F,A.out,by simp;omega,U.out.trans u⟩,by dsimp only[intOf];omega⟩
  ·obtain rfl:k=a.length:=by omega
   have d2:decide ((a.length:Int)<(a.length:Int))=false:=by simp
   have Q:L.map (·.data.toList)=zbL c (splL 47 s.data.toList):=by have:=HL.out;rwa[<-d.out,QV]at this
   have hC:=zpg 47 (zbL c (splL 47 s.data.toList));have hj:=zwq L _ 47 wr l (by rw[Q];have:=hi.out;omega) (by omega);rw[Q]at hj;have hR:(bs (Lib.join (zbL c (splL 47 s.data.toList)) [47])).size<=4194305:=by rw[zaj];have:=hi.out;omega
   obtain⟨z,hz,S⟩:∃z,a[a.length-1]? = some z/\Hid (zlH (zbL c (splL 47 s.data.toList)) (splL 47 s.data.toList)=((decide (0<L.length)&&decide (1<a.length))&&((decide (z.data.toList=[])||decide (z.data.toList=[46]))||decide (z.data.toList=upP)))):=by
    refine⟨a[a.length-1]'(by omega),Qc _,?_⟩
    have hK:(splL 47 s.data.toList).getLast?.getD []=(a[a.length-1]'(by omega)).data.toList:=by
     rw[<-h4.out,List.getLast?_eq_getElem?, Qh,ZW,Qc (by omega)]
     rfl
    have hJ:zbL c (splL 47 s.data.toList)≠[]↔0<L.length:=by
     rw[<-Q]
     constructor
     ·intro h;exact XO.2 (λe=>h (by rw[e];rfl))
     ·intro h e;have:=Zt List.length e;rw[Qh]at this;simp at this;subst this;exact absurd h (by decide)
    unfold Hid zlH dotP;rw[hK,d.out];simp only[hJ];rw[Bool.decide_and,Bool.decide_or,Bool.decide_or,Bool.or_assoc]
   have HJ:=hIx hj;have hD:=hz;obtain⟨K,ho⟩:=Qw.1 hz;have he:∀W,Below (w.heap.size+1) w1 W->W.cell? ⟨w.heap.size,a.length-1,none⟩=some (.string z):=λW hb=>by rw[hv.out W hb (a.length-1) K,ho]
   have ha:=hIx he;have i8:IntKind.i64.wrap ((a.length:Int)-1)=(a.length:Int)-1:=Qx _ (by omega);have i9:((a.length:Int)-1).toNat=a.length-1:=by omega
   have hU:(0:Int)<=(a.length:Int)-1:=by omega
   have hS:(a.length:Int)-1<(a.length:Int):=by omega
   obtain⟨Ao,H,rfl,_⟩:=l.form
   have h3:Hid (X=(if c=true then ByteArray.mk #[47]else ByteArray.mk #[])++bs (Lib.join (zbL c (splL 47 s.data.toList)) [47])++(if zlH (zbL c (splL 47 s.data.toList)) (splL 47 s.data.toList)=true then ByteArray.mk #[47]else ByteArray.mk #[])):=by
    unfold Hid;rw[<-HX.out];unfold outP
    apply ByteArray.ext
    cases c <;> cases zlH _ _ <;> simp[bs]
   clear HX;generalize zlH (zbL c (splL 47 s.data.toList)) (splL 47 s.data.toList)=T at *;generalize zbL c (splL 47 s.data.toList)=left at *;generalize bs (Lib.join left [47])=J at *;clear l E hz hD K ho he Q hC hj HL;go_wp2_with fail;refine HJ.out.mono ?_;rintro e w5 ⟨rfl,u⟩;have hn:Below (w.heap.size+1) w1 w5:=U.out.trans (u.mono p);have ht:=hr.out.trans (hn.mono (Zg _));have hL:=ha.out w5 hn;clear u HJ ha;go_upto_region 20 with fail
   go_cut [3,9,81]from 62 (λs3 s9 hF wx=>s3=.bool c/\s9=.string J/\hF=.bool T/\wx=w5)
   case first=>
    cases G:decide (0<L.length)with
    |false=>
     have e1:T=false:=by rw[S.out,G];rfl
     subst e1;have d3:decide ((0:Int)<(L.length:Int))=false:=by have:=XU G;exact Qs (by omega)
     go_wp2;go_meet;exact⟨rfl,rfl,rfl,rfl⟩
    |true=>
     have d3:decide ((0:Int)<(L.length:Int))=true:=by have:=Zq G;exact Qu (by omega)
     cases N:decide (1<a.length)with
     |false=>
      have e1:T=false:=by rw[S.out,G,N];rfl
      subst e1;have d4:decide ((1:Int)<(a.length:Int))=false:=by have:=XU N;exact Qs (by omega)
      go_wp2;go_meet;exact⟨rfl,rfl,rfl,rfl⟩
     |true=>
      have d4:decide ((1:Int)<(a.length:Int))=true:=by have:=Zq N;exact Qu (by omega)
      have h9:Hid (T=((decide (z.data.toList=[])||decide (z.data.toList=[46]))||decide (z.data.toList=upP))):=by unfold Hid;rw[S.out,G,N];rfl
      have q0:z.toList.isEmpty=decide (z.data.toList=[]):=by rw[QS];cases z.data.toList <;> simp
      have q1:(z.toList==[46])=decide (z.data.toList=[46]):=by rw[QS,zs3]
      have q2:(z.toList==[46,46])=decide (z.data.toList=upP):=by rw[QS,zs3];rfl
      generalize decide (z.data.toList=[])=b0 at *;generalize decide (z.data.toList=[46])=b1 at *;generalize decide (z.data.toList=upP)=b2 at *;have hA:=h9.out;subst hA;clear S h9;cases b0 <;> cases b1 <;> cases b2
      all_goals
       go_wp2;go_meet;exact⟨rfl,rfl,rfl,rfl⟩
   case rest=>
    obtain⟨rfl,rfl,rfl,rfl⟩:=hcut;have hT:(J++ByteArray.mk #[47]).size<=4194306:=by rw[Zp];show J.size+1<=_;omega
    clear hL;cases T <;> cases c
    all_goals
     go_wp2;go_ret;refine⟨Zt (λx:ByteArray=>Ending.returned (Value.string x)) (?_:_=X),ht⟩;rw[h3.out]
     apply ByteArray.ext
     simp
