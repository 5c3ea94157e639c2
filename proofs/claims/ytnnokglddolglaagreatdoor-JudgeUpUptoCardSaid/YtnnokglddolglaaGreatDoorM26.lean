/- Lemmas for the last texts. -/
import Derived.Test.YtnnokglddolglaaGreatDoorM25
set_option maxHeartbeats 3200000
set_option maxRecDepth 100000
namespace Go.Proofs.YtnnokglddolglaaGreatDoor
open Go.RowKit Go.Proofs.Tryz
def zbm(c:Int)(w:World)(e:Ending)(w':World):Prop:=e=.returned (.int .i64 c)/\Below w.heap.size w w'
theorem zzc{b:UInt8}(h:(97<=(b.toNat:Int)/\(b.toNat:Int)<=122)\/(48<=(b.toNat:Int)/\(b.toNat:Int)<=57)\/(b.toNat:Int)=45\/(b.toNat:Int)=95):zk7 b=true:=by
 unfold zk7;simp only[Xo,QW,QY,Zk]
 rcases h with h|h|h|h
 ·left;left;left;omega
 ·left;left;right;omega
 ·left;right;exact Zu.1 (by show b.toNat=45;omega)
 ·right;exact Zu.1 (by show b.toNat=95;omega)
theorem zxY{b:UInt8}(h:¬((97<=(b.toNat:Int)/\(b.toNat:Int)<=122)\/(48<=(b.toNat:Int)/\(b.toNat:Int)<=57)\/(b.toNat:Int)=45\/(b.toNat:Int)=95)):zk7 b=false:=by
 cases hb:zk7 b with
 |false=>rfl
 |true=>
  unfold zk7 at hb;simp only[Xo,QW,QY,Zk]at hb
  exfalso
  rcases hb with ((hb|hb)|hb)|hb
  ·omega
  ·omega
  ·subst hb;exact h (.inr (.inr (.inl rfl)))
  ·subst hb;exact h (.inr (.inr (.inr rfl)))
def zxJ(s:ByteArray)(i:Value):Prop:=∃k:Nat,k<=s.size/\i=.int .i64 k/\s.data.toList.all zk7=(s.data.toList.drop k).all zk7
theorem ztj(s:ByteArray)(w:World)(p:s.size<=maxLen):
 Calls prog 100 #[.string s] w λe w'=>e=.returned (.bool (zft s.data.toList))/\w'=w:=by
 unfold maxLen at p;have j:Hid (s.data.toList.length=s.size):=by unfold Hid;simp
 go_in
 go_wp2_with fail
 go_loop [7] (λi=>zxJ s i) (λi=>s.size-(intOf i).toNat)
 case atStart=>exact⟨0,Qm _,rfl,rfl⟩
 case round=>
  obtain⟨k,v,rfl,l⟩:=hrel;have f:=hIx l;clear l
  by_cases c:k<s.size
  ·have m:=hIx (zaG s k c)
   have n:=s[k].toNat_lt
   by_cases a:(97<=(s[k].toNat:Int)/\(s[k].toNat:Int)<=122)\/(48<=(s[k].toNat:Int)/\(s[k].toNat:Int)<=57)\/(s[k].toNat:Int)=45\/(s[k].toNat:Int)=95
   ·have g:=hIx (zzc a)
    have r:Hid (zxJ s (.int .i64 ((k:Int)+1))):=⟨k+1,by omega,rfl,by rw[f.out,m.out,ZT,g.out];rfl⟩
    rcases a with a|a|a|a
    all_goals
     go_wp2;exact⟨r.out,by simp[intOf] <;> omega⟩
   ·have g:=hIx (zxY a)
    have q:(s[k].toNat:Int)≠45:=λe=>a (.inr (.inr (.inl e)))
    have n2:(s[k].toNat:Int)≠95:=λe=>a (.inr (.inr (.inr e)))
    have n3:(s[k].toNat:Int)<48\/(57<(s[k].toNat:Int)/\(s[k].toNat:Int)<97)\/122<(s[k].toNat:Int):=by omega
    have b:Hid (zft s.data.toList=false):=by unfold Hid zft;rw[f.out,m.out,ZT,g.out];rfl
    have x:((s[k].toNat:Int) != 45)=true:=Q6.2 q;have u:((s[k].toNat:Int) != 95)=true:=Q6.2 n2;clear a
    rcases n3 with n3|n3|n3
    all_goals
     go_wp2;go_ret;exact⟨zaI b.out.symm,rfl⟩
  ·have d:k=s.size:=by omega
   have t:Hid (s.data.toList.all zk7=true):=by
    unfold Hid;rw[f.out,QP (by rw[j.out];omega)];rfl
   have b:Hid (zft s.data.toList=(decide (1<=s.size)&&decide (s.size<=20))):=by
    unfold Hid zft;rw[t.out,j.out];rfl
   clear d
   by_cases h1:1<=s.size
   ·by_cases h2:s.size<=20
    ·have h:decide ((1:Int)<=(s.size:Int))=true:=by simp;omega
     have o:decide ((s.size:Int)<=20)=true:=by simp;omega
     go_wp2;go_ret;exact⟨zaI (by rw[b.out,Qu h1,Qu h2];rfl),rfl⟩
    ·have h:decide ((1:Int)<=(s.size:Int))=true:=by simp;omega
     have o:decide ((s.size:Int)<=20)=false:=by simp;omega
     go_wp2;go_ret;exact⟨zaI (by rw[b.out,Qu h1,Qs h2];rfl),rfl⟩
   ·have h:decide ((1:Int)<=(s.size:Int))=false:=by simp;omega
    go_wp2;go_ret;exact⟨zaI (by rw[b.out,Qs h1];rfl),rfl⟩
theorem zmd(v:zhF)(w:World)(t:v.n.size<=maxLen):
 Calls prog 72 #[.agg #[.int .i64 v.k,.int .i64 v.m,.string v.n]] w (zbm (varC v) w):=by
 have c:varC v=if v.k<1\/12<v.k\/v.m<0\/2<v.m\/(v.n.data.toList≠[]/\(ofK v.k&&zft v.n.data.toList)=false)then 1 else 0:=rfl;obtain⟨k,m,n⟩:=v;dsimp only at t c ⊢;have i:Hid (∀W,Calls prog 100 #[.string n] W λe w'=>e=.returned (.bool (zft n.data.toList))/\w'=W):=λW=>ztj n W t
 unfold zbm;have b:(k<1\/12<k)\/(1<=k/\k<=12/\k≠6/\k≠8/\k≠10)\/k=6\/k=8\/k=10:=by omega
 rcases b with b|b
 ·have o:(k==6)=false:=Qb.2 (by omega)
  have p:(k==8)=false:=Qb.2 (by omega);have g:(k==10)=false:=Qb.2 (by omega);have d:Hid (varC ⟨k,m,n⟩=1):=hIx (by rw[c,Qi (by omega)]);clear c
  rcases b with b|b
  ·go_in
   go_wp2;go_ret;exact⟨zac d.out.symm,WaL⟩
  ·have q:1<=k:=by omega
   go_in
   go_wp2;go_ret;exact⟨zac d.out.symm,WaL⟩
 ·have q:1<=k:=by omega
  have x:k<=12:=by omega
  by_cases B:m<0
  ·have d:Hid (varC ⟨k,m,n⟩=1):=hIx (by rw[c,Qi (by omega)])
   clear c
   rcases b with b|rfl|rfl|rfl
   ·have o:(k==6)=false:=Qb.2 (by omega)
    have p:(k==8)=false:=Qb.2 (by omega);have g:(k==10)=false:=Qb.2 (by omega);clear b
    go_in
    go_wp2;go_ret;exact⟨zac d.out.symm,WaL⟩
   ·go_in
    go_wp2;go_ret;exact⟨zac d.out.symm,WaL⟩
   ·go_in
    go_wp2;go_ret;exact⟨zac d.out.symm,WaL⟩
   ·go_in
    go_wp2;go_ret;exact⟨zac d.out.symm,WaL⟩
  by_cases y:2<m
  ·have d:Hid (varC ⟨k,m,n⟩=1):=hIx (by rw[c,Qi (by omega)])
   clear c
   rcases b with b|rfl|rfl|rfl
   ·have o:(k==6)=false:=Qb.2 (by omega)
    have p:(k==8)=false:=Qb.2 (by omega);have g:(k==10)=false:=Qb.2 (by omega);clear b
    go_in
    go_wp2;go_ret;exact⟨zac d.out.symm,WaL⟩
   ·go_in
    go_wp2;go_ret;exact⟨zac d.out.symm,WaL⟩
   ·go_in
    go_wp2;go_ret;exact⟨zac d.out.symm,WaL⟩
   ·go_in
    go_wp2;go_ret;exact⟨zac d.out.symm,WaL⟩
  by_cases f:n.data.toList=[]
  ·have A:(n.toList==[])=true:=by rw[QS,f];rfl
   have s:n.toList.isEmpty=true:=by rw[QS,f];rfl
   have d:Hid (varC ⟨k,m,n⟩=0):=hIx (by rw[c,Qe];rintro(h|h|h|h|h);omega;omega;omega;omega;exact h.1 f);clear c f
   rcases b with b|rfl|rfl|rfl
   ·have o:(k==6)=false:=Qb.2 (by omega)
    have p:(k==8)=false:=Qb.2 (by omega);have g:(k==10)=false:=Qb.2 (by omega);clear b
    go_in
    go_wp2;go_ret;exact⟨zac d.out.symm,WaL⟩
   ·go_in
    go_wp2;go_ret;exact⟨zac d.out.symm,WaL⟩
   ·go_in
    go_wp2;go_ret;exact⟨zac d.out.symm,WaL⟩
   ·go_in
    go_wp2;go_ret;exact⟨zac d.out.symm,WaL⟩
  have A:(n.toList==[])=false:=by rw[QS];exact Qb.2 f
  have s:n.toList.isEmpty=false:=by rw[QS];cases z:n.data.toList with|nil=>exact absurd z f|cons a r=>rfl
  rcases b with b|b
  ·have d:Hid (varC ⟨k,m,n⟩=1):=hIx (by
    rw[c,Qi];refine .inr (.inr (.inr (.inr ⟨f,?_⟩)))
    have:ofK k=false:=by
     unfold ofK;rw[Qb.2 b.2.2.1,Qb.2 b.2.2.2.1,Qb.2 b.2.2.2.2];rfl
    rw[this,Bool.false_and])
   clear c f;have o:(k==6)=false:=Qb.2 (by omega);have p:(k==8)=false:=Qb.2 (by omega);have g:(k==10)=false:=Qb.2 (by omega);clear b
   go_in
   go_wp2;go_ret;exact⟨zac d.out.symm,WaL⟩
  ·have j:ofK k=true:=by rcases b with rfl|rfl|rfl <;> rfl
   rw[j,Bool.true_and]at c;cases hb:zft n.data.toList with
   |true=>
    rw[hb]at i c;have d:Hid (varC ⟨k,m,n⟩=0):=hIx (by rw[c,Qe];rintro(h|h|h|h|h);omega;omega;omega;omega;exact absurd h.2 (by decide));clear c f j hb
    rcases b with rfl|rfl|rfl
    ·go_in
     go_wp2_with (go_at_call 100;refine(i.out _).mono ?_;rintro e l ⟨rfl,rfl⟩);go_ret;exact⟨zac d.out.symm,WaL⟩
    ·go_in
     go_wp2_with (go_at_call 100;refine(i.out _).mono ?_;rintro e l ⟨rfl,rfl⟩);go_ret;exact⟨zac d.out.symm,WaL⟩
    ·go_in
     go_wp2_with (go_at_call 100;refine(i.out _).mono ?_;rintro e l ⟨rfl,rfl⟩);go_ret;exact⟨zac d.out.symm,WaL⟩
   |false=>
    rw[hb]at i c;have d:Hid (varC ⟨k,m,n⟩=1):=hIx (by rw[c,Qi];exact .inr (.inr (.inr (.inr ⟨f,rfl⟩))));clear c f j hb
    rcases b with rfl|rfl|rfl
    ·go_in
     go_wp2_with (go_at_call 100;refine(i.out _).mono ?_;rintro e l ⟨rfl,rfl⟩);go_ret;exact⟨zac d.out.symm,WaL⟩
    ·go_in
     go_wp2_with (go_at_call 100;refine(i.out _).mono ?_;rintro e l ⟨rfl,rfl⟩);go_ret;exact⟨zac d.out.symm,WaL⟩
    ·go_in
     go_wp2_with (go_at_call 100;refine(i.out _).mono ?_;rintro e l ⟨rfl,rfl⟩);go_ret;exact⟨zac d.out.symm,WaL⟩
theorem zx7(a:zbV)(w:World):
 Calls prog 76 #[.agg #[.int .i64 a.k,.int .i64 a.n]] w (zbm (actC a) w):=by
 have b:actC a=if a.k<1\/5<a.k\/a.n<loA a.k\/hiA a.k<a.n then 1 else 0:=rfl;obtain⟨k,n⟩:=a;dsimp only at b ⊢;unfold zbm;have e:(k<1\/5<k)\/k=1\/k=2\/k=3\/k=4\/k=5:=by omega
 rcases e with e|rfl|rfl|rfl|rfl|rfl
 ·have c:Hid (actC ⟨k,n⟩=1):=hIx (by rw[b,Qi (by omega)])
  have g:(k==1)=false:=Qb.2 (by omega);have i:(k==2)=false:=Qb.2 (by omega);have h:(k==3)=false:=Qb.2 (by omega);have f:(k==4)=false:=Qb.2 (by omega);have j:(k==5)=false:=Qb.2 (by omega);clear b e
  go_in
  go_wp2;go_ret;exact⟨zac c.out.symm,WaL⟩
 ·have hl:loA 1=0:=rfl
  have d:hiA 1=0:=rfl;rw[hl,d]at b;clear hl d
  by_cases h1:n<0
  ·have c:Hid (actC ⟨1,n⟩=1):=hIx (by rw[b,Qi (by omega)])
   clear b
   go_in
   go_wp2;go_ret;exact⟨zac c.out.symm,WaL⟩
  by_cases h2:0<n
  ·have c:Hid (actC ⟨1,n⟩=1):=hIx (by rw[b,Qi (by omega)])
   clear b
   go_in
   go_wp2;go_ret;exact⟨zac c.out.symm,WaL⟩
  ·have c:Hid (actC ⟨1,n⟩=0):=hIx (by rw[b,Qe (by omega)])
   clear b
   go_in
   go_wp2;go_ret;exact⟨zac c.out.symm,WaL⟩
 ·have hl:loA 2=400:=rfl
  have d:hiA 2=599:=rfl;rw[hl,d]at b;clear hl d
  by_cases h1:n<400
  ·have c:Hid (actC ⟨2,n⟩=1):=hIx (by rw[b,Qi (by omega)])
   clear b
   go_in
   go_wp2;go_ret;exact⟨zac c.out.symm,WaL⟩
  by_cases h2:599<n
  ·have c:Hid (actC ⟨2,n⟩=1):=hIx (by rw[b,Qi (by omega)])
   clear b
   go_in
   go_wp2;go_ret;exact⟨zac c.out.symm,WaL⟩
  ·have c:Hid (actC ⟨2,n⟩=0):=hIx (by rw[b,Qe (by omega)])
   clear b
   go_in
   go_wp2;go_ret;exact⟨zac c.out.symm,WaL⟩
 ·have hl:loA 3=1:=rfl
  have d:hiA 3=1000:=rfl;rw[hl,d]at b;clear hl d
  by_cases h1:n<1
  ·have c:Hid (actC ⟨3,n⟩=1):=hIx (by rw[b,Qi (by omega)])
   clear b
   go_in
   go_wp2;go_ret;exact⟨zac c.out.symm,WaL⟩
  by_cases h2:1000<n
  ·have c:Hid (actC ⟨3,n⟩=1):=hIx (by rw[b,Qi (by omega)])
   clear b
   go_in
   go_wp2;go_ret;exact⟨zac c.out.symm,WaL⟩
  ·have c:Hid (actC ⟨3,n⟩=0):=hIx (by rw[b,Qe (by omega)])
   clear b
   go_in
   go_wp2;go_ret;exact⟨zac c.out.symm,WaL⟩
 ·have hl:loA 4=1:=rfl
  have d:hiA 4=9:=rfl;rw[hl,d]at b;clear hl d
  by_cases h1:n<1
  ·have c:Hid (actC ⟨4,n⟩=1):=hIx (by rw[b,Qi (by omega)])
   clear b
   go_in
   go_wp2;go_ret;exact⟨zac c.out.symm,WaL⟩
  by_cases h2:9<n
  ·have c:Hid (actC ⟨4,n⟩=1):=hIx (by rw[b,Qi (by omega)])
   clear b
   go_in
   go_wp2;go_ret;exact⟨zac c.out.symm,WaL⟩
  ·have c:Hid (actC ⟨4,n⟩=0):=hIx (by rw[b,Qe (by omega)])
   clear b
   go_in
   go_wp2;go_ret;exact⟨zac c.out.symm,WaL⟩
 ·have hl:loA 5=0:=rfl
  have d:hiA 5=0:=rfl;rw[hl,d]at b;clear hl d
  by_cases h1:n<0
  ·have c:Hid (actC ⟨5,n⟩=1):=hIx (by rw[b,Qi (by omega)])
   clear b
   go_in
   go_wp2;go_ret;exact⟨zac c.out.symm,WaL⟩
  by_cases h2:0<n
  ·have c:Hid (actC ⟨5,n⟩=1):=hIx (by rw[b,Qi (by omega)])
   clear b
   go_in
   go_wp2;go_ret;exact⟨zac c.out.symm,WaL⟩
  ·have c:Hid (actC ⟨5,n⟩=0):=hIx (by rw[b,Qe (by omega)])
   clear b
   go_in
   go_wp2;go_ret;exact⟨zac c.out.symm,WaL⟩
theorem zzt{w:World}{B m:Nat}{A:Option Addr}{l:List zhF}(h:Sl w B 3 A m (l.flatMap zcj))(k:Nat)(d:k<l.length):
 ∃b a,A=some ⟨b,a,none⟩/\b<B/\w.cell? ⟨b,a+k*3,none⟩=some (.int .i64 l[k].k)/\w.cell? ⟨b,a+k*3+1,none⟩=some (.int .i64 l[k].m)/\w.cell? ⟨b,a+k*3+2,none⟩=some (.string l[k].n):=by
 have hl:=zaS zcj 3 (λ_=>rfl) l;obtain⟨b,a,e,hb,i⟩:=h.src (by omega)
 have c:∀j,j<3->∀v,(zcj l[k])[j]? = some v->w.cell? ⟨b,a+k*3+j,none⟩=some v:=λj g v f=>by
  have h1:=zbM zcj 3 (λ_=>rfl) l k j d g;have h2:k*3+j<(l.flatMap zcj).length:=by omega
  rw[Zh,i (k*3+j) h2];rw[Qc h2]at h1;rw[h1,f]
 exact⟨b,a,e,hb,c 0 (by decide) _ rfl,c 1 (by decide) _ rfl,c 2 (by decide) _ rfl⟩
theorem zqk(g:Nat)(C:Array Value)(O:∀args w,(callFunc g args).run prog w=.ok (.enter g args) w)(f:zhF->Int)(l:List zhF)(A:Option Addr)(c:Nat)(w:World)
 (h:Sl w w.heap.size 3 A l.length (l.flatMap zcj)) (hl:l.length<=1048576)
 (B:∀W,∀x∈l,Below w.heap.size w W->Calls prog g (#[.agg #[.int .i64 x.k,.int .i64 x.m,.string x.n]]++C) W (zbm (f x) W)):
 Calls prog 71 #[.slice A l.length c,.func (.func g) #[] C] w (zbm (zaR f l) w):=by
 have G:=hIx B;have L:Hid (∀k (u:k<l.length),l.drop k=l[k]::l.drop (k+1)):=λk u=>Zf u
 clear B
 go_in
 go_wp2
 go_loopw [10] (λi wr=>∃k:Nat,k<=l.length/\i=.int .i64 k/\Below w.heap.size w wr/\Hid (zaR f l=zaR f (l.drop k))) (λi _=>l.length-(intOf i).toNat)
 case atStart=>exact⟨0,Qm _,rfl,Qg _ _,rfl⟩
 case round=>
  obtain⟨k,u,rfl,hb,s⟩:=hrel
  by_cases a:k<l.length
  ·obtain⟨b,H,rfl,J,D,K,I⟩:=zzt (h.below hb) k a
   have v:=λW F=>G.out W l[k] (Qy a) F
   have t:=L.out k a;generalize l[k]=x at *;obtain⟨p,q,r⟩:=x;dsimp only at D K I v;have y:=hIx (v _ (hb.alloc hb.size (.cells #[.int .i64 p,.int .i64 q,.string r] 55)));have z:=hb.size;clear v
   by_cases j:f ⟨p,q,r⟩=0
   ·have o:Hid (zaR f l=zaR f (l.drop (k+1))):=hIx (by rw[s.out,t,zaR,Qe (by rw[j];decide)])
    rw[j]at y;clear t s j;go_wp2_with (go_at_fn g;refine y.out.mono ?_;rintro e E ⟨rfl,d⟩)
    go_roundw
    case rel=>exact⟨k+1,by omega,by go_num,hb.trans (zaJ d z),o⟩
    case measure=>simp[intOf] <;> omega
   ·have o:Hid (zaR f l=f ⟨p,q,r⟩):=hIx (by rw[s.out,t,zaR,Qi j])
    have N:(f ⟨p,q,r⟩==0)=false:=Qb.2 j;clear t s j;generalize f ⟨p,q,r⟩=P at *;go_wp2_with (go_at_fn g;refine y.out.mono ?_;rintro e E ⟨rfl,d⟩);go_ret;exact⟨zac o.out.symm,hb.trans (zaJ d z)⟩
  ·obtain rfl:k=l.length:=by omega
   have o:Hid (zaR f l=0):=hIx (by rw[s.out,QP (Qd _)];rfl);go_wp2;go_ret;exact⟨zac o.out.symm,hb⟩
theorem zt5{w:World}{B m:Nat}{A:Option Addr}{l:List zbV}(h:Sl w B 2 A m (l.flatMap za5))(k:Nat)(d:k<l.length):
 ∃b a,A=some ⟨b,a,none⟩/\b<B/\w.cell? ⟨b,a+k*2,none⟩=some (.int .i64 l[k].k)/\w.cell? ⟨b,a+k*2+1,none⟩=some (.int .i64 l[k].n):=by
 have hl:=zaS za5 2 (λ_=>rfl) l;obtain⟨b,a,e,hb,i⟩:=h.src (by omega)
 have c:∀j,j<2->∀v,(za5 l[k])[j]? = some v->w.cell? ⟨b,a+k*2+j,none⟩=some v:=λj g v f=>by
  have h1:=zbM za5 2 (λ_=>rfl) l k j d g;have h2:k*2+j<(l.flatMap za5).length:=by omega
  rw[Zh,i (k*2+j) h2];rw[Qc h2]at h1;rw[h1,f]
 exact⟨b,a,e,hb,c 0 (by decide) _ rfl,c 1 (by decide) _ rfl⟩
theorem zq8(g:Nat)(z:Array Value)(K:∀args w,(callFunc g args).run prog w=.ok (.enter g args) w)(f:zbV->Int)(l:List zbV)(A:Option Addr)(c:Nat)(w:World)
 (h:Sl w w.heap.size 2 A l.length (l.flatMap za5)) (hl:l.length<=1048576)
 (y:∀W,∀x∈l,Below w.heap.size w W->Calls prog g (#[.agg #[.int .i64 x.k,.int .i64 x.n]]++z) W (zbm (f x) W)):
 Calls prog 75 #[.slice A l.length c,.func (.func g) #[] z] w (zbm (zaR f l) w):=by
 have E:=hIx y;have I:Hid (∀k (s:k<l.length),l.drop k=l[k]::l.drop (k+1)):=λk s=>Zf s
 clear y
 go_in
 go_wp2
 go_loopw [10] (λi wr=>∃k:Nat,k<=l.length/\i=.int .i64 k/\Below w.heap.size w wr/\Hid (zaR f l=zaR f (l.drop k))) (λi _=>l.length-(intOf i).toNat)
 case atStart=>exact⟨0,Qm _,rfl,Qg _ _,rfl⟩
 case round=>
  obtain⟨k,s,rfl,hb,o⟩:=hrel
  by_cases a:k<l.length
  ·obtain⟨b,F,rfl,G,B,H⟩:=zt5 (h.below hb) k a
   have t:=λW D=>E.out W l[k] (Qy a) D
   have r:=I.out k a;generalize l[k]=x at *;obtain⟨p,q⟩:=x;dsimp only at B H t;have u:=hIx (t _ (hb.alloc hb.size (.cells #[.int .i64 p,.int .i64 q] 44)));have v:=hb.size;clear t
   by_cases j:f ⟨p,q⟩=0
   ·have m:Hid (zaR f l=zaR f (l.drop (k+1))):=hIx (by rw[o.out,r,zaR,Qe (by rw[j];decide)])
    rw[j]at u;clear r o j;go_wp2_with (go_at_fn g;refine u.out.mono ?_;rintro e C ⟨rfl,d⟩)
    go_roundw
    case rel=>exact⟨k+1,by omega,by go_num,hb.trans (zaJ d v),m⟩
    case measure=>simp[intOf] <;> omega
   ·have m:Hid (zaR f l=f ⟨p,q⟩):=hIx (by rw[o.out,r,zaR,Qi j])
    have J:(f ⟨p,q⟩==0)=false:=Qb.2 j;clear r o j;generalize f ⟨p,q⟩=L at *;go_wp2_with (go_at_fn g;refine u.out.mono ?_;rintro e C ⟨rfl,d⟩);go_ret;exact⟨zac m.out.symm,hb.trans (zaJ d v)⟩
  ·obtain rfl:k=l.length:=by omega
   have m:Hid (zaR f l=0):=hIx (by rw[o.out,QP (Qd _)];rfl);go_wp2;go_ret;exact⟨zac m.out.symm,hb⟩
theorem zyX(x:RuM)(w:World)(l:RuIn w w.heap.size x)(A:ze7 x.r)(m:LibOk w):
 Calls prog 47 #[.agg (zag x).toArray] w (zbm (oneC argC x.r) w):=by
 have J:=λW (hb:Below w.heap.size w W)=>zqk 72 #[] (enters_of func72 (by kernel_rfl) rfl) varC x.r.vars x.vA x.vc W ((l.vars.below hb).more hb.size) A.vars
  (λW' v J _=>zmd v W' (by have:=A.names v J;unfold maxLen;omega))
 have hp:=λW (hb:Below w.heap.size w W)=>zi9 x.r.pipe x.pA x.pc W ((l.pipe.below hb).more hb.size) (by have:=A.pipe;omega)
 have ha:∀W,Below w.heap.size w W->1<=x.r.op->x.r.op<=12->Calls prog 74 #[.int .i64 x.r.op,.string x.r.arg] W (zbm (argC x.r.op x.r.arg) W):=λW hb h1 h2=>zxV x.r.op h1 h2 x.r.arg W A.arg (m.below hb)
 have X:=λW (hb:Below w.heap.size w W)=>zq8 76 #[] (enters_of func76 (by kernel_rfl) rfl) actC x.r.acts x.aA x.ac W ((l.acts.below hb).more hb.size) A.acts (λW' a _ _=>zx7 a W')
 have s:oneC argC x.r=if 8<x.r.vars.length\/6<x.r.acts.length then 2 else if x.r.vars.length=0\/x.r.acts.length=0 then 1 else if zaR varC x.r.vars≠0 then zaR varC x.r.vars else
  if zbt x.r.pipe≠0 then zbt x.r.pipe else if x.r.op<1\/12<x.r.op then 1 else if argC x.r.op x.r.arg≠0 then argC x.r.op x.r.arg else zaR actC x.r.acts:=rfl
 have E:∀o,Below w.heap.size w (w.alloc o):=λo=>WaL
 generalize oneC argC x.r=b at *;obtain⟨⟨id,ph,q,p,no,op,S,n,K⟩,vA,vc,pA,pc,aA,ac⟩:=x;unfold zag;dsimp only at *;generalize q.length=z at *;generalize n.length=C at *;generalize p.length=np at *;generalize zaR varC q=G at *;generalize zbt p=F at *;generalize argC op S=k at *;generalize zaR actC n=I at *;have HV:=hIx J;have HP:=hIx hp;have HA:=hIx ha;have HC:=hIx X;have B:=hIx s;have j:=hIx E;clear J hp ha X l A m s E;unfold zbm
 go_in
 by_cases c1:8<z
 ·have d:Hid (b=2):=hIx (by rw[B.out,Qi (.inl c1)])
  have d1:decide (8<(z:Int))=true:=by simp;omega
  go_wp2;go_ret;exact⟨zac d.out.symm,j.out _⟩
 have d1:decide (8<(z:Int))=false:=by simp;omega
 by_cases c2:6<C
 ·have d:Hid (b=2):=hIx (by rw[B.out,Qi (.inr c2)])
  have d2:decide (6<(C:Int))=true:=by simp;omega
  go_wp2;go_ret;exact⟨zac d.out.symm,j.out _⟩
 have d2:decide (6<(C:Int))=false:=by simp;omega
 by_cases c3:z=0
 ·have d:Hid (b=1):=hIx (by rw[B.out,Qe (by omega),Qi (.inl c3)])
  have d3:((z:Int)==0)=true:=by rw[Zk];omega
  go_wp2;go_ret;exact⟨zac d.out.symm,j.out _⟩
 have d3:((z:Int)==0)=false:=Qb.2 (by omega)
 by_cases c4:C=0
 ·have d:Hid (b=1):=hIx (by rw[B.out,Qe (by omega),Qi (.inr c4)])
  have d4:((C:Int)==0)=true:=by rw[Zk];omega
  go_wp2;go_ret;exact⟨zac d.out.symm,j.out _⟩
 have d4:((C:Int)==0)=false:=Qb.2 (by omega);have t:Hid (b=if G≠0 then G else if F≠0 then F else if op<1\/12<op then 1 else if k≠0 then k else I):=hIx (by rw[B.out,Qe (by omega),Qe (by omega)]);clear B c1 c2 c3 c4;go_wp2_with fail;refine(HV.out _ (j.out _)).mono ?_;rintro e w1 ⟨rfl,H⟩;obtain⟨h,g⟩:=zbH (w:=w) (by simpa using H);have Z:=h 3;have O:=h 5;have V:=h 6;have N:=h 7;simp only[Z7,XQ,Xe]at Z O V N;clear h H
 by_cases T:G=0
 ·subst T
  go_wp2_with fail;refine(HP.out _ g).mono ?_;rintro e w2 ⟨rfl,i⟩;have c:=g.trans (i.mono g.size);have y5:=zaa i O;have y6:=zaa i V;have Y:=zaa i N;clear Z O V N i
  by_cases L:F=0
  ·subst L
   have u:Hid (b=if op<1\/12<op then 1 else if k≠0 then k else I):=hIx (by rw[t.out,Qe (by decide),Qe (by decide)])
   by_cases o1:op<1
   ·have d:Hid (b=1):=hIx (by rw[u.out,Qi (.inl o1)])
    go_wp2;go_ret;exact⟨zac d.out.symm,c⟩
   by_cases o2:12<op
   ·have d:Hid (b=1):=hIx (by rw[u.out,Qi (.inr o2)])
    go_wp2;go_ret;exact⟨zac d.out.symm,c⟩
   have D:Hid (b=if k≠0 then k else I):=hIx (by rw[u.out,Qe (by omega)]);have P:=hIx (HA.out _ c (by omega) (by omega));go_wp2_with fail;refine P.out.mono ?_;rintro e w3 ⟨rfl,y⟩;have f:=c.trans (y.mono c.size);have z7:=zaa y Y;clear y5 y6 Y y
   by_cases Q:k=0
   ·subst Q
    have d:Hid (b=I):=hIx (by rw[D.out,Qe (by decide)]);go_wp2_with fail;refine(HC.out _ f).mono ?_;rintro e w4 ⟨rfl,U⟩;go_wp2;go_ret;exact⟨zac d.out.symm,f.trans (U.mono f.size)⟩
   ·have q3:(k==0)=false:=Qb.2 Q
    have d:Hid (b=k):=hIx (by rw[D.out,Qi Q]);go_wp2;go_ret;exact⟨zac d.out.symm,f⟩
  ·have q2:(F==0)=false:=Qb.2 L
   have d:Hid (b=F):=hIx (by rw[t.out,Qe (by decide),Qi L]);go_wp2;go_ret;exact⟨zac d.out.symm,c⟩
 ·have q1:(G==0)=false:=Qb.2 T
  have d:Hid (b=G):=hIx (by rw[t.out,Qi T]);go_wp2;go_ret;exact⟨zac d.out.symm,g⟩
theorem srcR{wr:World}{B n:Nat}{A:Option Addr}{d:List Value}{r t u l o m q k g:Nat->Value}(h:Sl wr B 9 A n d){j:Nat}(x:j<n)(w:∀j,j<n->d[j*9]? = some (r j)/\d[j*9+1]? = some (t j)/\d[j*9+2]? = some (u j)/\d[j*9+3]? = some (l j)/\d[j*9+4]? = some (o j)/\d[j*9+5]? = some (m j)/\d[j*9+6]? = some (q j)/\d[j*9+7]? = some (k j)/\d[j*9+8]? = some (g j)):
 ∃b a,A=some ⟨b,a,none⟩/\wr.cell? ⟨b,a+j*9,none⟩=some (r j)/\wr.cell? ⟨b,a+j*9+1,none⟩=some (t j)/\wr.cell? ⟨b,a+j*9+2,none⟩=some (u j)/\wr.cell? ⟨b,a+j*9+3,none⟩=some (l j)/\wr.cell? ⟨b,a+j*9+4,none⟩=some (o j)/\wr.cell? ⟨b,a+j*9+5,none⟩=some (m j)/\wr.cell? ⟨b,a+j*9+6,none⟩=some (q j)/\wr.cell? ⟨b,a+j*9+7,none⟩=some (k j)/\wr.cell? ⟨b,a+j*9+8,none⟩=some (g j):=by
 have hl:=h.len;obtain⟨b,a,e,_,y⟩:=h.src (by omega);have f:=w j x
 have c:∀i v,d[i]? = some v->wr.cell? ⟨b,a+i,none⟩=some v:=λi v s=>by
  have p:i<d.length:=(Qw.1 s).1;rw[y i p,<-s,Qc p]
 exact⟨b,a,e,by have:=c _ _ f.1;rw[show a+j*9=a+j*9 from rfl]at this;exact this,by have:=c _ _ f.2.1;rw[<-Zh]at this;exact this,by have:=c _ _ f.2.2.1;rw[<-Zh]at this;exact this,by have:=c _ _ f.2.2.2.1;rw[<-Zh]at this;exact this,by have:=c _ _ f.2.2.2.2.1;rw[<-Zh]at this;exact this,by have:=c _ _ f.2.2.2.2.2.1;rw[<-Zh]at this;exact this,by have:=c _ _ f.2.2.2.2.2.2.1;rw[<-Zh]at this;exact this,by have:=c _ _ f.2.2.2.2.2.2.2.1;rw[<-Zh]at this;exact this,by have:=c _ _ f.2.2.2.2.2.2.2.2;rw[<-Zh]at this;exact this⟩
theorem zuz(g:Nat)(z:Array Value)(V:∀args w,(callFunc g args).run prog w=.ok (.enter g args) w)(A:Option Addr)(n c:Nat)(a:List Value)(E F G t v u D s r:Nat->Value)(p:Nat->Bool)(w:World)
 (h:Sl w w.heap.size 9 A n a) (y:n<=9223372036854775807) (C:∀j,j<n->a[j*9]? = some (E j)/\a[j*9+1]? = some (F j)/\a[j*9+2]? = some (G j)/\a[j*9+3]? = some (t j)/\a[j*9+4]? = some (v j)/\a[j*9+5]? = some (u j)/\a[j*9+6]? = some (D j)/\a[j*9+7]? = some (s j)/\a[j*9+8]? = some (r j))
 (x:∀W j,j<n->Below w.heap.size w W->Calls prog g (#[.agg #[E j,F j,G j,t j,v j,u j,D j,s j,r j]]++z) W (zal (p j) W)):
 Calls prog 32 #[.slice A n c,.func (.func g) #[] z] w λe w'=>e=.returned (.int .i64 (hitI p n))/\Below w.heap.size w w':=by
 have T:=hIx x;have U:=hIx C;clear x C
 go_in
 go_wp2
 go_loopw [5,8] (λ_ i wr=>∃j:Nat,j<=n/\i=.int .i64 j/\Below w.heap.size w wr/\Hid (∀i,i<j->p i=false)) (λ_ i _=>n-(intOf i).toNat)
 case atStart=>exact⟨0,Qm _,rfl,Qg _ _,λi B=>absurd B (by omega)⟩
 case round=>
  obtain⟨j,X,rfl,hb,d⟩:=hrel
  by_cases f:j<n
  ·obtain⟨b,L,rfl,H,J,O,S,K,I,Q,N,P⟩:=srcR (h.below hb) f U.out
   have q:=T.out wr j f hb;cases m:p j with
   |true=>
    rw[m]at q;have k:=hIx (zkn p n j f m d);clear m;go_wp2_with (go_at_fn g;refine q.mono ?_;rintro e w' ⟨rfl,l⟩);go_ret;exact⟨zac k.out.symm,hb.trans (l.mono hb.size)⟩
   |false=>
    rw[m]at q
    have o:Hid (∀i,i<j+1->p i=false):=λi B=>by
     by_cases e:i=j
     ·rw[e];exact m
     ·exact d i (by omega)
    clear m d;go_wp2_with (go_at_fn g;refine q.mono ?_;rintro e w' ⟨rfl,l⟩)
    go_roundw
    case rel=>exact⟨j+1,by omega,by go_num,hb.trans (l.mono hb.size),o⟩
    case measure=>simp[intOf] <;> omega
  ·obtain rfl:j=n:=by omega
   have k:=hIx (zdT p j d);go_wp2;go_ret;exact⟨zac k.out.symm,hb⟩
theorem zgH(g:Nat)(m:Array Value)(v:∀args w,(callFunc g args).run prog w=.ok (.enter g args) w)(A:Option Addr)(n c:Nat)(a:List Value)(q r s i l k o f d:Nat->Value)(p:Nat->Bool)(w:World)
 (h:Sl w w.heap.size 9 A n a) (b:n<=9223372036854775807) (u:∀j,j<n->a[j*9]? = some (q j)/\a[j*9+1]? = some (r j)/\a[j*9+2]? = some (s j)/\a[j*9+3]? = some (i j)/\a[j*9+4]? = some (l j)/\a[j*9+5]? = some (k j)/\a[j*9+6]? = some (o j)/\a[j*9+7]? = some (f j)/\a[j*9+8]? = some (d j))
 (t:∀W j,j<n->Below w.heap.size w W->Calls prog g (#[.agg #[q j,r j,s j,i j,l j,k j,o j,f j,d j]]++m) W (zal (p j) W)):
 Calls prog 11 #[.slice A n c,.func (.func g) #[] m] w (zal (anyN p n) w):=by
 have y:=hIx (zuz g m v A n c a q r s i l k o f d p w h b u t);have x:=hIx (zgl p n);clear t u h
 go_in
 go_wp2_with fail;refine y.out.mono ?_;rintro e z ⟨rfl,hb⟩;go_wp2;go_ret;exact⟨zaI x.out,hb⟩
theorem zpl{w:World}{B m:Nat}{A:Option Addr}{l:List RuM}(h:Sl w B 9 A m (l.flatMap zag))(k:Nat)(c:k<l.length):
 ∃b a,A=some ⟨b,a,none⟩/\b<B/\∀j,j<9->∀v,(zag l[k])[j]? = some v->w.cell? ⟨b,a+k*9+j,none⟩=some v:=by
 have hl:=zaS zag 9 (λ_=>rfl) l;obtain⟨b,a,e,hb,g⟩:=h.src (by omega);refine⟨b,a,e,hb,λj f v d=>?_⟩;have h1:=zbM zag 9 (λ_=>rfl) l k j c f;have h2:k*9+j<(l.flatMap zag).length:=by omega
 rw[Zh,g (k*9+j) h2];rw[Qc h2]at h1;rw[h1,d]
theorem zvB{i:Type}{cells:i->List Value}{size:Nat}(c:∀a,(cells a).length=size){w:World}{B n:Nat}{A:Option Addr}{l:List i}(h:Sl w B size A n (l.flatMap cells))(k:Nat)(m:k<=l.length):Sl w B size A k ((l.take k).flatMap cells):=by
 have hl:=zaS cells size c (l.take k);have f:l.flatMap cells=(l.take k).flatMap cells++(l.drop k).flatMap cells:=by rw[<-Q4,Zm]
 refine⟨by rw[hl,Qz,Xb m],λq=>?_⟩;obtain⟨b,d,e,hb,o⟩:=h.src (by rw[f,Qa];omega);refine⟨b,d,e,hb,λj p=>?_⟩;have g:j<(l.flatMap cells).length:=by rw[f,Qa];omega
 rw[o j g]
 congr 1
 simp only[f,ZA p]
def dRu:RuM:=⟨⟨0,0,[],[],false,0,ByteArray.empty,[],false⟩,none,0,none,0,none,0⟩
theorem zv1(b i f e l j h n c:Value)(y a:Int)(g:Nat)(w:World)(d:b=.int .i64 y)(k:g<w.heap.size)(q:w.cell? ⟨g,0,none⟩=some (.int .i64 a)):
 Calls prog 46 #[.agg #[b,i,f,e,l,j,h,n,c],.pointer (some ⟨g,0,none⟩)] w (zal (y==a) w):=by
 subst d;have m:∀o,(w.alloc o).cell? ⟨g,0,none⟩=some (.int .i64 a):=λo=>(((Qg _ _).alloc (Qd _) o).cell (p:=⟨g,0,none⟩) k).trans q
 go_in
 go_wp2;go_ret;exact⟨rfl,WaL⟩
theorem zrt(l:List RuM)(k:Nat)(s:k<=l.length)(f:Int)(A:Option Addr)(c g:Nat)(w:World)(h:Sl w w.heap.size 9 A l.length (l.flatMap zag))(hl:l.length<=1048576)(q:g<w.heap.size)(v:w.cell? ⟨g,0,none⟩=some (.int .i64 f)):
 Calls prog 11 #[.slice A k c,.func (.func 46) #[] #[.pointer (some ⟨g,0,none⟩)]] w (zal (((l.map RuM.r).take k).any λy=>y.id==f) w):=by
 have u:=zvB (cells:=zag) (λ_=>rfl) h k s;have d:(l.take k).length=k:=by rw[Qz,Xb s]
 have t:anyN (λj=>((l.take k).getD j dRu).r.id==f) (l.take k).length=(((l.map RuM.r).take k).any λy=>y.id==f):=by
  rw[zcp (λy:RuM=>y.r.id==f) (l.take k) dRu,<-List.map_take,List.any_map];rfl
 rw[<-t,d];have o:=zaS zag 9 (λ_=>rfl) (l.take k)
 have a:∀j i,j<k->i<9->((l.take k).flatMap zag)[j*9+i]? = some (((l.take k).flatMap zag).getD (j*9+i) undef):=λj i b x=>by
  rw[Qk,Qc (by rw[o,d];omega)];rfl
 generalize n:(l.take k).flatMap zag=e at *;refine zgH 46 #[.pointer (some ⟨g,0,none⟩)] (enters_of func46 (by kernel_rfl) rfl) A k c e (λj=>e.getD (j*9) undef) (λj=>e.getD (j*9+1) undef) (λj=>e.getD (j*9+2) undef) (λj=>e.getD (j*9+3) undef) (λj=>e.getD (j*9+4) undef) (λj=>e.getD (j*9+5) undef) (λj=>e.getD (j*9+6) undef) (λj=>e.getD (j*9+7) undef) (λj=>e.getD (j*9+8) undef) _ w u (by omega) (λj b=>?_) (λW j b hb=>?_)
 ·exact⟨a j 0 b (by decide),a j 1 b (by decide),a j 2 b (by decide),a j 3 b (by decide),a j 4 b (by decide),a j 5 b (by decide),a j 6 b (by decide),a j 7 b (by decide),a j 8 b (by decide)⟩
 ·refine zv1 _ _ _ _ _ _ _ _ _ ((l.take k).getD j dRu).r.id f g W ?_ (Qv q hb.size) ((hb.cell (p:=⟨g,0,none⟩) q).trans v)
  have m:j<(l.take k).length:=by rw[d];exact b
  have h1:=zbM zag 9 (λ_=>rfl) (l.take k) j 0 m (by decide);have h2:(l.take k).getD j dRu=(l.take k)[j]:=by rw[Qk,Qc m];rfl
  rw[n,Xj]at h1;rw[h2,Qk,h1]
  rfl
theorem zu7(argC:Int->ByteArray->Int)(l:List zai)(k:Nat)(a:k<l.length):
 goC argC (l.take k) (l.drop k)=if l[k].id<1\/9999<l[k].id\/(l[k].phase≠1/\l[k].phase≠2)then 1 else if (l.take k).any (λy=>y.id==l[k].id)=true then 9 else if oneC argC l[k]≠0 then oneC argC l[k]else goC argC (l.take (k+1)) (l.drop (k+1)):=by
 rw[Zf a,goC,Qq a]
theorem zon(l:List zai)(k:Nat)(a:k+1=l.length):zaE (l.drop k)=if l[k].chain=true then 1 else 0:=by
 rw[Zf (by omega),QP (by omega),zaE]
theorem znK(l:List zai)(k:Nat)(a:k+1<l.length):zaE (l.drop k)=if l[k].chain=true/\l[k+1].phase≠l[k].phase then 1 else zaE (l.drop (k+1)):=by
 rw[Zf (by omega:k<l.length),Zf a,zaE]
def zxu(L:List zai)(w a:World)(i:Value)(wr:World):Prop:=∃k:Nat,k<=L.length/\i=.int .i64 k/\Below (w.heap.size+1) a wr/\goC argC [] L=goC argC (L.take k) (L.drop k)
def zxw(L:List zai)(w a:World)(i:Value)(wr:World):Prop:=∃k:Nat,k<=L.length/\i=.int .i64 k/\Below (w.heap.size+1) a wr/\zaE L=zaE (L.drop k)
theorem znq(a:RuArg)(w:World)(h:RuLies w w.heap.size a)(hs:zcx a)(hc:LibOk w):Calls prog 27 #[a.value] w (zbm (zaZ argC a.set) w):=by
 have u:=λ(x:RuM) (hx:x∈a.l) W (hb:Below w.heap.size w W)=>zyX x W ((h.all x hx).keep hb hb.size) (hs.all x hx) (hc.below hb)
 have v:=λk (hk:k<=a.l.length) I g W (hb:Below w.heap.size w W)=>zrt a.l k hk I a.A a.c g W ((h.sl.below hb).more hb.size) hs.len
 have hF:=λW (hb:Below w.heap.size w W) k (hk:k<a.l.length)=>zpl (h.sl.below hb) k hk
 have hi:zaZ argC a.set=if a.most<1\/1000000<a.most\/a.status<400\/599<a.status then 1 else if 40<(a.l.map RuM.r).length then 2 else if goC argC [] (a.l.map RuM.r)≠0 then goC argC [] (a.l.map RuM.r)else zaE (a.l.map RuM.r):=rfl;have hB:∀o,Below w.heap.size w (w.alloc o):=λo=>WaL
 have hd:(a.l.map RuM.r).length=a.l.length:=Qh _;have hz:=h.cap;have hV:=hs.len;have hf:∀k (hk:k<a.l.length) (hw:k<(a.l.map RuM.r).length),(a.l.map RuM.r)[k]'hw=a.l[k].r:=λk hk hw=>Zd _
 unfold RuArg.value;generalize zaZ argC a.set=p at *;obtain⟨most,E,A,c,l⟩:=a;dsimp only at *;have HS:=hIx (zu7 argC (l.map RuM.r));have hK:=hIx (zon (l.map RuM.r));have hN:=hIx (znK (l.map RuM.r));have hh:=hIx u;have h4:=hIx v;have ht:=hIx hF;have HD:=hIx hi;have T:=hIx hB;have U:=hIx hd;have HG:=hIx hf;clear u v hF h hs hc hi hB hd hf;unfold zbm
 go_in
 by_cases c1:most<1
 ·have HR:Hid (p=1):=hIx (by rw[HD.out,Qi (.inl c1)])
  go_wp2;go_ret;exact⟨zac HR.out.symm,T.out _⟩
 by_cases c2:1000000<most
 ·have HR:Hid (p=1):=hIx (by rw[HD.out,Qi (by omega)])
  go_wp2;go_ret;exact⟨zac HR.out.symm,T.out _⟩
 by_cases c3:E<400
 ·have HR:Hid (p=1):=hIx (by rw[HD.out,Qi (by omega)])
  go_wp2;go_ret;exact⟨zac HR.out.symm,T.out _⟩
 by_cases c4:599<E
 ·have HR:Hid (p=1):=hIx (by rw[HD.out,Qi (by omega)])
  go_wp2;go_ret;exact⟨zac HR.out.symm,T.out _⟩
 by_cases c5:40<l.length
 ·have HR:Hid (p=2):=hIx (by rw[HD.out,Qe (by omega),Qi (by rw[U.out];exact c5)])
  have d5:decide (40<(l.length:Int))=true:=by simp;omega
  go_wp2;go_ret;exact⟨zac HR.out.symm,T.out _⟩
 have d5:decide (40<(l.length:Int))=false:=by simp;omega
 have J:Hid (p=if goC argC [] (l.map RuM.r)≠0 then goC argC [] (l.map RuM.r)else zaE (l.map RuM.r)):=hIx (by rw[HD.out,Qe (by omega),Qe (by rw[U.out];exact c5)]);clear HD;obtain⟨W0,ha⟩:∃W0,W0=w.alloc (.cells #[.int .i64 most,.int .i64 E,.slice A l.length c] 24):=⟨_,rfl⟩
 have hE:Hid (∀W,Below (w.heap.size+1) W0 W->W.cell? ⟨w.heap.size,2,none⟩=some (.slice A l.length c)/\Below w.heap.size w W):=λW hb=>by
  subst ha;obtain⟨a,b⟩:=zbH hb;exact⟨a 2,b⟩
 have hA:w.heap.size+1<=W0.heap.size:=by rw[ha];simp
 go_wp2_with fail;rw[<-ha];clear ha T c1 c2 c3 c4
 go_loopw [33] (λi wr=>zxu (l.map RuM.r) w W0 i wr) (λi _=>l.length-(intOf i).toNat)
 case atStart=>exact⟨0,Qm _,rfl,Qg _ _,rfl⟩
 case round=>
  obtain⟨k,hk,rfl,Y,hr⟩:=hrel;rw[U.out]at hk;obtain⟨x2,H⟩:=hE.out wr Y;have hD:w.heap.size+1<=wr.heap.size:=Qn hA Y.size;have hI:=hIx Y;have HR:=hIx hr
  by_cases G:k<l.length
  ·obtain⟨b,h9,rfl,hJ,d⟩:=ht.out wr H k G
   have u:=hh.out l[k] (Qy G);have V:=HS.out k (by rw[U.out];exact G);rw[HG.out k G _]at V;have v:=λI g W hb=>h4.out k hk I g W hb
   rw[<-hr]at V;have q0:=d 0 (by decide) _ rfl;have q1:=d 1 (by decide) _ rfl;have q2:=d 2 (by decide) _ rfl;have q3:=d 3 (by decide) _ rfl;have q4:=d 4 (by decide) _ rfl;have q5:=d 5 (by decide) _ rfl;have q6:=d 6 (by decide) _ rfl;have q7:=d 7 (by decide) _ rfl;have q8:=d 8 (by decide) _ rfl;rw[Xj]at q0;generalize l[k]=X at *;obtain⟨⟨I,L,D,C,no,op,h5,z,n⟩,vA,vc,pA,pc,aA,ac⟩:=X;unfold zag at u;dsimp only at q0 q1 q2 q3 q4 q5 q6 q7 q8 V u;generalize oneC argC ⟨I,L,D,C,no,op,h5,z,n⟩=oc at *;generalize D.length=nv at *;generalize C.length=np at *;generalize z.length=na at *;have i1:(k:Int)<=(c:Int):=by have:=hz;omega
   have hC:Hid (∀W,Below (wr.heap.size+1) (wr.alloc (.cells #[.int .i64 I,.int .i64 L,.slice vA nv vc,.slice pA np pc,.bool no,.int .i64 op,.string h5,.slice aA na ac,.bool n] 42)) W->(∀j,W.cell? ⟨wr.heap.size,j,none⟩=(#[Value.int .i64 I,.int .i64 L,.slice vA nv vc,.slice pA np pc,.bool no,.int .i64 op,.string h5,.slice aA na ac,.bool n]:Array Value)[j]?)/\Below wr.heap.size wr W):=λW hb=>zbH hb
   have h8:=hIx V;have hu:=hIx u;have P:=hIx v;have O:Hid (∀o,Below w.heap.size w (wr.alloc o)):=λo=>H.alloc H.size o
   have hS:∀o,(wr.alloc o).cell? ⟨w.heap.size,2,none⟩=some (.slice (some ⟨b,h9,none⟩) l.length c):=λo=>zaa ((Qg _ _).alloc (Qd _) o) x2
   clear d V u v Y hr
   by_cases c1:I<1
   ·have f:Hid (p=1):=hIx (by have e:=h8.out;rw[Qi (.inl c1)]at e;rw[J.out,e,Qi (by decide)])
    go_wp2;go_ret;exact⟨zac f.out.symm,O.out _⟩
   by_cases c2:9999<I
   ·have f:Hid (p=1):=hIx (by have e:=h8.out;rw[Qi (by omega)]at e;rw[J.out,e,Qi (by decide)])
    go_wp2;go_ret;exact⟨zac f.out.symm,O.out _⟩
   by_cases c3:L≠1/\L≠2
   ·have f:Hid (p=1):=hIx (by have e:=h8.out;rw[Qi (by omega)]at e;rw[J.out,e,Qi (by decide)])
    have e1:(L != 1)=true:=Q6.2 c3.1;have e2:(L != 2)=true:=Q6.2 c3.2;go_wp2;go_ret;exact⟨zac f.out.symm,O.out _⟩
   have hP:L=1\/L=2:=by omega
   have h6:Hid (goC argC [] (l.map RuM.r)=if ((l.map RuM.r).take k).any (λy=>y.id==I)=true then 9 else if oc≠0 then oc else goC argC ((l.map RuM.r).take (k+1)) ((l.map RuM.r).drop (k+1))):=hIx (by rw[h8.out,Qe (by omega)]);clear h8 c3;have HC:=hIx λo (h:(wr.alloc o).cell? ⟨wr.heap.size,0,none⟩=some (.int .i64 I))=>P.out I wr.heap.size (wr.alloc o) (O.out o) (by simp) h
   clear P;have hj:∀cs t,cs[0]? = some (Value.int .i64 I)->(wr.alloc (.cells cs t)).cell? ⟨wr.heap.size,0,none⟩=some (.int .i64 I):=λcs t h=>(Qf _ _ 0 cs t (0,0) (Qp wr _)).trans h
   have hy:=hIx hj;clear hj
   rcases hP with rfl|rfl
   all_goals
    generalize ((l.map RuM.r).take k).any (λy=>y.id==I)=an at *;go_wp2_with fail;refine(HC.out _ (hy.out _ _ rfl)).mono ?_;rintro e w1 ⟨rfl,hH⟩;obtain⟨hn,N⟩:=hC.out w1 (by simpa using hH);clear hH;cases an with
    |true=>
     have f:Hid (p=9):=hIx (by rw[J.out,h6.out,Qi rfl,Qi (by decide)]);go_wp2;go_ret;exact⟨zac f.out.symm,H.trans (N.mono H.size)⟩
    |false=>
     have he:Hid (goC argC [] (l.map RuM.r)=if oc≠0 then oc else goC argC ((l.map RuM.r).take (k+1)) ((l.map RuM.r).drop (k+1))):=hIx (by rw[h6.out,Qe (by decide)]);have n0:=hn 0;have n1:=hn 1;have n2:=hn 2;have n3:=hn 3;have n4:=hn 4;have n5:=hn 5;have n6:=hn 6;have n7:=hn 7;have n8:=hn 8;simp only[Z7,XQ,Xe]at n0 n1 n2 n3 n4 n5 n6 n7 n8;clear hn h6;have s:=H.trans (N.mono H.size);have HO:=hIx (hu.out w1 s)
     by_cases co:oc=0
     ·subst co
      have h3:Hid (∀w2,Below w1.heap.size w1 w2->zxu (l.map RuM.r) w W0 (.int .i64 ((k:Int)+1)) w2):=λw2 Z=>⟨k+1,by rw[U.out];omega,rfl,(hI.out.trans (N.mono hD)).trans (Z.mono (Qn hD N.size)),by rw[he.out,Qe (by decide)]⟩
      go_wp2_with fail;refine HO.out.mono ?_;rintro e w2 ⟨rfl,Z⟩;have hG:=h3.out w2 Z;go_wp2;exact⟨hG,by simp[intOf] <;> omega⟩
     ·have f:Hid (p=oc):=hIx (by rw[J.out,he.out,Qi co,Qi co])
      have qo:(oc==0)=false:=Qb.2 co;go_wp2_with fail;refine HO.out.mono ?_;rintro e w2 ⟨rfl,Z⟩;go_wp2;go_ret;exact⟨zac f.out.symm,s.trans (Z.mono s.size)⟩
  ·have hO:l.length<=k:=by omega
   have hq:Hid (p=zaE (l.map RuM.r)):=hIx (by
    have:goC argC [] (l.map RuM.r)=0:=by rw[hr,QP (by rw[U.out];exact hO)];rfl
    rw[J.out,this,Qe (by decide)])
   clear HS hh h4 J hr HR Y H;have i1:¬((k:Int)<(l.length:Int)):=by omega
   obtain⟨wo,rfl⟩:∃wo:World,wo=wr:=⟨_,rfl⟩
   go_wp2
   go_loopw [71] (λi wr=>zxw (l.map RuM.r) w W0 i wr) (λi _=>l.length-(intOf i).toNat)
   case atStart=>exact⟨0,Qm _,rfl,hI.out,rfl⟩
   case round=>
    obtain⟨m,hm,rfl,B,Q⟩:=hrel;rw[U.out]at hm;obtain⟨y2,s⟩:=hE.out wr B;have hR:=hIx B;have hU:=hIx Q;clear x2
    by_cases G:m<l.length
    ·obtain⟨b,h9,rfl,hJ,d⟩:=ht.out wr s m G
     have q0:=d 0 (by decide) _ rfl;have q1:=d 1 (by decide) _ rfl;have q2:=d 2 (by decide) _ rfl;have q3:=d 3 (by decide) _ rfl;have q4:=d 4 (by decide) _ rfl;have q5:=d 5 (by decide) _ rfl;have q6:=d 6 (by decide) _ rfl;have q7:=d 7 (by decide) _ rfl;have q8:=d 8 (by decide) _ rfl;rw[Xj]at q0;have hT:∀o,(wr.alloc o).cell? ⟨w.heap.size,2,none⟩=some (.slice (some ⟨b,h9,none⟩) l.length c):=λo=>zaa ((Qg _ _).alloc (Qd _) o) y2
     have h3:Hid (∀o,zaE (l.map RuM.r)=zaE ((l.map RuM.r).drop (m+1))->∀q,zxw (l.map RuM.r) w W0 (.int .i64 ((m:Int)+1)) ((wr.alloc o).drewN q)):=λo h q=>⟨m+1,by rw[U.out];omega,rfl,below_drewN (B.alloc (Qn hA B.size) o) q,h⟩
     have hg:Hid (∀o q,Below w.heap.size w ((wr.alloc o).drewN q)):=λo q=>below_drewN (s.alloc s.size o) q
     by_cases hv:m+1=l.length
     ·have F:=hK.out m (by rw[U.out];exact hv)
      rw[<-Q,HG.out m G _]at F;have hL:Hid (zaE ((l.map RuM.r).drop (m+1))=0):=hIx (by rw[QP (by rw[U.out];omega)];rfl);generalize l[m]=X at *;obtain⟨⟨I,L,D,C,no,op,h5,z,n⟩,vA,vc,pA,pc,aA,ac⟩:=X;dsimp only at q0 q1 q2 q3 q4 q5 q6 q7 q8 F;generalize D.length=nv at *;generalize C.length=np at *;generalize z.length=na at *;have e1:((m:Int)+1==(l.length:Int))=true:=by rw[Zk];omega
      have S:=hIx F;clear d F B Q;cases n with
      |true=>
       have f:Hid (p=1):=hIx (by rw[hq.out,S.out,Qi rfl]);go_wp2_with fail
       go_quiet (fail)
       go_wp2;go_ret;exact⟨zac f.out.symm,hg.out _ _⟩
      |false=>
       have h0:Hid (zaE (l.map RuM.r)=zaE ((l.map RuM.r).drop (m+1))):=hIx (by rw[S.out,hL.out,Qe (by decide)]);go_wp2_with fail
       go_quiet (fail)
       go_wp2;exact⟨h3.out _ h0.out _,by simp[intOf] <;> omega⟩
     ·have h7:m+1<l.length:=by omega
      obtain⟨b',hQ,e',_,K⟩:=ht.out wr s (m+1) h7;injection e' with e'
      injection e' with e1 e2
      subst e1;subst e2
      have r1:=K 1 (by decide) _ rfl;have r2:∀o,(wr.alloc o).cell? ⟨b,h9+(m+1)*9+1,none⟩=some (.int .i64 l[m+1].r.phase):=λo=>zaa ((Qg _ _).alloc (Qd _) o) r1
      have F:=hN.out m (by rw[U.out];exact h7);rw[<-Q,HG.out m G _,HG.out (m+1) h7 _]at F;generalize l[m+1].r.phase=ho at *;generalize l[m]=X at *;obtain⟨⟨I,L,D,C,no,op,h5,z,n⟩,vA,vc,pA,pc,aA,ac⟩:=X;dsimp only at q0 q1 q2 q3 q4 q5 q6 q7 q8 F;generalize D.length=nv at *;generalize C.length=np at *;generalize z.length=na at *;have e1:((m:Int)+1==(l.length:Int))=false:=Qb.2 (by omega);have S:=hIx F;clear d K F B Q r1;cases n with
      |true=>
       by_cases hp:ho=L
       ·have h0:Hid (zaE (l.map RuM.r)=zaE ((l.map RuM.r).drop (m+1))):=hIx (by rw[S.out,Qe (λh=>h.2 hp)])
        have e3:(ho != L)=false:=by rw[hp];simp
        go_wp2_with fail
        go_quiet (fail)
        go_wp2;exact⟨h3.out _ h0.out _,by simp[intOf] <;> omega⟩
       ·have f:Hid (p=1):=hIx (by rw[hq.out,S.out,Qi ⟨rfl,hp⟩])
        have e3:(ho != L)=true:=Q6.2 hp;go_wp2_with fail
        go_quiet (fail)
        go_wp2;go_ret;exact⟨zac f.out.symm,hg.out _ _⟩
      |false=>
       have h0:Hid (zaE (l.map RuM.r)=zaE ((l.map RuM.r).drop (m+1))):=hIx (by rw[S.out,Qe (λh=>absurd h.1 (by decide))]);go_wp2_with fail
       go_quiet (fail)
       go_wp2;exact⟨h3.out _ h0.out _,by simp[intOf] <;> omega⟩
    ·have f:Hid (p=0):=hIx (by rw[hq.out,Q,QP (by rw[U.out];omega)];rfl)
     have i2:¬((m:Int)<(l.length:Int)):=by omega
     go_wp2;go_ret;exact⟨zac f.out.symm,s⟩
