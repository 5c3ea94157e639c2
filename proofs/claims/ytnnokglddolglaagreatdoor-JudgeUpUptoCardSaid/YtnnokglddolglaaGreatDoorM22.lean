/- Lemmas for the last texts. -/
import Derived.Test.YtnnokglddolglaaGreatDoorM21
import Derived.Lib.ItoaLen
set_option maxHeartbeats 6400000
set_option maxRecDepth 100000
namespace Go.Proofs.YtnnokglddolglaaGreatDoor
open Go.RowKit Go.Proofs.Tryz
section
open Go.Sort
theorem zpi(n:Int)(w:World)(a:-9223372036854775808<=n)(h1:n<=9223372036854775807)(h:TabOk w):
 Calls prog 58 #[.int .i64 n] w λe w'=>e=.returned (.string (bs (Lib.itoa n)))/\Below w.heap.size w w':=
 (strconv_Itoa n a h1 w (h w (Qg _ _))).mono λe w' ⟨h1,b,os,h2⟩=>by
  subst h2;refine⟨?_,zh2 w b os⟩;rw[h1]
  rfl
def oneV(x:ByteArray):List Pair:=[(ByteArray.mk #[],x)]
def valP(K:Int)(a m t b:ByteArray)(e:List zao)(f:Nat)(g:Int)(c d:List Pair):List Pair:=
 if K=1 then oneV m else if K=2 then oneV t else if K=3 then oneV (bs (Lib.cut t.data.toList [63]).1)else if K=4 then oneV (bs (Lib.cut t.data.toList [63]).2.1)else if K=5 then oneV b
 else if K=6 then ze9 c a else if K=7 then zgr c else if K=8 then ze9 (zbf e) a else if K=9 then zgr (zbf e)else if K=10 then ze9 d a
 else if K=11 then oneV (bs (netT f 32))else if K=12 then oneV (bs (Lib.itoa g))else []
theorem zy0(a:Nat):zq2 a 32=true:=by
 unfold zq2;have:topN 32=0:=by decide
 rw[this,Nat.pow_zero,Nat.mod_one]
 decide
structure ValIn(m t b:ByteArray)(fs:List zao)(A:Option Addr)(list:List Pair)(Al:Option Addr)(cook:List Pair)(Ac:Option Addr)(w:World):Prop where
 f:Sl w w.heap.size 2 A fs.length (fs.flatMap zaL)
 l:Sl w w.heap.size 2 Al list.length (list.flatMap za9)
 c:Sl w w.heap.size 2 Ac cook.length (cook.flatMap za9)
 lib:LibOk w
 tab:TabOk w
theorem ValIn.below{m t b:ByteArray}{i:List zao}{A:Option Addr}{d:List Pair}{e:Option Addr}{a:List Pair}{g:Option Addr}{w W:World}(h:ValIn m t b i A d e a g w)(hb:Below w.heap.size w W):ValIn m t b i A d e a g W:=
 ⟨(h.f.below hb).more hb.size,(h.l.below hb).more hb.size,(h.c.below hb).more hb.size,h.lib.below hb,h.tab.below hb⟩
structure zn6(t:ByteArray)(fs:List zao)(list cook:List Pair)(cl:Nat)(sc:Int):Prop where
 zt:t.size<=4194304
 zf:fs.length<=4194304
 each:∀f∈fs,f.1.size<=maxLen
 zl:list.length<=4194304
 zk:cook.length<=4194304
 zc:cl<4294967296
 zs:-9223372036854775808<=sc/\sc<=9223372036854775807
theorem zqe(K M:Int)(a m t b:ByteArray)(o:List zao)(A:Option Addr)(c:Nat)(q:Nat)(z:Int)(g:List Pair)(Al:Option Addr)(c1:Nat)(j:List Pair)(Ac:Option Addr)(c2:Nat)(w:World)
 (hc:ValIn m t b o A g Al j Ac w) (hz:zn6 t o g j q z):
 Calls prog 118 #[.agg #[.int .i64 K,.int .i64 M,.string a],.agg #[.string m,.string t,.slice A o.length c,.string b],.int .u32 (q:Int),.int .i64 z,.slice Al g.length c1,.slice Ac j.length c2] w (RowA (valP K a m t b o q z g j) w):=by
 obtain⟨i,J⟩:∃i,(w.alloc (.cells #[.int .i64 K,.int .i64 M,.string a] 55)).alloc (.cells #[.string m,.string t,.slice A o.length c,.string b] 29)=i:=⟨_,rfl⟩
 have C:Below w.heap.size w i:=by rw[<-J];exact WaL.alloc (by simp) _
 have ha:i.heap[w.heap.size]? = some (.cells #[.int .i64 K,.int .i64 M,.string a] 55 (0,0)):=by
  rw[<-J];exact(Qt _ _ _ (by simp)).trans (Qp w _)
 have O:i.heap[w.heap.size+1]? = some (.cells #[.string m,.string t,.slice A o.length c,.string b] 29 (0,0)):=by
  rw[<-J];have:=Qp (w.alloc (.cells #[.int .i64 K,.int .i64 M,.string a] 55)) (.cells #[.string m,.string t,.slice A o.length c,.string b] 29);rw[Qr]at this;exact this
 have a0:i.cell? ⟨w.heap.size,0,none⟩=some (.int .i64 K):=Qf i _ 0 _ _ _ ha;have a2:i.cell? ⟨w.heap.size,2,none⟩=some (.string a):=Qf i _ 2 _ _ _ ha;have d0:i.cell? ⟨w.heap.size+1,0,none⟩=some (.string m):=Qf i _ 0 _ _ _ O;have d1:i.cell? ⟨w.heap.size+1,1,none⟩=some (.string t):=Qf i _ 1 _ _ _ O;have d2:i.cell? ⟨w.heap.size+1,2,none⟩=some (.slice A o.length c):=Qf i _ 2 _ _ _ O;have d3:i.cell? ⟨w.heap.size+1,3,none⟩=some (.string b):=Qf i _ 3 _ _ _ O;have hI:=hc.below C;have hd:=hIx J;have hf:=hIx C;have X:Hid (∀W,Below i.heap.size i W->ValIn m t b o A g Al j Ac W):=λW h=>hI.below h
 have HS:Hid (∀W,Below i.heap.size i W->W.cell? ⟨w.heap.size,2,none⟩=some (.string a)/\W.cell? ⟨w.heap.size+1,0,none⟩=some (.string m)/\W.cell? ⟨w.heap.size+1,1,none⟩=some (.string t)/\W.cell? ⟨w.heap.size+1,2,none⟩=some (.slice A o.length c)):=λW h=>⟨zaa h a2,zaa h d0,zaa h d1,zaa h d2⟩
 have y:=hIx hz;have Q:Hid (Below i.heap.size i i):=Qg _ _
 have k:Hid (∀(l:List Pair) (v:Value) (W:World) (B:Nat),l=valP K a m t b o q z g j->OwnA W B v l->i.heap.size<=B->Below i.heap.size i W->RowA (valP K a m t b o q z g j) w (.returned v) W):=λl v W B h1 h2 h3 h4=>by
  subst h1;exact⟨v,rfl,h2.low (Qn C.size h3),C.trans (h4.mono C.size)⟩
 have h9:Hid (valP K a m t b o q z g j=_):=rfl;unfold Hid at h9;clear hc hz J C ha O hI h9
 go_in
 go_upto_region 1 with fail
 rw[hd.out]
 by_cases s:K=1
 ·subst s
  go_wp2_with (go_at_call 121;(with_reducible refine(zde m _).mono ?_);rintro e Z ⟨T,rfl,n,d⟩);go_ret;exact k.out _ _ _ _ rfl n (Qd _) d
 by_cases u:K=2
 ·subst u
  clear s;go_wp2_with (go_at_call 121;(with_reducible refine(zde t _).mono ?_);rintro e Z ⟨T,rfl,n,d⟩);go_ret;exact k.out _ _ _ _ rfl n (Qd _) d
 by_cases D:K=3
 ·subst D
  clear s u;have p:=hIx (zos t i (X.out _ Q.out).lib y.out.zt);have F:Hid (oneV (bs (Lib.cut t.data.toList [63]).1)=valP 3 a m t b o q z g j):=rfl;generalize bs (Lib.cut t.data.toList [63]).1=P at p F
  go_wp2_with (first
   |(go_at_call 158;(with_reducible refine p.out.mono ?_);rintro e Z ⟨rfl,d⟩)
   |(go_at_call 121;(with_reducible refine(zde P _).mono ?_);rintro e w2 ⟨T,rfl,n,r⟩))
  go_ret;exact k.out _ _ _ _ F.out n d.size (d.trans (r.mono d.size))
 by_cases G:K=4
 ·subst G
  clear s u D;have p:=hIx (zmW t i (X.out _ Q.out).lib y.out.zt);have F:Hid (oneV (bs (Lib.cut t.data.toList [63]).2.1)=valP 4 a m t b o q z g j):=rfl;generalize bs (Lib.cut t.data.toList [63]).2.1=P at p F
  go_wp2_with (first
   |(go_at_call 49;(with_reducible refine p.out.mono ?_);rintro e Z ⟨rfl,d⟩)
   |(go_at_call 121;(with_reducible refine(zde P _).mono ?_);rintro e w2 ⟨T,rfl,n,r⟩))
  go_ret;exact k.out _ _ _ _ F.out n d.size (d.trans (r.mono d.size))
 by_cases L:K=5
 ·subst L
  clear s u D G;go_wp2_with (go_at_call 121;(with_reducible refine(zde b _).mono ?_);rintro e Z ⟨T,rfl,n,d⟩);go_ret;exact k.out _ _ _ _ rfl n (Qd _) d
 by_cases S:K=6
 ·subst S
  clear s u D G L;have p:=hIx (zk3 g Al c1 a i (X.out _ Q.out).l y.out.zl);go_wp2_with (go_at_call 159;(with_reducible refine p.out.mono ?_);rintro e Z ⟨T,rfl,n,d⟩);go_ret;exact k.out _ _ _ _ rfl n (Qd _) d
 by_cases U:K=7
 ·subst U
  clear s u D G L S;have p:=hIx (zo4 g Al c1 i (X.out _ Q.out).l y.out.zl);go_wp2_with (go_at_call 160;(with_reducible refine p.out.mono ?_);rintro e Z ⟨T,rfl,n,d⟩);go_ret;exact k.out _ _ _ _ rfl n (Qd _) d
 by_cases k8:K=8
 ·subst k8
  clear s u D G L S U;have p:Hid (∀W,Below i.heap.size i W->_):=λW h=>zjJ m t o A c W (X.out W h).f y.out.each y.out.zf
  have I:(zbf o).length<=4194304:=by unfold zbf;rw[Qh];exact y.out.zf
  have h8:=hIx I;clear I;go_wp2_with fail
  go_region_held3 (λw'=>w'.cell? ⟨w.heap.size,2,none⟩=some (.string a)/\w'.cell? ⟨w.heap.size+1,0,none⟩=some (.string m)/\w'.cell? ⟨w.heap.size+1,1,none⟩=some (.string t)/\w'.cell? ⟨w.heap.size+1,2,none⟩=some (.slice A o.length c))
   (first|exact HS.out _ h5|exact HS.out _ x|exact HS.out _ Q.out|go_keep)
   (first
    |(go_at_call 161;(with_reducible refine(p.out _ (Q.out.drew)).mono ?_);rintro e w8 ⟨v8,rfl,Y,H⟩;have x:Below i.heap.size i w8:=zuW H;obtain⟨A8,c8,rfl,V⟩:=Y.form)
    |(go_at_call 159;(with_reducible refine(zk3 (zbf o) A8 c8 a w8 V h8.out).mono ?_);rintro e w9 ⟨v9,rfl,h6,h7⟩;have h5:Below i.heap.size i w9:=x.trans (h7.mono x.size)))
  clear Y V;go_wp2;go_ret;exact k.out _ _ _ _ rfl h6 x.size h5
 by_cases k9:K=9
 ·subst k9
  clear s u D G L S U k8;have p:=hIx (zjJ m t o A c i (X.out _ Q.out).f y.out.each y.out.zf);have I:(zbf o).length<=4194304:=by unfold zbf;rw[Qh];exact y.out.zf
  have h8:=hIx I;clear I;go_wp2_with (go_at_call 161;(with_reducible refine p.out.mono ?_);rintro e w8 ⟨v8,rfl,Y,H⟩;obtain⟨A8,c8,rfl,V⟩:=Y.form);refine(zo4 (zbf o) A8 c8 w8 V h8.out).mono ?_;rintro e w9 ⟨v9,rfl,h6,h7⟩;go_wp2;go_ret;exact k.out _ _ _ _ rfl h6 H.size (H.trans (h7.mono H.size))
 by_cases E:K=10
 ·subst E
  clear s u D G L S U k8 k9;have p:=hIx (zk3 j Ac c2 a i (X.out _ Q.out).c y.out.zk);go_wp2_with (go_at_call 159;(with_reducible refine p.out.mono ?_);rintro e Z ⟨T,rfl,n,d⟩);go_ret;exact k.out _ _ _ _ rfl n (Qd _) d
 by_cases N:K=11
 ·subst N
  clear s u D G L S U k8 k9 E
  have p:Hid (Calls prog 162 #[.agg #[.int .u32 (q:Int),.int .i64 32]] i λe w'=>e=.returned (.tuple #[.string (bs (netT q 32)),.int .i64 0])/\Below i.heap.size i w'):=by
   have h:=zrH q 32 i y.out.zc (X.out _ Q.out).tab;unfold zgE at h;rw[zy0,Qi rfl]at h;exact h
  have F:Hid (oneV (bs (netT q 32))=valP 11 a m t b o q z g j):=rfl;generalize bs (netT q 32)=P at p F
  go_wp2_with (first
   |(go_at_call 162;(with_reducible refine p.out.mono ?_);rintro e Z ⟨rfl,d⟩)
   |(go_at_call 121;(with_reducible refine(zde P _).mono ?_);rintro e w2 ⟨T,rfl,n,r⟩))
  go_ret;exact k.out _ _ _ _ F.out n d.size (d.trans (r.mono d.size))
 by_cases h0:K=12
 ·subst h0
  clear s u D G L S U k8 k9 E N;have p:=hIx (zpi z i y.out.zs.1 y.out.zs.2 (X.out _ Q.out).tab);have F:Hid (oneV (bs (Lib.itoa z))=valP 12 a m t b o q z g j):=rfl;generalize bs (Lib.itoa z)=P at p F
  go_wp2_with (first
   |(go_at_call 58;(with_reducible refine p.out.mono ?_);rintro e Z ⟨rfl,d⟩)
   |(go_at_call 121;(with_reducible refine(zde P _).mono ?_);rintro e w2 ⟨T,rfl,n,r⟩))
  go_ret;exact k.out _ _ _ _ F.out n d.size (d.trans (r.mono d.size))
 have F:Hid ([]=valP K a m t b o q z g j):=by unfold Hid valP;rw[Qe s,Qe u,Qe D,Qe G,Qe L,Qe S,Qe U,Qe k8,Qe k9,Qe E,Qe N,Qe h0]
 have q1:=Qb.2 s;have q2:=Qb.2 u;have q3:=Qb.2 D;have q4:=Qb.2 G;have q5:=Qb.2 L;have q6:=Qb.2 S;have q7:=Qb.2 U;have q8:=Qb.2 k8;have q9:=Qb.2 k9;have hh:=Qb.2 E;have hg:=Qb.2 N;have he:=Qb.2 h0;clear s u D G L S U k8 k9 E N h0;go_wp2;go_ret;exact k.out [] _ _ _ F.out (OwnA.nil _ _) (Qd _) Q.out
end
theorem srcV{wr:World}{B n:Nat}{A:Option Addr}{d:List Value}{k m o:Nat->Value}(h:Sl wr B 3 A n d){j:Nat}(q:j<n)(p:∀j,j<n->d[j*3]? = some (k j)/\d[j*3+1]? = some (m j)/\d[j*3+2]? = some (o j)):
 ∃b a,A=some ⟨b,a,none⟩/\wr.cell? ⟨b,a+j*3,none⟩=some (k j)/\wr.cell? ⟨b,a+j*3+1,none⟩=some (m j)/\wr.cell? ⟨b,a+j*3+2,none⟩=some (o j):=by
 have hl:=h.len;obtain⟨b,a,e,_,r⟩:=h.src (by omega);have f:=p j q
 have c:∀i v,d[i]? = some v->wr.cell? ⟨b,a+i,none⟩=some v:=λi v l=>by
  have g:i<d.length:=(Qw.1 l).1;rw[r i g,<-l,Qc g]
 exact⟨b,a,e,by have:=c _ _ f.1;rw[show a+j*3=a+j*3 from rfl]at this;exact this,by have:=c _ _ f.2.1;rw[<-Zh]at this;exact this,by have:=c _ _ f.2.2;rw[<-Zh]at this;exact this⟩
theorem zr6(g:Nat)(t:Array Value)(H:∀args w,(callFunc g args).run prog w=.ok (.enter g args) w)(A:Option Addr)(n c:Nat)(o:List Value)(x y z:Nat->Value)(p:Nat->Bool)(w:World)
 (h:Sl w w.heap.size 3 A n o) (s:n<=9223372036854775807) (v:∀j,j<n->o[j*3]? = some (x j)/\o[j*3+1]? = some (y j)/\o[j*3+2]? = some (z j))
 (r:∀W j,j<n->Below w.heap.size w W->Calls prog g (#[.agg #[x j,y j,z j]]++t) W (zal (p j) W)):
 Calls prog 163 #[.slice A n c,.func (.func g) #[] t] w λe w'=>e=.returned (.int .i64 (hitI p n))/\Below w.heap.size w w':=by
 have F:=hIx r;have G:=hIx v;clear r v
 go_in
 go_wp2
 go_loopw [5,8] (λ_ i wr=>∃j:Nat,j<=n/\i=.int .i64 j/\Below w.heap.size w wr/\Hid (∀i,i<j->p i=false)) (λ_ i _=>n-(intOf i).toNat)
 case atStart=>exact⟨0,Qm _,rfl,Qg _ _,λi u=>absurd u (by omega)⟩
 case round=>
  obtain⟨j,I,rfl,hb,a⟩:=hrel
  by_cases d:j<n
  ·obtain⟨b,D,rfl,B,C,E⟩:=srcV (h.below hb) d G.out
   have q:=F.out wr j d hb;cases l:p j with
   |true=>
    rw[l]at q;have f:=hIx (zkn p n j d l a);clear l;go_wp2_with (go_at_fn g;refine q.mono ?_;rintro e w' ⟨rfl,k⟩);go_ret;exact⟨zac f.out.symm,hb.trans (k.mono hb.size)⟩
   |false=>
    rw[l]at q
    have m:Hid (∀i,i<j+1->p i=false):=λi u=>by
     by_cases e:i=j
     ·rw[e];exact l
     ·exact a i (by omega)
    clear l a;go_wp2_with (go_at_fn g;refine q.mono ?_;rintro e w' ⟨rfl,k⟩)
    go_roundw
    case rel=>exact⟨j+1,by omega,by go_num,hb.trans (k.mono hb.size),m⟩
    case measure=>simp[intOf] <;> omega
  ·obtain rfl:j=n:=by omega
   have f:=hIx (zdT p j a);go_wp2;go_ret;exact⟨zac f.out.symm,hb⟩
theorem zru(g:Nat)(d:Array Value)(o:∀args w,(callFunc g args).run prog w=.ok (.enter g args) w)(A:Option Addr)(n c:Nat)(a:List Value)(f i k:Nat->Value)(p:Nat->Bool)(w:World)
 (h:Sl w w.heap.size 3 A n a) (b:n<=9223372036854775807) (m:∀j,j<n->a[j*3]? = some (f j)/\a[j*3+1]? = some (i j)/\a[j*3+2]? = some (k j))
 (l:∀W j,j<n->Below w.heap.size w W->Calls prog g (#[.agg #[f j,i j,k j]]++d) W (zal (p j) W)):
 Calls prog 119 #[.slice A n c,.func (.func g) #[] d] w (zal (anyN p n) w):=by
 have r:=hIx (zr6 g d o A n c a f i k p w h b m l);have q:=hIx (zgl p n);clear l m h
 go_in
 go_wp2_with fail;refine r.out.mono ?_;rintro e s ⟨rfl,hb⟩;go_wp2;go_ret;exact⟨zaI q.out,hb⟩
structure VarV where
 k:Int
 m:Int
 n:ByteArray
def zd0(v:VarV):List Value:=[.int .i64 v.k,.int .i64 v.m,.string v.n]
def exB(v:VarV)(x:Pair)(a:VarV):Bool:=(a.m==2)&&(a.k==v.k)&&(a.n.toList.isEmpty||(a.n.toList==x.1.toList))
def exP(l:List VarV)(v:VarV)(x:Pair):Bool:=l.any (exB v x)
def zdV(l:List VarV)(v:VarV)(a:List Pair):List Pair:=a.filter λx=>!exP l v x
def zf9(l:List VarV)(v:VarV)(a:List Pair):List Pair:=
 if v.m=2 then []else if v.m=1 then oneV (bs (Lib.itoa (zdV l v a).length))else zdV l v a
def allP(a:VarV->List Pair)(l s:List VarV):List Pair:=s.flatMap λv=>zf9 l v (a v)
theorem zqi(l:List VarV)(v:VarV)(a:List Pair)(k:Nat)(h:k<a.length):zdV l v (a.take (k+1))=zdV l v (a.take k)++if exP l v a[k]=true then []else [a[k]]:=by
 unfold zdV;rw[Qq h,ZM]
 by_cases c:exP l v a[k]=true <;> simp[c]
theorem zwK(l:List VarV)(v:VarV)(a:List Pair)(k:Nat):(zdV l v (a.take k)).length<=k:=Qn (Zl _ _) (ZU _ _)
theorem zrO(a:VarV->List Pair)(l s:List VarV)(k:Nat)(h:k<s.length):allP a l (s.take (k+1))=allP a l (s.take k)++zf9 l s[k] (a s[k]):=by
 unfold allP;rw[Qq h,Q4];simp
theorem zyC(a:VarV->List Pair)(l s:List VarV)(k:Nat):(allP a l (s.take k)).length<=(allP a l s).length:=by
 have:allP a l s=allP a l (s.take k)++allP a l (s.drop k):=by
  unfold allP;rw[<-Q4,Zm]
 rw[this,Qa];omega
theorem zqx(l:List VarV):(l.flatMap zd0).length=l.length*3:=by
 induction l with
 |nil=>rfl
 |cons a r ih=>rw[QM,Qa,ih,Qo];show 3+_=_;omega
theorem zit:∀(l:List VarV) (k:Nat) (h:k<l.length),(l.flatMap zd0)[k*3]? = some (.int .i64 l[k].k)/\(l.flatMap zd0)[k*3+1]? = some (.int .i64 l[k].m)/\(l.flatMap zd0)[k*3+2]? = some (.string l[k].n)
 | [],_,h=>absurd h (by simp)
 |a::r,0,_=>⟨rfl,rfl,rfl⟩
 |a::r,k+1,h=>by
  have:=zit r k (by simpa using h);rw[QM];have b:(zd0 a).length=3:=rfl;refine⟨?_,?_,?_⟩
  ·rw[QZ (by rw[b];omega),b,show (k+1)*3-3=k*3 by omega];exact this.1
  ·rw[QZ (by rw[b];omega),b,show (k+1)*3+1-3=k*3+1 by omega];exact this.2.1
  ·rw[QZ (by rw[b];omega),b,show (k+1)*3+2-3=k*3+2 by omega];exact this.2.2
theorem zzj{w:World}{B n:Nat}{A:Option Addr}{l:List VarV}(h:Sl w B 3 A n (l.flatMap zd0))(k:Nat)(d:k<l.length):
 ∃b a,A=some ⟨b,a,none⟩/\b<B/\w.cell? ⟨b,a+k*3,none⟩=some (.int .i64 l[k].k)/\w.cell? ⟨b,a+k*3+1,none⟩=some (.int .i64 l[k].m)/\w.cell? ⟨b,a+k*3+2,none⟩=some (.string l[k].n):=by
 have hl:=zqx l;obtain⟨b,a,e,hb,c⟩:=h.src (by omega);obtain⟨f,h1,h2⟩:=zit l k d;refine⟨b,a,e,hb,?_,?_,?_⟩
 ·rw[c (k*3) (by omega),<-f,Qc]
 ·rw[Zh,c (k*3+1) (by omega),<-h1,Qc]
 ·rw[Zh,c (k*3+2) (by omega),<-h2,Qc]
theorem zuk(a v:VarV)(x:Pair)(f e:Nat)(w:World)(l:w.cell? ⟨f,0,none⟩=some (.int .i64 v.k))(r:w.cell? ⟨e,0,none⟩=some (.string x.1)):
 Calls prog 120 #[.agg #[.int .i64 a.k,.int .i64 a.m,.string a.n],.pointer (some ⟨f,0,none⟩),.pointer (some ⟨e,0,none⟩)] w (zal (exB v x a) w):=by
 have y:f<w.heap.size:=QT w _ l;have o:e<w.heap.size:=QT w _ r;have hb:Below w.heap.size w (w.alloc (.cells #[.int .i64 a.k,.int .i64 a.m,.string a.n] 55)):=WaL;have b:Hid (exB v x a=((a.m==2)&&(a.k==v.k)&&(a.n.toList.isEmpty||(a.n.toList==x.1.toList)))):=rfl;obtain⟨j,p,i⟩:=a;obtain⟨q,t,n2⟩:=v;obtain⟨s,u⟩:=x;dsimp only at *;cases c:(p==2)with
 |false=>
  rw[c]at b
  go_in
  go_wp2;go_ret;exact⟨by rw[b.out];rfl,hb⟩
 |true=>
  cases d:(j==q)with
  |false=>
   rw[c,d]at b
   go_in
   go_wp2;go_ret;exact⟨by rw[b.out];rfl,hb⟩
  |true=>
   cases g:i.toList.isEmpty with
   |true=>
    rw[c,d,g]at b
    go_in
    go_wp2;go_ret;exact⟨by rw[b.out];rfl,hb⟩
   |false=>
    cases h:(i.toList==s.toList)with
    |true=>
     rw[c,d,g,h]at b
     go_in
     go_wp2;go_ret;exact⟨by rw[b.out];rfl,hb⟩
    |false=>
     rw[c,d,g,h]at b
     go_in
     go_wp2;go_ret;exact⟨by rw[b.out];rfl,hb⟩
def dVar:VarV:=⟨0,0,ByteArray.mk #[]⟩
theorem zyk(l:List VarV)(v:VarV)(x:Pair)(A:Option Addr)(c b a:Nat)(w:World)(h:Sl w w.heap.size 3 A l.length (l.flatMap zd0))(hl:l.length<=9223372036854775807)(g:w.cell? ⟨b,0,none⟩=some (.int .i64 v.k))(f:w.cell? ⟨a,0,none⟩=some (.string x.1)):
 Calls prog 119 #[.slice A l.length c,.func (.func 120) #[] #[.pointer (some ⟨b,0,none⟩),.pointer (some ⟨a,0,none⟩)]] w (zal (exP l v x) w):=by
 have e:=zcp (exB v x) l dVar;unfold exP;rw[<-e];refine zru 120 #[.pointer (some ⟨b,0,none⟩),.pointer (some ⟨a,0,none⟩)] (λ_ _=>rfl) A l.length c (l.flatMap zd0) (λj=>.int .i64 (l.getD j dVar).k) (λj=>.int .i64 (l.getD j dVar).m) (λj=>.string (l.getD j dVar).n) (λj=>exB v x (l.getD j dVar)) w h hl (λj d=>?_) λW j d hb=>?_
 ·have:=zit l j d
  rw[Qk,Qc d];exact this
 ·exact zuk _ v x b a W (zaa hb g) (zaa hb f)
def vfP(m t b:ByteArray)(f:List zao)(d:Nat)(e:Int)(c a:List Pair)(v:VarV):List Pair:=valP v.k v.n m t b f d e c a
theorem zjb(a:List zao):(zbf a).length=a.length:=by unfold zbf;rw[Qh]
theorem zoo(l:List Pair)(a:ByteArray):(ze9 l a).length<=l.length:=Zl _ _
theorem zsP{m t b:ByteArray}{h:List zao}{s:Nat}{w:Int}{c a:List Pair}(g:zn6 t h c a s w)(v:VarV):(vfP m t b h s w c a v).length<=4194304:=by
 have h1:=zoo c v.n;have h2:=zoo a v.n;have z:=zoo (zbf h) v.n;rw[zjb]at z;have A:=g.zf;have B:=g.zl;have C:=g.zk;have one:∀x,(oneV x).length<=4194304:=λx=>by show 1<=4194304;omega
 unfold vfP valP
 by_cases i:v.k=1
 ·rw[Qi i];exact one _
 rw[Qe i]
 by_cases u:v.k=2
 ·rw[Qi u];exact one _
 rw[Qe u]
 by_cases p:v.k=3
 ·rw[Qi p];exact one _
 rw[Qe p]
 by_cases y:v.k=4
 ·rw[Qi y];exact one _
 rw[Qe y]
 by_cases q:v.k=5
 ·rw[Qi q];exact one _
 rw[Qe q]
 by_cases r:v.k=6
 ·rw[Qi r];omega
 rw[Qe r]
 by_cases l:v.k=7
 ·rw[Qi l];unfold zgr;rw[Qh];omega
 rw[Qe l]
 by_cases j:v.k=8
 ·rw[Qi j];omega
 rw[Qe j]
 by_cases o:v.k=9
 ·rw[Qi o];unfold zgr;rw[Qh,zjb];omega
 rw[Qe o]
 by_cases d:v.k=10
 ·rw[Qi d];omega
 rw[Qe d]
 by_cases e:v.k=11
 ·rw[Qi e];exact one _
 rw[Qe e]
 by_cases f:v.k=12
 ·rw[Qi f];exact one _
 rw[Qe f];exact Qm _
def zzL(a:VarV->List Pair)(l:List VarV)(B:Nat)(b:World)(v i:Value)(wr:World):Prop:=
 ∃k:Nat,k<=l.length/\i=.int .i64 k/\OwnA wr B v (allP a l (l.take k))/\Below B b wr
def zzr(l:List VarV)(x:VarV)(a:List Pair)(b:World)(v i:Value)(wr:World):Prop:=
 ∃j:Nat,j<=a.length/\i=.int .i64 j/\OwnA wr b.heap.size v (zdV l x (a.take j))/\Below b.heap.size b wr
theorem zx6(l:List VarV)(A0:Option Addr)(c0:Nat)(m t b:ByteArray)(G:List zao)(A:Option Addr)(c:Nat)(cl:Nat)(sc:Int)(f:List Pair)(Al:Option Addr)(c1:Nat)(d:List Pair)(Ac:Option Addr)(c2:Nat)(w:World)
 (hv:Sl w w.heap.size 3 A0 l.length (l.flatMap zd0)) (hG:ValIn m t b G A f Al d Ac w) (hz:zn6 t G f d cl sc) (hl:l.length<=4194304) (s:(allP (vfP m t b G cl sc f d) l l).length<=4398046511104):
 Calls prog 84 #[.slice A0 l.length c0,.agg #[.string m,.string t,.slice A G.length c,.string b],.int .u32 (cl:Int),.int .i64 sc,.slice Al f.length c1,.slice Ac d.length c2] w (RowA (allP (vfP m t b G cl sc f d) l l) w):=by
 have hs:∀W,Below (w.heap.size+1) (w.alloc (.cells #[.string m,.string t,.slice A G.length c,.string b] 29)) W->(W.cell? ⟨w.heap.size,0,none⟩=some (.string m)/\W.cell? ⟨w.heap.size,1,none⟩=some (.string t)/\W.cell? ⟨w.heap.size,2,none⟩=some (.slice A G.length c)/\W.cell? ⟨w.heap.size,3,none⟩=some (.string b))/\Below w.heap.size w W/\ValIn m t b G A f Al d Ac W/\Sl W W.heap.size 3 A0 l.length (l.flatMap zd0):=λW hb=>by
  obtain⟨h1,h2⟩:=zbH hb;exact⟨⟨h1 0,h1 1,h1 2,h1 3⟩,h2,hG.below h2,(hv.below h2).more h2.size⟩
 have N:=hIx hs;obtain⟨W0,h5⟩:∃W0,w.alloc (.cells #[.string m,.string t,.slice A G.length c,.string b] 29)=W0:=⟨_,rfl⟩
 have T:w.heap.size+1<=W0.heap.size:=by rw[<-h5];simp
 rw[h5]at N;have g4:=hIx h5
 have hH:Hid (∀(v:VarV) (W:World),Below (w.heap.size+1) W0 W->Calls prog 118 #[.agg #[.int .i64 v.k,.int .i64 v.m,.string v.n],.agg #[.string m,.string t,.slice A G.length c,.string b],.int .u32 (cl:Int),.int .i64 sc,.slice Al f.length c1,.slice Ac d.length c2] W (RowA (vfP m t b G cl sc f d v) W)):=λv W h=>
  zqe v.k v.m v.n m t b G A c cl sc f Al c1 d Ac c2 W (N.out W h).2.2.1 hz
 have g6:Hid (∀v,(vfP m t b G cl sc f d v).length<=4194304):=λv=>zsP hz v
 generalize vfP m t b G cl sc f d=B at *;have hE:=hIx s;have hQ:=λk h=>hIx (zrO B l l k h)
 have g5:=λk=>hIx (zyC B l l k)
 have g3:=hIx hl;have hr:Hid (∀(n:Nat) (W:World),n<=4194304->Below (w.heap.size+1) W0 W->Calls prog 58 #[.int .i64 (n:Int)] W λe w'=>e=.returned (.string (bs (Lib.itoa (n:Int))))/\Below W.heap.size W w'):=λn W hn h=>zpi (n:Int) W (by omega) (by omega) (N.out W h).2.2.1.tab
 clear hs h5 hG hz hv s hl
 go_in
 go_upto_region 1 with fail
 rw[g4.out];go_wp2
 go_loopw [13,21] (λv i wr=>zzL B l (w.heap.size+1) W0 v i wr) (λ_ i _=>l.length-(intOf i).toNat)
 case atStart=>exact⟨0,Qm _,rfl,OwnA.nil _ _,Qg _ _⟩
 case round=>
  obtain⟨k,hk,rfl,hO,hb⟩:=hrel;have hD:w.heap.size+1<=wr.heap.size:=Qn T hb.size;have ⟨⟨b0,b1,b2,b3⟩,h4,hI,y⟩:=N.out wr hb;have gb:w.heap.size<wr.heap.size:=hD;obtain⟨Ao,co,rfl,_⟩:=hO.form;have HO:=hIx hO;have HB:=hIx hb;have ge:=g3.out
  by_cases ho:k<l.length
  ·have d1:decide ((k:Int)<(l.length:Int))=true:=by simp;omega
   have i7:IntKind.i64.wrap ((k:Int)+1)=(k:Int)+1:=Qx _ (by omega);obtain⟨bb,gc,rfl,ga,x0,x1,x2⟩:=zzj y k ho;have h6:=hQ k ho;have H:=(g5 (k+1)).out;rw[h6.out,Qa]at H;have s:=hE.out;have hU:Hid ((allP B l (l.take k)).length+(zf9 l l[k] (B l[k])).length<=4398046511104):=Qn H s;generalize l[k]=X at *;have hK:=hIx (hH.out X);have hY:=hIx (g6.out X);generalize B X=a at *;obtain⟨p,o,q⟩:=X;dsimp only at *;have r:Below (w.heap.size+1) wr (wr.alloc (.cells #[.int .i64 p,.int .i64 o,.string q] 55)):=(Qg _ _).alloc hD _;have h0:=hb.trans r;have U:=hO.below ((Qg wr.heap.size wr).alloc (Qd _) (.cells #[.int .i64 p,.int .i64 o,.string q] 55));cases q2:(o==2)with
   |true=>
    have Y:o=2:=by simpa using q2
    have HE:Hid (allP B l (l.take (k+1))=allP B l (l.take k)):=by unfold Hid;rw[h6.out];unfold zf9;rw[Qi Y,QI]
    have h9:=hIx U;have J:=hIx h0;clear Y hO hb h4 hI y b0 b1 b2 b3 H s r h0 U;go_wp2;exact⟨⟨k+1,by omega,rfl,by rw[HE.out];exact h9.out,J.out⟩,by dsimp only[intOf];omega⟩
   |false=>
    have Y:o≠2:=by simpa using q2
    have J:=hIx h0;have h9:=hIx U;have hg:wr.heap.size+1<=(wr.alloc (.cells #[.int .i64 p,.int .i64 o,.string q] 55)).heap.size:=by simp
    have D:=λW h=>zbH (w:=wr) (W':=W) (cs:=#[.int .i64 p,.int .i64 o,.string q]) (t:=55) h
    have g2:=hIx D;clear hO hb h4 hI H s r h0 U D;go_wp2_with fail;refine(hK.out _ J.out).mono ?_;rintro e w2 ⟨v2,rfl,hi,V⟩;obtain⟨A2,d2,rfl,hh⟩:=hi.form;have hw:Hid (Below (wr.heap.size+1) (wr.alloc (.cells #[.int .i64 p,.int .i64 o,.string q] 55)) w2):=V.mono hg;have h8:Hid (Below (w.heap.size+1) W0 w2):=J.out.trans (V.mono (Qn T J.out.size));have hR:Hid (OwnA w2 (w.heap.size+1) (.slice Ao (allP B l (l.take k)).length co) (allP B l (l.take k))):=h9.out.below V;have hP:Hid (∀W,Below w2.heap.size w2 W->Sl W W.heap.size 2 A2 a.length (a.flatMap za9)):=λW h=>(hh.below h).more h.size
    clear V hi hh x0 x1 x2 b0 b1 b2 b3 y;obtain⟨wo,rfl⟩:∃wo:World,wo=wr:=⟨_,rfl⟩
    go_wp2
    go_loopw [16,36] (λv i wr=>zzr l ⟨p,o,q⟩ a w2 v i wr) (λ_ i _=>a.length-(intOf i).toNat)
    case atStart=>exact⟨0,Qm _,rfl,OwnA.nil _ _,Qg _ _⟩
    case round=>
     obtain⟨j,hj,rfl,E,u⟩:=hrel;have g:=h8.out.trans (u.mono (Qn T h8.out.size));have ⟨_,_,_,y⟩:=N.out wr g;have ⟨D,_⟩:=g2.out wr (hw.out.trans (u.mono (Qn hg hw.out.size)));have v0:wr.cell? ⟨wo.heap.size,0,none⟩=some (.int .i64 p):=D 0;have v1:wr.cell? ⟨wo.heap.size,1,none⟩=some (.int .i64 o):=D 1;have Q:=hR.out.below u;have g1:w2.heap.size<=wr.heap.size:=u.size;have gf:=hY.out;have hW:=zwK l ⟨p,o,q⟩ a j;obtain⟨Ai,ci,rfl,_⟩:=E.form
     by_cases h7:j<a.length
     ·have dj:decide ((j:Int)<(a.length:Int))=true:=by simp;omega
      have i9:IntKind.i64.wrap ((j:Int)+1)=(j:Int)+1:=Qx _ (by omega);obtain⟨b',g9,rfl,_,y0,y1⟩:=zpU (hP.out wr u) j h7;have hA:=hIx (zqi l ⟨p,o,q⟩ a j h7);generalize a[j]=x at *;obtain⟨Z,n2⟩:=x;dsimp only at y0 y1;have r:Below wr.heap.size wr (wr.alloc (.cells #[.string Z,.string n2] 163)):=WaL;have hC:=zyk l ⟨p,o,q⟩ (Z,n2) _ c0 wo.heap.size wr.heap.size (wr.alloc (.cells #[.string Z,.string n2] 163)) ((y.below r).more r.size) (by omega) (zaa r v0) (zar (Qg _ _) 0);have hB:=E.below r;have hy:=u.trans (r.mono g1);have hZ:Hid (∀W,Below (wr.alloc (.cells #[.string Z,.string n2] 163)).heap.size (wr.alloc (.cells #[.string Z,.string n2] 163)) W->W.cell? ⟨wr.heap.size,0,none⟩=some (.string Z)/\W.cell? ⟨wr.heap.size,1,none⟩=some (.string n2)):=λW h=>⟨zar h 0,zar h 1⟩
      have HC:=hIx hC;have hF:=hIx hB;have h3:=hIx hy;clear r hC hB hy E u g y D v0 v1 Q;cases hq:exP l ⟨p,o,q⟩ (Z,n2)with
      |true=>
       have hc:Hid (zdV l ⟨p,o,q⟩ (a.take (j+1))=zdV l ⟨p,o,q⟩ (a.take j)):=by unfold Hid;rw[hA.out,Qi hq,QI]
       rw[hq]at HC;clear hq;go_wp2_with (go_at_call 119;(with_reducible refine HC.out.mono ?_);rintro e w4 ⟨rfl,z⟩);exact⟨⟨j+1,by omega,rfl,by rw[hc.out];exact hF.out.below z,h3.out.trans (z.mono h3.out.size)⟩,by dsimp only[intOf];omega⟩
      |false=>
       have hc:Hid (zdV l ⟨p,o,q⟩ (a.take (j+1))=zdV l ⟨p,o,q⟩ (a.take j)++[(Z,n2)]):=by unfold Hid;rw[hA.out,Qe (by rw[hq];decide)]
       rw[hq]at HC;clear hq;generalize zdV l ⟨p,o,q⟩ (a.take j)=C at *
       go_wp2_with (first
        |(go_at_call 119;(with_reducible refine HC.out.mono ?_);rintro e w4 ⟨rfl,z⟩;have hX:=hF.out.below z;have hu:=h3.out.trans (z.mono h3.out.size);have g7:w2.heap.size<=w4.heap.size:=hu.size;have ⟨a0,a1⟩:=hZ.out w4 z)
        |(at_builtin;refine za4 rfl (.tmp 44) (.tmp 46) rfl w2.heap.size (.slice Ai C.length ci) C rfl (by exact hX) (by exact g7) _ (Z,n2) rfl w4.heap.size rfl 1 rfl (by omega) ?_;intro v5 w5 P hf gd ht))
       exact⟨⟨j+1,by omega,rfl,by rw[hc.out];exact P,hu.trans hf⟩,by dsimp only[intOf];omega⟩
     ·obtain rfl:j=a.length:=by omega
      have dj:decide ((a.length:Int)<(a.length:Int))=false:=by simp
      rw[QV]at E hW ⊢;have hJ:=hIx Q;have hx:=hIx g;have ha:w.heap.size+1<=wr.heap.size:=Qn T g.size;have I:=hU.out;cases q1:(o==1)with
      |true=>
       have F:o=1:=by simpa using q1
       have HE:Hid (allP B l (l.take (k+1))=allP B l (l.take k)++oneV (bs (Lib.itoa ((zdV l ⟨p,o,q⟩ a).length:Int)))):=by unfold Hid;rw[h6.out];unfold zf9;rw[Qe Y,Qi F]
       have K:zf9 l ⟨p,o,q⟩ a=oneV (bs (Lib.itoa ((zdV l ⟨p,o,q⟩ a).length:Int))):=by unfold zf9;rw[Qe Y,Qi F]
       rw[K]at I;have I:(allP B l (l.take k)).length+1<=4398046511104:=I;clear Y F K;generalize zdV l ⟨p,o,q⟩ a=L at *;have hT:=hIx (hr.out L.length wr (by omega) g);generalize bs (Lib.itoa (L.length:Int))=S at *;generalize allP B l (l.take k)=C at *;clear E u g y D Q
       go_wp2_with (first
        |(go_at_call 58;(with_reducible refine hT.out.mono ?_);rintro e w4 ⟨rfl,z⟩)
        |(go_at_call 121;(with_reducible refine(zde S w4).mono ?_);rintro e w5 ⟨v5,rfl,P,hf⟩;have O:=z.trans (hf.mono z.size);have hp:=hJ.out.below O;have g0:=hx.out.trans (O.mono ha);have ht:w.heap.size+1<=w5.heap.size:=Qn ha O.size;obtain⟨A5,c5,rfl,_⟩:=P.form)
        |(at_builtin;refine zcA rfl (.tmp 56) (.tmp 57) rfl (w.heap.size+1) w4.heap.size (.slice Ao C.length co) (.slice A5 (oneV S).length c5) C (oneV S) rfl rfl (by exact hp) (by exact P) (by exact ht) (by exact I) ?_;intro v6 w6 he hd hV hN))
       exact⟨⟨k+1,by omega,rfl,by rw[HE.out];exact he,g0.trans hd⟩,by dsimp only[intOf];omega⟩
      |false=>
       have F:o≠1:=by simpa using q1
       have HE:Hid (allP B l (l.take (k+1))=allP B l (l.take k)++zdV l ⟨p,o,q⟩ a):=by unfold Hid;rw[h6.out];unfold zf9;rw[Qe Y,Qe F]
       have K:zf9 l ⟨p,o,q⟩ a=zdV l ⟨p,o,q⟩ a:=by unfold zf9;rw[Qe Y,Qe F]
       rw[K]at I;clear Y F K;generalize zdV l ⟨p,o,q⟩ a=L at *;generalize allP B l (l.take k)=C at *;have hS:=hIx E;clear E u g y D Q;go_wp2_with (at_builtin;refine zcA rfl (.tmp 56) (.tmp 57) rfl (w.heap.size+1) w2.heap.size (.slice Ao C.length co) (.slice Ai L.length ci) C L rfl rfl (by exact hJ.out) (by exact hS.out) (by exact ha) (by exact I) ?_;intro v6 w6 he hd hV hN);exact⟨⟨k+1,by omega,rfl,by rw[HE.out];exact he,hx.out.trans hd⟩,by dsimp only[intOf];omega⟩
  ·obtain rfl:k=l.length:=by omega
   have d1:decide ((l.length:Int)<(l.length:Int))=false:=by simp
   rw[QV]at hO;have g8:=hIx h4;have hL:=hIx (hO.low (Zg w.heap.size));clear hO hb h4 hI y b0 b1 b2 b3;go_wp2_with fail;rw[QV];go_ret;exact⟨_,rfl,hL.out,g8.out⟩
def okK(k:Int):Bool:=!(decide (k<1)||decide (11<k))
theorem zta(k:Int):okK k=true↔1<=k/\k<=11:=by unfold okK;simp
def zbt(l:List Int):Int:=if 8<l.length then 2 else if l.all okK=true then 0 else 1
theorem zsz{l:List Int}:zbt l=0↔l.length<=8/\∀x∈l,1<=x/\x<=11:=by
 unfold zbt
 by_cases h:8<l.length
 ·rw[Qi h]
  exact⟨λe=>absurd e (by decide),λe=>by omega⟩
 ·rw[Qe h]
  by_cases h2:l.all okK=true
  ·rw[Qi h2]
   exact⟨λ_=>⟨by omega,λx a=>(zta x).1 (Zn.1 h2 x a)⟩,λ_=>rfl⟩
  ·rw[Qe h2]
   exact⟨λe=>absurd e (by decide),λe=>absurd (Zn.2 λx a=>(zta x).2 (e.2 x a)) h2⟩
theorem zqR(k:Int)(w:World):Calls prog 102 #[.int .i64 k] w (zal (!okK k) w):=by
 have a:Hid ((!okK k)=(decide (k<1)||decide (11<k))):=by unfold Hid okK;rw[Bool.not_not]
 by_cases c1:k<1
 ·have c:decide (k<1)=true:=Qu c1
  rw[c]at a
  go_in
  go_wp2;go_ret;exact⟨by rw[a.out];rfl,Qg _ _⟩
 ·have c:decide (k<1)=false:=Qs c1
  rw[c]at a
  by_cases c2:11<k
  ·have b:decide (11<k)=true:=Qu c2
   rw[b]at a
   go_in
   go_wp2;go_ret;exact⟨by rw[a.out];rfl,Qg _ _⟩
  ·have b:decide (11<k)=false:=Qs c2
   rw[b]at a
   go_in
   go_wp2;go_ret;exact⟨by rw[a.out];rfl,Qg _ _⟩
theorem zi9(l:List Int)(A:Option Addr)(c:Nat)(w:World)(h:Sl w w.heap.size 1 A l.length (l.map (Value.int .i64)))(hl:l.length<=4194304):
 Calls prog 73 #[.slice A l.length c] w λe w'=>e=.returned (.int .i64 (zbt l))/\Below w.heap.size w w':=by
 have d:=hIx ((zkl 102 #[] (enters_of func102 (by kernel_rfl) rfl) A l.length c (l.map (Value.int .i64)) (λj=>.int .i64 (l.getD j 0)) (λj=>!okK (l.getD j 0)) w h (by omega)
  (λj p=>by rw[ZW,Qk,Qc p];rfl) (λW j _ _=>zqR _ W)))
 rw[zcp (λk=>!okK k) l 0]at d
 by_cases i:8<l.length
 ·have b:Hid (zbt l=2):=by unfold Hid zbt;rw[Qi i]
  have o:decide (8<(l.length:Int))=true:=by simp;omega
  rw[b.out]
  go_in
  go_wp2;go_ret;exact⟨rfl,Qg _ _⟩
 ·have o:decide (8<(l.length:Int))=false:=by simp;omega
  have b:Hid (zbt l=if l.any (λk=>!okK k)=true then 1 else 0):=by
   unfold Hid zbt;rw[Qe i];cases g:l.any (λk=>!okK k)with
   |true=>
    rw[Qe,Qi rfl];intro e;obtain⟨x,f,a⟩:=Xq.1 g;rw[Zn.1 e x f]at a;cases a
   |false=>
    rw[Qi,Qe (by decide)];rw[Zn];intro x f;have:=List.any_eq_false.1 g x f
    simpa using this
  rw[b.out];clear b;generalize l.any (λk=>!okK k)=n at *;cases n with
  |true=>
   rw[Qi rfl]
   go_in
   go_wp2_with fail;refine d.out.mono ?_;rintro e m ⟨rfl,hb⟩;go_wp2;go_ret;exact⟨rfl,hb⟩
  |false=>
   rw[Qe (by decide)]
   go_in
   go_wp2_with fail;refine d.out.mono ?_;rintro e m ⟨rfl,hb⟩;go_wp2;go_ret;exact⟨rfl,hb⟩
def zkx(o:Option Int)(e:Nat):UInt8 × Nat:=match o with
 |some n=>if 255<n then (0,0)else (UInt8.ofNat n.toNat,e+1)
 |none=>(0,0)
def zgO(l:List UInt8)(e:Nat):UInt8 × Nat:=
 if Lib.hasPrefix ((l.take e).drop 2) [120]=true then (if ((l.take e).drop 2).length<=3 then zkx (numL 16 7 (((l.take e).drop 2).drop 1)) e else (0,0))
 else if ((l.take e).drop 2).length<=3 then zkx (numL 10 9 ((l.take e).drop 2)) e else (0,0)
def entL(l:List UInt8):UInt8 × Nat:=
 if Lib.hasPrefix l [38,108,116,59]=true then (60,4)else if Lib.hasPrefix l [38,103,116,59]=true then (62,4)else if Lib.hasPrefix l [38,97,109,112,59]=true then (38,5)
 else if Lib.hasPrefix l [38,113,117,111,116,59]=true then (34,6)else if Lib.indexByte (l.take 7) 59<0\/Lib.hasPrefix l [38,35]=false then (0,0)else zgO l (Lib.indexByte (l.take 7) 59).toNat
def zcm(b:UInt8)(r:List UInt8):List UInt8 × Nat:=
 if b=38/\0<(entL (38::r)).2 then ([(entL (38::r)).1],(entL (38::r)).2-1)else ([b],0)
def zck(l:List UInt8):List UInt8:=scan zcm l
theorem zgQ(base:Int)(hb:2<=base/\base<=16):∀(l:List UInt8) (n r:Int),0<=n->zby base l n=some r->0<=r
 | [],n,r,a,h=>by cases h;exact a
 |b::l,n,r,a,h=>by
  unfold zby at h
  split at h
  ·cases h
  ·rename_i d
   have c:0<=n*base:=Int.mul_nonneg a (by omega);exact zgQ base hb l _ r (by omega) h
theorem ziy(base:Int)(most:Nat)(hb:2<=base/\base<=16)(l:List UInt8)(r:Int)(h:numL base most l=some r):0<=r:=by
 unfold numL at h
 split at h
 ·cases h
 ·exact zgQ base hb l 0 r (Zw 0) h
theorem zb7{l p:List UInt8}(h:Lib.hasPrefix l p=true):p.length<=l.length:=by
 unfold Lib.hasPrefix at h;obtain⟨t,rfl⟩:=Ze.1 h;simp
theorem zgb{l:List UInt8}{c:UInt8}{n:Nat}(h:0<=Lib.indexByte (l.take n) c):(Lib.indexByte (l.take n) c).toNat<n/\(Lib.indexByte (l.take n) c).toNat<l.length/\l[(Lib.indexByte (l.take n) c).toNat]? = some c:=by
 obtain⟨k,a⟩:=Zv h;obtain⟨h1,_⟩:=Lib.indexByte_some a;rw[a,Q9];have h2:=(Qw.1 h1).1;rw[Qz]at h2;rw[List.getElem?_take,Qi (by omega)]at h1;exact⟨by omega,by omega,h1⟩
theorem zyi{l:List UInt8}(h:0<=Lib.indexByte (l.take 7) 59)(b:Lib.hasPrefix l [38,35]=true):2<=(Lib.indexByte (l.take 7) 59).toNat:=by
 obtain⟨_,_,a⟩:=zgb h;unfold Lib.hasPrefix at b;obtain⟨t,rfl⟩:=Ze.1 b;generalize (Lib.indexByte (([38,35]++t).take 7) 59).toNat=e at *
 match e,a with
 |0,a=>simp at a
 |1,a=>simp at a
 |e+2,_=>omega
theorem zyO(l:List UInt8):(entL l).2<=l.length:=by
 unfold entL
 split
 ·rename_i h;exact zb7 h
 split
 ·rename_i h;exact zb7 h
 split
 ·rename_i h;exact zb7 h
 split
 ·rename_i h;exact zb7 h
 split
 ·exact Qm _
 ·rename_i h
  have b:0<=Lib.indexByte (l.take 7) 59:=by
   have:=not_or.1 h;omega
  obtain⟨_,h2,_⟩:=zgb b
  have c:∀o e,e+1<=l.length->(zkx o e).2<=l.length:=λo e a=>by
   unfold zkx
   split
   ·split
    ·exact Qm _
    ·exact a
   ·exact Qm _
  unfold zgO
  (repeat' split) <;> first|exact c _ _ (by omega)|exact Qm _
