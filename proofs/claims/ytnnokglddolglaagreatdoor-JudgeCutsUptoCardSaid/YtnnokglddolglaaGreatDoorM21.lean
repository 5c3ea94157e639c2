/- Lemmas for the last texts. -/
import Derived.Test.YtnnokglddolglaaGreatDoorM20
import Derived.Defers
import Derived.Laws.Pointers
import Derived.Laws.LoneSync
import Derived.RegionCalls
import Derived.ChangeAlike
set_option maxHeartbeats 1600000
set_option maxRecDepth 100000
namespace Go.Proofs.YtnnokglddolglaaGreatDoor
open Go.RowKit Go.Proofs.Tryz
theorem zsB{l:jE}{a:Nat}{b:Int}(h:netP l=.ok (a,b)):a<4294967296:=by
 unfold netP at h
 split at h
 ·cases h
 ·split at h
  ·cases h
  ·split at h
   ·cases h
   ·rename_i d c
    split at h
    ·cases h
    ·injection h with h
     injection h with h1 h2
     subst h1;exact zpv _ _ _ (by decide) c
theorem zkN:∀(c:List jE) (x:zd1),x∈zbQ c->∃a:Nat,x.1=(a:Int)/\a<4294967296
 | [],x,h=>by rw[zbQ]at h;cases h
 |p::r,x,h=>by
  rw[zbQ]at h
  split at h
  ·rename_i q d
   rcases QI.1 h with rfl|h
   ·obtain⟨a,b⟩:=q
    exact⟨a,rfl,zsB d⟩
   ·exact zkN r x h
  ·exact zkN r x h
theorem zkf:∀(l:List zd1) (k:Nat) (h:k<l.length),(l.flatMap zb9)[k*2]? = some (.int .u32 l[k].1)/\(l.flatMap zb9)[k*2+1]? = some (jA l[k].2)
 | [],k,h=>absurd h (by simp)
 |x::r,0,_=>by
  rw[QH];exact⟨rfl,rfl⟩
 |x::r,k+1,h=>by
  have:=zkf r k (by simpa using h);rw[QH];have a:(k+1)*2=2+k*2:=by omega
  have b:(k+1)*2+1=2+(k*2+1):=by omega
  rw[a,Q0 (by simp[zb9]),Q0 (by simp[zb9];omega)];simp only[zb9,Qn,QS,List.getElem_cons_succ];refine⟨?_,?_⟩
  ·rw[<-this.1];congr 1;omega
  ·rw[<-this.2];congr 1;omega
def inX(a:Nat)(x:zd1):Bool:=zmz x.1.toNat x.2 a
def tstA(c v:ByteArray):Bool:=match netP v.data.toList with
 |.ok (a,b)=>b==32&&(zbQ (splL 44 c.data.toList)).any (inX a)
 |.error _=>false
theorem zta(n:zd1)(l:∃k:Nat,n.1=(k:Int)/\k<4294967296)(a:Nat)(h:a<4294967296)(g:Nat)(w:World)(i:w.cell? g=some (.int .u32 (a:Int))):
 Calls prog 252 #[.agg #[.int .u32 n.1,jA n.2],.pointer g] w (zav (inX a n) w):=by
 have p:g<w.heap.size:=QQ w _ i;obtain⟨q,n2⟩:=n;obtain⟨k,rfl,d⟩:=l;have j:=λo=>hIx (zyc k a n2 (w.alloc o) d h)
 have f:Hid (inX a ((k:Int),n2)=zmz k n2 a):=rfl;unfold zav;rw[f.out];dsimp only;generalize zmz k n2 a=b at *;clear f d h
 go_in
 go_wp2_with fail;refine(j _).out.mono ?_;rintro e m ⟨rfl,c⟩;have hb:=zaI c (Qc _);go_wp2;go_ret;exact⟨rfl,hb⟩
def dNet:zd1:=(0,0)
theorem zpZ(l:List zd1)(hl:∀x∈l,∃k:Nat,x.1=(k:Int)/\k<4294967296)(a:Nat)(i:a<4294967296)(A:Option Addr)(c g:Nat)(w:World)(h:Sl w w.heap.size 2 A l.length (l.flatMap zb9))(f:l.length<=9223372036854775807)(d:w.cell? g=some (.int .u32 (a:Int))):
 Calls prog 251 #[.slice A l.length c,.func (.func 252) #[] #[.pointer g]] w (zav (l.any (inX a)) w):=by
 have e:=zdY (inX a) l dNet;rw[<-e];refine zpU 252 #[.pointer g] (λ_ _=>rfl) A l.length c (l.flatMap zb9) (λj=>.int .u32 (l.getD j dNet).1) (λj=>jA (l.getD j dNet).2) (λj=>inX a (l.getD j dNet)) w h f (λj b=>?_) λW j b hb=>?_
 ·have:=zkf l j b
  rw[Qo,Qd b];exact this
 ·refine zta _ (hl _ ?_) a i g W (zaa hb d)
  rw[Qo,Qd b];exact Qz b
theorem zuz(i v:ByteArray)(K:v.size<=8192)(A:Option Addr)(c g:Nat)(w:World)(j:LibOk w)(I:(zbQ (splL 44 i.data.toList)).length<=1000)(h:Sl w w.heap.size 2 A (zbQ (splL 44 i.data.toList)).length ((zbQ (splL 44 i.data.toList)).flatMap zb9))(C:w.cell? g=some (.slice A (zbQ (splL 44 i.data.toList)).length c)):
 Calls prog 250 #[.string v,.pointer g] w λe w'=>e=jC (.bool (tstA i v))/\w w':=by
 have n:=zkN (splL 44 i.data.toList)
 have o:Hid (tstA i v=match netP v.data.toList with
  |.ok (a,b)=>b==32&&(zbQ (splL 44 i.data.toList)).any (inX a)
  |.error _=>false):=rfl
 have m:=zjs v w j (by omega);unfold zes at m;have B:g<w.heap.size:=QQ w _ C;generalize zbQ (splL 44 i.data.toList)=l at *;cases d:netP v.data.toList with
 |error x=>
  rw[d]at m o;unfold netV at m;dsimp only at m o
  have J:(x==0)=false:=by
   unfold netP at d
   split at d
   ·injection d with d;rw[<-d];rfl
   ·split at d
    ·injection d with d;rw[<-d];rfl
    ·split at d
     ·injection d with d;rw[<-d];rfl
     ·split at d
      ·injection d with d;rw[<-d];rfl
      ·cases d
  have t:=hIx m;clear m n h j d
  go_in
  go_wp2_with fail;refine t.out.mono ?_;rintro e s ⟨rfl,f⟩;have hb:=f.alloc f.size (.cells #[.int .u32 0,jA 0] 248);go_wp2;go_ret;exact⟨by rw[o.out];rfl,hb⟩
 |ok ab=>
  obtain⟨a,b⟩:=ab;have H:=zsB d;rw[d]at m o;unfold netV at m;dsimp only at m o;have t:=hIx m;clear m j d;cases p:(b==32)with
  |false=>
   rw[p]at o;clear n h
   go_in
   go_wp2_with fail;refine t.out.mono ?_;rintro e s ⟨rfl,f⟩;have hb:=f.alloc f.size (.cells #[.int .u32 (a:Int),jA b] 248);go_wp2;go_ret;exact⟨by rw[o.out];rfl,hb⟩
  |true=>
   rw[p,Bool.true_and]at o;have D:Hid (∀W k,w W->W.cell? ⟨k,0,none⟩=some (.int .u32 (a:Int))->Calls prog 251 #[.slice A l.length c,.func (.func 252) #[] #[.pointer (some ⟨k,0,none⟩)]] W (zav (l.any (inX a)) W)):=λW k hb F=>zpZ l n a H A c k W ((h.below hb).more hb.size) (by omega) F
   generalize l.any (inX a)=r at *;clear n h
   go_in
   go_wp2_with fail;refine t.out.mono ?_;rintro e s ⟨rfl,f⟩;have G:=zaa f C;have E:g<s.heap.size:=Qv B f.size;have hb:=f.alloc f.size (.cells #[.int .u32 (a:Int),jA b] 248);have q:=Qt s (.cells #[.int .u32 (a:Int),jA b] 248);have c0:=Qf _ s.heap.size 0 _ _ _ q;have z:=hIx (D.out _ s.heap.size hb c0);clear q c0 D;go_wp2_with (go_at_call 251;apply Hid.out);refine WhM z ?_;rintro e w2 ⟨rfl,y⟩;have u:=hb.trans (y.mono hb.size);go_wp2;go_ret;exact⟨by rw[o.out];rfl,u⟩
def outG(S:Set4)(v:ByteArray)(j:Nat):Bool:=!hasB S (v.data.toList.getD j 0)
def tstG(a v:ByteArray):Bool:=anyN (outG (zcp a.data.toList).1 v) v.size
theorem zvT(S:Set4)(H:S.Wf)(v:ByteArray)(X:v.size<=8192)(g:Nat)(w:World)(A:FourW w g S):
 Calls prog 254 #[.string v,.pointer g] w λe w'=>e=jC (.bool (anyN (outG S v) v.size))/\w w':=by
 have f:=λx W=>zrH S x W H
 have F:Hid (∀W,w W->W.cell? g=some (jB S.a)/\W.cell? ⟨g,1,none⟩=some (jB S.b)/\W.cell? ⟨g,2,none⟩=some (jB S.c)/\W.cell? ⟨g,3,none⟩=some (jB S.d)):=λW hb=>by
  have h:FourW W g S:=(hb.block g (zaz A)).trans A;exact⟨Qf _ _ 0 _ _ _ h,Qf _ _ 1 _ _ _ h,Qf _ _ 2 _ _ _ h,Qf _ _ 3 _ _ _ h⟩
 have r:Hid (∀(j:Nat) (B:j<v.size),v.data.toList.getD j 0=v[j]):=λj B=>by
  rw[Qo,Qd (by simpa using B)];rfl
 have s:Hid (∀j,outG S v j=!hasB S (v.data.toList.getD j 0)):=λj=>rfl
 generalize outG S v=p at *;obtain⟨G,J,I,C⟩:=S;unfold setV at f;dsimp only at f F;have y:=hIx f;clear f H A
 go_in
 go_wp2
 go_loopw [4,7] (λ_ i wr=>∃j:Nat,j<=v.size/\i=jA j/\w wr/\Hid (∀i,i<j->p i=false)) (λ_ i _=>v.size-(intOf i).toNat)
 case atStart=>exact⟨0,Qm _,rfl,Qj _ _,λi E=>absurd E (by omega)⟩
 case round=>
  obtain⟨j,B,rfl,hb,n⟩:=hrel
  by_cases q:j<v.size
  ·have Q:(j:Int)<(v.size:Int):=by omega
   have t:=r.out j q;have o:=s.out j;rw[t]at o;generalize U:v[j]=x at *;have ⟨O,Y,T,P⟩:=F.out wr hb;have D:=hIx n;have k:=hIx o;have L:=hIx hb;clear o n t;go_upto_region 4 with fail
   go_region_held3 (λw'=>w'.cell? g=some (jB G)/\w'.cell? ⟨g,1,none⟩=some (jB J)/\w'.cell? ⟨g,2,none⟩=some (jB I)/\w'.cell? ⟨g,3,none⟩=some (jB C))
    (first|go_keep|(refine⟨zaa l ?_,zaa l ?_,zaa l ?_,zaa l ?_⟩ <;> assumption))
    (first|(go_at_call 255;refine(y.out _ _).mono ?_;rintro e V ⟨rfl,l⟩))
   have m:=hb.trans ((undrew l).mono hb.size);cases z:hasB ⟨G,J,I,C⟩ x with
   |false=>
    rw[z]at k;have N:Hid (anyN p v.size=true):=(zkS _ _).2 ⟨j,q,k.out⟩;clear z k;go_wp2;go_ret;exact⟨by rw[N.out];rfl,m⟩
   |true=>
    rw[z]at k
    have u:Hid (∀i,i<j+1->p i=false):=λi E=>by
     by_cases e:i=j
     ·rw[e];exact k.out
     ·exact D.out.out i (by omega)
    clear z k D;go_wp2_with fail
    go_roundw
    case rel=>exact⟨j+1,by omega,by go_num,m,u⟩
    case measure=>simp[intOf] <;> omega
  ·obtain rfl:j=v.size:=by omega
   have K:Hid (anyN p v.size=false):=(zek _ _).2 n;go_wp2;go_ret;exact⟨by rw[K.out];rfl,hb⟩
theorem zwu(v:ByteArray)(w:World):Calls prog 206 #[.string v] w λe w'=>e=jC (.bool true)/\w w':=by
 go_in
 go_wp2;go_ret;exact⟨rfl,Qj _ _⟩
theorem zhj(p:UInt8->Bool):∀l:jE,(l.dropWhile p).dropWhile p=l.dropWhile p
 | []=>rfl
 |a::l=>by
  rw[XK]
  by_cases h:p a=true
  ·rw[Qg h];exact zhj p l
  ·rw[Qe h,XK,Qe h]
theorem zdd(p:UInt8->Bool):∀l:jE,∃k,k<=l.length/\l.dropWhile p=l.drop k
 | []=>⟨0,Qc _,rfl⟩
 |a::l=>by
  rw[XK]
  by_cases h:p a=true
  ·rw[Qg h]
   obtain⟨k,b,e⟩:=zdd p l;exact⟨k+1,by simp;omega,by rw[e];rfl⟩
  ·rw[Qe h];exact⟨0,Qm _,rfl⟩
theorem zpK(l:jE):∃k,k<=l.length/\zc0 l=l.take k:=by
 obtain⟨k,a,e⟩:=zdd zgi l.reverse;refine⟨l.length-k,by omega,?_⟩;unfold zc0;rw[e,List.drop_reverse,List.reverse_reverse]
theorem zpY(l:jE):∃a b,l=a++zaG l++b:=by
 unfold zaG;obtain⟨i,_,e⟩:=zdd zgi l;obtain⟨k,_,c⟩:=zpK (l.dropWhile zgi);refine⟨l.take i,(l.drop i).drop k,?_⟩;rw[c,e,QG,Zp,Zp]
theorem zoh(l:jE):(zaG l).length<=l.length:=by
 obtain⟨a,b,e⟩:=zpY l;have:=Zi List.length e;simp only[Qa]at this;omega
theorem PhrAt.low{B C:Nat}{ws:List ByteArray}{b a:Nat}{w:World}(h:PhrAt C ws b a w)(hb:B<=C):PhrAt B ws b a w:=by
 obtain⟨h1,h2,k,g,cap,f,e,d,A,c,j,i⟩:=h;exact⟨Ql hb h1,Ql hb h2,k,g,cap,f,e,d,A,c,Ql hb j,i⟩
def tstP(ws:List ByteArray)(v:ByteArray):Bool:=decide (0<(za6 (lstS ws) (zay v.data.toList) (zay v.data.toList).length).length)
theorem ziu(v:ByteArray):(lowB v).size=v.size:=by
 unfold lowB;rw[zae];unfold zay;simp
theorem zob(ws:List ByteArray)(s:zji ws)(v:ByteArray)(t:v.size<=8192)(B j i:Nat)(w:World)(h:PhrAt B ws j i w):
 Calls prog 247 #[.string v,.pointer j,.pointer i] w λe w'=>e=jC (.bool (tstP ws v))/\w w':=by
 obtain⟨_,_,z,g,cap,x,u,k,A,c,_,h1,h2,l⟩:=h;have p:Hid (Calls prog 64 #[.string v] w.drew (zbJ (lowB v) w.drew)):=hIx (zbd v w.drew (by unfold maxLen;omega))
 have q:Hid (∀W,w W->Calls prog 248 #[.slice g k.length cap,jA (ws.length:Int),.string (lowB v)] W λe w'=>e=jC (.tuple #[.bool (tstP ws v),jA 0])/\W w'):=hIx λW o=>
  zsY s (lowB v) (by rw[ziu];exact t) (l.below o)
 generalize tstP ws v=r at *;generalize lowB v=y at *;generalize ws.length=n at *;clear l
 go_in
 go_wp2_with fail
 go_region_held3 (λw'=>w'.cell? j=some (.slice g k.length cap)/\w'.cell? i=some (.slice A n c))
  (first|exact⟨h1,h2⟩|exact⟨zaa a h1,zaa a h2⟩|exact⟨zaa b h1,zaa b h2⟩|go_keep|fail "keep")
  (first
   |(go_at_call 64;(with_reducible refine(p.out).mono ?_);rintro e w2 ⟨rfl,f⟩;have a:w w2:=undrew f)
   |(go_at_call 248;(with_reducible refine(q.out _ a).mono ?_);rintro e m ⟨rfl,d⟩;have b:w m:=a.trans (d.mono a.size))|fail "arm")
 go_wp2;go_ret;exact⟨rfl,b⟩
theorem zsk(a:ByteArray)(w:World)(b:LibOk w)(o:a.size<=1048576):
 Calls prog 157 #[jA 2,.string a] w λe w'=>(OkW (phrW a)->zwI (phrW a) w e w')/\(¬OkW (phrW a)->zzr w e w'):=by
 have hb:w ((w.alloc (.cells #[jA 2] 3)).alloc (.cells #[.string a] 9)):=WaL.alloc (by simp) _;have g:=znD a ((w.alloc (.cells #[jA 2] 3)).alloc (.cells #[.string a] 9)) (b.below hb) o;generalize phrW a=ws at *
 by_cases c:OkW ws
 ·have l:=hIx (g.mono λe w' h=>h.1 c)
  clear g b
  go_in
  go_wp2_with (go_at_call 202;apply Hid.out);refine WhM l ?_;rintro e m ⟨f,k,i,rfl,j⟩;unfold phrF;have d:=hb.trans (f.mono hb.size);go_wp2
  go_ret2
  exact⟨λ_=>⟨d,k,i,rfl,j.low hb.size⟩,λh=>absurd c h⟩
 ·have l:=hIx (g.mono λe w' h=>h.2 c)
  clear g b
  go_in
  go_wp2_with (go_at_call 202;apply Hid.out);refine WhM l ?_;rintro e m ⟨f,k,i,r,n,rfl⟩;unfold phrF;have d:=hb.trans (f.mono hb.size);go_wp2
  go_ret2
  exact⟨λh=>absurd h c,λ_=>⟨d,k,i,r,n,rfl⟩⟩
def tstT(op:Int)(a v:ByteArray):Bool:=if op=4 then Lib.contains v.data.toList a.data.toList else if op=5 then Lib.hasPrefix v.data.toList a.data.toList else if op=6 then Lib.hasSuffix v.data.toList a.data.toList else v.toList==a.toList
theorem zmH(op:Int)(c:op=3\/op=4\/op=5\/op=6)(a v:ByteArray)(l:v.size<=8192)(g f:Nat)(w:World)(b:LibOk w)(h1:w.cell? g=some (jA op))(h2:w.cell? f=some (.string a)):
 Calls prog 207 #[.string v,.pointer g,.pointer f] w λe w'=>e=jC (.bool (tstT op a v))/\w w':=by
 obtain⟨m,j⟩:=b;have h:=hIx (strings_Contains v a m w (by omega) j);have k:=hIx (strings_HasPrefix v a w);have i:=hIx (strings_HasSuffix v a w (by omega));unfold tstT
 rcases c with rfl|rfl|rfl|rfl
 all_goals
  go_in
  go_wp2_with (first|(go_at_call 208;refine h.out.mono ?_;rintro e d ⟨rfl,rfl⟩)|(go_at_call 209;refine k.out.mono ?_;rintro e d ⟨rfl,rfl⟩)|(go_at_call 210;refine i.out.mono ?_;rintro e d ⟨rfl,rfl⟩));go_ret;exact⟨rfl,Qj _ _⟩
def cmpN(op k n:Int):Bool:=if op=7 then decide (n<k)else if op=8 then decide (k<n)else k==n
def tstN(op n:Int)(v:jE):Bool:=match numL 10 9 v with|none=>false|some k=>cmpN op k n
theorem znj(v:ByteArray)(h g:Nat)(op n:Int)(w:World)(f:op=7\/op=8\/op=9)(h1:w.cell? h=some (jA op))(h2:w.cell? g=some (jA n))(j:v.size<=maxLen):
 Calls prog 249 #[.string v,.pointer h,.pointer g] w λe w'=>e=jC (.bool (tstN op n v.data.toList))/\w'=w:=by
 have a:=zf6 v w j;unfold tstN;cases b:numL 10 9 v.data.toList with
 |none=>
  rw[b]at a;unfold zcb at a;dsimp only at a ⊢;have d:=hIx a;clear a b
  go_in
  go_wp2_with fail;refine d.out.mono ?_;rintro e i ⟨rfl,c⟩;rw[c];go_wp2;go_ret;exact⟨rfl,rfl⟩
 |some k=>
  rw[b]at a;unfold zcb at a;dsimp only at a ⊢;have d:=hIx a;clear a b;unfold cmpN
  rcases f with rfl|rfl|rfl
  all_goals
   go_in
   go_wp2_with fail;refine d.out.mono ?_;rintro e i ⟨rfl,c⟩;rw[c];go_wp2;go_ret;exact⟨rfl,rfl⟩
def numF(b a:Nat):Value:=.func (.func 249) #[] #[.pointer b,.pointer a]
def decN(o:Option Int):Int:=match o with|none=>0|some n=>n
def decE(o:Option Int):Int:=match o with|none=>4|some _=>0
theorem zlZ(o:Option Int):zcb o=.tuple #[jA (decN o),jA (decE o)]:=by cases o <;> rfl
def zxH(op:Int)(o:Option Int)(w:World)(e:Ending)(w':World):Prop:=
 ∃b a,e=jC (.tuple #[numF b a,jA (decE o)])/\w'.cell? ⟨b,0,none⟩=some (jA op)/\w'.cell? ⟨a,0,none⟩=some (jA (decN o))/\w w'/\w.heap.size<=b/\w.heap.size<=a
theorem znZ(op:Int)(a:ByteArray)(w:World)(d:a.size<=maxLen):
 Calls prog 203 #[jA op,.string a] w (zxH op (numL 10 9 a.data.toList) w):=by
 have b:=zf6 a (w.alloc (.cells #[jA op] 3)) d;rw[zlZ]at b;generalize numL 10 9 a.data.toList=o at *;have f:=hIx b;clear b;have hb:w ((w.alloc (.cells #[jA op] 3)).alloc (.cells #[jA (decN o)] 3)):=WaL.alloc (by simp) _
 have c1:((w.alloc (.cells #[jA op] 3)).alloc (.cells #[jA (decN o)] 3)).cell? w.heap.size=some (jA op):=
  Qf _ _ 0 _ _ _ ((Qr _ _ _ (by simp)).trans (Qt w _))
 have c2:((w.alloc (.cells #[jA op] 3)).alloc (.cells #[jA (decN o)] 3)).cell? (w.heap.size+1:)=some (jA (decN o)):=by
  have:=Qt (w.alloc (.cells #[jA op] 3)) (.cells #[jA (decN o)] 3);rw[Qp]at this;exact Qf _ _ 0 _ _ _ this
 have g:Hid (zxH op o w (jC (.tuple #[.func (.func 249) #[] #[.pointer w.heap.size,.pointer (w.heap.size+1:)],jA (decE o)])) ((w.alloc (.cells #[jA op] 3)).alloc (.cells #[jA (decN o)] 3))):=
  ⟨w.heap.size,w.heap.size+1,rfl,c1,c2,hb,Qc _,Zc _⟩
 clear c1 c2 hb
 go_in
 go_wp2_with fail;refine f.out.mono ?_;rintro e h ⟨rfl,c⟩;rw[c];go_wp2;exact Qi (v:=.tuple #[.func (.func 249) #[] #[.pointer w.heap.size,.pointer (w.heap.size+1:)],jA (decE o)]) (by simp[results,results203,go_sem]) rfl g.out
theorem zsa(op:Int)(a:ByteArray)(w:World)(d:op=7\/op=8\/op=9)(i:a.size<=maxLen):
 Calls prog 157 #[jA op,.string a] w (zxH op (numL 10 9 a.data.toList) w):=by
 have hb:w ((w.alloc (.cells #[jA op] 3)).alloc (.cells #[.string a] 9)):=WaL.alloc (by simp) _;have j:=hIx (znZ op a ((w.alloc (.cells #[jA op] 3)).alloc (.cells #[.string a] 9)) i);generalize numL 10 9 a.data.toList=o at *
 rcases d with rfl|rfl|rfl
 all_goals
  go_in
  go_wp2_with fail;refine j.out.mono ?_;rintro e l ⟨g,f,rfl,h1,h2,b,h,k⟩;unfold numF;have c:=hb.trans (b.mono hb.size);go_wp2;exact Qi (v:=.tuple #[.func (.func 249) #[] #[.pointer g,.pointer f],jA (decE o)]) (by simp[results,results157,go_sem]) rfl ⟨g,f,rfl,h1,h2,c,Ql hb.size h,Ql hb.size k⟩
theorem zkG(a:ByteArray)(w:World)(b:LibOk w)(L:a.size<=1048576)(k:zi9 a.data.toList=0):
 Calls prog 204 #[.string a] w (MadeT (tstA a) w):=by
 have d:(zbQ (splL 44 a.data.toList)).length<=1000:=by
  have h1:=ziC (splL 44 a.data.toList)
  have h2:(splL 44 a.data.toList).length<=30:=by
   unfold zi9 at k
   split at k
   ·exact absurd k (by decide)
   ·omega
  omega
 have C:=λv H A c g W z h p=>zuz a v H A c g W z d h p
 have r:=zl4 a w (by omega) b;unfold zdv at r;generalize zbQ (splL 44 a.data.toList)=l at *;generalize tstA a=f at *;rw[k]at r;have y:=hIx r;have u:=hIx C;clear r C k d b
 go_in
 go_wp2_with (go_at_call 107;apply Hid.out);refine WhM y ?_;rintro e i ⟨v,rfl,B,_,j⟩;have n:=hIx (B (by first|trivial|rfl));obtain⟨A,c,rfl,I⟩:=n.out.form;have m:=Qt i (.cells #[.slice A l.length c] 195);have o:i (i.alloc (.cells #[.slice A l.length c] 195)):=WaL
 have E:Hid (∀W,Since w.heap.size i W->Sl W W.heap.size 2 A l.length (l.flatMap zb9)):=λW q=>by
  have h2:=OwnN.keep n.out λg p=>q.keep g (QK n.out g p).1 (QK n.out g p).2
  obtain⟨K,J,D,s⟩:=h2.form;injection D with G _ _
  rw[G];exact s
 clear B I n;go_wp2
 exact Qi (v:=.tuple #[.func (.func 250) #[] #[.pointer i.heap.size],jA 0]) (by simp[results,results204,go_sem]) rfl
  ⟨_,_,rfl,⟨_,_,rfl,λ_ _=>rfl,λW q t x F=>u.out x F A c i.heap.size W t (E.out W ((Since.of o).trans q)) (Qf _ _ 0 _ _ _ ((q.keep _ j.size (by simp)).trans m))⟩,j.trans (o.mono j.size)⟩
theorem zpR(i:ByteArray)(w:World)(k:LibOk w)(D:i.size<=1048576)(o:(zcp i.data.toList).2=0):
 Calls prog 205 #[.string i] w (MadeT (tstG i) w):=by
 have n:(zcp i.data.toList).1.Wf:=by
  unfold zcp at o ⊢
  split
  ·exact ziE _
  ·rename_i h;rw[Qe h]at o;exact absurd o (by decide)
 have u:=λv C g W y=>zvT (zcp i.data.toList).1 n v C g W y
 have q:=zl1 i w k (by omega);unfold zis at q;have A:Hid (∀v,tstG i v=anyN (outG (zcp i.data.toList).1 v) v.size):=λ_=>rfl
 generalize zcp i.data.toList=R at *;obtain⟨S,c⟩:=R;dsimp only at *;subst o;generalize tstG i=f at *;have t:=hIx q;have r:=hIx u;clear q u k n
 go_in
 go_wp2_with (go_at_call 108;apply Hid.out);refine WhM t ?_;rintro e j ⟨rfl,m⟩;have l:FourW (j.alloc (.cells #[jB S.a,jB S.b,jB S.c,jB S.d] 182)) j.heap.size S:=Qt j _;have s:j (j.alloc (.cells #[jB S.a,jB S.b,jB S.c,jB S.d] 182)):=WaL;have p:=hIx l;clear l;unfold setA;go_wp2
 exact Qi (v:=.tuple #[.func (.func 254) #[] #[.pointer j.heap.size],jA 0]) (by simp[results,results205,go_sem]) rfl
  ⟨_,_,rfl,⟨_,_,rfl,λ_ _=>rfl,λW z _ x B=>(r.out x B j.heap.size W ((z.keep _ m.size (by simp)).trans p.out)).mono λe w' h=>⟨by rw[h.1,A.out],h.2⟩⟩,m.trans (s.mono m.size)⟩
theorem zut{ws:List ByteArray}(h:Full (lstS (ws.map lowB))):Full (lstS ws):=by
 obtain⟨k,j,hl,q⟩:=h
 have g:∀v∈k,∃u,zay u=v/\∃w∈lstS ws,u <+:w:=λv y=>by
  obtain⟨x,f,c⟩:=q v y;obtain⟨b,hb,rfl⟩:=QR.1 f;obtain⟨a,z,rfl⟩:=QR.1 hb;unfold lowB at c;rw[zah]at c;refine⟨a.data.toList.take v.length,?_,a.data.toList,QR.2 ⟨a,z,rfl⟩,List.take_prefix _ _⟩;have e:=List.prefix_iff_eq_take.1 c;unfold zay at e ⊢;rw[List.map_take];exact e.symm
 have:∀l:List jE,l.Nodup->(∀v∈l,∃u,zay u=v/\∃w∈lstS ws,u <+:w)->∃d:List jE,d.Nodup/\d.length=l.length/\(∀u∈d,∃w∈lstS ws,u <+:w)/\d.map zay=l:=by
  intro l
  induction l with
  |nil=>exact λ_ _=>⟨[],List.nodup_nil,rfl,λu h=>(by cases h),rfl⟩
  |cons v r ih=>
   intro j m;obtain⟨h1,h2⟩:=Z6.1 j;obtain⟨d,i,o,p,n⟩:=ih h2 λx f=>m x (Ze _ f)
   obtain⟨u,e,s⟩:=m v Zg;refine⟨u::d,Z6.2 ⟨λt=>h1 ?_,i⟩,by simp[o],λx f=>?_,by rw[QW,e,n]⟩
   ·rw[<-n,<-e];exact QR.2 ⟨u,t,rfl⟩
   ·rcases QI.1 f with rfl|f
    ·exact s
    ·exact p x f
 obtain⟨d,h1,h2,i,_⟩:=this k j g;exact⟨d,h1,by omega,i⟩
theorem zzv{ws:List ByteArray}(h:OkW ws):OkW (ws.map lowB):=
 ⟨⟨by rw[Qh];exact h.1.few,by rw[Qh];exact h.1.some,λx c=>by
  obtain⟨a,b,rfl⟩:=QR.1 c;rw[ziu];exact h.1.short a b,λx c=>by
  obtain⟨a,b,rfl⟩:=QR.1 c;rw[ziu];exact h.1.full a b⟩,λd=>h.2 (zut d)⟩
theorem OwnG.keepN{w w':World}{base g n c:Nat}{d:Type}{R:RowT d}{l:List d}(h:OwnG R w base (.slice g n c) l)(j:w'.heap[g]? = w.heap[g]?):OwnG R w' base (.slice g n c) l:=by
 refine⟨h.1,?_⟩
 rcases h.2 with i|⟨b,cap,a,h1,h2,f,k⟩
 ·exact .inl i
 ·have e:g=b:=by injection h1 with h1;injection h1 with h1;injection h1 with h1
  exact .inr ⟨b,cap,a,h1,h2,(by rw[<-e];rw[<-e]at f;exact j.trans f),k⟩
theorem PhrAt.since{B:Nat}{ws:List ByteArray}{l e:Nat}{w W:World}(h:PhrAt B ws l e w)(b:Since B w W):PhrAt B ws l e W:=by
 obtain⟨h1,h2,C,g,cap,q,p,n,A,c,x,f,i,r⟩:=h;refine⟨h1,h2,C,g,cap,q,p,n,A,c,x,zaX (b.keep _ h1 (QQ w _ f)) 0 f,zaX (b.keep _ h2 (QQ w _ i)) 0 i,?_⟩;obtain⟨u,D,d,v,a⟩:=r;have s:=a.own.lt g rfl;exact⟨u,D,d,v,⟨a.own.keepN (b.keep g (by omega) s.2),a.fst,λj m z y=>(a.done j m z y).keep b.size λk o t=>b.keep k (by omega) t,a.rest⟩⟩
noncomputable def tstO(op:Int)(a v:ByteArray):Bool:=
 if op=1 then tstR a v else if op=2 then tstP (phrW a) v else if op=7\/op=8\/op=9 then tstN op (decN (numL 10 9 a.data.toList)) v.data.toList
 else if op=10 then tstA a v else if op=11 then tstG a v else if op=12 then true else tstT op a v
theorem MadeT.same{f g:ByteArray->Bool}(h:∀v,f v=g v){w:World}{e:Ending}{w':World}(m:MadeT f w e w'):MadeT g w e w':=by
 obtain⟨d,c,n,⟨b,a,k,h2⟩,hb⟩:=m;exact⟨d,c,n,⟨b,a,k,h2.1,λW j hl s l=>(h2.2 W j hl s l).mono λe w' i=>⟨by rw[i.1,h s],i.2⟩⟩,hb⟩
section
variable (arg:ByteArray) (w:World)
theorem zrm(h:arg.size<=1048576)(i:(zc4 arg.data.toList).2.2=0):Calls prog 157 #[jA 1,.string arg] w (MadeT (tstR arg) w):=by
 have hb:w ((w.alloc (.cells #[jA 1] 3)).alloc (.cells #[.string arg] 9)):=WaL.alloc (by simp) _;have j:=hIx (zn4 arg ((w.alloc (.cells #[jA 1] 3)).alloc (.cells #[.string arg] 9)) h i);generalize tstR arg=f at *
 go_in
 go_wp2_with (go_at_call 201;apply Hid.out);refine WhM j ?_;rintro e l ⟨c,a,rfl,g,b⟩;have d:=hb.trans (b.mono hb.size);have k:=hIx g;clear g;go_wp2
 go_ret2
 exact⟨c,a,rfl,k.out.low hb.size,d⟩
theorem zrT(a:LibOk w)(j:arg.size<=1048576)(i:zi9 arg.data.toList=0):Calls prog 157 #[jA 10,.string arg] w (MadeT (tstA arg) w):=by
 have hb:w ((w.alloc (.cells #[jA 10] 3)).alloc (.cells #[.string arg] 9)):=WaL.alloc (by simp) _;have k:=hIx (zkG arg ((w.alloc (.cells #[jA 10] 3)).alloc (.cells #[.string arg] 9)) (a.below hb) j i);generalize tstA arg=f at *;clear i
 go_in
 go_wp2_with (go_at_call 204;apply Hid.out);refine WhM k ?_;rintro e m ⟨d,b,rfl,h,c⟩;have g:=hb.trans (c.mono hb.size);have l:=hIx h;clear h;go_wp2
 go_ret2
 exact⟨d,b,rfl,l.out.low hb.size,g⟩
theorem ztZ(a:LibOk w)(j:arg.size<=1048576)(i:(zcp arg.data.toList).2=0):Calls prog 157 #[jA 11,.string arg] w (MadeT (tstG arg) w):=by
 have hb:w ((w.alloc (.cells #[jA 11] 3)).alloc (.cells #[.string arg] 9)):=WaL.alloc (by simp) _;have k:=hIx (zpR arg ((w.alloc (.cells #[jA 11] 3)).alloc (.cells #[.string arg] 9)) (a.below hb) j i);generalize tstG arg=f at *;clear i
 go_in
 go_wp2_with (go_at_call 205;apply Hid.out);refine WhM k ?_;rintro e m ⟨d,b,rfl,h,c⟩;have g:=hb.trans (c.mono hb.size);have l:=hIx h;clear h;go_wp2
 go_ret2
 exact⟨d,b,rfl,l.out.low hb.size,g⟩
theorem zri(a:LibOk w)(g:arg.size<=1048576)(j:mkC (zby arg)=0):Calls prog 157 #[jA 2,.string arg] w (MadeT (tstP (phrW arg)) w):=by
 have b:OkW (phrW arg):=zzv (zsX.1 j);refine(zsk arg w a g).mono λe w' h=>?_
 obtain⟨hb,f,i,rfl,c⟩:=h.1 b;exact⟨_,_,rfl,⟨_,_,rfl,λ_ _=>rfl,λW d _ x k=>zob (phrW arg) b.1 x k _ f i W (c.since d)⟩,hb⟩
theorem ztA(op:Int)(a:op=7\/op=8\/op=9)(m:arg.size<=1048576)(b:(numL 10 9 arg.data.toList).isSome=true):Calls prog 157 #[jA op,.string arg] w (MadeT (λv=>tstN op (decN (numL 10 9 arg.data.toList)) v.data.toList) w):=by
 refine(zsa op arg w a (by unfold maxLen;omega)).mono λe w' h=>?_
 obtain⟨i,f,rfl,h1,h2,hb,d,k⟩:=h
 have g:decE (numL 10 9 arg.data.toList)=0:=by
  cases j:numL 10 9 arg.data.toList with
  |none=>rw[j]at b;cases b
  |some n=>rfl
 rw[g];exact⟨_,_,rfl,⟨_,_,rfl,λ_ _=>rfl,λW c _ x l=>(znj x i f op _ W a (zaX (c.keep _ d (QQ w' _ h1)) 0 h1) (zaX (c.keep _ k (QQ w' _ h2)) 0 h2) (by unfold maxLen;omega)).mono λe w' h=>⟨h.1,by rw[h.2];exact Qj _ _⟩⟩,hb⟩
theorem ztS(op:Int)(b:op=3\/op=4\/op=5\/op=6)(_:LibOk w)(g:arg.size<=200):Calls prog 157 #[jA op,.string arg] w (MadeT (tstT op arg) w):=by
 have d:Hid (Calls prog 157 #[jA op,.string arg] w λe w'=>e=jC (.tuple #[.func (.func 207) #[] #[.pointer w.heap.size,.pointer (w.heap.size+1:)],jA 0])/\w'=(w.alloc (.cells #[jA op] 3)).alloc (.cells #[.string arg] 9)):=by
  have i:decide ((200:Int)<(arg.size:Int))=false:=by simp;omega
  unfold Hid
  rcases b with rfl|rfl|rfl|rfl
  all_goals
   go_in
   go_wp2
   go_ret2
   exact⟨rfl,rfl⟩
 refine d.out.mono λe w' h=>?_
 obtain⟨rfl,rfl⟩:=h;have hb:w ((w.alloc (.cells #[jA op] 3)).alloc (.cells #[.string arg] 9)):=WaL.alloc (by simp) _
 have c1:((w.alloc (.cells #[jA op] 3)).alloc (.cells #[.string arg] 9)).cell? w.heap.size=some (jA op):=
  Qf _ _ 0 _ _ _ ((Qr _ _ _ (by simp)).trans (Qt w _))
 have c2:((w.alloc (.cells #[jA op] 3)).alloc (.cells #[.string arg] 9)).cell? (w.heap.size+1:)=some (.string arg):=by
  have:=Qt (w.alloc (.cells #[jA op] 3)) (.cells #[.string arg] 9);rw[Qp]at this;exact Qf _ _ 0 _ _ _ this
 exact⟨_,_,rfl,⟨_,_,rfl,λ_ _=>rfl,λW c hl x f=>zmH op b arg x f _ _ W hl (zaX (c.keep _ (Qc _) (QQ _ _ c1)) 0 c1) (zaX (c.keep _ (Zc _) (QQ _ _ c2)) 0 c2)⟩,hb⟩
theorem zqJ(a:arg.data.toList=[]):Calls prog 157 #[jA 12,.string arg] w (MadeT (λ_=>true) w):=by
 have hb:w ((w.alloc (.cells #[jA 12] 3)).alloc (.cells #[.string arg] 9)):=WaL.alloc (by simp) _;have q:arg.toList.isEmpty=true:=by rw[Xj,a];rfl
 have b:(arg.toList==[])=true:=by rw[Xj,a];rfl
 go_in
 go_wp2
 go_ret2
 exact⟨206,#[],rfl,⟨_,_,rfl,λ_ _=>rfl,λW _ _ x _=>zwu x W⟩,hb⟩
theorem zvs(op:Int)(h1:1<=op)(h2:op<=12)(b:LibOk w)(d:arg.size<=1048576)(a:argC op arg=0):Calls prog 157 #[jA op,.string arg] w (MadeT (tstO op arg) w):=by
 unfold argC at a
 by_cases c1:op=1
 ·subst c1
  rw[Qg rfl]at a;exact(zrm arg w d a).mono λe w' h=>h.same λv=>by unfold tstO;rw[Qg rfl]
 rw[Qe c1]at a
 by_cases c2:op=2
 ·subst c2
  rw[Qg rfl]at a;exact(zri arg w b d (by exact_mod_cast a)).mono λe w' h=>h.same λv=>by unfold tstO;rw[Qe c1,Qg rfl]
 rw[Qe c2]at a
 by_cases c3:op=7\/op=8\/op=9
 ·rw[Qg c3]at a
  have c:(numL 10 9 arg.data.toList).isSome=true:=by
   by_cases c:(numL 10 9 arg.data.toList).isSome=true
   ·exact c
   ·rw[Qe c]at a;exact absurd a (by decide)
  exact(ztA arg w op c3 d c).mono λe w' h=>h.same λv=>by unfold tstO;rw[Qe c1,Qe c2,Qg c3]
 rw[Qe c3]at a
 by_cases c4:op=10
 ·subst c4
  rw[Qg rfl]at a;exact(zrT arg w b d a).mono λe w' h=>h.same λv=>by unfold tstO;rw[Qe c1,Qe c2,Qe c3,Qg rfl]
 rw[Qe c4]at a
 by_cases c5:op=11
 ·subst c5
  rw[Qg rfl]at a;exact(ztZ arg w b d a).mono λe w' h=>h.same λv=>by unfold tstO;rw[Qe c1,Qe c2,Qe c3,Qe c4,Qg rfl]
 rw[Qe c5]at a
 by_cases i:op=12
 ·subst i
  rw[Qg rfl]at a
  have f:arg.data.toList=[]:=by
   by_cases f:arg.data.toList=[]
   ·exact f
   ·rw[Qe f]at a;exact absurd a (by decide)
  exact(zqJ arg w f).mono λe w' h=>h.same λv=>by unfold tstO;rw[Qe c1,Qe c2,Qe c3,Qe c4,Qe c5,Qg rfl]
 rw[Qe i]at a
 have g:arg.size<=200:=by
  by_cases c:200<arg.size
  ·rw[Qg c]at a;exact absurd a (by decide)
  ·omega
 exact(ztS arg w op (by omega) b g).mono λe w' h=>h.same λv=>by unfold tstO;rw[Qe c1,Qe c2,Qe c3,Qe c4,Qe c5,Qe i]
end
theorem zlK(w:World):(callFunc 295 #[]).run prog w=.ok (.value (.tuple #[])) w:=run_call_mark0 func295 (by kernel_rfl) (by kernel_rfl) (by kernel_rfl) .disable (by kernel_rfl) w
theorem zpb(w:World):(callFunc 297 #[]).run prog w=.ok (.value (.tuple #[])) w:=run_call_mark0 func297 (by kernel_rfl) (by kernel_rfl) (by kernel_rfl) .enable (by kernel_rfl) w
theorem ztB(a:Addr)(w:World):(callFunc 298 #[.pointer (some a)]).run prog w=.ok (.value (.tuple #[])) w:=run_call_marked func298 (by kernel_rfl) (by kernel_rfl) (by kernel_rfl) .acquire (by kernel_rfl) a w
theorem ztr(a:Addr)(w:World):(callFunc 300 #[.pointer (some a)]).run prog w=.ok (.value (.tuple #[])) w:=run_call_marked func300 (by kernel_rfl) (by kernel_rfl) (by kernel_rfl) .releaseMerge (by kernel_rfl) a w
theorem zi8(a:Addr)(x:Value)(u:FrameMode)(w:World)(g:w.cell? a=some x)(h:w.frozen? a=false):
 CallsD prog 244 #[.pointer (some a),.bool true] u w λe f w'=>f=u/\(e=jC (.tuple #[])/\w'=w.drew.setCell a (.int .u32 1)):=by
 have b:w.drew.cell? a=some x:=by go_simp
 have c:w.drew.frozen? a=false:=by go_simp
 have d:=run_call_store (P:=prog) func278 (by kernel_rfl) (by kernel_rfl) (by kernel_rfl) (by kernel_rfl) (k:=.u32) (y:=1) b c
 go_enter_d func244,ntmps244
 go_wp2
 go_region_calls
 all_goals (go_end0;exact⟨rfl,rfl⟩)
theorem zi0(a:Addr)(u:FrameMode)(w:World)(c:w.cell? a=some (.int .i32 1))(g:w.frozen? a=false):
 CallsD prog 243 #[.pointer (some a)] u w λe f w'=>f=u/\(e=jC (.tuple #[])/\w'=w.setCell a (.int .i32 0)):=by
 have h:=zlK;have i:=zpb;have j:=ztr;have b:=run_call_add (P:=prog) func301 (by kernel_rfl) (by kernel_rfl) (by kernel_rfl) .i32 (by kernel_rfl) (y:=-1) (s:=0) c g (by simp[go_sem];rfl);have d:=run_convert_to_unsafe (P:=prog) (src:=366) (dst:=218) underlying366 underlying218 (by kernel_rfl) c
 go_enter_d func243,ntmps243
 go_wp2
 go_end0
 go_wp2
 go_end0
 exact⟨rfl,rfl⟩
theorem zsc(a:Addr)(w:World)(d:w.cell? a=some (.int .i32 0))(g:w.frozen? a=false):
 Calls prog 242 #[.pointer (some a)] w λe w'=>e=jC (.tuple #[])/\w'=w.setCell a (.int .i32 1):=by
 have h:=zlK;have i:=zpb;have j:=ztB;have c:=run_call_cas_hit (P:=prog) func296 (by kernel_rfl) (by kernel_rfl) (by kernel_rfl) .i32 (by kernel_rfl) (y:=1) d g;have b:(w.setCell a (.int .i32 1)).cell? a=some (.int .i32 1):=ZA w a _ d;have f:=run_convert_to_unsafe (P:=prog) (src:=366) (dst:=218) underlying366 underlying218 (by kernel_rfl) b
 go_in
 go_wp2
 first|go_end0|(simp only[Exit.inBlock,Exit.then];refine Qi (results_none rfl _ _ _) rfl ?_)|refine Qi (results_none rfl _ _ _) rfl ?_
 go_wp2
 go_end0
 exact⟨rfl,rfl⟩
def Ran(b off:Nat)(Q:World->Prop)(e:Ending)(w':World):Prop:=
 e=jC (.tuple #[])/\w'.cell? ⟨b,off,none⟩=some (.int .u32 0)/\w'.frozen? ⟨b,off,none⟩=false/\w'.cell? ⟨b,off+1,none⟩=some (.int .i32 1)/\w'.frozen? ⟨b,off+1,none⟩=false/\Q w'
def Once(b off:Nat)(Q:World->Prop)(e:Ending)(w':World):Prop:=
 e=jC (.tuple #[])/\∃W,Q W/\w'=(W.drew.setCell ⟨b,off,none⟩ (.int .u32 1)).setCell ⟨b,off+1,none⟩ (.int .i32 0)
theorem zun(b off:Nat)(k:Addr)(Q:World->Prop)(w:World)
 (d:w.cell? ⟨b,off,none⟩=some (.int .u32 0)) (h1:w.cell? ⟨b,off+1,none⟩=some (.int .i32 0))
 (_:w.frozen? ⟨b,off,none⟩=false) (n:w.frozen? ⟨b,off+1,none⟩=false)
 (j:Calls prog 156 #[.pointer (some k)] (w.setCell ⟨b,off+1,none⟩ (.int .i32 1)) (Ran b off Q)):
 Calls prog 200 #[.pointer (some ⟨b,off,none⟩),.func (.func 156) #[] #[.pointer (some k)]] w (Once b off Q):=by
 have hl:=run_call_load (P:=prog) func241 (by kernel_rfl) (by kernel_rfl) (by kernel_rfl) .u32 (by kernel_rfl) (w:=w.setCell ⟨b,off+1,none⟩ (.int .i32 1)) (a:=⟨b,off,none⟩) (x:=0) ((QT _ ⟨b,off+1,none⟩ ⟨b,off,none⟩ _ (by simp)).trans d);have i:∀(x:Bool) (w:World),(Op.unary .not (.bool x)).run prog w=.ok (.bool (!x)) w:=λ_ _=>rfl
 have h:=hIx j;clear j
 go_enter_defers func200,ntmps200
 go_wp2_with (first|(go_at_call 242;refine(zsc ⟨b,off+1,none⟩ _ (by go_simp) (by go_simp)).mono ?_;rintro e w' ⟨rfl,rfl⟩)|(go_at_call 199;go_in)|(go_at_call 156;apply Hid.out));refine WhM h ?_;rintro e t ⟨rfl,r,q,s,o,g⟩;have l:=hIx g;clear g hl d h1 n h
 go_wp2
 refine leaves_cons (f:=244) (args:=#[.pointer (some ⟨b,off,none⟩),.bool true]) (by simp) (by simp[go_sem]) ?_;refine(zi8 ⟨b,off,none⟩ (.int .u32 0) .returning _ r q).mono ?_;rintro e p c ⟨rfl,rfl,rfl⟩;refine leaves_cons (f:=243) (args:=#[.pointer (some ⟨b,off+1,none⟩)]) (by simp[settle]) (by simp[go_sem]) ?_;refine(zi0 ⟨b,off+1,none⟩ _ _ ?_ (by simp[o])).mono ?_
 ·refine(QT _ ⟨b,off,none⟩ ⟨b,off+1,none⟩ _ (by simp)).trans ?_
  rw[World.cell?_drew];exact s
 rintro e p c ⟨rfl,rfl,rfl⟩;simp[Leaves,settle,results,results200];exact⟨rfl,_,l.out,rfl⟩
theorem zu6(b off:Nat)(a:Addr)(Q:World->Prop)(w:World)
 (c:w.cell? ⟨b,off,none⟩=some (.int .u32 0)) (h1:w.cell? ⟨b,off+1,none⟩=some (.int .i32 0))
 (j:w.frozen? ⟨b,off,none⟩=false) (k:w.frozen? ⟨b,off+1,none⟩=false)
 (h:Calls prog 156 #[.pointer (some a)] (w.setCell ⟨b,off+1,none⟩ (.int .i32 1)) (Ran b off Q)):
 Calls prog 155 #[.pointer (some ⟨b,off,none⟩),.func (.func 156) #[] #[.pointer (some a)]] w (Once b off Q):=by
 have hl:=run_call_load (P:=prog) func241 (by kernel_rfl) (by kernel_rfl) (by kernel_rfl) .u32 (by kernel_rfl) c;have f:∀(x:Bool) (w:World),(Op.unary .not (.bool x)).run prog w=.ok (.bool (!x)) w:=λ_ _=>rfl
 have l:=hIx (zun b off a Q w c h1 j k h);clear h
 go_in
 go_wp2_with (first|(go_at_call 200;apply Hid.out)|(go_at_call 199;go_in));refine WhM l ?_;rintro e n ⟨rfl,W,d,g⟩;have i:=hIx d;have m:=hIx g;clear d g
 go_wp2
 go_end0
 exact⟨rfl,W,i.out,m.out⟩
theorem zw4(a:Addr)(d:Int)(c:¬d=0)(h:Value)(w:World)(g:w.cell? a=some (.int .u32 d)):
 Calls prog 155 #[.pointer (some a),h] w λe w'=>e=jC (.tuple #[])/\w'=w:=by
 have hl:=run_call_load (P:=prog) func241 (by kernel_rfl) (by kernel_rfl) (by kernel_rfl) .u32 (by kernel_rfl) g;have b:∀(x:Bool) (w:World),(Op.unary .not (.bool x)).run prog w=.ok (.bool (!x)) w:=λ_ _=>rfl
 have f:(d != 0)=true:=by simp[c]
 go_in
 go_wp2
 go_end0
 exact⟨rfl,rfl⟩
