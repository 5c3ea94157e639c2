/- Lemmas for the last texts. -/
import Derived.Test.YtnnokglddolglaaGreatDoorM26
import Derived.Lib.Builder
set_option maxHeartbeats 3200000
set_option maxRecDepth 100000
namespace Go.Proofs.YtnnokglddolglaaGreatDoor
open Go.RowKit Go.Proofs.Tryz
theorem srcR{wr:World}{B n:Nat}{A:Option Addr}{xs:List Value}{p r s g l k o f d:Nat->Value}(h:Sl wr B 9 A n xs){j:Nat}(u:j<n)(t:∀j,j<n->xs[j*9]? = some (p j)/\xs[j*9+1]? = some (r j)/\xs[j*9+2]? = some (s j)/\xs[j*9+3]? = some (g j)/\xs[j*9+4]? = some (l j)/\xs[j*9+5]? = some (k j)/\xs[j*9+6]? = some (o j)/\xs[j*9+7]? = some (f j)/\xs[j*9+8]? = some (d j)):
 ∃b off,A=some ⟨b,off,none⟩/\wr.cell? ⟨b,off+j*9,none⟩=some (p j)/\wr.cell? ⟨b,off+j*9+1,none⟩=some (r j)/\wr.cell? ⟨b,off+j*9+2,none⟩=some (s j)/\wr.cell? ⟨b,off+j*9+3,none⟩=some (g j)/\wr.cell? ⟨b,off+j*9+4,none⟩=some (l j)/\wr.cell? ⟨b,off+j*9+5,none⟩=some (k j)/\wr.cell? ⟨b,off+j*9+6,none⟩=some (o j)/\wr.cell? ⟨b,off+j*9+7,none⟩=some (f j)/\wr.cell? ⟨b,off+j*9+8,none⟩=some (d j):=by
 have hl:=h.len;obtain⟨b,off,e,_,w⟩:=h.src (by omega);have c:=t j u
 have a:∀i v,xs[i]? = some v->wr.cell? ⟨b,off+i,none⟩=some v:=λi v q=>by
  have m:i<xs.length:=(Qw.1 q).1;rw[w i m,<-q,Qd m]
 exact⟨b,off,e,by have:=a _ _ c.1;rw[show off+j*9=off+j*9 from rfl]at this;exact this,by have:=a _ _ c.2.1;rw[<-Zk]at this;exact this,by have:=a _ _ c.2.2.1;rw[<-Zk]at this;exact this,by have:=a _ _ c.2.2.2.1;rw[<-Zk]at this;exact this,by have:=a _ _ c.2.2.2.2.1;rw[<-Zk]at this;exact this,by have:=a _ _ c.2.2.2.2.2.1;rw[<-Zk]at this;exact this,by have:=a _ _ c.2.2.2.2.2.2.1;rw[<-Zk]at this;exact this,by have:=a _ _ c.2.2.2.2.2.2.2.1;rw[<-Zk]at this;exact this,by have:=a _ _ c.2.2.2.2.2.2.2.2;rw[<-Zk]at this;exact this⟩
theorem ztO(g:Nat)(y:Array Value)(T:∀args w,(callFunc g args).run prog w=.ok (.enter g args) w)(A:Option Addr)(n c:Nat)(xs:List Value)(D E F s u t C r q:Nat->Value)(p:Nat->Bool)(w:World)
 (h:Sl w w.heap.size 9 A n xs) (x:n<=9223372036854775807) (B:∀j,j<n->xs[j*9]? = some (D j)/\xs[j*9+1]? = some (E j)/\xs[j*9+2]? = some (F j)/\xs[j*9+3]? = some (s j)/\xs[j*9+4]? = some (u j)/\xs[j*9+5]? = some (t j)/\xs[j*9+6]? = some (C j)/\xs[j*9+7]? = some (r j)/\xs[j*9+8]? = some (q j))
 (v:∀W j,j<n->w W->Calls prog g (#[.agg #[D j,E j,F j,s j,u j,t j,C j,r j,q j]]++y) W (zav (p j) W)):
 Calls prog 32 #[.slice A n c,.func (.func g) #[] y] w λe w'=>e=jC (jA (hitI p n))/\w w':=by
 have Q:=hIx v;have S:=hIx B;clear v B
 go_in
 go_wp2
 go_loopw [5,8] (λ_ i wr=>∃j:Nat,j<=n/\i=jA j/\w wr/\Hid (∀i,i<j->p i=false)) (λ_ i _=>n-(intOf i).toNat)
 case atStart=>exact⟨0,Qm _,rfl,Qj _ _,λi z=>absurd z (by omega)⟩
 case round=>
  obtain⟨j,U,rfl,hb,a⟩:=hrel
  by_cases d:j<n
  ·obtain⟨b,off,rfl,G,I,L,P,J,H,O,K,N⟩:=srcR (h.below hb) d S.out
   have o:=Q.out wr j d hb;cases l:p j with
   |true=>
    rw[l]at o;have f:=hIx (zme p n j d l a);clear l;go_wp2_with (go_at_fn g;refine o.mono ?_;rintro e w' ⟨rfl,k⟩);go_ret;exact⟨zac f.out.symm,hb.trans (k.mono hb.size)⟩
   |false=>
    rw[l]at o
    have m:Hid (∀i,i<j+1->p i=false):=λi z=>by
     by_cases e:i=j
     ·rw[e];exact l
     ·exact a i (by omega)
    clear l a;go_wp2_with (go_at_fn g;refine o.mono ?_;rintro e w' ⟨rfl,k⟩)
    go_roundw
    case rel=>exact⟨j+1,by omega,by go_num,hb.trans (k.mono hb.size),m⟩
    case measure=>simp[intOf] <;> omega
  ·obtain rfl:j=n:=by omega
   have f:=hIx (zew p j a);go_wp2;go_ret;exact⟨zac f.out.symm,hb⟩
theorem zqN(g:Nat)(l:Array Value)(u:∀args w,(callFunc g args).run prog w=.ok (.enter g args) w)(A:Option Addr)(n c:Nat)(xs:List Value)(o q r f k i m d b:Nat->Value)(p:Nat->Bool)(w:World)
 (h:Sl w w.heap.size 9 A n xs) (a:n<=9223372036854775807) (t:∀j,j<n->xs[j*9]? = some (o j)/\xs[j*9+1]? = some (q j)/\xs[j*9+2]? = some (r j)/\xs[j*9+3]? = some (f j)/\xs[j*9+4]? = some (k j)/\xs[j*9+5]? = some (i j)/\xs[j*9+6]? = some (m j)/\xs[j*9+7]? = some (d j)/\xs[j*9+8]? = some (b j))
 (s:∀W j,j<n->w W->Calls prog g (#[.agg #[o j,q j,r j,f j,k j,i j,m j,d j,b j]]++l) W (zav (p j) W)):
 Calls prog 11 #[.slice A n c,.func (.func g) #[] l] w (zav (anyN p n) w):=by
 have x:=hIx (ztO g l u A n c xs o q r f k i m d b p w h a t s);have v:=hIx (zhK p n);clear s t h
 go_in
 go_wp2_with fail;refine x.out.mono ?_;rintro e y ⟨rfl,hb⟩;go_wp2;go_ret;exact⟨zaK v.out,hb⟩
theorem zwL{w:World}{B m:Nat}{A:Option Addr}{l:List RuM}(h:Sl w B 9 A m (l.flatMap za4))(k:Nat)(a:k<l.length):
 ∃b off,A=some ⟨b,off,none⟩/\b<B/\∀j,j<9->∀v,(za4 l[k])[j]? = some v->w.cell? ⟨b,off+k*9+j,none⟩=some v:=by
 have hl:=za0 za4 9 (λ_=>rfl) l;obtain⟨b,off,e,hb,f⟩:=h.src (by omega);refine⟨b,off,e,hb,λj d v c=>?_⟩;have h1:=zcw za4 9 (λ_=>rfl) l k j a d;have h2:k*9+j<(l.flatMap za4).length:=by omega
 rw[Zk,f (k*9+j) h2];rw[Qd h2]at h1;rw[h1,c]
theorem zuP{g:Type}{cells:g->List Value}{size:Nat}(c:∀a,(cells a).length=size){w:World}{B n:Nat}{A:Option Addr}{l:List g}(h:Sl w B size A n (l.flatMap cells))(k:Nat)(i:k<=l.length):Sl w B size A k ((l.take k).flatMap cells):=by
 have hl:=za0 cells size c (l.take k);have d:l.flatMap cells=(l.take k).flatMap cells++(l.drop k).flatMap cells:=by rw[<-Q6,Zp]
 refine⟨by rw[hl,QJ,Xn i],λp=>?_⟩;obtain⟨b,off,e,hb,m⟩:=h.src (by rw[d,Qa];omega);refine⟨b,off,e,hb,λj o=>?_⟩;have f:j<(l.flatMap cells).length:=by rw[d,Qa];omega
 rw[m j f]
 congr 1
 simp only[d,Zw o]
def dRu:RuM:=⟨⟨0,0,[],[],false,0,ByteArray.empty,[],false⟩,none,0,none,0,none,0⟩
theorem zu9(b i f e l j h n c:Value)(y a:Int)(g:Nat)(w:World)(d:b=jA y)(k:g<w.heap.size)(q:w.cell? g=some (jA a)):
 Calls prog 46 #[.agg #[b,i,f,e,l,j,h,n,c],.pointer g] w (zav (y==a) w):=by
 subst d;have m:∀o,(w.alloc o).cell? g=some (jA a):=λo=>(((Qj _ _).alloc (Qc _) o).cell (p:=⟨g,0,none⟩) k).trans q
 go_in
 go_wp2;go_ret;exact⟨rfl,WaL⟩
theorem zqT(l:List RuM)(k:Nat)(q:k<=l.length)(e:Int)(A:Option Addr)(c g:Nat)(w:World)(h:Sl w w.heap.size 9 A l.length (l.flatMap za4))(hl:l.length<=1048576)(o:g<w.heap.size)(u:w.cell? g=some (jA e)):
 Calls prog 11 #[.slice A k c,.func (.func 46) #[] #[.pointer g]] w (zav (((l.map RuM.r).take k).any λy=>y.id==e) w):=by
 have t:=zuP (cells:=za4) (λ_=>rfl) h k q;have d:(l.take k).length=k:=by rw[QJ,Xn q]
 have s:anyN (λj=>((l.take k).getD j dRu).r.id==e) (l.take k).length=(((l.map RuM.r).take k).any λy=>y.id==e):=by
  rw[zdY (λy:RuM=>y.r.id==e) (l.take k) dRu,<-List.map_take,List.any_map];rfl
 rw[<-s,d];have n:=za0 za4 9 (λ_=>rfl) (l.take k)
 have a:∀j i,j<k->i<9->((l.take k).flatMap za4)[j*9+i]? = some (((l.take k).flatMap za4).getD (j*9+i) undef):=λj i b v=>by
  rw[Qo,Qd (by rw[n,d];omega)];rfl
 generalize m:(l.take k).flatMap za4=xs at *;refine zqN 46 #[.pointer g] (enters_of func46 (by kernel_rfl) rfl) A k c xs (λj=>xs.getD (j*9) undef) (λj=>xs.getD (j*9+1) undef) (λj=>xs.getD (j*9+2) undef) (λj=>xs.getD (j*9+3) undef) (λj=>xs.getD (j*9+4) undef) (λj=>xs.getD (j*9+5) undef) (λj=>xs.getD (j*9+6) undef) (λj=>xs.getD (j*9+7) undef) (λj=>xs.getD (j*9+8) undef) _ w t (by omega) (λj b=>?_) (λW j b hb=>?_)
 ·exact⟨a j 0 b (by decide),a j 1 b (by decide),a j 2 b (by decide),a j 3 b (by decide),a j 4 b (by decide),a j 5 b (by decide),a j 6 b (by decide),a j 7 b (by decide),a j 8 b (by decide)⟩
 ·refine zu9 _ _ _ _ _ _ _ _ _ ((l.take k).getD j dRu).r.id e g W ?_ (Qv o hb.size) ((hb.cell (p:=⟨g,0,none⟩) o).trans u)
  have f:j<(l.take k).length:=by rw[d];exact b
  have h1:=zcw za4 9 (λ_=>rfl) (l.take k) j 0 f (by decide);have h2:(l.take k).getD j dRu=(l.take k)[j]:=by rw[Qo,Qd f];rfl
  rw[m,XI]at h1;rw[h2,Qo,h1]
  rfl
theorem zum(argC:Int->ByteArray->Int)(l:List zat)(k:Nat)(a:k<l.length):
 goC argC (l.take k) (l.drop k)=if l[k].id<1\/9999<l[k].id\/(l[k].phase≠1/\l[k].phase≠2)then 1 else if (l.take k).any (λy=>y.id==l[k].id)=true then 9 else if oneC argC l[k]≠0 then oneC argC l[k]else goC argC (l.take (k+1)) (l.drop (k+1)):=by
 rw[Zb a,goC,Qs a]
theorem znP(l:List zat)(k:Nat)(a:k+1=l.length):zbC (l.drop k)=if l[k].chain=true then 1 else 0:=by
 rw[Zb (by omega),QN (by omega),zbC]
theorem zna(l:List zat)(k:Nat)(a:k+1<l.length):zbC (l.drop k)=if l[k].chain=true/\l[k+1].phase≠l[k].phase then 1 else zbC (l.drop (k+1)):=by
 rw[Zb (by omega:k<l.length),Zb a,zbC]
def zwH(L:List zat)(w a:World)(i:Value)(wr:World):Prop:=∃k:Nat,k<=L.length/\i=jA k/\Below (w.heap.size+1) a wr/\goC argC [] L=goC argC (L.take k) (L.drop k)
def zwJ(L:List zat)(w a:World)(i:Value)(wr:World):Prop:=∃k:Nat,k<=L.length/\i=jA k/\Below (w.heap.size+1) a wr/\zbC L=zbC (L.drop k)
theorem zmN(a:RuArg)(w:World)(h:RuLies w w.heap.size a)(hs:zdb a)(ha:LibOk w):Calls prog 27 #[a.value] w (zbl (zbf argC a.set) w):=by
 have u:=λ(x:RuM) (hx:x∈a.l) W (hb:w W)=>zyl x W ((h.all x hx).keep hb hb.size) (hs.all x hx) (ha.below hb)
 have v:=λk (hk:k<=a.l.length) I g W (hb:w W)=>zqT a.l k hk I a.A a.c g W ((h.sl.below hb).more hb.size) hs.len
 have hE:=λW (hb:w W) k (hk:k<a.l.length)=>zwL (h.sl.below hb) k hk
 have hh:zbf argC a.set=if a.most<1\/1000000<a.most\/a.status<400\/599<a.status then 1 else if 40<(a.l.map RuM.r).length then 2 else if goC argC [] (a.l.map RuM.r)≠0 then goC argC [] (a.l.map RuM.r)else zbC (a.l.map RuM.r):=rfl;have hA:∀o,w (w.alloc o):=λo=>WaL
 have hc:(a.l.map RuM.r).length=a.l.length:=Qh _;have hy:=h.cap;have hU:=hs.len;have he:∀k (hk:k<a.l.length) (hv:k<(a.l.map RuM.r).length),(a.l.map RuM.r)[k]'hv=a.l[k].r:=λk hk hv=>Zm _
 unfold RuArg.value;generalize zbf argC a.set=p at *;obtain⟨most,E,A,c,l⟩:=a;dsimp only at *;have HS:=hIx (zum argC (l.map RuM.r));have hJ:=hIx (znP (l.map RuM.r));have hL:=hIx (zna (l.map RuM.r));have hg:=hIx u;have h4:=hIx v;have hq:=hIx hE;have HD:=hIx hh;have T:=hIx hA;have U:=hIx hc;have HG:=hIx he;clear u v hE h hs ha hh hA hc he;unfold zbl
 go_in
 by_cases c1:most<1
 ·have HR:Hid (p=1):=hIx (by rw[HD.out,Qg (.inl c1)])
  go_wp2;go_ret;exact⟨zac HR.out.symm,T.out _⟩
 by_cases c2:1000000<most
 ·have HR:Hid (p=1):=hIx (by rw[HD.out,Qg (by omega)])
  go_wp2;go_ret;exact⟨zac HR.out.symm,T.out _⟩
 by_cases c3:E<400
 ·have HR:Hid (p=1):=hIx (by rw[HD.out,Qg (by omega)])
  go_wp2;go_ret;exact⟨zac HR.out.symm,T.out _⟩
 by_cases c4:599<E
 ·have HR:Hid (p=1):=hIx (by rw[HD.out,Qg (by omega)])
  go_wp2;go_ret;exact⟨zac HR.out.symm,T.out _⟩
 by_cases c5:40<l.length
 ·have HR:Hid (p=2):=hIx (by rw[HD.out,Qe (by omega),Qg (by rw[U.out];exact c5)])
  have d5:decide (40<(l.length:Int))=true:=by simp;omega
  go_wp2;go_ret;exact⟨zac HR.out.symm,T.out _⟩
 have d5:decide (40<(l.length:Int))=false:=by simp;omega
 have J:Hid (p=if goC argC [] (l.map RuM.r)≠0 then goC argC [] (l.map RuM.r)else zbC (l.map RuM.r)):=hIx (by rw[HD.out,Qe (by omega),Qe (by rw[U.out];exact c5)]);clear HD;obtain⟨W0,h9⟩:∃W0,W0=w.alloc (.cells #[jA most,jA E,.slice A l.length c] 24):=⟨_,rfl⟩
 have hD:Hid (∀W,Below (w.heap.size+1) W0 W->W.cell? ⟨w.heap.size,2,none⟩=some (.slice A l.length c)/\w W):=λW hb=>by
  subst h9;obtain⟨a,b⟩:=zbs hb;exact⟨a 2,b⟩
 have hz:w.heap.size+1<=W0.heap.size:=by rw[h9];simp
 go_wp2_with fail;rw[<-h9];clear h9 T c1 c2 c3 c4
 go_loopw [33] (λi wr=>zwH (l.map RuM.r) w W0 i wr) (λi _=>l.length-(intOf i).toNat)
 case atStart=>exact⟨0,Qm _,rfl,Qj _ _,rfl⟩
 case round=>
  obtain⟨k,hk,rfl,Y,hr⟩:=hrel;rw[U.out]at hk;obtain⟨x2,H⟩:=hD.out wr Y;have hC:w.heap.size+1<=wr.heap.size:=Ql hz Y.size;have hH:=hIx Y;have HR:=hIx hr
  by_cases G:k<l.length
  ·obtain⟨b,off,rfl,hI,d⟩:=hq.out wr H k G
   have u:=hg.out l[k] (Qz G);have V:=HS.out k (by rw[U.out];exact G);rw[HG.out k G _]at V;have v:=λI g W hb=>h4.out k hk I g W hb
   rw[<-hr]at V;have q0:=d 0 (by decide) _ rfl;have q1:=d 1 (by decide) _ rfl;have q2:=d 2 (by decide) _ rfl;have q3:=d 3 (by decide) _ rfl;have q4:=d 4 (by decide) _ rfl;have q5:=d 5 (by decide) _ rfl;have q6:=d 6 (by decide) _ rfl;have q7:=d 7 (by decide) _ rfl;have q8:=d 8 (by decide) _ rfl;rw[XI]at q0;generalize l[k]=X at *;obtain⟨⟨I,L,D,C,no,op,h5,z,n⟩,vA,vc,pA,pc,aA,ac⟩:=X;unfold za4 at u;dsimp only at q0 q1 q2 q3 q4 q5 q6 q7 q8 V u;generalize oneC argC ⟨I,L,D,C,no,op,h5,z,n⟩=oc at *;generalize D.length=nv at *;generalize C.length=np at *;generalize z.length=na at *;have i1:(k:Int)<=(c:Int):=by have:=hy;omega
   have hB:Hid (∀W,Below (wr.heap.size+1) (wr.alloc (.cells #[jA I,jA L,.slice vA nv vc,.slice pA np pc,.bool no,jA op,.string h5,.slice aA na ac,.bool n] 42)) W->(∀j,W.cell? ⟨wr.heap.size,j,none⟩=(#[jA I,jA L,.slice vA nv vc,.slice pA np pc,.bool no,jA op,.string h5,.slice aA na ac,.bool n]:Array Value)[j]?)/\wr W):=λW hb=>zbs hb
   have h8:=hIx V;have ht:=hIx u;have P:=hIx v;have O:Hid (∀o,w (wr.alloc o)):=λo=>H.alloc H.size o
   have hR:∀o,(wr.alloc o).cell? ⟨w.heap.size,2,none⟩=some (.slice (some ⟨b,off,none⟩) l.length c):=λo=>zaa ((Qj _ _).alloc (Qc _) o) x2
   clear d V u v Y hr
   by_cases c1:I<1
   ·have f:Hid (p=1):=hIx (by have e:=h8.out;rw[Qg (.inl c1)]at e;rw[J.out,e,Qg (by decide)])
    go_wp2;go_ret;exact⟨zac f.out.symm,O.out _⟩
   by_cases c2:9999<I
   ·have f:Hid (p=1):=hIx (by have e:=h8.out;rw[Qg (by omega)]at e;rw[J.out,e,Qg (by decide)])
    go_wp2;go_ret;exact⟨zac f.out.symm,O.out _⟩
   by_cases c3:L≠1/\L≠2
   ·have f:Hid (p=1):=hIx (by have e:=h8.out;rw[Qg (by omega)]at e;rw[J.out,e,Qg (by decide)])
    have e1:(L != 1)=true:=Q7.2 c3.1;have e2:(L != 2)=true:=Q7.2 c3.2;go_wp2;go_ret;exact⟨zac f.out.symm,O.out _⟩
   have hO:L=1\/L=2:=by omega
   have h6:Hid (goC argC [] (l.map RuM.r)=if ((l.map RuM.r).take k).any (λy=>y.id==I)=true then 9 else if oc≠0 then oc else goC argC ((l.map RuM.r).take (k+1)) ((l.map RuM.r).drop (k+1))):=hIx (by rw[h8.out,Qe (by omega)]);clear h8 c3;have HC:=hIx λo (h:(wr.alloc o).cell? ⟨wr.heap.size,0,none⟩=some (jA I))=>P.out I wr.heap.size (wr.alloc o) (O.out o) (by simp) h
   clear P;have hi:∀cs t,cs[0]? = some (jA I)->(wr.alloc (.cells cs t)).cell? ⟨wr.heap.size,0,none⟩=some (jA I):=λcs t h=>(Qf _ _ 0 cs t (0,0) (Qt wr _)).trans h
   have hw:=hIx hi;clear hi
   rcases hO with rfl|rfl
   all_goals
    generalize ((l.map RuM.r).take k).any (λy=>y.id==I)=an at *;go_wp2_with fail;refine(HC.out _ (hw.out _ _ rfl)).mono ?_;rintro e w1 ⟨rfl,hG⟩;obtain⟨hn,N⟩:=hB.out w1 (by simpa using hG);clear hG;cases an with
    |true=>
     have f:Hid (p=9):=hIx (by rw[J.out,h6.out,Qg rfl,Qg (by decide)]);go_wp2;go_ret;exact⟨zac f.out.symm,H.trans (N.mono H.size)⟩
    |false=>
     have hd:Hid (goC argC [] (l.map RuM.r)=if oc≠0 then oc else goC argC ((l.map RuM.r).take (k+1)) ((l.map RuM.r).drop (k+1))):=hIx (by rw[h6.out,Qe (by decide)]);have n0:=hn 0;have n1:=hn 1;have n2:=hn 2;have n3:=hn 3;have n4:=hn 4;have n5:=hn 5;have n6:=hn 6;have n7:=hn 7;have n8:=hn 8;simp only[ZT,XL,Z9]at n0 n1 n2 n3 n4 n5 n6 n7 n8;clear hn h6;have s:=H.trans (N.mono H.size);have HO:=hIx (ht.out w1 s)
     by_cases co:oc=0
     ·subst co
      have h3:Hid (∀w2,w1 w2->zwH (l.map RuM.r) w W0 (jA ((k:Int)+1)) w2):=λw2 Z=>⟨k+1,by rw[U.out];omega,rfl,(hH.out.trans (N.mono hC)).trans (Z.mono (Ql hC N.size)),by rw[hd.out,Qe (by decide)]⟩
      go_wp2_with fail;refine HO.out.mono ?_;rintro e w2 ⟨rfl,Z⟩;have hF:=h3.out w2 Z;go_wp2;exact⟨hF,by simp[intOf] <;> omega⟩
     ·have f:Hid (p=oc):=hIx (by rw[J.out,hd.out,Qg co,Qg co])
      have qo:(oc==0)=false:=Qb.2 co;go_wp2_with fail;refine HO.out.mono ?_;rintro e w2 ⟨rfl,Z⟩;go_wp2;go_ret;exact⟨zac f.out.symm,s.trans (Z.mono s.size)⟩
  ·have hN:l.length<=k:=by omega
   have ho:Hid (p=zbC (l.map RuM.r)):=hIx (by
    have:goC argC [] (l.map RuM.r)=0:=by rw[hr,QN (by rw[U.out];exact hN)];rfl
    rw[J.out,this,Qe (by decide)])
   clear HS hg h4 J hr HR Y H;have i1:¬((k:Int)<(l.length:Int)):=by omega
   obtain⟨wo,rfl⟩:∃wo:World,wo=wr:=⟨_,rfl⟩
   go_wp2
   go_loopw [71] (λi wr=>zwJ (l.map RuM.r) w W0 i wr) (λi _=>l.length-(intOf i).toNat)
   case atStart=>exact⟨0,Qm _,rfl,hH.out,rfl⟩
   case round=>
    obtain⟨m,hm,rfl,B,Q⟩:=hrel;rw[U.out]at hm;obtain⟨y2,s⟩:=hD.out wr B;have hQ:=hIx B;have hT:=hIx Q;clear x2
    by_cases G:m<l.length
    ·obtain⟨b,off,rfl,hI,d⟩:=hq.out wr s m G
     have q0:=d 0 (by decide) _ rfl;have q1:=d 1 (by decide) _ rfl;have q2:=d 2 (by decide) _ rfl;have q3:=d 3 (by decide) _ rfl;have q4:=d 4 (by decide) _ rfl;have q5:=d 5 (by decide) _ rfl;have q6:=d 6 (by decide) _ rfl;have q7:=d 7 (by decide) _ rfl;have q8:=d 8 (by decide) _ rfl;rw[XI]at q0;have hS:∀o,(wr.alloc o).cell? ⟨w.heap.size,2,none⟩=some (.slice (some ⟨b,off,none⟩) l.length c):=λo=>zaa ((Qj _ _).alloc (Qc _) o) y2
     have h3:Hid (∀o,zbC (l.map RuM.r)=zbC ((l.map RuM.r).drop (m+1))->∀q,zwJ (l.map RuM.r) w W0 (jA ((m:Int)+1)) ((wr.alloc o).drewN q)):=λo h q=>⟨m+1,by rw[U.out];omega,rfl,below_drewN (B.alloc (Ql hz B.size) o) q,h⟩
     have hf:Hid (∀o q,w ((wr.alloc o).drewN q)):=λo q=>below_drewN (s.alloc s.size o) q
     by_cases hu:m+1=l.length
     ·have F:=hJ.out m (by rw[U.out];exact hu)
      rw[<-Q,HG.out m G _]at F;have hK:Hid (zbC ((l.map RuM.r).drop (m+1))=0):=hIx (by rw[QN (by rw[U.out];omega)];rfl);generalize l[m]=X at *;obtain⟨⟨I,L,D,C,no,op,h5,z,n⟩,vA,vc,pA,pc,aA,ac⟩:=X;dsimp only at q0 q1 q2 q3 q4 q5 q6 q7 q8 F;generalize D.length=nv at *;generalize C.length=np at *;generalize z.length=na at *;have e1:((m:Int)+1==(l.length:Int))=true:=by rw[Zo];omega
      have S:=hIx F;clear d F B Q;cases n with
      |true=>
       have f:Hid (p=1):=hIx (by rw[ho.out,S.out,Qg rfl]);go_wp2_with fail
       go_quiet (fail)
       go_wp2;go_ret;exact⟨zac f.out.symm,hf.out _ _⟩
      |false=>
       have h0:Hid (zbC (l.map RuM.r)=zbC ((l.map RuM.r).drop (m+1))):=hIx (by rw[S.out,hK.out,Qe (by decide)]);go_wp2_with fail
       go_quiet (fail)
       go_wp2;exact⟨h3.out _ h0.out _,by simp[intOf] <;> omega⟩
     ·have h7:m+1<l.length:=by omega
      obtain⟨b',hP,e',_,K⟩:=hq.out wr s (m+1) h7;injection e' with e'
      injection e' with e1 e2
      subst e1;subst e2
      have r1:=K 1 (by decide) _ rfl;have r2:∀o,(wr.alloc o).cell? ⟨b,off+(m+1)*9+1,none⟩=some (jA l[m+1].r.phase):=λo=>zaa ((Qj _ _).alloc (Qc _) o) r1
      have F:=hL.out m (by rw[U.out];exact h7);rw[<-Q,HG.out m G _,HG.out (m+1) h7 _]at F;generalize l[m+1].r.phase=hj at *;generalize l[m]=X at *;obtain⟨⟨I,L,D,C,no,op,h5,z,n⟩,vA,vc,pA,pc,aA,ac⟩:=X;dsimp only at q0 q1 q2 q3 q4 q5 q6 q7 q8 F;generalize D.length=nv at *;generalize C.length=np at *;generalize z.length=na at *;have e1:((m:Int)+1==(l.length:Int))=false:=Qb.2 (by omega);have S:=hIx F;clear d K F B Q r1;cases n with
      |true=>
       by_cases hp:hj=L
       ·have h0:Hid (zbC (l.map RuM.r)=zbC ((l.map RuM.r).drop (m+1))):=hIx (by rw[S.out,Qe (λh=>h.2 hp)])
        have e3:(hj != L)=false:=by rw[hp];simp
        go_wp2_with fail
        go_quiet (fail)
        go_wp2;exact⟨h3.out _ h0.out _,by simp[intOf] <;> omega⟩
       ·have f:Hid (p=1):=hIx (by rw[ho.out,S.out,Qg ⟨rfl,hp⟩])
        have e3:(hj != L)=true:=Q7.2 hp;go_wp2_with fail
        go_quiet (fail)
        go_wp2;go_ret;exact⟨zac f.out.symm,hf.out _ _⟩
      |false=>
       have h0:Hid (zbC (l.map RuM.r)=zbC ((l.map RuM.r).drop (m+1))):=hIx (by rw[S.out,Qe (λh=>absurd h.1 (by decide))]);go_wp2_with fail
       go_quiet (fail)
       go_wp2;exact⟨h3.out _ h0.out _,by simp[intOf] <;> omega⟩
    ·have f:Hid (p=0):=hIx (by rw[ho.out,Q,QN (by rw[U.out];omega)];rfl)
     have i2:¬((m:Int)<(l.length:Int)):=by omega
     go_wp2;go_ret;exact⟨zac f.out.symm,s⟩
def R9(w:World)(g:Nat)(c d e h a i j f b:Value):Prop:=w.heap[g]? = some (.cells #[c,d,e,h,a,i,j,f,b] 42 (0,0))
section
variable {w w':World} {g B:Nat} {a0 a1 a2 a3 a4 a5 a6 a7 a8:Value}
theorem R9.cell(h:R9 w g a0 a1 a2 a3 a4 a5 a6 a7 a8)(j:Nat):w.cell? ⟨g,j,none⟩=(#[a0,a1,a2,a3,a4,a5,a6,a7,a8]:Array Value)[j]? := Qf w g j _ _ (0,0) h
theorem R9.lt(h:R9 w g a0 a1 a2 a3 a4 a5 a6 a7 a8):g<w.heap.size:=by
 unfold R9 at h;rw[QV]at h;exact h.1
end
theorem zju{w w':World}{v v':Value}{b m n l size a:Nat}{e j:TypeId}{xs d:List Value}(h:w.ownsRow b e size v n xs)(r:w.ownsRow m j a v' l d)(f:j≠e)(p:∀g,g<w.heap.size->v'.ownBlock≠some g->w'.heap[g]? = w.heap[g]?):w'.ownsRow b e size v n xs:=by
 refine⟨h.1,?_⟩
 rcases h.2 with o|⟨g,cap,i,h1,h2,k,q⟩
 ·exact .inl o
 ·have c:=(QK h g (by rw[h1];rfl)).2
  exact .inr ⟨g,cap,i,h1,h2,(p g c (zbx r k f)).trans k,q⟩
def R3(w:World)(g:Nat)(m a:Int)(v:Value):Prop:=w.heap[g]? = some (.cells #[jA m,jA a,v] 24 (0,0))
section
variable {w w':World} {g:Nat} {m st:Int} {v:Value}
theorem R3.cell(h:R3 w g m st v):w.cell? g=some (jA m)/\w.cell? ⟨g,1,none⟩=some (jA st)/\w.cell? ⟨g,2,none⟩=some v:=⟨Qf w g 0 _ _ (0,0) h,Qf w g 1 _ _ (0,0) h,Qf w g 2 _ _ (0,0) h⟩
end
theorem zo9:(prog.info? 142).map (·.size)=some 2:=by kernel_rfl
theorem zvi:liesAt prog prog.depth 142 (2 / prog.cellsOf 142) 0 142 1=true:=by kernel_rfl
theorem zjo(b:Nat)(w:World)(c:w.cell? b=some (.pointer b)):
 Calls prog 95 #[.pointer b] w λe w'=>e=jC (.tuple #[])/\w'=w:=by
 obtain⟨j,a,_⟩:=XQ.1 zo9
 go_in
 go_wp2_with fail;rw[Lib.run_neq_ptr_same w _ underlying139 a];go_wp2_with fail
 go_end0
 exact⟨rfl,rfl⟩
theorem ziT(b:Nat)(w:World)(g:w.cell? b=some (.pointer none))(a:w.shape? b=some (142,2))(f:w.frozen? ⟨b,0,none⟩=false):
 Calls prog 95 #[.pointer b] w λe w'=>e=jC (.tuple #[])/\w'=w.setCell b (.pointer b):=by
 obtain⟨j,d,c⟩:=XQ.1 zo9
 go_in
 go_wp2_with fail;rw[Lib.run_to_unsafe w ⟨b,0,none⟩ underlying139 underlying218 d (by rw[c];decide) a (Nat.zero_lt_succ 1)];simp only[Result.andThen];rw[Oper.upon_value];go_wp2_with fail;rw[run_callFunc_extern func130 (by kernel_rfl) (by kernel_rfl) (by kernel_rfl) (e:=Extern.AbiNoEscape.same) (by kernel_rfl)];rw[Lib.run_noEscape];simp only[Result.andThen];rw[Oper.upon_value];go_wp2_with fail;rw[Lib.run_from_unsafe w ⟨b,0,none⟩ underlying218 underlying139 d a zvi];simp only[Result.andThen];rw[Oper.upon_value];go_wp2_with fail
 go_end0
 exact⟨rfl,rfl⟩
theorem zkQ(B b:Nat)(bs:List Value)(w:World)(h:Lib.IsBuilder 142 5 B b bs w):
 Calls prog 95 #[.pointer b] w λe w'=>e=jC (.tuple #[])/\Lib.BuilderAt 142 5 B b (.pointer b) bs w'/\Below B w w':=by
 rcases h with h|h
 ·refine(ziT b w h.cell0 h.shape h.frozen0).mono ?_
  rintro e w' ⟨rfl,rfl⟩;exact⟨rfl,h.used _,(Qj B w).setCell (p:=⟨b,0,none⟩) h.1 _⟩
 ·refine(zjo b w h.cell0).mono ?_
  rintro e w' ⟨rfl,rfl⟩;exact⟨rfl,h,Qj B _⟩
theorem zcL(B b:Nat)(bs:List Value)(s:ByteArray)(w:World)(h:Lib.IsBuilder 142 5 B b bs w)(z:bs.length+s.size<=140737488355328)(G:B<=w.heap.size):
 Calls prog 62 #[.pointer b,.string s] w λe w'=>e=jC (.tuple #[jA s.size,.nilIface])/\Lib.BuilderAt 142 5 B b (.pointer b) (bs++Lib.strCells s) w'/\Below B w w':=by
 obtain⟨E,H,o,r,t⟩:=ZG zli;have D:=hIx (zkQ B b bs w h);clear h
 go_in
 go_wp2_with fail;refine D.out.mono ?_;rintro e l ⟨rfl,h1,j⟩;obtain⟨A,v,d,i,n⟩:=h1;have c0:l.cell? b=some (.pointer b):=by rw[Lib.cell_of_heap d];rfl
 have c1:l.cell? ⟨b,1,none⟩=some v:=by rw[Lib.cell_of_heap d];rfl
 go_wp2_with (at_builtin;refine Lib.wpList_append_own_string _ rfl _ _ 140 9 rfl B 5 E underlying140 underlying9 H o r t _ _ _ rfl i s rfl ?c3 ?c4 ?c5 ?_)
 case c3=>unfold maxLen;omega
 case c4=>omega
 case c5=>have:=j.size;omega
 intro v' w2 a c _
 have m:b<l.heap.size:=by
  rcases ZI b l.heap.size with q|q
  ·exact q
  ·simp[ZZ q]at d
 have f:w2.heap[b]? = some (.cells #[.pointer b,v] 142 (0,0)):=by
  rw[c.block b m (λe=>n e.symm)];exact d
 have K:w2.cell? b=some (.pointer b):=by rw[Lib.cell_of_heap f];rfl
 have J:w2.cell? ⟨b,1,none⟩=some v:=by rw[Lib.cell_of_heap f];rfl
 have I:w2.frozen? ⟨b,1,none⟩=false:=Lib.frozen_of_heap f 1
 obtain⟨y,x,cap,rfl⟩:∃y x cap,v'=.slice y x cap:=by
  rcases a.2 with ⟨u,_⟩|⟨g,cap,F,u,_⟩
  ·exact⟨_,_,_,u⟩
  ·exact⟨_,_,_,u⟩
 go_wp2;exact Qi (v:=.tuple #[jA s.size,.nilIface]) (by simp[results,results62,go_sem]) rfl ⟨rfl,Lib.BuilderAt.put (T:=142) (e:=5) A f (bs':=bs++Lib.strCells s) (by simpa[Lib.strCells_length]using a) (by decide),(j.grown c (by have:=j.size;omega) (λk C=>(i.lt k C).1)).setCell (p:=⟨b,1,none⟩) A _⟩
def zeC:ByteArray:=ByteArray.mk #[101,118,105,108]
def zeK:ByteArray:=ByteArray.mk #[100,114,111,112,124,115,101,108,101,99,116]
def zaE:zeG:=⟨10,403,[⟨1,1,[⟨3,0,ByteArray.mk #[]⟩],[],false,4,zeC,[⟨2,404⟩],false⟩,⟨2,2,[⟨6,0,ByteArray.mk #[]⟩],[1],false,2,zeK,[⟨3,10⟩],false⟩]⟩
theorem znH:zby zeK=[⟨#[100,114,111,112]⟩,⟨#[115,101,108,101,99,116]⟩]:=by decide+kernel
theorem zwx:argC 2 zeK=0:=by
 have h:mkC (zby zeK)=0:=by
  rw[znH];exact zsX.2 ⟨zcr (by decide+kernel),zvh (by decide+kernel)⟩
 unfold argC;rw[Qe (by decide),Qg rfl,h];rfl
theorem zv0:argC 4 zeC=0:=by
 unfold argC;rw[Qe (by decide),Qe (by decide),Qe (by decide),Qe (by decide),Qe (by decide),Qe (by decide),Qe (by decide)]
theorem zkt(f:Int->ByteArray->Int)(h1:f 4 zeC=0)(h2:f 2 zeK=0):zbf f zaE=0:=by
 have g:zaS varC [⟨3,0,ByteArray.mk #[]⟩]=0:=by decide
 have e:zaS varC [⟨6,0,ByteArray.mk #[]⟩]=0:=by decide
 have b:zaS actC [⟨2,404⟩]=0:=by decide
 have c:zaS actC [⟨3,10⟩]=0:=by decide
 have a:zbw []=0:=by decide
 have d:zbw [1]=0:=by decide
 simp[zbf,zaE,goC,oneC,zbC,g,e,b,c,a,d,h1,h2]
theorem zgA:zbf argC zaE=0:=zkt argC zv0 zwx
theorem zbu(w:World)(o:Obj)(g:Nat)(h:w.heap.size=g):(w.alloc o).heap[g]? = some o:=by rw[<-h];exact Qt w o
theorem zdM{w:World}{g B n size:Nat}{xs:List Value}{t:TypeId}(h:w.heap[g]? = some (.cells xs.toArray t (0,0)))(b:g<B)(hl:xs.length=n*size):Sl w B size (some ⟨g,0,none⟩) n xs:=
 ⟨hl,λ_=>⟨g,0,rfl,b,λj a=>by rw[Zh,Qf w g j _ _ (0,0) h,ZT,Qd a]⟩⟩
theorem znr(w F:World)(a:F=(((((((w.alloc (.cells #[jA 10,jA 403,.slice (w.heap.size+1+1+1+1+1+1:) 2 2] 24)).alloc (.cells #[jA 3,jA 0,.string (.mk #[])] 55)).alloc (.cells #[jA 2,jA 404] 44)).alloc (.cells #[jA 6,jA 0,.string (.mk #[])] 55)).alloc (.cells #[jA 1] 3)).alloc (.cells #[jA 3,jA 10] 44)).alloc (.cells #[jA 1,jA 1,.slice (w.heap.size+1:) 1 1,jD 0 0,.bool false,jA 4,.string zeC,.slice (w.heap.size+1+1:) 1 1,.bool false,jA 2,jA 2,.slice (w.heap.size+1+1+1:) 1 1,.slice (w.heap.size+1+1+1+1:) 1 1,.bool false,jA 2,.string zeK,.slice (w.heap.size+1+1+1+1+1:) 1 1,.bool false] 42))):((⟨10,403,some ⟨w.heap.size+1+1+1+1+1+1,0,none⟩,2,[⟨⟨1,1,[⟨3,0,ByteArray.mk #[]⟩],[],false,4,zeC,[⟨2,404⟩],false⟩,some ⟨w.heap.size+1,0,none⟩,1,none,0,some ⟨w.heap.size+1+1,0,none⟩,1⟩,⟨⟨2,2,[⟨6,0,ByteArray.mk #[]⟩],[1],false,2,zeK,[⟨3,10⟩],false⟩,some ⟨w.heap.size+1+1+1,0,none⟩,1,some ⟨w.heap.size+1+1+1+1,0,none⟩,1,some ⟨w.heap.size+1+1+1+1+1,0,none⟩,1⟩]⟩:RuArg)).set=zaE/\RuLies F F.heap.size (⟨10,403,some ⟨w.heap.size+1+1+1+1+1+1,0,none⟩,2,[⟨⟨1,1,[⟨3,0,ByteArray.mk #[]⟩],[],false,4,zeC,[⟨2,404⟩],false⟩,some ⟨w.heap.size+1,0,none⟩,1,none,0,some ⟨w.heap.size+1+1,0,none⟩,1⟩,⟨⟨2,2,[⟨6,0,ByteArray.mk #[]⟩],[1],false,2,zeK,[⟨3,10⟩],false⟩,some ⟨w.heap.size+1+1+1,0,none⟩,1,some ⟨w.heap.size+1+1+1+1,0,none⟩,1,some ⟨w.heap.size+1+1+1+1+1,0,none⟩,1⟩]⟩:RuArg)/\zdb (⟨10,403,some ⟨w.heap.size+1+1+1+1+1+1,0,none⟩,2,[⟨⟨1,1,[⟨3,0,ByteArray.mk #[]⟩],[],false,4,zeC,[⟨2,404⟩],false⟩,some ⟨w.heap.size+1,0,none⟩,1,none,0,some ⟨w.heap.size+1+1,0,none⟩,1⟩,⟨⟨2,2,[⟨6,0,ByteArray.mk #[]⟩],[1],false,2,zeK,[⟨3,10⟩],false⟩,some ⟨w.heap.size+1+1+1,0,none⟩,1,some ⟨w.heap.size+1+1+1+1,0,none⟩,1,some ⟨w.heap.size+1+1+1+1+1,0,none⟩,1⟩]⟩:RuArg)/\w F/\R3 F w.heap.size 10 403 (.slice (w.heap.size+1+1+1+1+1+1:) 2 2):=by
 have i:F.heap.size=w.heap.size+7:=by rw[a];simp
 have g:F.heap[w.heap.size]? = some (.cells #[jA 10,jA 403,.slice (w.heap.size+1+1+1+1+1+1:) 2 2] 24 (0,0)):=by rw[a];exact(Qr _ _ _ (by simp only[Qp];omega)).trans ((Qr _ _ _ (by simp only[Qp];omega)).trans ((Qr _ _ _ (by simp only[Qp];omega)).trans ((Qr _ _ _ (by simp only[Qp];omega)).trans ((Qr _ _ _ (by simp only[Qp];omega)).trans ((Qr _ _ _ (by simp only[Qp];omega)).trans (zbu _ _ _ (by first|rfl|simp only[Qp])))))))
 have h1:F.heap[w.heap.size+1]? = some (.cells #[jA 3,jA 0,.string (.mk #[])] 55 (0,0)):=by rw[a];exact(Qr _ _ _ (by simp only[Qp];omega)).trans ((Qr _ _ _ (by simp only[Qp];omega)).trans ((Qr _ _ _ (by simp only[Qp];omega)).trans ((Qr _ _ _ (by simp only[Qp];omega)).trans ((Qr _ _ _ (by simp only[Qp];omega)).trans (zbu _ _ _ (by first|rfl|simp only[Qp]))))))
 have h2:F.heap[w.heap.size+1+1]? = some (.cells #[jA 2,jA 404] 44 (0,0)):=by rw[a];exact(Qr _ _ _ (by simp only[Qp];omega)).trans ((Qr _ _ _ (by simp only[Qp];omega)).trans ((Qr _ _ _ (by simp only[Qp];omega)).trans ((Qr _ _ _ (by simp only[Qp];omega)).trans (zbu _ _ _ (by first|rfl|simp only[Qp])))))
 have h:F.heap[w.heap.size+1+1+1]? = some (.cells #[jA 6,jA 0,.string (.mk #[])] 55 (0,0)):=by rw[a];exact(Qr _ _ _ (by simp only[Qp];omega)).trans ((Qr _ _ _ (by simp only[Qp];omega)).trans ((Qr _ _ _ (by simp only[Qp];omega)).trans (zbu _ _ _ (by first|rfl|simp only[Qp]))))
 have e:F.heap[w.heap.size+1+1+1+1]? = some (.cells #[jA 1] 3 (0,0)):=by rw[a];exact(Qr _ _ _ (by simp only[Qp];omega)).trans ((Qr _ _ _ (by simp only[Qp];omega)).trans (zbu _ _ _ (by first|rfl|simp only[Qp])))
 have f:F.heap[w.heap.size+1+1+1+1+1]? = some (.cells #[jA 3,jA 10] 44 (0,0)):=by rw[a];exact(Qr _ _ _ (by simp only[Qp];omega)).trans (zbu _ _ _ (by first|rfl|simp only[Qp]))
 have d:F.heap[w.heap.size+1+1+1+1+1+1]? = some (.cells #[jA 1,jA 1,.slice (w.heap.size+1:) 1 1,jD 0 0,.bool false,jA 4,.string zeC,.slice (w.heap.size+1+1:) 1 1,.bool false,jA 2,jA 2,.slice (w.heap.size+1+1+1:) 1 1,.slice (w.heap.size+1+1+1+1:) 1 1,.bool false,jA 2,.string zeK,.slice (w.heap.size+1+1+1+1+1:) 1 1,.bool false] 42 (0,0)):=by rw[a];exact zbu _ _ _ (by first|rfl|simp only[Qp])
 have hb:w F:=by
  rw[a];exact((((((WaL.alloc (by simp) _).alloc (by simp;omega) _).alloc (by simp;omega) _).alloc (by simp;omega) _).alloc (by simp;omega) _).alloc (by simp;omega) _)
 refine⟨rfl,⟨zdM d (by omega) rfl,λx b=>?_,Qc _⟩,⟨by show 2<=1048576;decide,λx b=>?_⟩,hb,g⟩
 ·rcases QI.1 b with rfl|b
  ·exact⟨zdM h1 (by omega) rfl,Sl.nil _ _ _ _,zdM h2 (by omega) rfl⟩
  ·rw[Qy.1 b]
   exact⟨zdM h (by omega) rfl,zdM e (by omega) rfl,zdM f (by omega) rfl⟩
 ·rcases QI.1 b with rfl|b
  ·exact⟨by show 1<=1048576;decide,λv c=>by rw[Qy.1 c];show 0<=1048576;decide,by show 0<=1048576;decide,by show zeC.size<=1048576;decide,by show 1<=1048576;decide⟩
  ·rw[Qy.1 b]
   exact⟨by show 1<=1048576;decide,λv c=>by rw[Qy.1 c];show 0<=1048576;decide,by show 1<=1048576;decide,by show zeK.size<=1048576;decide,by show 1<=1048576;decide⟩
theorem zp9(w:World):Calls prog 8 #[] w λe w'=>∃a:RuArg,e=jC a.value/\a.set=zaE/\RuLies w' w'.heap.size a/\zdb a/\w w':=by
 obtain⟨F,c⟩:∃F,F=(((((((w.alloc (.cells #[jA 10,jA 403,.slice (w.heap.size+1+1+1+1+1+1:) 2 2] 24)).alloc (.cells #[jA 3,jA 0,.string (.mk #[])] 55)).alloc (.cells #[jA 2,jA 404] 44)).alloc (.cells #[jA 6,jA 0,.string (.mk #[])] 55)).alloc (.cells #[jA 1] 3)).alloc (.cells #[jA 3,jA 10] 44)).alloc (.cells #[jA 1,jA 1,.slice (w.heap.size+1:) 1 1,jD 0 0,.bool false,jA 4,.string zeC,.slice (w.heap.size+1+1:) 1 1,.bool false,jA 2,jA 2,.slice (w.heap.size+1+1+1:) 1 1,.slice (w.heap.size+1+1+1+1:) 1 1,.bool false,jA 2,.string zeK,.slice (w.heap.size+1+1+1+1+1:) 1 1,.bool false] 42)):=⟨_,rfl⟩
 have b:=hIx (znr w F c);have d:=hIx c;clear c;unfold zeC zeK at d
 go_in
 go_wp2_with fail;rw[<-d.out];exact Qi (v:=.agg #[jA 10,jA 403,.slice (w.heap.size+1+1+1+1+1+1:) 2 2]) (by simp[results,results8,go_sem,b.out.2.2.2.2.cell.1,b.out.2.2.2.2.cell.2.1,b.out.2.2.2.2.cell.2.2]) rfl ⟨(⟨10,403,some ⟨w.heap.size+1+1+1+1+1+1,0,none⟩,2,[⟨⟨1,1,[⟨3,0,ByteArray.mk #[]⟩],[],false,4,zeC,[⟨2,404⟩],false⟩,some ⟨w.heap.size+1,0,none⟩,1,none,0,some ⟨w.heap.size+1+1,0,none⟩,1⟩,⟨⟨2,2,[⟨6,0,ByteArray.mk #[]⟩],[1],false,2,zeK,[⟨3,10⟩],false⟩,some ⟨w.heap.size+1+1+1,0,none⟩,1,some ⟨w.heap.size+1+1+1+1,0,none⟩,1,some ⟨w.heap.size+1+1+1+1+1,0,none⟩,1⟩]⟩:RuArg),rfl,b.out.1,b.out.2.1,b.out.2.2.1,b.out.2.2.2.1⟩
