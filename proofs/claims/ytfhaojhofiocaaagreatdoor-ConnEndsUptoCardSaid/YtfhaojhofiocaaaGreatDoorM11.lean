/- Lemmas for the last texts. -/
import Derived.Test.YtfhaojhofiocaaaGreatDoorM10
import Derived.OrdersHeld
import Derived.StillTail
import Derived.Deep.RegionHeld
set_option maxHeartbeats 3200000
set_option maxRecDepth 100000
namespace Go.Proofs.YtfhaojhofiocaaaGreatDoor
open Go.RowKit Go.Proofs.Tryz
theorem srcI{wr:World}{B n:Nat}{A:Option Addr}{c:List Value}{g:Nat->Value}(h:Sl wr B 1 A n c){j:Nat}(o:j<n)(m:∀j,j<n->c[j]? = some (g j)):
 ∃b a,A=some ⟨b,a,none⟩/\wr.cell? ⟨b,a+j,none⟩=some (g j):=by
 have hl:=h.len;obtain⟨b,a,e,_,q⟩:=h.src (by omega);have l:=m j o
 have d:∀i v,c[i]? = some v->wr.cell? ⟨b,a+i,none⟩=some v:=λi v k=>by
  have f:i<c.length:=(Qy.1 k).1;rw[q i f,<-k,Qe f]
 exact⟨b,a,e,d _ _ l⟩
theorem zt7(g:Nat)(t:Array Value)(D:∀args w,(callFunc g args).run prog w=.ok (.enter g args) w)(A:Option Addr)(n c:Nat)(r:List Value)(x:Nat->Value)(p:Nat->Bool)(w:World)
 (h:Sl w w.heap.size 1 A n r) (s:n<=9223372036854775807) (v:∀j,j<n->r[j]? = some (x j))
 (q:∀W j,j<n->w W->Calls prog g (#[x j]++t) W (zaC (p j) W)):
 Calls prog 60 #[.slice A n c,.func (.func g) #[] t] w λe w'=>e=jC (jA (hitI p n))/\w w':=by
 have B:=hIx q;have C:=hIx v;clear q v
 go_in
 go_wp2
 go_loopw [5,8] (λ_ i wr=>∃j:Nat,j<=n/\i=jA j/\w wr/\Hid (∀i,i<j->p i=false)) (λ_ i _=>n-(intOf i).toNat)
 case atStart=>exact⟨0,Qn _,rfl,Qi _ _,λi u=>absurd u (by omega)⟩
 case round=>
  obtain⟨j,E,rfl,hb,a⟩:=hrel
  by_cases d:j<n
  ·obtain⟨b,z,rfl,y⟩:=srcI (h.below hb) d C.out
   have o:=B.out wr j d hb;cases l:p j with
   |true=>
    rw[l]at o;have f:=hIx (zmb p n j d l a);clear l;go_wp2_with (go_at_fn g;refine o.mono ?_;rintro e w' ⟨rfl,k⟩);go_ret;exact⟨zae f.out.symm,hb.trans (k.mono hb.size)⟩
   |false=>
    rw[l]at o
    have m:Hid (∀i,i<j+1->p i=false):=λi u=>by
     by_cases e:i=j
     ·rw[e];exact l
     ·exact a i (by omega)
    clear l a;go_wp2_with (go_at_fn g;refine o.mono ?_;rintro e w' ⟨rfl,k⟩)
    go_roundw
    case rel=>exact⟨j+1,by omega,by go_num,hb.trans (k.mono hb.size),m⟩
    case measure=>simp[intOf] <;> omega
  ·obtain rfl:j=n:=by omega
   have f:=hIx (zeH p j a);go_wp2;go_ret;exact⟨zae f.out.symm,hb⟩
theorem zjO(g:Nat)(d:Array Value)(l:∀args w,(callFunc g args).run prog w=.ok (.enter g args) w)(A:Option Addr)(n c:Nat)(b:List Value)(f:Nat->Value)(p:Nat->Bool)(w:World)
 (h:Sl w w.heap.size 1 A n b) (a:n<=9223372036854775807) (k:∀j,j<n->b[j]? = some (f j))
 (i:∀W j,j<n->w W->Calls prog g (#[f j]++d) W (zaC (p j) W)):
 Calls prog 43 #[.slice A n c,.func (.func g) #[] d] w (zaC (anyN p n) w):=by
 have o:=hIx (zt7 g d l A n c b f p w h a k i);have m:=hIx (zhM p n);clear i k h
 go_in
 go_wp2_with fail;refine o.out.mono ?_;rintro e q ⟨rfl,hb⟩;go_wp2;go_ret;exact⟨zaQ m.out,hb⟩
theorem NodesAt.below{ws b:List jE}{c:List zaD}{B d g cap i:Nat}{a:List zcK}{w w':World}(h:NodesAt ws b c B d g cap i a w)(hb:w w'):NodesAt ws b c B d g cap i a w':=
 ⟨h.own.below hb,h.fst,λj m l f=>(h.done j m l f).keep hb.size λk _ e=>hb.block k e,h.rest⟩
theorem TreeIs.below{w w':World}{e:Nat}{ws:List ByteArray}{g cap:Nat}{d:List zaD}{c:List jE}{b:List zcK}(h:TreeIs w e ws g cap d c b)(hb:w w'):TreeIs w' e ws g cap d c b:=by
 obtain⟨h1,h2,a,i,f⟩:=h;exact⟨h1,h2,a,i,f.below hb⟩
theorem TreeIs.len{w:World}{f:Nat}{ws:List ByteArray}{g cap:Nat}{a:List zaD}{e:List jE}{b:List zcK}(h:TreeIs w f ws g cap a e b):b.length=a.length/\0<a.length/\g<w.heap.size:=by
 obtain⟨h1,h2,d,i,c⟩:=h;exact⟨by rw[<-c.fst,Qk],(Qy.1 h1.inv.zero).1,(c.own.lt g rfl).2⟩
theorem TreeIs.at{w:World}{m:Nat}{ws:List ByteArray}{g cap:Nat}{c:List zaD}{i:List jE}{f:List zcK}(h:TreeIs w m ws g cap c i f)(k:Nat)(j:k<c.length):
 ∃s:SlT,w.cell? ⟨g,k*4,none⟩=some (.int .u8 c[k].b.toNat)/\w.cell? ⟨g,k*4+1,none⟩=some (jA (c[k].up:Int))/\w.cell? ⟨g,k*4+2,none⟩=some (jA (c[k].fail:Int))/\w.cell? ⟨g,k*4+3,none⟩=some (slV s)/\EndsAt w 0 s (zaW (lstS ws) (i.getD k [])):=by
 have hl:=h.len.1;obtain⟨h1,h2,n,o,d⟩:=h;have a:k<f.length:=by omega
 have e:f[k].1=c[k]:=by
  have:=d.fst;have l:(f.map Prod.fst)[k]? = c[k]? := by rw[this]
  rw[ZP,Qe a,Qe j]at l;exact QG l
 rw[<-e];exact⟨f[k].2,(d.own.at k a 0 (by decide)).1,(d.own.at k a 1 (by decide)).1,(d.own.at k a 2 (by decide)).1,(d.own.at k a 3 (by decide)).1,(d.done k _ j (Qe a)).lower (Qn _)⟩
theorem zhB{a:List zaD}{o:List jE}(g:Inv a o){l:List (zaP × Nat)}{i:Nat}(q:0<i)(c:i<a.length)(hl:NextOk (a.take i) l):zbH l ((a[i].up:Int),a[i].b)=none:=by
 cases h:zbH l ((a[i].up:Int),a[i].b)with
 |none=>rfl
 |some j=>
  obtain⟨m,n,k,d,hb⟩:=(hl _ _ j).1 h;have e:j<i:=by have:=(Qy.1 k).1;rw[QK]at this;omega
  rw[List.getElem?_take_of_lt e]at k;obtain⟨_,_,p,f,r,_,s,_⟩:=g.node i a[i] q (Qe c);have:=(g.kid r (j:=j) (b:=a[i].b)).2 ⟨m,n,k,d,hb⟩;exact absurd (g.inj this s) (by omega)
theorem zmm{a:List zaD}{e:List jE}(g:Inv a e){l:List (zaP × Nat)}{i:Nat}(f:0<i)(c:i<a.length)(hl:NextOk (a.take i) l):NextOk (a.take (i+1)) (l++[(((a[i].up:Int),a[i].b),i)]):=by
 have d:(a.take i).length=i:=by rw[QK];omega
 have:=hl.add a[i] (by omega) (zhB g f c hl);rw[d]at this;rw[Qu c];exact this
theorem zqo{b:List zaD}{d:List jE}(e:Inv b d):NextOk (b.take 1) []:=by
 have c:=e.zero;have a:=(Qy.1 c).1
 have:b.take 1=[⟨0,0,0⟩]:=by
  rw[show (1:Nat)=0+1 from rfl,Qu a,XD];rw[Qe a]at c;rw[QG c];rfl
 rw[this];exact NextOk.start
theorem zvw(k m B:Nat)(W:World)(a:k<m)(d:W.cell? B=some (jA (m:Int))):
 Calls prog 305 #[jA (k:Int),.pointer B] W (zaC false W):=by
 have c:decide ((k:Int)<0)=false:=by simp
 have b:decide ((m:Int)<=(k:Int))=false:=by simp;omega
 go_in
 go_wp2;go_ret;exact⟨by simp[a],Qi _ _⟩
theorem zoL{c:List zaD}{d:List jE}(e:Inv c d){l:List (zaP × Nat)}(h:NextOk (c.take 0) l):NextOk (c.take 1) l:=λa b j=>by
 rw[h a b j]
 constructor
 ·rintro⟨_,n,f,_⟩;simp at f
 ·intro h2;exact absurd ((zqo e a b j).2 h2) (by simp[zbH])
theorem zsn{w:World}{d:Nat}{s:SlT}{l:List Nat}(h:EndsAt w d s l):∀j,j<s.2.1->(l.flatMap rowI.cells)[j]? = some (jA ((l.getD j 0:Nat):Int)):=λj c=>by
 have a:j<l.length:=by rw[<-h.1];exact c
 have b:=zcA rowI.cells 1 (λ_=>rfl) l j 0 a (by decide);rw[show j*1+0=j by omega]at b;rw[b,Qr,Qe a]
 rfl
theorem zrN{ws:List ByteArray}{a:jE}{W:World}{s:SlT}{n B:Nat}(g:ws.length<=30)(h:EndsAt W n s (zaW (lstS ws) a))(m:B<W.heap.size)(i:W.cell? B=some (jA (ws.length:Int))):
 Calls prog 43 #[slV s,.func (.func 305) #[] #[.pointer B]] W (zaC false W):=by
 have f:=zha (lstS ws) a;have d:(lstS ws).length=ws.length:=by rw[lstS,Qk]
 have:=zjO 305 #[.pointer B] (enters_of func305 (by kernel_rfl) rfl) s.1 s.2.1 s.2.2 _ (λj=>jA (((zaW (lstS ws) a).getD j 0:Nat):Int)) (λ_=>false) W h.sl (by rw[h.1];omega) (zsn h) λW' j l hb=>by
  have c:j<(zaW (lstS ws) a).length:=by rw[<-h.1];exact l
  have k:(zaW (lstS ws) a).getD j 0∈zaW (lstS ws) a:=by rw[Qr,Qe c];exact QC c
  have b:=(zcM.1 k).1;rw[d]at b;exact zvw _ ws.length B W' b ((hb.cell (p:=⟨B,0,none⟩) m).trans i)
 have e:anyN (λ_=>false) s.2.1=false:=(zet _ _).2 λ_ _=>rfl
 rw[e]at this;exact this
def RelC(a:List zaD)(m b:Nat)(w:World)(v:Value)(wr:World):Prop:=
 ∃(k:Nat) (l:List (zaP × Nat)),k<=a.length/\v=jA (k:Int)/\w wr/\MpAt wr b l/\NextOk (a.take k) l/\wr.heap[w.heap.size]? = some (.cells #[jA (m:Int)] 3)
theorem zqb(ws:List ByteArray)(I:ws.length<=30)(lo g cap:Nat)(c:List zaD)(V:List jE)(N:List zcK)(w:World)(A:TreeIs w lo ws g cap c V N):
 Calls prog 296 #[.slice g N.length cap,jA (ws.length:Int)] w λe w'=>e=jC (jA 0)/\w w':=by
 obtain⟨hl,S,hg⟩:=A.len;have h4:=A.few;rw[hl];obtain⟨s0,_,y,z,_⟩:=A.at 0 S;have Z:c[0]=⟨0,0,0⟩:=by have:=A.lev.inv.zero;rw[Qe S]at this;exact QG this
 rw[Z]at y z;have hu:w.cell? ⟨g,1,none⟩=some (jA 0):=by simpa using y
 have hf:w.cell? ⟨g,2,none⟩=some (jA 0):=by simpa using z
 have d1:decide ((400:Int)<(c.length:Int))=false:=by simp;omega
 have U:decide ((30:Int)<(ws.length:Int))=false:=by simp;omega
 have d3:((c.length:Int)==0)=false:=Qc.2 (by omega);have Y:g≠w.heap.size:=by omega
 have E:=hIx A;have h6:=@run_makeMap prog;clear y z A
 go_in
 go_wp2
 go_loopw [37] (λv wr=>RelC c ws.length (w.heap.size+1) w v wr) (λv _=>c.length-(intOf v).toNat)
 case atStart=>
  refine⟨0,[],Qn _,rfl,WaL.alloc (by simp) _,⟨#[],0,?_,rfl⟩,?_,?_⟩
  ·have:=Qv (w.alloc (.cells #[jA (ws.length:Int)] 3)) (.map #[] 0)
   rw[Qp]at this;exact this
  ·intro a b j
   simp[zbH]
  ·exact(Qs _ _ _ (by simp)).trans (Qv w (.cells #[jA (ws.length:Int)] 3))
 case round=>
  obtain⟨k,l,hk,rfl,hb,hM,B,m⟩:=hrel;clear hu hf d1 U d3
  by_cases r:k<c.length
  ·obtain⟨s,c0,c1,c2,c3,H⟩:=(E.out.below hb).at k r
   have F:=Qo wr w.heap.size 0 _ _ _ m;have C:=zc0 m;have h7:g≠wr.heap.size:=by omega
   have q:Hid (∀o,Calls prog 43 #[slV s,.func (.func 305) #[] #[.pointer w.heap.size]] (wr.alloc o) (zaC false (wr.alloc o))):=hIx λo=>
    zrN I (H.keep (by simp) λj _ hj=>Qs _ _ _ hj) (by simp;omega) (zaa ((Qi _ _).alloc (Qd _) o) F)
   obtain⟨A5,n5,c5⟩:=s;unfold slV at c3 q;dsimp only at c3 q;have T:=hIx hb;have X:=hIx hM;have HN:=hIx B;have O:=hIx m;have t:w.heap.size+1<wr.heap.size:=by obtain⟨es,ck,h5,_⟩:=hM;exact zc0 h5
   by_cases G:k=0
   ·subst G
    simp only[XO,Ze]at c0 c1 c2 c3;clear H hM B hb m;go_wp2_with (go_at_call 43;refine(q.out _).mono ?_;rintro e w2 ⟨rfl,h⟩);have d:wr w2:=zaN h (Qd _);exact⟨⟨1,l,by omega,rfl,T.out.trans (d.mono (by omega)),X.out.keep (d.block _ t),zoL E.out.lev.inv HN.out,(d.block _ C).trans O.out⟩,by simp[intOf] <;> omega⟩
   ·obtain⟨K,L,_⟩:=E.out.lev.inv.node k c[k] (by omega) (Qe r)
    have f:=zhB E.out.lev.inv (by omega) r B;have i:=hIx (zmm E.out.lev.inv (by omega) r B);obtain⟨o,u⟩:=zdJ hM ((c[k].up:Int),c[k].b) k ⟨by omega,by show (c[k].up:Int)<_;omega⟩ f;have n:Hid (∀W:World,W.heap[w.heap.size+1]? = wr.heap[w.heap.size+1]? -> (Instr.mapUpdate 141 (.map (some (w.heap.size+1))) (.agg #[jA (c[k].up:Int),.int .u8 c[k].b.toNat]) (jA (k:Int))).run prog W=.ok () (ChangeMaps.setBlock W (w.heap.size+1) o)/\MpAt (ChangeMaps.setBlock W (w.heap.size+1) o) (w.heap.size+1) (l++[(((c[k].up:Int),c[k].b),k)])):=hIx u
    have D:Hid (∀W,wr W->(Instr.lookup 141 (.map (some (w.heap.size+1))) (.agg #[jA (c[k].up:Int),.int .u8 c[k].b.toNat]) true).run prog W=.ok (.tuple #[jA 0,.bool false]) W):=hIx λW hW=>by
     have:=zdg (w:=W) (hM.keep (hW.block _ t)) ((c[k].up:Int),c[k].b) ⟨by omega,by show (c[k].up:Int)<_;omega⟩;rw[f]at this;exact this
    generalize c[k]=x at *;obtain⟨xb,P,Q⟩:=x;dsimp only at c0 c1 c2 K L i n D;have t1:decide ((P:Int)<0)=false:=by simp
    have t2:decide ((k:Int)<=(P:Int))=false:=by simp;omega
    have t3:decide ((Q:Int)<0)=false:=by simp
    have t4:decide ((k:Int)<=(Q:Int))=false:=by simp;omega
    have t5:((k:Int)==0)=false:=Qc.2 (by omega);clear H hM B hb m u f;go_wp2_with (go_at_call 43;refine(q.out _).mono ?_;rintro e w2 ⟨rfl,h⟩;have d:wr w2:=zaN h (Qd _);have n0:=zar h 0;have n1:=zar h 1;have n2:=zar h 2;have h3:=D.out w2 d;have h8:=(n.out w2 (d.block _ t)).1);have J:=(n.out w2 (d.block _ t)).2;exact⟨⟨k+1,_,by omega,rfl,(T.out.trans (d.mono (by omega))).trans (zdd _ _ _ _ (by omega)),J,i.out,(zk0 _ _ _ _ (by omega)).trans ((d.block _ C).trans O.out)⟩,by simp[intOf] <;> omega⟩
  ·have e:k=c.length:=by omega
   clear B;go_wp2;go_ret;exact⟨rfl,hb⟩
abbrev HitP:=Nat × Nat
def rowH:RowT HitP where
 e:=374
 t:=359
 size:=2
 bytes:=16
 z:=.agg #[jA 0,jA 0]
 cells x:=[jA (x.1:Int),jA (x.2:Int)]
 hsz _:=rfl
 hpos:=by decide
 under:=underlying359
 info:=by kernel_rfl
 hz:=rfl
 one x u hu:=by
  simp only[QN,Zz,XA]at hu
  rcases hu with rfl|rfl <;> rfl
 hbytes:=by decide
def zbe(ws:List jE)(s:jE)(j:Nat):List HitP:=(zaW ws (s.take (j+1))).map λk=>(k,j+1)
def za7(ws:List jE)(s:jE)(i:Nat):List HitP:=(List.range i).flatMap (zbe ws s)
theorem zcX(ws:List jE)(s:jE)(i:Nat):za7 ws s (i+1)=za7 ws s i++zbe ws s i:=by
 unfold za7;rw[List.range_succ,Q7];simp
theorem zpK(ws:List jE)(s:jE){i n:Nat}(h:i<=n):za7 ws s i <+:za7 ws s n:=by
 induction n with
 |zero=>
  obtain rfl:i=0:=by omega
  exact List.prefix_refl _
 |succ n ih=>
  by_cases c:i=n+1
  ·subst c;exact List.prefix_refl _
  ·rw[zcX]
   exact(ih (by omega)).trans (Xr _ _)
theorem zka(ws:List jE)(s:jE)(h:ws.length<=30):∀i,(za7 ws s i).length<=30*i
 |0=>by simp[za7]
 |i+1=>by
  have:=zka ws s h i;have h2:(zbe ws s i).length<=30:=by unfold zbe;rw[Qk];exact Ql (zha _ _) h
  rw[zcX,Qb];omega
def zmq(ws:List jE)(s:jE)(m:Int):List HitP:=if m=1 then (za7 ws s s.length).take 1 else za7 ws s s.length
def zo7(ws:List jE)(s:jE)(m:Int)(w:World)(e:Ending)(w':World):Prop:=
 ∃v,e=jC v/\OwnG rowH w' w.heap.size v (zmq ws s m)/\w w'
def zzY(a:List zaD)(w:World)(v:Value)(wr:World):Prop:=
 ∃(k:Nat) (l:List (zaP × Nat)),k<=a.length/\v=jA (k:Int)/\w wr/\MpAt wr w.heap.size l/\NextOk (a.take k) l
def zAk(ws:List jE)(e:List jE)(s:ByteArray)(m:Int)(l:List (zaP × Nat))(w:World)(c d v:Value)(wr:World):Prop:=
 ∃(i a:Nat) (b:jE),i<=s.size/\v=jA (i:Int)/\d=jA (a:Int)/\e[a]? = some b/\zfF e (s.data.toList.take i) b/\OwnG rowH wr w.heap.size c (za7 ws s.data.toList i)/\(m=1->za7 ws s.data.toList i=[])/\w wr/\MpAt wr w.heap.size l
def zAv(g:List jE)(f:jE)(b:UInt8)(l:List (zaP × Nat))(w:World)(e d c:Value)(wr:World):Prop:=
 ∃a:Nat,e=jA (a:Int)/\d=jA (((zbH l ((a:Int),b)).getD 0:Nat):Int)/\c=.bool (zbH l ((a:Int),b)).isSome/\Hid (FailAt g f b a)/\wr=w
def zAs(ws:List jE)(s:ByteArray)(m:Int)(l:List (zaP × Nat))(i:Nat)(w:World)(a v:Value)(wr:World):Prop:=
 ∃q:Nat,q<=(zbe ws s.data.toList i).length/\v=jA (q:Int)/\OwnG rowH wr w.heap.size a (za7 ws s.data.toList i++(zbe ws s.data.toList i).take q)/\(m=1->za7 ws s.data.toList i++(zbe ws s.data.toList i).take q=[])/\w wr/\MpAt wr w.heap.size l
theorem zvA{c:List zaD}:NextOk (c.take 0) []:=λa b j=>by simp[zbH]
theorem zwn{ws:List jE}{s:jE}{i q:Nat}(e:i<s.length)(c:q<(zbe ws s i).length)(h:za7 ws s i++(zbe ws s i).take q=[]):[(zbe ws s i)[q]]=zmq ws s 1:=by
 obtain⟨h1,h2⟩:=List.append_eq_nil_iff.1 h;have a:za7 ws s (i+1) <+:za7 ws s s.length:=zpK ws s e
 have b:q=0:=by
  have:=Zm List.length h2;rw[QK,QP]at this;omega
 subst b;unfold zmq;rw[Qj rfl];rw[zcX,h1,List.nil_append]at a;obtain⟨t,d⟩:=a;rw[<-d]
 have:∀(L:List HitP) (h:0<L.length),[L[0]]=List.take 1 (L++t):=λL h=>by
  cases L with
  |nil=>exact absurd h (by simp)
  |cons y r=>rfl
 exact this _ c
theorem zup{ws:List jE}{s:jE}{m:Int}{i:Nat}(e:i=s.length)(h:m=1->za7 ws s i=[]):zmq ws s m=za7 ws s i:=by
 unfold zmq
 split
 ·rename_i a
  rw[<-e,h a];rfl
 ·rw[<-e]
theorem zjM(ws:List jE)(s:jE)(i:Nat):(zbe ws s i).length=(zaW ws (s.take (i+1))).length:=by unfold zbe;rw[Qk]
theorem zqi(ws:List jE)(s:jE)(i q:Nat)(h:q<(zbe ws s i).length)(h2:q<(zaW ws (s.take (i+1))).length):(zbe ws s i)[q]=((zaW ws (s.take (i+1)))[q],i+1):=Zo ..
theorem ztY{s:ByteArray}{i:Nat}(h:i<s.size):s.data.toList.take (i+1)=s.data.toList.take i++[s[i]]:=by
 rw[Qu (by simpa using h)];rfl
theorem zq7(ws:List ByteArray)(hG:zjh ws)(m:Int)(hm:m=1\/m=-1)(s:ByteArray)(hs:s.size<=8192)(lo g cap:Nat)(r:List zaD)(ss:List jE)(ms:List zcK)(w:World)(hT:TreeIs w lo ws g cap r ss ms):
 Calls prog 284 #[.slice g ms.length cap,.string s,jA m] w (zo7 (lstS ws) s.data.toList m w):=by
 obtain⟨hl,h0,hg⟩:=hT.len;have h4:=hT.few;rw[hl];have gd:g≠w.heap.size:=by omega
 have t:=hIx hT;have HG:=hIx hG;have hX:=hIx hm;have gl:=@run_makeMap prog;clear hT hG hm
 go_in
 go_wp2
 go_loopw [20] (λv wr=>zzY r w v wr) (λv _=>r.length-(intOf v).toNat)
 case atStart=>exact⟨0,[],Qn _,rfl,WaL,⟨#[],0,Qv w (.map #[] 0),rfl⟩,zvA⟩
 case round=>
  obtain⟨k,l,hk,rfl,hb,hM,hN⟩:=hrel
  by_cases V:k<r.length
  ·obtain⟨s4,c0,c1,c2,c3,_⟩:=(t.out.below hb).at k V
   have Y:w.heap.size<wr.heap.size:=by obtain⟨es,ck,h5,_⟩:=hM;exact zc0 h5
   have gm:g≠wr.heap.size:=by omega
   obtain⟨A5,n5,c5⟩:=s4;unfold slV at c3;dsimp only at c3;have Z:=hIx hb;have HM:=hIx hM;have HN:=hIx hN
   by_cases hV:k=0
   ·subst hV
    simp only[XO,Ze]at c0 c1 c2 c3;clear hM hN hb;go_wp2;exact⟨⟨1,l,by omega,rfl,Z.out.alloc Z.out.size _,HM.out.keep (Qs _ _ _ Y),zoL t.out.lev.inv HN.out⟩,by simp[intOf] <;> omega⟩
   ·have D:=zhB t.out.lev.inv (by omega) V hN
    have gk:=(t.out.lev.inv.node k r[k] (by omega) (Qe V)).1;have I:=hIx (zmm t.out.lev.inv (by omega) V hN);obtain⟨o,h6⟩:=zdJ hM ((r[k].up:Int),r[k].b) k ⟨by omega,by show (r[k].up:Int)<_;omega⟩ D;have J:Hid (∀W:World,W.heap[w.heap.size]? = wr.heap[w.heap.size]? -> (Instr.mapUpdate 141 (.map (some w.heap.size)) (.agg #[jA (r[k].up:Int),.int .u8 r[k].b.toNat]) (jA (k:Int))).run prog W=.ok () (ChangeMaps.setBlock W w.heap.size o)/\MpAt (ChangeMaps.setBlock W w.heap.size o) w.heap.size (l++[(((r[k].up:Int),r[k].b),k)])):=hIx h6;generalize r[k]=x at *;obtain⟨xb,xu,xf⟩:=x;dsimp only at c0 c1 c2 I J;have t5:decide (0<(k:Int))=true:=by simp;omega
    have gn:=(J.out (wr.alloc (.cells #[.int .u8 xb.toNat,jA (xu:Int),jA (xf:Int),.slice A5 n5 c5] 140)) (Qs _ _ _ Y)).1;have g2:=hIx (J.out (wr.alloc (.cells #[.int .u8 xb.toNat,jA (xu:Int),jA (xf:Int),.slice A5 n5 c5] 140)) (Qs _ _ _ Y)).2;clear hM hN hb h6 D;go_wp2;exact⟨⟨k+1,_,by omega,rfl,(Z.out.alloc Z.out.size _).trans (zdd _ _ _ _ (Qd _)),g2.out,I.out⟩,by simp[intOf] <;> omega⟩
  ·have e:k=r.length:=by omega
   rw[e,QR (Qd _)]at hN;clear e;have HN:=hIx hN;have hL:=hIx hM;have hP:=hIx hb;clear hN hM hb;obtain⟨wo,rfl⟩:∃wo:World,wo=wr:=⟨_,rfl⟩
   go_wp2
   go_loopw [10,11,37] (λh8 G v wr=>zAk (lstS ws) ss s m l w h8 G v wr) (λ_ _ v _=>s.size-(intOf v).toNat)
   case atStart=>
    refine⟨0,0,[],Qn _,rfl,rfl,t.out.lev.inv.trie.root,?_,OwnG.nil _ _ _,λ_=>rfl,hP.out,hL.out⟩;rw[XD];exact⟨t.out.lev.inv.trie.nil_mem,List.suffix_refl _,λu _ h=>h⟩
   case round=>
    obtain⟨i,a,hS,hi,rfl,rfl,C,K,hO,F,hb,hM⟩:=hrel;have Y:w.heap.size<wr.heap.size:=by obtain⟨es,ck,h5,_⟩:=hM;exact zc0 h5
    have n:=hO.form;obtain⟨A8,c8,rfl,_⟩:=n;have gc:=zka (lstS ws) s.data.toList (by rw[lstS,Qk];exact HG.out.few) i
    by_cases hF:i<s.size
    ·have hA:=ztY hF
     have hz:Hid (∀a:Nat,a<r.length->∀x:UInt8,(Instr.lookup 141 (.map (some w.heap.size)) (.agg #[jA (a:Int),.int .u8 x.toNat]) true).run prog wr=.ok (.tuple #[jA (((zbH l ((a:Int),x)).getD 0:Nat):Int),.bool (zbH l ((a:Int),x)).isSome]) wr):=hIx λa ha x=>
      zdg hM ((a:Int),x) ⟨by omega,by show (a:Int)<_;omega⟩
     have hQ:=t.out.lev.inv.lt C;have HF:Hid (FailAt ss (s.data.toList.take i) s[i] a):=hIx ⟨⟨hS,C,zgK s[i] K⟩⟩;have HO:=hIx hO;have h3:=hIx F;have Z:=hIx hb;have HM:=hIx hM;clear hO F hb hM K C;have hc:=hIx hA;clear hA;generalize hx:s[i]=x at HF hc;have ho:=hz.out a hQ x;obtain⟨w1,rfl⟩:∃w1:World,w1=wr:=⟨_,rfl⟩
     go_wp2
     go_loopw [11,13,14] (λG hI g3 wr=>zAv ss (s.data.toList.take i) x l w1 G hI g3 wr) (λG _ _ _=>(intOf G).toNat)
     case atStart=>exact⟨a,rfl,rfl,rfl,HF,rfl⟩
     case round=>
      obtain⟨U,rfl,rfl,rfl,O,rfl⟩:=hrel;have hn:U<r.length:=by obtain⟨v,hv,_⟩:=O.out.cand;exact t.out.lev.inv.lt hv
      have HX:=hIx (HN.out U x);clear ho;cases d:zbH l ((U:Int),x)with
      |some j=>
       obtain⟨hu,h7,c⟩:=O.out.found t.out.lev.inv ((HX.out j).1 d);rw[<-hc.out]at c;have hK:=t.out.lev.inv.lt h7;obtain⟨sE,_,_,_,ga,hE⟩:=t.out.at j hK;have c3:=(Z.out.cell (p:=⟨g,j*4+3,none⟩) hg).trans ga
       have he:zaW (lstS ws) (ss.getD j [])=zaW (lstS ws) (s.data.toList.take (i+1)):=by
        rw[Qr,h7];exact(zlh (Lev.words t.out.lev (λw' H=>by obtain⟨v,hv,rfl⟩:=QS.1 H;have:=HG.out.short v hv;simpa using this)) c).symm
       rw[he]at hE;obtain⟨A6,n6,c6⟩:=sE;have g1:n6=(zbe (lstS ws) s.data.toList i).length:=by rw[zjM];exact hE.1
       subst g1;unfold slV at c3;dsimp only at c3;have hd:=hIx c;have g4:=hIx hE;clear d c hE he;simp only[Xp,Option.isSome_some];obtain⟨w2,rfl⟩:∃w2:World,w2=wr:=⟨_,rfl⟩
       go_wp2
       go_loopw [10,79] (λh8 v wr=>zAs (lstS ws) s m l i w h8 v wr) (λ_ v _=>(zbe (lstS ws) s.data.toList i).length-(intOf v).toNat)
       case atStart=>exact⟨0,Qn _,rfl,by rw[XD,QO];exact HO.out,by rw[XD,QO];exact h3.out,Z.out,HM.out⟩
       case round=>
        obtain⟨q,hq,rfl,z,f,N,E⟩:=hrel;have hH:=zjM (lstS ws) s.data.toList i
        have gf:(zbe (lstS ws) s.data.toList i).length<=30:=by
         rw[hH];exact Ql (zha _ _) (by rw[lstS,Qk];exact HG.out.few)
        by_cases hf:q<(zbe (lstS ws) s.data.toList i).length
        ·obtain⟨g6,e6,_,hU,P⟩:=g4.out.2 (by omega)
         dsimp only at e6;subst e6;have hY:=(N.cell (p:=⟨g6,q,none⟩) hU).trans (P q (by omega));have L:=hIx (zqi (lstS ws) s.data.toList i q hf (by omega));generalize (zaW (lstS ws) (s.data.toList.take (i+1)))[q]'(by omega)=kq at hY L
         have hh:(za7 (lstS ws) s.data.toList i++(zbe (lstS ws) s.data.toList i).take q).length=(za7 (lstS ws) s.data.toList i).length+q:=by
          rw[Qb,QK,Nat.min_eq_left hq]
         have S:=hIx z;have hC:=hIx N;have gj:=hIx E;have ge:=N.size;have n:=z.form;obtain⟨A9,c9,rfl,_⟩:=n
         have hJ:Hid (za7 (lstS ws) s.data.toList i++(zbe (lstS ws) s.data.toList i).take (q+1)=(za7 (lstS ws) s.data.toList i++(zbe (lstS ws) s.data.toList i).take q)++[(kq,i+1)]):=by
          unfold Hid;rw[Qu hf,L.out,Q4]
         have g0:=E;obtain⟨gg,ck,h5,_⟩:=g0;have hw:=z.apart h5 (λcs fz e=>by cases e);have hB:=zc0 h5;have hZ:Hid (∀w5:World,w5.heap[w.heap.size]? = wr.heap[w.heap.size]? -> MpAt w5 w.heap.size l):=hIx λw5 T=>E.keep T
         have gh:(za7 (lstS ws) s.data.toList i++(zbe (lstS ws) s.data.toList i).take q).length<=250000:=by omega
         have A:m=1->Hid (za7 (lstS ws) s.data.toList i++(zbe (lstS ws) s.data.toList i).take q=[]/\[(kq,i+1)]=zmq (lstS ws) s.data.toList 1):=λe=>hIx ⟨f e,by rw[<-L.out];exact zwn (by simpa using hF) hf (f e)⟩
         clear z N E f hh h5;generalize za7 (lstS ws) s.data.toList i++(zbe (lstS ws) s.data.toList i).take q=X at *
         rcases hX.out with rfl|rfl
         ·have HH:=hIx (A rfl).out.2
          obtain rfl:=(A rfl).out.1;clear A;go_wp2_with (at_builtin;refine zaL rowH rfl _ _ rfl w.heap.size _ [] rfl S.out (by omega) _ (kq,i+1) rfl wr.heap.size rfl 1 rfl (by simp) ?_;intro v5 w5 B hj T hW;obtain⟨g7,c7,rfl,_,_⟩:=B.head (by simp));go_ret;exact⟨_,rfl,by rw[<-HH.out];exact B,hC.out.trans hj⟩
         ·have t6:(((X.length:Nat):Int)+1==-1)=false:=Qc.2 (by omega)
          go_wp2_with (at_builtin;refine zaL rowH rfl _ _ rfl w.heap.size _ X rfl S.out (by omega) _ (kq,i+1) rfl wr.heap.size rfl 1 rfl (by omega) ?_;intro v5 w5 B hj T hW;obtain⟨g7,c7,rfl,_,_⟩:=B.head (by simp));have hD:=B;rw[Qb,QH]at hD;exact⟨⟨u6,.slice g7 (X.length+1) c7,jA (kq:Int),jA ((q:Int)+1),⟨q+1,by omega,rfl,by rw[hJ.out];exact hD,λe=>absurd e (by decide),hC.out.trans hj,hZ.out _ (T _ hB hw)⟩,rfl,rfl,rfl,rfl⟩,by simp[intOf];omega⟩
        ·have e:q=(zbe (lstS ws) s.data.toList i).length:=by omega
         rw[e,QR (Qd _),<-zcX]at z f;clear e;have S:=hIx z;have h9:=hIx f;have n:=z.form;obtain⟨A9,c9,rfl,_⟩:=n;clear z f;go_wp2;exact⟨⟨i+1,j,hu,by omega,rfl,rfl,h7,hd.out,S.out,h9.out,N,E⟩,by simp[intOf] <;> omega⟩
      |none=>
       have Q:∀j,¬(0<j/\∃y,r[j]? = some y/\y.up=U/\y.b=x):=λj h=>by rw[(HX.out j).2 h]at d;cases d
       by_cases g9:U=0
       ·subst g9
        have c:=O.out.none t.out.lev.inv Q;rw[<-hc.out]at c
        have hr:zbe (lstS ws) s.data.toList i=[]:=by
         unfold zbe;rw[zlh (Lev.words t.out.lev (λw' H=>by obtain⟨v,hv,rfl⟩:=QS.1 H;have:=HG.out.short v hv;simpa using this)) c,zmy]
         ·rfl
         ·intro w' H e
          obtain⟨v,hv,rfl⟩:=QS.1 H;exact HG.out.full v hv (by have:=Zm List.length e;simpa using this)
        have hR:=hIx (zcX (lstS ws) s.data.toList i);rw[hr,QO]at hR;clear hr d Q;simp only[Xq,Option.isSome_none];go_wp2;exact⟨⟨i+1,0,[],by omega,rfl,rfl,t.out.lev.inv.trie.root,c,by rw[hR.out];exact HO.out,by rw[hR.out];exact h3.out,Z.out,HM.out⟩,by simp[intOf] <;> omega⟩
       ·obtain⟨y,hy⟩:∃y,r[U]? = some y:=⟨_,Qe hn⟩
        obtain⟨ht,gi⟩:=O.out.next t.out.lev.inv (by omega) hy Q;obtain⟨_,_,_,c2,_⟩:=(t.out.below Z.out).at U hn;have hp:r[U]=y:=by rw[Qe hn]at hy;exact QG hy
        rw[hp]at c2;have g8:=hIx ht;have ho:=hz.out y.fail (by omega) x;have t5:decide (0<(U:Int))=true:=by simp;omega
        clear ht Q d hp hy;simp only[Xq,Option.isSome_none];go_wp2;exact⟨⟨y.fail,rfl,rfl,rfl,g8,rfl⟩,by simp[intOf] <;> omega⟩
    ·have e:i=s.data.toList.length:=by simp;omega
     have g5:=hIx (zup e F);clear e;go_wp2;go_ret;exact⟨_,rfl,by rw[g5.out];exact hO,hb⟩
section
variable {P:Program} {ops:Array Oper} {Q:Exit->Act->World->Prop} {md:Region.Mode} {S:World->Prop} {U:Nat}
def zcc(P:Program)(e:Region.Mode)(c:Array Oper)(Q:Exit->Act->World->Prop)(S:World->Prop)(U:Nat):Nat->Array Bool->Act->World->Prop
 |0,b,a,w=>Region.ready e c b=[]/\Q .normal a w
 |d+1,b,a,w=>
  (Region.ready e c b=[]->Q .normal a w)/\
  ∀i∈Region.ready e c b,wpOp P c Q i (λf w'=>((b.setIfInBounds i true).getD U true=false->S w')/\zcc P e c Q S U d (b.setIfInBounds i true) f w') a w
theorem zjP:∀(b:Nat) (c:Array Bool) (a:Act) (w:World),zcc P md ops Q S U b c a w->wpAny P md ops Q b c a w
 |0,_,_,_,h=>h
 |b+1,_,_,_,h=>⟨h.1,λi f=>wpOp_mono (λe w' d=>zjP b _ e w' d.2) (h.2 i f)⟩
def zhX(b:Region.Mode)(a:Array Oper):Nat->List Nat->Bool
 |_,[]=>true
 |i,v::c=>Region.waitsFor b a v i&&zhX b a v c
theorem ziO:∀(b:List Nat) (i:Nat) (a:Array Bool),zhX md ops i b=true->a.getD i true=false->(∀v∈b,a.getD v true=false)->∀v∈b,v ∉ Region.ready md ops a
 | [],_,_,_,_,_=>λv f=>absurd f (by simp)
 |u::b,i,a,h,m,c=>λv f=>by
  unfold zhX at h;rw[Q3]at h
  rcases QN.1 f with rfl|f
  ·intro l
   obtain⟨r,k,e,o,hb,j⟩:=Region.waitsFor_spec h.1;obtain⟨_,q,g,d⟩:=mem_ready.1 l;rw[k]at g;obtain rfl:=QG g;have h1:=d e o hb;rw[j]at h1;rw[getD_both m]at h1;cases h1
  ·exact ziO b u a h.2 (c u (by simp)) (λx n=>c x (by simp[n])) v f
theorem zlr{i:Nat}{s:Oper}{v:Value}(L:ops[i]? = some s)(q:∀(j:Nat) (o:Oper) cs b,ops[j]? = some o->o.op≠.select cs b)
 (O:∀c a w,Q (.panic c) (a.put s.dst v) w->Q (.panic c) a w) (J:i≠U):
 ∀(g:Nat) (d:Array Bool) (a:Act) (w:World),
  (∀j u,ops[j]? = some u->j≠i->d.getD j true=false->(∀e∈u.after,Region.binds md e=true->e.on≠i)->s.apart ops u=true)->
  i∈Region.ready md ops d->YieldsIf P ops (λ_=>True) s v a->(d.getD U true=false->S w)->
  zcc P md ops Q S U g (d.setIfInBounds i true) (a.put s.dst v) w->zcc P md ops Q S U (g+1) d a w:=by
 intro g
 induction g with
 |zero=>
  intro d a w _ t D N H;refine⟨λh=>(by rw[h]at t;cases t),λj E=>?_⟩
  by_cases f:j=i
  ·subst f;exact D.wpOp L trivial ⟨λh=>N (by rwa[XN true J]at h),H⟩
  ·have:=ready_mono E f
   rw[H.1]at this;cases this
 |succ g ih=>
  intro d a w l t D N H;refine⟨λh=>(by rw[h]at t;cases t),λj E=>?_⟩
  by_cases f:j=i
  ·subst f;exact D.wpOp L trivial ⟨λh=>N (by rwa[XN true J]at h),H⟩
  ·have h1:=H.2 j (ready_mono E f)
   obtain⟨n,u,r,C⟩:=mem_ready.1 E
   have y:∀e∈u.after,Region.binds md e=true->e.on≠i:=λe W hb I=>by
    have h1:=C e W hb;rw[I,getD_both (mem_ready.1 t).1]at h1;cases h1
   have h2:=wpOp_putIf r (l j u r f n y) (λcs b=>q i s cs b L) (λcs b=>q j u cs b r) O D h1
   have m:∀k z,ops[k]? = some z->k≠i->(d.setIfInBounds j true).getD k true=false->
    (∀e∈z.after,Region.binds md e=true->e.on≠i)->s.apart ops z=true:=λk z T G B F=>by
    refine l k z T G ?_ F
    by_cases x:j=k
    ·subst x;exact n
    ·rw[XN true x]at B;exact B
   refine wpOp_mono (λV w' K=>?_) h2
   have A:(d.setIfInBounds j true).getD U true=false->S w':=λh=>K.2.1 (by
    rw[Array.setIfInBounds_comm _ _ (Xk f),XN true J];exact h)
   refine⟨A,ih (d.setIfInBounds j true) V w' m (ready_mono t (Xk f)) K.1 A ?_⟩;rw[Array.setIfInBounds_comm _ _ f];exact K.2.2
theorem zmG{i:Nat}{u:Oper}{v:Value}(Y:ops[i]? = some u)(r:∀(j:Nat) (o:Oper) cs b,ops[j]? = some o->o.op≠.select cs b)
 (Z:∀c a w,Q (.panic c) (a.put u.dst v) w->Q (.panic c) a w) (hU:i≠U) (C:List Nat) (W:zhX md ops i C=true) (K:U∈C):
 ∀(g:Nat) (d:Array Bool) (a:Act) (w:World),
  (∀j z,ops[j]? = some z->j≠i->d.getD j true=false->(∀e∈z.after,Region.binds md e=true->e.on≠i)->u.apart ops z=true)->
  i∈Region.ready md ops d->(∀v∈C,d.getD v true=false)->YieldsIf P ops S u v a->S w->
  zcc P md ops Q S U g (d.setIfInBounds i true) (a.put u.dst v) w->zcc P md ops Q S U (g+1) d a w:=by
 intro g
 induction g with
 |zero=>
  intro d a w _ s _ L J H;refine⟨λh=>(by rw[h]at s;cases s),λj I=>?_⟩
  by_cases f:j=i
  ·subst f;exact L.wpOp Y J ⟨λ_=>J,H⟩
  ·have:=ready_mono I f
   rw[H.1]at this;cases this
 |succ g ih=>
  intro d a w l s y L J H;refine⟨λh=>(by rw[h]at s;cases s),λj I=>?_⟩
  by_cases f:j=i
  ·subst f;exact L.wpOp Y J ⟨λ_=>J,H⟩
  ·have h1:=H.2 j (ready_mono I f)
   have E:∀x∈C,j≠x:=λx N e=>ziO C i d W (mem_ready.1 s).1 y x N (e ▸ I)
   obtain⟨n,z,t,G⟩:=mem_ready.1 I
   have D:∀e∈z.after,Region.binds md e=true->e.on≠i:=λe he hb V=>by
    have h1:=G e he hb;rw[V,getD_both (mem_ready.1 s).1]at h1;cases h1
   have h2:=wpOp_putIf t (l j z t f n D) (λcs b=>r i u cs b Y) (λcs b=>r j z cs b t) Z L h1
   have m:∀k F,ops[k]? = some F->k≠i->(d.setIfInBounds j true).getD k true=false->
    (∀e∈F.after,Region.binds md e=true->e.on≠i)->u.apart ops F=true:=λk F hk T q O=>by
    refine l k F hk T ?_ O
    by_cases A:j=k
    ·subst A;exact n
    ·rw[XN true A]at q;exact q
   refine wpOp_mono (λa' w' X=>?_) h2;have B:S w':=X.2.1 (by rw[XN true (E U K),XN true hU];exact y U K);refine⟨λ_=>B,ih (d.setIfInBounds j true) a' w' m (ready_mono s (Xk f)) (λx N=>by rw[XN true (E x N)];exact y x N) X.1 B ?_⟩;rw[Array.setIfInBounds_comm _ _ f];exact X.2.2
theorem zab{i:Nat}{f:Oper}{v:Value}{e:Nat}{b:Array Bool}{a:Act}{w:World}(d:Option Tmp)(g:ops[i]? = some f)(k:f.dst=d)
 (s:Region.noSelect ops=true) (o:Region.free md ops b i=true) (r:(Region.ready md ops b).contains i=true) (m:i≠U)
 (l:∀c a w,Q (.panic c) (a.put d v) w->Q (.panic c) a w) (n:Region.wanted f (yielded ops a.tmps)=true) (q:∀w,(execOp a.eval f).run P w=.ok (.value v) w) (j:S w)
 (h:S w->zcc P md ops Q S U e (b.setIfInBounds i true) (a.put d v) w):zcc P md ops Q S U (e+1) b a w:=by
 subst k;exact zlr g (Region.noSelect_spec s) l m e b a w (Region.free_spec g o) (by simpa using r) (.inl ⟨n,λw _=>q w⟩) (λ_=>j) (h j)
theorem zaq{i:Nat}{g:Oper}{v:Value}{e:Nat}{b:Array Bool}{a:Act}{w:World}(f:List Nat)(d:Option Tmp)(m:ops[i]? = some g)(o:g.dst=d)
 (y:Region.noSelect ops=true) (t:Region.free md ops b i=true) (x:(Region.ready md ops b).contains i=true) (r:i≠U) (l:zhX md ops i f=true) (k:U∈f) (j:f.all (λv=>!b.getD v true)=true)
 (q:∀c a w,Q (.panic c) (a.put d v) w->Q (.panic c) a w) (s:Region.wanted g (yielded ops a.tmps)=true) (u:∀w,S w->(execOp a.eval g).run P w=.ok (.value v) w) (n:S w)
 (h:S w->zcc P md ops Q S U e (b.setIfInBounds i true) (a.put d v) w):zcc P md ops Q S U (e+1) b a w:=by
 subst o;exact zmG m (Region.noSelect_spec y) q r f l k e b a w (Region.free_spec m t) (by simpa using x) (λv z=>by have:=Zv.1 j v z;simpa using this) (.inl ⟨s,u⟩) n (h n)
theorem zdq{i:Nat}{o:Oper}{c:Nat}{b:Array Bool}{a:Act}{w:World}(d:Option Tmp)(op:Op)(k:Region.ready md ops b=[i])(s:ops[i]? = some o)(m:o.dst=d)(g:o.op=op)(r:Region.wanted o (yielded ops a.tmps)=true)
 (h:∀f:Act->World->Prop,Shut (∀e w',S w'->(S w'->zcc P md ops Q S U c (b.setIfInBounds i true) e w')->f e w')->Oper.wp P ⟨d,op,o.type,o.pos,o.after,o.guard⟩ a w f Q):zcc P md ops Q S U (c+1) b a w:=by
 subst m;subst g
 refine⟨λn=>absurd (k ▸ n) (by simp),λj l=>?_⟩;rw[k]at l;obtain rfl:=QF.1 l;refine wpOp_step s λf q=>?_
 rw[Qj r];exact h f λe w' h1 h2=>q e w' ⟨λ_=>h1,h2 h1⟩
theorem zaj{i:Nat}{o:Oper}{c:Nat}{b:Array Bool}{a:Act}{w:World}(d:Option Tmp)(op:Op)(k:Region.ready md ops b=[i])(s:ops[i]? = some o)(m:o.dst=d)(g:o.op=op)(r:Region.wanted o (yielded ops a.tmps)=true)(hl:(b.setIfInBounds i true).getD U true=true)
 (h:∀f:Act->World->Prop,Shut (∀e w',zcc P md ops Q S U c (b.setIfInBounds i true) e w'->f e w')->Oper.wp P ⟨d,op,o.type,o.pos,o.after,o.guard⟩ a w f Q):zcc P md ops Q S U (c+1) b a w:=by
 subst m;subst g
 refine⟨λn=>absurd (k ▸ n) (by simp),λj l=>?_⟩;rw[k]at l;obtain rfl:=QF.1 l;refine wpOp_step s λf q=>?_
 rw[Qj r];exact h f λe w' h1=>q e w' ⟨λh2=>(by rw[hl]at h2;cases h2),h1⟩
theorem zcl{b:Array Bool}{a:Act}{w:World}(d:Region.ready md ops b=[])(h:Q .normal a w):∀c,zcc P md ops Q S U c b a w
 |0=>⟨d,h⟩
 |_+1=>⟨λ_=>h,by rw[d];simp⟩
theorem zcm{b:Nat}{a:Act}{w:World}(U:Nat)(S:World->Prop)(c:P.follows .mixedOrders=true)(d:S w.drew)
 (h:S w.drew->zcc P .any ops Q S U ops.size (Array.replicate ops.size false) a w.drew):(Code.region b ops true).wp P Q a w:=
 wp_region_any c (zjP _ _ _ _ (h d))
end
theorem zno(ws:List ByteArray)(n:Nat)(_:n<40)(k0:ws.length<=30)(gx:0<ws.length)(A:Option Addr)(c B W N ga ca g cap:Nat)(ns:List zaD)(ss:List jE)(l:List (zaP × Nat))(ats:List Nat)(w:World)
 (hS:Sl w B 1 A ws.length (ws.map Value.string)) (hL:zs6 w B W N ga ca ws n g cap ns ss l ats):
 Calls prog 67 #[.pointer W,.slice A ws.length c,jA (n:Int)] w (zig B W N ga ca ws n w):=by
 obtain⟨b,gX,rfl,gS,_⟩:=znX hS gx;have hG:ats.length=ws.length:=by have:=hL.ats.len;rw[this,lstS,Qk]
 have HS:=hIx hS;have y:=hIx hL;clear hS hL
 go_in
 go_wp2
 go_loopw [7,17] (λv i wr=>Rel1 ws n ats w v i wr) (λ_ i _=>ws.length-(intOf i).toNat)
 case atStart=>exact⟨0,Qn _,rfl,Qi _ _,OwnG.nil _ _ _⟩
 case round=>
  obtain⟨k,hk,rfl,hb,hO⟩:=hrel
  by_cases d:k<ws.length
  ·have HO:=hIx hO
   have hh:B<=w.heap.size:=Ql y.out.mkr.base.1 (QZ y.out.mkr.lt.1);obtain⟨_,_,e,_,hc⟩:=znX (HS.out.below (hb.mono hh)) d;injection e with e
   injection e with e1 e2 _
   subst e1;subst e2
   have hM:=y.out.mkr.below hb;have J:=(hM.at k (by omega)).1;obtain⟨_,_,gp,_⟩:=hM.cells;have ht:=hM.lt;have gT:=zg7 (lstS ws) n ats k;have h6:=hIx λh=>zue (ws:=ws) (n:=n) (ats:=ats) d h
   have X:=hIx λh=>zuG (ws:=ws) (n:=n) (ats:=ats) d (by omega) h
   clear hM hO;generalize ws[k]=s at hc h6 X;generalize ats[k]=a at J h6 X
   by_cases h5:n<s.size
   ·have Q:=hIx (X.out h5)
    clear h6 X;generalize hx:s[n]=x at Q;have gk:wr.heap.size<(wr.alloc (.cells #[jA (a:Int),.int .u8 x.toNat] 186)).drew.heap.size:=by simp
    have hW:wr (wr.alloc (.cells #[jA (a:Int),.int .u8 x.toNat] 186)).drew:=WaL.drew;have gs:=Qv wr (.cells #[jA (a:Int),.int .u8 x.toNat] 186);have hH:=hb.size;have HH:Hid (Calls prog 95 #[u7,.agg #[jA (a:Int),.int .u8 x.toNat]] (wr.alloc (.cells #[jA (a:Int),.int .u8 x.toNat] 186)).drew λr w'=>r=jC (.bool (decide ((a,x)∈gath (lstS ws) n ats k)))/\Below (wr.alloc (.cells #[jA (a:Int),.int .u8 x.toNat] 186)).drew.heap.size (wr.alloc (.cells #[jA (a:Int),.int .u8 x.toNat] 186)).drew w'):=hIx (zvs (HO.out.below hW) (by omega) (a,x))
    by_cases hg:(a,x)∈gath (lstS ws) n ats k
    ·rw[Qx hg]at HH
     rw[Qj hg]at Q;go_wp2_with fail
     go_region
     go_wp2_with (go_at_call 95;refine HH.out.mono ?_;rintro e w2 ⟨rfl,z⟩);exact⟨⟨k+1,by omega,rfl,(hb.trans (hW.mono hH)).trans (z.mono (by simp;omega)),by rw[Q.out];exact(HO.out.below hW).below z⟩,by simp[intOf] <;> omega⟩
    ·rw[Qt hg]at HH
     rw[Qf hg]at Q;go_wp2_with fail
     go_region
     go_wp2_with (first|(go_at_call 95;refine HH.out.mono ?_;rintro e w2 ⟨rfl,z⟩;have g9:=(z.block wr.heap.size gk).trans gs;have hd:=Qo w2 wr.heap.size 0 _ _ _ g9;have hT:=Qo w2 wr.heap.size 1 _ _ _ g9;have gg:=(HO.out.below hW).below z;have gv:=z.size;simp at gv)|(at_builtin;refine zaL rowE rfl _ _ rfl w.heap.size _ (gath (lstS ws) n ats k) rfl gg (by omega) _ (a,x) rfl w2.heap.size rfl 1 rfl (by omega) ?_;intro v' w3 gt t k7 hJ));exact⟨⟨k+1,by omega,rfl,((hb.trans (hW.mono hH)).trans (z.mono (by simp;omega))).trans t,by rw[Q.out];exact gt⟩,by simp[intOf] <;> omega⟩
   ·have Q:=hIx (h6.out h5)
    clear h6 X;go_wp2;exact⟨⟨k+1,by omega,rfl,hb,by rw[Q.out];exact HO.out⟩,by simp[intOf] <;> omega⟩
  ·obtain rfl:k=ws.length:=by omega
   have HR:=hIx (zuD hO hb.size (zqe y.out.lev.inv y.out.ats y.out.few) (by have:=zg7 (lstS ws) n ats ws.length;omega));have Q:=hIx (hO.form);have gy:=hO.form;obtain⟨A0,c0,rfl,_⟩:=gy;have hh:B<=w.heap.size:=Ql y.out.mkr.base.1 (QZ y.out.mkr.lt.1);clear hO Q;go_wp2_with (go_at_call 96;refine HR.out.mono ?_;rintro e w1 ⟨rfl,z,es,C,hE⟩);have gf:=C.length_eq;have HE:Hid (EdgesOf (lstS ws) n ats es):=hIx (EdgesOf.perm (by have:=zps (lstS ws) n ats;rwa[show (lstS ws).length=ws.length by rw[lstS,Qk]]at this) C);have hz:=hb.trans z;have hD:=y.out.mkr.below hz;clear HR hb z d hk;have k3:es.length<=30:=by have:=zg7 (lstS ws) n ats ws.length;omega
   generalize (gath (lstS ws) n ats ws.length).length=m at *;subst gf
   go_loopw [50] (λi wr=>Rel2 B W N ga ca ws n ats w es ss (.slice A0 es.length c0) i wr) (λi _=>es.length-(intOf i).toNat)
   case atStart=>exact⟨0,g,cap,ns,ss,l,Qn _,rfl,hz.mono hh,hE,hD,⟨y.out.lev.inv,by simp⟩,y.out.next,y.out.few⟩
   case round=>
    obtain⟨k,g2,H,u,gA,l2,hk,rfl,t,ha,S,E,D,P⟩:=hrel;have hy:=hIx t;clear hz hD hE t
    by_cases d:k<es.length
    ·obtain⟨p,Y,hY,h8,gh⟩:=E.next y.out.lev y.out.ats HE.out d
     obtain⟨gE,k8,k9,cE,gr,gj,g0,hm,hq⟩:=ha.at k d;injection gr with e1 e2 e3
     subst e1;subst e3
     obtain⟨hd,hT,gq,gz⟩:=S.cells;rw[Qk]at hd;have HM:=hIx S;have gD:=hIx ha;have f:=hIx E;have HN:=hIx D;clear S ha E D C e2;have ht:=HM.out.lt;have kc:Hid (es[k]? = some es[k]):=hIx (Qe d);generalize he:es[k]=e at *;obtain⟨up,x⟩:=e;dsimp only at Y hY h8 hm hq
     by_cases h4:u.length=400
     ·rw[h4]at hd
      have hR:B<=wr.heap.size:=Ql hh (Ql (QZ (by have:=gj;have:=(QI.1 g0).1;omega)) (Qd _));go_wp2;go_ret;exact⟨hy.out.alloc hR _,.inl ⟨rfl,f.out.full y.out.lev y.out.ats HE.out d h4⟩⟩
     ·have k2:(u.length==400)=false:=Qc.2 h4
      have gM:((u.length:Int)==400)=false:=Qc.2 (by omega);have hR:w.heap.size<wr.heap.size:=by have:=(QI.1 g0).1;omega
      have gw:=zwW f.out.inv HN.out Y h8;obtain⟨o,h7⟩:=zdJ HM.out.map ((up:Int),x) u.length ⟨by omega,by have:=f.out.inv.lt Y;show (up:Int)<_;omega⟩ gw
      have hu:(Instr.mapUpdate 141 (.map (some N)) (.agg #[jA (up:Int),.int .u8 x.toNat]) (jA (u.length:Int))).run prog (wr.alloc (.cells #[jA (up:Int),.int .u8 x.toNat] 186)).drew=.ok () (ChangeMaps.setBlock (wr.alloc (.cells #[jA (up:Int),.int .u8 x.toNat] 186)).drew N o):=
       (h7 (wr.alloc (.cells #[jA (up:Int),.int .u8 x.toNat] 186)).drew (Qs _ _ _ ht.2.2.2)).1
      have Z:=(h7 (wr.alloc (.cells #[jA (up:Int),.int .u8 x.toNat] 186)).drew (Qs _ _ _ ht.2.2.2)).2;clear h7;go_upto_region 16 with fail
      go_wp2_with fail
      go_region
      have ge:Below B wr (ChangeMaps.setBlock (wr.alloc (.cells #[jA (up:Int),.int .u8 x.toNat] 186)).drew N o):=((Qi _ _).alloc (by omega) _).drew.trans (zdd _ _ _ _ HM.out.low.2)
      have h0:(ChangeMaps.setBlock (wr.alloc (.cells #[jA (up:Int),.int .u8 x.toNat] 186)).drew N o).heap[wr.heap.size]? = some (.cells #[jA (up:Int),.int .u8 x.toNat] 186):=
       (zk0 _ _ _ _ (by omega)).trans (Qv wr (.cells #[jA (up:Int),.int .u8 x.toNat] 186))
      have hP:∀j,j<wr.heap.size->N≠j->(ChangeMaps.setBlock (wr.alloc (.cells #[jA (up:Int),.int .u8 x.toNat] 186)).drew N o).heap[j]? = wr.heap[j]? := λj hj hs=>
       (zk0 _ _ _ _ hs).trans (Qs wr (.cells #[jA (up:Int),.int .u8 x.toNat] 186) j hj)
      have V:=(HM.out.below (((Qi _ _).alloc (Qd _) (.cells #[jA (up:Int),.int .u8 x.toNat] 186)).drew)).put Z;have k6:wr.heap.size<(ChangeMaps.setBlock (wr.alloc (.cells #[jA (up:Int),.int .u8 x.toNat] 186)).drew N o).heap.size:=(QI.1 h0).1;clear hu Z;generalize ChangeMaps.setBlock (wr.alloc (.cells #[jA (up:Int),.int .u8 x.toNat] 186)).drew N o=W2 at *
      have g1:∀(j:Nat) cs fz,wr.heap[j]? = some (.cells cs 186 fz)->N≠j:=λj cs fz hj e=>by
       obtain⟨gW,ck,hV,_⟩:=HM.out.map;rw[e,hj]at hV;cases hV
      have gu:=hIx (gD.out.keep λj cs fz hj=>hP j (zc0 hj) (g1 j cs fz hj));have hF:=hIx (ztF f.out.inv HN.out P Y h8 u.length (w:=W2.drew) (by have:=V.toF;rw[zoD]at this;exact this.drew));have hU:=Qo W2 wr.heap.size 0 _ _ _ h0;have hi:=Qo W2 wr.heap.size 1 _ _ _ h0;obtain⟨hA,_,_,gV⟩:=V.cells;rw[Qk]at hA;have h9:=hIx V;have gK:=V.lt;clear V hd hT gq gz hm hq hP g1;go_upto_region 17 with fail
      have hI:=h9.out.ne.1;have hZ:=hIx (Rel2.step d he hy.out ge gu.out h9.out f.out HN.out P h4 Y hY h8 gh);have gG:=hIx (λ(w3:World) (h3:W2 w3)=>h9.out.below h3);have kf:wr.heap.size≠g2:=by omega
      have gl:W2.drew.cell? W=some (.slice g2 u.length H)/\W2.drew.cell? ⟨wr.heap.size,0,none⟩=some (jA (up:Int))/\W2.drew.cell? ⟨wr.heap.size,1,none⟩=some (.int .u8 x.toNat):=⟨hA,hU,hi⟩
      refine zcm 14 (λw'=>w'.cell? W=some (.slice g2 u.length H)/\w'.cell? ⟨wr.heap.size,0,none⟩=some (jA (up:Int))/\w'.cell? ⟨wr.heap.size,1,none⟩=some (.int .u8 x.toNat)) (by kernel_rfl) gl ?_;intro gn;refine zab (i:=0) (v:=?v0) (some 70) rfl rfl (by kernel_rfl) (by kernel_rfl) (by kernel_rfl) (by decide) (λ_ _ _ h=>h) (by rfl) ?hy0 (by assumption) ?rest0
      case hy0=>(intro w;go_simp;try rfl)
      intro gn;simp only[Act.put,Qa,Qg,Qh];refine zab (i:=1) (v:=?v1) (some 71) rfl rfl (by kernel_rfl) (by kernel_rfl) (by kernel_rfl) (by decide) (λ_ _ _ h=>h) (by rfl) ?hy1 (by assumption) ?rest1
      case hy1=>(intro w;go_simp;try rfl)
      intro kg;simp only[Act.put,Qa,Qg,Qh];refine zab (i:=2) (v:=?v2) (some 72) rfl rfl (by kernel_rfl) (by kernel_rfl) (by kernel_rfl) (by decide) (λ_ _ _ h=>h) (by rfl) ?hy2 (by assumption) ?rest2
      case hy2=>(intro w;go_simp;try rfl)
      intro k5;simp only[Act.put,Qa,Qg,Qh];refine zab (i:=3) (v:=?v3) (some 73) rfl rfl (by kernel_rfl) (by kernel_rfl) (by kernel_rfl) (by decide) (λ_ _ _ h=>h) (by rfl) ?hy3 (by assumption) ?rest3
      case hy3=>(intro w;go_simp;try rfl)
      intro gP;simp only[Act.put,Qa,Qg,Qh];refine zaq (i:=4) (v:=?v4) [14] (some 74) rfl rfl (by kernel_rfl) (by kernel_rfl) (by kernel_rfl) (by decide) (by kernel_rfl) (by decide) (by kernel_rfl) (λ_ _ _ h=>h) (by rfl) ?hy4 (by assumption) ?rest4
      case hy4=>(intro w I;(try dsimp only at I);go_simp;try rfl)
      intro kb;simp only[Act.put,Qa,Qg,Qh];refine zab (i:=5) (v:=?v5) (some 75) rfl rfl (by kernel_rfl) (by kernel_rfl) (by kernel_rfl) (by decide) (λ_ _ _ h=>h) (by rfl) ?hy5 (by assumption) ?rest5
      case hy5=>(intro w;go_simp;try rfl)
      intro gR;simp only[Act.put,Qa,Qg,Qh];refine zaq (i:=6) (v:=?v6) [12,13,14] (some 76) rfl rfl (by kernel_rfl) (by kernel_rfl) (by kernel_rfl) (by decide) (by kernel_rfl) (by decide) (by kernel_rfl) (λ_ _ _ h=>h) (by rfl) ?hy6 (by assumption) ?rest6
      case hy6=>(intro w I;(try dsimp only at I);go_simp;try rfl)
      intro kh;simp only[Act.put,Qa,Qg,Qh];refine zab (i:=7) (v:=?v7) (some 77) rfl rfl (by kernel_rfl) (by kernel_rfl) (by kernel_rfl) (by decide) (λ_ _ _ h=>h) (by rfl) ?hy7 (by assumption) ?rest7
      case hy7=>(intro w;go_simp;try rfl)
      intro kd;simp only[Act.put,Qa,Qg,Qh];refine zaq (i:=8) (v:=?v8) [12,13,14] (some 78) rfl rfl (by kernel_rfl) (by kernel_rfl) (by kernel_rfl) (by decide) (by kernel_rfl) (by decide) (by kernel_rfl) (λ_ _ _ h=>h) (by rfl) ?hy8 (by assumption) ?rest8
      case hy8=>(intro w I;(try dsimp only at I);go_simp;try rfl)
      intro gL;simp only[Act.put,Qa,Qg,Qh];refine zab (i:=9) (v:=?v9) (some 79) rfl rfl (by kernel_rfl) (by kernel_rfl) (by kernel_rfl) (by decide) (λ_ _ _ h=>h) (by rfl) ?hy9 (by assumption) ?rest9
      case hy9=>(intro w;go_simp;try rfl)
      intro gN;simp only[Act.put,Qa,Qg,Qh];refine zaq (i:=10) (v:=?v10) [11,12,13,14] (some 80) rfl rfl (by kernel_rfl) (by kernel_rfl) (by kernel_rfl) (by decide) (by kernel_rfl) (by decide) (by kernel_rfl) (λ_ _ _ h=>h) (by rfl) ?hy10 (by assumption) ?rest10
      case hy10=>(intro w I;(try dsimp only at I);go_simp;try rfl)
      intro gJ;simp only[Act.put,Qa,Qg,Qh];refine zdq (i:=11) (some 81) (.call {callee:=.value (.func 98),args:=#[.tmp 79,.tmp 80],argTypes:=#[138,186]}) (by kernel_rfl) rfl rfl rfl (by rfl) ?_;intro k1 g5
      go_simp
      go_at_call 98
      refine hF.out.mono ?_;rintro e w3 ⟨⟨r,rfl,hr⟩,ho⟩;have t:W2 w3:=undrew ho;have gB:=hIx (h9.out.below t).own;have hJ:=t.size;refine g5.out _ _ ⟨zaa t hA,zaa t hU,zaa t hi⟩ λG=>?_
      try simp only[Act.put,Qa,Qg,Qh]
      refine zab (i:=12) (v:=?v12) (some 82) rfl rfl (by kernel_rfl) (by kernel_rfl) (by kernel_rfl) (by decide) (λ_ _ _ h=>h) (by rfl) ?hy12 (by assumption) ?rest12
      case hy12=>(intro w;go_simp;try rfl)
      intro gI
      try simp only[Act.put,Qa,Qg,Qh]
      refine zdq (i:=13) (some 83) (.buildSlice 105 1 #[(0,.tmp 82)]) (by kernel_rfl) rfl rfl rfl (by rfl) ?_;intro gU hN
      go_simp
      refine hN.out _ _ ⟨zaa WaL G.1,zaa WaL G.2.1,zaa WaL G.2.2⟩ λhX=>?_
      try simp only[Act.put,Qa,Qg,Qh]
      refine zaj (i:=14) (some 84) (.call {callee:=.builtin .append,args:=#[.tmp 74,.tmp 83],argTypes:=#[105,105]}) (by kernel_rfl) rfl rfl rfl (by rfl) (by kernel_rfl) ?_;intro gO gd;refine ze0 rowN (.tmp 74) (.tmp 83) rfl B (.slice g2 u.length H) (u.map nilE) rfl (by have:=gB.out;rwa[Qk]at this) (by have:=t.size;omega) _ (nilE ⟨x,up,r⟩) rfl _ rfl 1 rfl (by rw[Qk];omega) ?_;intro v4 w4 hw gc g6 gC;obtain⟨g4,c4,rfl,_,_⟩:=hw.head (by simp);have O:∀j,j<w3.heap.size->g2≠j->w4.heap[j]? = w3.heap[j]? := λj hj hs=>g6 j hj (λe=>hs (QG e))
      have e0:w4.cell? W=some (.slice g2 u.length H):=(zeh (O W (by omega) (Xk hI)) 0).trans G.1;have ef:w4.frozen? ⟨W,0,none⟩=false:=(zms (O W (by omega) (Xk hI)) 0).trans (gG.out w3 t).cells.2.2.2;refine gd.out _ _ ?_
      try simp only[Act.put,Qa,Qg,Qh]
      refine zaj (i:=15) (some 85) (.nilCheck (.tmp 70)) (by kernel_rfl) rfl rfl rfl (by rfl) (by kernel_rfl) ?_;intro ka hC
      go_simp
      refine hC.out _ _ ?_
      try simp only[Act.put,Qa,Qg,Qh]
      refine zaj (i:=16) (some 86) (.fieldAddr 143 (.tmp 85) 0) (by kernel_rfl) rfl rfl rfl (by rfl) (by kernel_rfl) ?_;intro k4 g8
      go_simp
      refine g8.out _ _ ?_
      try simp only[Act.put,Qa,Qg,Qh]
      refine zaj (i:=17) none (.store 105 (.tmp 86) (.tmp 84)) (by kernel_rfl) rfl rfl rfl (by rfl) (by kernel_rfl) ?_;intro gY g7
      go_simp
      refine g7.out _ _ ?_;refine zcl (by kernel_rfl) ?_ _;have gF:=hZ.out r w3 w4 g4 c4 hr t hw gc O;clear t ho hw gc O g6 gC hJ G hX;go_wp2;exact⟨gF,by simp[intOf] <;> omega⟩
    ·obtain rfl:k=es.length:=by omega
     obtain⟨_,_,hB,_⟩:=S.cells;have HM:=hIx S;have f:=hIx E;have HN:=hIx D;have HF:=hIx P;clear S E D ha C hB d hk P;go_wp2
     go_loopw [90] (λi wq=>Rel3 B W N ga ca ws n w ats u gA l2 g2 H i wq) (λi _=>ws.length-(intOf i).toNat)
     case atStart=>exact⟨0,ats,Qn _,rfl,hy.out,HM.out,hG,λj hj=>absurd hj (by omega),λ_ _=>rfl⟩
     case round=>
      obtain⟨k,L,hk,rfl,hf,F,K,U,T⟩:=hrel
      by_cases d:k<ws.length
      ·obtain⟨_,_,e,_,hc⟩:=znX (HS.out.below hf) d
       injection e with e
       injection e with e1 e2 _
       subst e1;subst e2
       obtain⟨_,ke,gp,_⟩:=F.cells;obtain⟨J,gH⟩:=F.at k (by omega);have Q:=hIx (Rel3.pass y.out.ats f.out d (hb:=hf) (hM:=F) (hl:=K) (h1:=U) (h2:=T));have HG:=hIx (Rel3.go y.out.ats HE.out f.out HN.out d (hb:=hf.drew) (hM:=F.below (Qi _ _).drew) (hl:=K) (h1:=U) (h2:=T));have hp:=F.map;have hv:L.getD k 0=L[k]:=by rw[Qr,Qe (by omega)];rfl
       rw[hv]at HG
       have hQ:L[k]<65536:=by
        have h1:=y.out.lev.inv.lt (y.out.ats.str k (by rw[lstS,Qk];exact d));have h2:=y.out.few;rw[<-T k (Qd _),hv]at h1;omega
       clear F U T hv;generalize ws[k]=s at hc Q HG;generalize L[k]=a at J HG hQ
       by_cases h5:n<s.size
       ·obtain⟨q,g3,gZ,hK⟩:=HG.out h5
        have HQ:=hIx hK;clear HG Q hK;generalize hx:s[n]=x at g3
        have gQ:(Instr.lookup 141 (.map (some N)) (.agg #[jA (a:Int),.int .u8 x.toNat]) false).run prog wr.drew=.ok (jA (q:Int)) wr.drew:=by
         have:=zld (w:=wr.drew) (MpAt.keep hp rfl) ((a:Int),x) ⟨by omega,by show (a:Int)<_;omega⟩;rw[g3]at this;exact this
        clear hp;go_wp2_with fail
        go_region
        go_wp2;exact⟨HQ.out,by simp[intOf] <;> omega⟩
       ·have gi:=hIx (Q.out h5)
        clear HG Q;go_wp2;exact⟨gi.out,by simp[intOf] <;> omega⟩
      ·obtain rfl:k=ws.length:=by omega
       have HD:=hIx (Rel3.done y.out.lev y.out.ats HE.out f.out HN.out HF.out hf F K U);clear F U T;go_wp2;go_ret;exact HD.out
