/- Lemmas for the last texts. -/
import Derived.Test.YtnnokglddolglaaGreatDoorM25
import Derived.Deep.Strs
set_option maxHeartbeats 1600000
set_option maxRecDepth 100000
namespace Go.Proofs.YtnnokglddolglaaGreatDoor
open Go.RowKit Go.Proofs.Tryz
structure zhn where
 k:Int
 m:Int
 n:ByteArray
structure zcZ where
 k:Int
 n:Int
structure zat where
 id:Int
 phase:Int
 vars:List zhn
 pipe:List Int
 no:Bool
 op:Int
 arg:ByteArray
 acts:List zcZ
 chain:Bool
structure zeG where
 most:Int
 status:Int
 list:List zat
def zkI(b:UInt8):Bool:=(decide (97<=b.toNat)&&decide (b.toNat<=122))||(decide (48<=b.toNat)&&decide (b.toNat<=57))||b==45||b==95
def zfh(l:jE):Bool:=l.all zkI&&decide (1<=l.length)&&decide (l.length<=20)
def ofK(k:Int):Bool:=k==6||k==8||k==10
def varC(v:zhn):Int:=if v.k<1\/12<v.k\/v.m<0\/2<v.m\/(v.n.data.toList≠[]/\(ofK v.k&&zfh v.n.data.toList)=false)then 1 else 0
def loA(k:Int):Int:=if k=2 then 400 else if k=3\/k=4 then 1 else 0
def hiA(k:Int):Int:=if k=2 then 599 else if k=3 then 1000 else if k=4 then 9 else 0
def actC(a:zcZ):Int:=if a.k<1\/5<a.k\/a.n<loA a.k\/hiA a.k<a.n then 1 else 0
def zaS{a:Type}(f:a->Int):List a->Int
 | []=>0
 |x::r=>if f x≠0 then f x else zaS f r
theorem zif{b:Type}{f:b->Int}:∀{l:List b},zaS f l=0->∀x∈l,f x=0
 | [],_,x,a=>by cases a
 |y::r,h,x,a=>by
  unfold zaS at h
  split at h
  ·contradiction
  ·rename_i c
   rcases QI.1 a with rfl|a
   ·simpa using c
   ·exact zif h x a
def oneC(argC:Int->ByteArray->Int)(x:zat):Int:=
 if 8<x.vars.length\/6<x.acts.length then 2 else if x.vars.length=0\/x.acts.length=0 then 1 else if zaS varC x.vars≠0 then zaS varC x.vars else
 if zbw x.pipe≠0 then zbw x.pipe else if x.op<1\/12<x.op then 1 else if argC x.op x.arg≠0 then argC x.op x.arg else zaS actC x.acts
def goC(argC:Int->ByteArray->Int):List zat->List zat->Int
 |_,[]=>0
 |done,x::r=>if x.id<1\/9999<x.id\/(x.phase≠1/\x.phase≠2)then 1 else if done.any (λy=>y.id==x.id)=true then 9 else if oneC argC x≠0 then oneC argC x else goC argC (done++[x]) r
def zbC:List zat->Int
 | []=>0
 | [x]=>if x.chain=true then 1 else 0
 |x::y::r=>if x.chain=true/\y.phase≠x.phase then 1 else zbC (y::r)
def zbf(argC:Int->ByteArray->Int)(r:zeG):Int:=
 if r.most<1\/1000000<r.most\/r.status<400\/599<r.status then 1 else if 40<r.list.length then 2 else if goC argC [] r.list≠0 then goC argC [] r.list else zbC r.list
structure zyv(x:zat):Prop where
 id1:1<=x.id
 id2:x.id<=9999
 ph1:1<=x.phase
 ph2:x.phase<=2
 vars:∀v∈x.vars,varC v=0
 some:x.vars≠[]
 pipe:zbw x.pipe=0
 op1:1<=x.op
 op2:x.op<=12
 acts:∀a∈x.acts,actC a=0
 one:x.acts≠[]
theorem zx2{argC:Int->ByteArray->Int}{x:zat}(h:oneC argC x=0)(h1:¬(x.id<1\/9999<x.id\/(x.phase≠1/\x.phase≠2))):zyv x:=by
 unfold oneC at h
 split at h
 ·cases h
 split at h
 ·cases h
 rename_i a
 split at h
 ·contradiction
 rename_i c
 split at h
 ·contradiction
 rename_i b
 split at h
 ·cases h
 rename_i d
 split at h
 ·contradiction
 exact⟨by omega,by omega,by omega,by omega,zif (by simpa using c),λe=>a (.inl (by rw[e];rfl)),by simpa using b,by omega,by omega,zif h,λe=>a (.inr (by rw[e];rfl))⟩
theorem zwC{argC:Int->ByteArray->Int}:∀(l done:List zat),goC argC done l=0->∀x∈l,zyv x
 | [],_,_,x,a=>by cases a
 |y::r,done,h,x,a=>by
  unfold goC at h
  split at h
  ·cases h
  rename_i h1
  split at h
  ·cases h
  split at h
  ·contradiction
  rename_i h2
  rcases QI.1 a with rfl|a
  ·exact zx2 (by simpa using h2) h1
  ·exact zwC r _ h x a
theorem zfc{argC:Int->ByteArray->Int}{r:zeG}(h:zbf argC r=0):(1<=r.most/\r.most<=1000000/\400<=r.status/\r.status<=599)/\∀x∈r.list,zyv x:=by
 unfold zbf at h
 split at h
 ·cases h
 rename_i h1
 split at h
 ·cases h
 split at h
 ·contradiction
 rename_i h2;exact⟨by omega,zwC _ _ (by simpa using h2)⟩
section
open Go.ChangeShapes Go.WideShapes Go.Deep
def zcj(v:zhn):List Value:=[jA v.k,jA v.m,.string v.n]
def zck(a:zcZ):List Value:=[jA a.k,jA a.n]
structure RuM where
 r:zat
 vA:Option Addr
 vc:Nat
 pA:Option Addr
 pc:Nat
 aA:Option Addr
 ac:Nat
def za4(x:RuM):List Value:=[jA x.r.id,jA x.r.phase,.slice x.vA x.r.vars.length x.vc,.slice x.pA x.r.pipe.length x.pc,.bool x.r.no,jA x.r.op,.string x.r.arg,.slice x.aA x.r.acts.length x.ac,.bool x.r.chain]
structure RuIn(w:World)(B:Nat)(x:RuM):Prop where
 vars:Sl w B 3 x.vA x.r.vars.length (x.r.vars.flatMap zcj)
 pipe:Sl w B 1 x.pA x.r.pipe.length (x.r.pipe.map (Value.int .i64))
 acts:Sl w B 2 x.aA x.r.acts.length (x.r.acts.flatMap zck)
theorem RuIn.keep{w w':World}{B b:Nat}{x:RuM}(h:RuIn w B x)(hb:Below B w w')(a:B<=b):RuIn w' b x:=⟨(h.vars.below hb).more a,(h.pipe.below hb).more a,(h.acts.below hb).more a⟩
structure zkL(x:zat):Prop where
 vars:x.vars.length<=1048576
 names:∀v∈x.vars,v.n.size<=1048576
 pipe:x.pipe.length<=1048576
 arg:x.arg.size<=1048576
 acts:x.acts.length<=1048576
def zzp{H:Type}(f:zhn):DataW H:=.agg [.lit (.int .i64 f.k),.lit (.int .i64 f.m),.lit (.string f.n.data.toList)]
def zy1{H:Type}(f:zcZ):DataW H:=.agg [.lit (.int .i64 f.k),.lit (.int .i64 f.n)]
def zzA{H:Type}(z:Int):DataW H:=.lit (.int .i64 z)
section
variable {H:Type} {enc:TypeId × Value->H} {P:Program} {w:World} {base:Nat} {spare:Nat->Bool} {held:Bool}
theorem zmE{t:TypeId}{g k u A z q r j d:Field}{b:Nat}{cs:List Value}{x:DataW H × List MemPlace}(C:P.underlying t=some (.struct #[g,k,u,A,z,q,r,j,d]))(h:DataW.trod enc P w base spare held b t cs=some x):
 ∃(y:Fin 9->DataW H × List MemPlace) (n:Nat),x.1=.agg [(y 0).1,(y 1).1,(y 2).1,(y 3).1,(y 4).1,(y 5).1,(y 6).1,(y 7).1,(y 8).1]/\cs.length=P.cellsOf t/\
  ∀(i:Fin 9) (f:Field),[g,k,u,A,z,q,r,j,d][i.val]? = some f->DataW.trod enc P w base spare held n f.type ((cs.drop f.offset).take (P.cellsOf f.type))=some (y i):=by
 obtain⟨xs,n,_,rfl,hl,a,D⟩:=DataW.trod_struct C h
 match xs,a with
 | [v,e,B,l,s,o,p,c,m],_=>
  refine⟨λi=>[v,e,B,l,s,o,p,c,m][i.val]'(i.isLt),n,rfl,hl,λi f E=>?_⟩;have:=D i.val f (by simpa using E);rw[Qd (show i.val<[v,e,B,l,s,o,p,c,m].length from i.isLt)]at this
  simpa using this
end
theorem zqm{k:Type}{l:List k}(h:l.length=9):∃a b c d e f g i j,l=[a,b,c,d,e,f,g,i,j]:=by
 match l,h with
 | [a,b,c,d,e,f,g,i,j],_=>exact⟨a,b,c,d,e,f,g,i,j,rfl⟩
theorem znK{d:Type}{l:List d}(h:l.length=3):∃a b c,l=[a,b,c]:=by
 match l,h with
 | [a,b,c],_=>exact⟨a,b,c,rfl⟩
theorem ztT{c:Type}{l:List c}(h:l.length=2):∃a b,l=[a,b]:=by
 match l,h with
 | [a,b],_=>exact⟨a,b,rfl⟩
theorem zg2:prog.cellsOf 3=1:=by kernel_rfl
theorem zq5:prog.cellsOf 4=1:=by kernel_rfl
theorem zpi:prog.cellsOf 9=1:=by kernel_rfl
theorem zo6:prog.cellsOf 55=3:=by kernel_rfl
theorem zoP:prog.cellsOf 44=2:=by kernel_rfl
theorem zmq:prog.cellsOf 42=9:=by kernel_rfl
theorem zqt:prog.cellsOf 24=3:=by kernel_rfl
theorem zrA:prog.cellsOf 39=1:=by kernel_rfl
theorem ztX:prog.cellsOf 40=1:=by kernel_rfl
theorem zs6:prog.cellsOf 31=1:=by kernel_rfl
theorem zmo{H:Type}{l sp:List (DataW H)}{d:DataW H}(h:d∈l)(hb:Rows.uptoBulk (.slice l sp)<=1048576):Rows.uptoBulk d<=1048576:=by
 have:=ze2 h;rw[Rows.uptoBulk]at hb;omega
theorem zdG{H:Type}{l:List (DataW H)}{d:DataW H}(h:d∈l)(hb:Rows.uptoBulk (.agg l)<=1048576):Rows.uptoBulk d<=1048576:=by
 have:=ze2 h;rw[Rows.uptoBulk]at hb;omega
theorem zpn{H:Type}{s:ByteArray}(hb:Rows.uptoBulk (.lit (.string s.data.toList):DataW H)<=1048576):s.size<=1048576:=by
 simp only[Rows.uptoBulk,Zy]at hb;have:s.data.size=s.size:=rfl;omega
section
variable {H:Type} {enc:TypeId × Value->H} {w:World} {base:Nat} {spare:Nat->Bool} {held:Bool} {fuel:Nat} {cs:List Value} {x:DataW H × List MemPlace}
theorem zoi(h:DataW.trod enc prog w base spare held fuel 39 cs=some x):
 ∃(A:Option Addr) (c:Nat) (l:List zhn),cs=[.slice A l.length c]/\Sl w w.heap.size 3 A l.length (l.flatMap zcj)/\(Rows.uptoBulk x.1<=1048576->l.length<=1048576/\∀v∈l,v.n.size<=1048576):=by
 obtain⟨A,len,c,l,h1,h2,_,_,_,B,b⟩:=zd6 3 zcj zzp (λ_=>True) underlying39 zo6 (λ_=>rfl)
  (λn r y t=>by
   obtain⟨F,E,G,D,z,hl,i,j,g⟩:=trod_struct3 underlying55 t;rw[zo6]at hl;obtain⟨c0,c1,c2,rfl⟩:=znK hl;rw[zg2]at i j;rw[zpi]at g;obtain⟨q,a,p,_⟩:=Xi underlying3 i;obtain⟨o,e,C,_⟩:=Xi underlying3 j;obtain⟨s,d,u,_⟩:=DataW.trod_string underlying9 g;injection a with a _
   injection e with e _
   injection d with d _
   subst a;subst e;subst d;subst z;subst p;subst C;subst u
   exact⟨⟨q,o,s⟩,rfl,rfl,trivial⟩) h
 subst h2;refine⟨A,c,l,h1,B,λhb=>?_⟩
 rcases b with ⟨_,rfl⟩|⟨sp,b⟩
 ·exact⟨Qm _,λv f=>by cases f⟩
 ·rw[b]at hb
  have:=zdg (l:=(l.map zzp:List (DataW H))) (sp:=sp);rw[Qh]at this;exact⟨by omega,λv f=>zpn (zdG (l:=[.lit (.int .i64 v.k),.lit (.int .i64 v.m),.lit (.string v.n.data.toList)]) (by simp) (zmo (QR.2 ⟨v,f,rfl⟩) hb))⟩
theorem zm5(h:DataW.trod enc prog w base spare held fuel 40 cs=some x):
 ∃(A:Option Addr) (c:Nat) (l:List zcZ),cs=[.slice A l.length c]/\Sl w w.heap.size 2 A l.length (l.flatMap zck)/\(Rows.uptoBulk x.1<=1048576->l.length<=1048576):=by
 obtain⟨A,len,c,l,h1,h2,_,_,_,p,b⟩:=zd6 2 zck zy1 (λ_=>True) underlying40 zoP (λ_=>rfl)
  (λn k y m=>by
   obtain⟨t,s,r,o,hl,e,f⟩:=trod_struct2 underlying44 m;rw[zoP]at hl;obtain⟨c0,c1,rfl⟩:=ztT hl;rw[zg2]at e f;obtain⟨j,a,i,_⟩:=Xi underlying3 e;obtain⟨g,d,q,_⟩:=Xi underlying3 f;injection a with a _
   injection d with d _
   subst a;subst d;subst o;subst i;subst q
   exact⟨⟨j,g⟩,rfl,rfl,trivial⟩) h
 subst h2;refine⟨A,c,l,h1,p,λhb=>?_⟩
 rcases b with ⟨_,rfl⟩|⟨sp,b⟩
 ·exact Qm _
 ·rw[b]at hb
  have:=zdg (l:=(l.map zy1:List (DataW H))) (sp:=sp);rw[Qh]at this;omega
theorem zn6(h:DataW.trod enc prog w base spare held fuel 31 cs=some x):
 ∃(A:Option Addr) (c:Nat) (l:List Int),cs=[.slice A l.length c]/\Sl w w.heap.size 1 A l.length (l.map (Value.int .i64))/\(Rows.uptoBulk x.1<=1048576->l.length<=1048576):=by
 obtain⟨A,len,c,l,h1,h2,_,_,_,d,b⟩:=zd6 1 (λz:Int=>[jA z]) zzA (λ_=>True) underlying31 zg2 (λ_=>rfl)
  (λn f y g=>by
   obtain⟨k,e,hy1,_⟩:=Xi underlying3 g;exact⟨k,e,by rw[hy1];rfl,trivial⟩) h
 subst h2;refine⟨A,c,l,h1,?_,λhb=>?_⟩
 ·have:∀l:List Int,l.flatMap (λz:Int=>[jA z])=l.map (Value.int .i64):=λl=>by
   induction l with
   |nil=>rfl
   |cons a r ih=>rw[QH,ih];rfl
  rw[this]at d;exact d
 ·rcases b with ⟨_,rfl⟩|⟨sp,b⟩
  ·exact Qm _
  ·rw[b]at hb
   have:=zdg (l:=(l.map zzA:List (DataW H))) (sp:=sp);rw[Qh]at this;omega
end
structure RuD(H:Type) where
 m:RuM
 dat:DataW H
def zzG{H:Type}(w:World)(a:RuD H):Prop:=RuIn w w.heap.size a.m/\(Rows.uptoBulk a.dat<=1048576->zkL a.m.r)
section
variable {H:Type} {enc:TypeId × Value->H} {w:World} {base:Nat} {spare:Nat->Bool} {held:Bool} {fuel:Nat} {cs:List Value} {x:DataW H × List MemPlace}
theorem zoa(h:DataW.trod enc prog w base spare held fuel 42 cs=some x):∃a:RuD H,cs=za4 a.m/\x.1=a.dat/\zzG w a:=by
 obtain⟨y,n,hx,hl,b⟩:=zmE underlying42 h;rw[zmq]at hl;obtain⟨c0,c1,c2,c3,c4,c5,c6,c7,Q,rfl⟩:=zqm hl;have f:=b 0 _ rfl;have k:=b 1 _ rfl;have e:=b 2 _ rfl;have o:=b 3 _ rfl;have j:=b 4 _ rfl;have l:=b 5 _ rfl;have c:=b 6 _ rfl;have g:=b 7 _ rfl;have i:=b 8 _ rfl;dsimp only at f k e o j l c g i;rw[zg2]at f k l;rw[zrA]at e;rw[zs6]at o;rw[zq5]at j i;rw[zpi]at c;rw[ztX]at g;obtain⟨t,K,_,_⟩:=Xi underlying3 f;obtain⟨p,e1,_,_⟩:=Xi underlying3 k;obtain⟨G,I,J,e2,Y,V⟩:=zoi e;obtain⟨F,z,B,e3,s3,z3⟩:=zn6 o;obtain⟨u,e4,_⟩:=DataW.trod_bool underlying4 j;obtain⟨A,L,_,_⟩:=Xi underlying3 l;obtain⟨C,X,x6,_⟩:=DataW.trod_string underlying9 c;obtain⟨v,q,D,S,U,P⟩:=zm5 g;obtain⟨s,e8,_⟩:=DataW.trod_bool underlying4 i;have N:c0=jA t:=by injection K
 have Z:c1=jA p:=by injection e1
 have q2:c2=.slice G J.length I:=by injection e2
 have q3:c3=.slice F B.length z:=by injection e3
 have q4:c4=.bool u:=by injection e4
 have q5:c5=jA A:=by injection L
 have W:c6=.string C:=by injection X
 have O:c7=.slice v D.length q:=by injection S
 have q8:Q=.bool s:=by injection e8
 subst N;subst Z;subst q2;subst q3;subst q4;subst q5;subst W;subst O;subst q8
 refine⟨⟨⟨⟨t,p,J,B,u,A,C,D,s⟩,G,I,F,z,v,q⟩,x.1⟩,rfl,rfl,⟨Y,s3,U⟩,λhb=>?_⟩;dsimp only at hb;rw[hx]at hb;have E:=V (zdG (d:=(y 2).1) (by simp) hb);have T:=z3 (zdG (d:=(y 3).1) (by simp) hb);have r:=zdG (d:=(y 6).1) (by simp) hb;have b7:=P (zdG (d:=(y 7).1) (by simp) hb);rw[x6]at r;exact⟨E.1,E.2,T,zpn r,b7⟩
end
structure RuArg where
 most:Int
 status:Int
 A:Option Addr
 c:Nat
 l:List RuM
def RuArg.set(a:RuArg):zeG:=⟨a.most,a.status,a.l.map RuM.r⟩
def RuArg.value(a:RuArg):Value:=.agg #[jA a.most,jA a.status,.slice a.A a.l.length a.c]
structure RuLies(W:World)(B:Nat)(a:RuArg):Prop where
 sl:Sl W B 9 a.A a.l.length (a.l.flatMap za4)
 all:∀x∈a.l,RuIn W B x
 cap:a.l.length<=a.c
theorem RuLies.keep{w w':World}{B b:Nat}{a:RuArg}(h:RuLies w B a)(hb:Below B w w')(c:B<=b):RuLies w' b a:=⟨(h.sl.below hb).more c,λx d=>(h.all x d).keep hb c,h.cap⟩
structure zoF(W:World)(v:Value)(a:RuArg):Prop where
 val:v=a.value
 lies:RuLies W W.heap.size a
structure zdb(a:RuArg):Prop where
 len:a.l.length<=1048576
 all:∀x∈a.l,zkL x.r
def zot{H:Type}(a:RuArg)(d:DataW H):Prop:=Rows.uptoBulk d<=1048576->zdb a
theorem zqR{H:Type}{a:RuArg}{d:DataW H}(h:zot a d)(hb:Rows.uptoBulk d<=1048576):zdb a:=h hb
theorem zpJ{H:Type}{enc:TypeId × Value->H}{w:World}{base:Nat}{e:Nat->Bool}{i:Bool}{v:Value}{d:DataW H}{p:List MemPlace}{r:Reach}{D:Nat}
 (O:Value.okWide prog w r D 24 v) (B:DataW.Trod enc prog w base e i 24 v d p):∃a,zoF w v a/\zot a d:=by
 obtain⟨P,G,K,T,S,t,n,rfl,rfl,rfl,E,I,C⟩:=Joins.open_agg3 underlying24 (by kernel_rfl) zqt O B;obtain⟨q,u,_,_⟩:=Xi underlying3 E;obtain⟨o,N,_,_⟩:=Xi underlying3 I;obtain⟨A,len,c,l,h1,h2,j,_,s,L,h⟩:=zd6 9 (λa:RuD H=>za4 a.m) RuD.dat (zzG w) underlying22 zmq (λ_=>rfl) (λn J y f=>zoa f) C;have z:P=jA q:=by injection u
 have F:G=jA o:=by injection N
 subst h2;have Q:K=.slice A l.length c:=by injection h1
 subst z;subst F;subst Q
 have g:l.flatMap (λa=>za4 a.m)=(l.map RuD.m).flatMap za4:=by rw[List.flatMap_map]
 refine⟨⟨q,o,A,c,l.map RuD.m⟩,⟨by unfold RuArg.value;rw[Qh],⟨?_,?_,by show (l.map RuD.m).length<=c;rw[Qh];exact j⟩⟩,λhb=>⟨?_,?_⟩⟩
 ·show Sl w w.heap.size 9 A (l.map RuD.m).length ((l.map RuD.m).flatMap za4)
  rw[Qh,<-g];exact L
 ·intro x k
  obtain⟨y,f,rfl⟩:=QR.1 k;exact(s y f).1
 ·have b:=zdG (d:=t.1) (by simp) hb
  show (l.map RuD.m).length<=1048576
  rw[Qh]
  rcases h with ⟨_,rfl⟩|⟨sp,h⟩
  ·exact Qm _
  ·rw[h]at b
   have:=zdg (l:=(l.map RuD.dat)) (sp:=sp);rw[Qh]at this;omega
 ·intro x k
  obtain⟨y,f,rfl⟩:=QR.1 k;have b:=zdG (d:=t.1) (by simp) hb
  rcases h with ⟨_,rfl⟩|⟨sp,h⟩
  ·cases f
  ·rw[h]at b
   exact(s y f).2 (zmo (QR.2 ⟨y,f,rfl⟩) b)
end
def zbl(c:Int)(w:World)(e:Ending)(w':World):Prop:=e=jC (jA c)/\w w'
theorem zyB{b:UInt8}(h:(97<=(b.toNat:Int)/\(b.toNat:Int)<=122)\/(48<=(b.toNat:Int)/\(b.toNat:Int)<=57)\/(b.toNat:Int)=45\/(b.toNat:Int)=95):zkI b=true:=by
 unfold zkI;simp only[Xo,QU,QY,Zo]
 rcases h with h|h|h|h
 ·left;left;left;omega
 ·left;left;right;omega
 ·left;right;exact Zs.1 (by show b.toNat=45;omega)
 ·right;exact Zs.1 (by show b.toNat=95;omega)
theorem zxe{b:UInt8}(h:¬((97<=(b.toNat:Int)/\(b.toNat:Int)<=122)\/(48<=(b.toNat:Int)/\(b.toNat:Int)<=57)\/(b.toNat:Int)=45\/(b.toNat:Int)=95)):zkI b=false:=by
 cases hb:zkI b with
 |false=>rfl
 |true=>
  unfold zkI at hb;simp only[Xo,QU,QY,Zo]at hb
  exfalso
  rcases hb with ((hb|hb)|hb)|hb
  ·omega
  ·omega
  ·subst hb;exact h (.inr (.inr (.inl rfl)))
  ·subst hb;exact h (.inr (.inr (.inr rfl)))
def zwY(s:ByteArray)(i:Value):Prop:=∃k:Nat,k<=s.size/\i=jA k/\s.data.toList.all zkI=(s.data.toList.drop k).all zkI
theorem zsD(s:ByteArray)(w:World)(o:s.size<=maxLen):
 Calls prog 100 #[.string s] w λe w'=>e=jC (.bool (zfh s.data.toList))/\w'=w:=by
 unfold maxLen at o;have h:Hid (s.data.toList.length=s.size):=by unfold Hid;simp
 go_in
 go_wp2_with fail
 go_loop [7] (λi=>zwY s i) (λi=>s.size-(intOf i).toNat)
 case atStart=>exact⟨0,Qm _,rfl,rfl⟩
 case round=>
  obtain⟨k,u,rfl,j⟩:=hrel;have d:=hIx j;clear j
  by_cases b:k<s.size
  ·have l:=hIx (zaH s k b)
   have m:=s[k].toNat_lt
   by_cases hn:(97<=(s[k].toNat:Int)/\(s[k].toNat:Int)<=122)\/(48<=(s[k].toNat:Int)/\(s[k].toNat:Int)<=57)\/(s[k].toNat:Int)=45\/(s[k].toNat:Int)=95
   ·have f:=hIx (zyB hn)
    have q:Hid (zwY s (jA ((k:Int)+1))):=⟨k+1,by omega,rfl,by rw[d.out,l.out,ZR,f.out];rfl⟩
    rcases hn with hn|hn|hn|hn
    all_goals
     go_wp2;exact⟨q.out,by simp[intOf] <;> omega⟩
   ·have f:=hIx (zxe hn)
    have p:(s[k].toNat:Int)≠45:=λe=>hn (.inr (.inr (.inl e)))
    have n2:(s[k].toNat:Int)≠95:=λe=>hn (.inr (.inr (.inr e)))
    have n3:(s[k].toNat:Int)<48\/(57<(s[k].toNat:Int)/\(s[k].toNat:Int)<97)\/122<(s[k].toNat:Int):=by omega
    have a:Hid (zfh s.data.toList=false):=by unfold Hid zfh;rw[d.out,l.out,ZR,f.out];rfl
    have v:((s[k].toNat:Int) != 45)=true:=Q7.2 p;have t:((s[k].toNat:Int) != 95)=true:=Q7.2 n2;clear hn
    rcases n3 with n3|n3|n3
    all_goals
     go_wp2;go_ret;exact⟨zaK a.out.symm,rfl⟩
  ·have c:k=s.size:=by omega
   have r:Hid (s.data.toList.all zkI=true):=by
    unfold Hid;rw[d.out,QN (by rw[h.out];omega)];rfl
   have a:Hid (zfh s.data.toList=(decide (1<=s.size)&&decide (s.size<=20))):=by
    unfold Hid zfh;rw[r.out,h.out];rfl
   clear c
   by_cases h1:1<=s.size
   ·by_cases h2:s.size<=20
    ·have g:decide ((1:Int)<=(s.size:Int))=true:=by simp;omega
     have n:decide ((s.size:Int)<=20)=true:=by simp;omega
     go_wp2;go_ret;exact⟨zaK (by rw[a.out,Qu h1,Qu h2];rfl),rfl⟩
    ·have g:decide ((1:Int)<=(s.size:Int))=true:=by simp;omega
     have n:decide ((s.size:Int)<=20)=false:=by simp;omega
     go_wp2;go_ret;exact⟨zaK (by rw[a.out,Qu h1,Qq h2];rfl),rfl⟩
   ·have g:decide ((1:Int)<=(s.size:Int))=false:=by simp;omega
    go_wp2;go_ret;exact⟨zaK (by rw[a.out,Qq h1];rfl),rfl⟩
theorem zlI(v:zhn)(w:World)(s:v.n.size<=maxLen):
 Calls prog 72 #[.agg #[jA v.k,jA v.m,.string v.n]] w (zbl (varC v) w):=by
 have c:varC v=if v.k<1\/12<v.k\/v.m<0\/2<v.m\/(v.n.data.toList≠[]/\(ofK v.k&&zfh v.n.data.toList)=false)then 1 else 0:=rfl;obtain⟨k,m,n⟩:=v;dsimp only at s c ⊢;have l:Hid (∀W,Calls prog 100 #[.string n] W λe w'=>e=jC (.bool (zfh n.data.toList))/\w'=W):=λW=>zsD n W s
 unfold zbl;have b:(k<1\/12<k)\/(1<=k/\k<=12/\k≠6/\k≠8/\k≠10)\/k=6\/k=8\/k=10:=by omega
 rcases b with b|b
 ·have j:(k==6)=false:=Qb.2 (by omega)
  have o:(k==8)=false:=Qb.2 (by omega);have g:(k==10)=false:=Qb.2 (by omega);have d:Hid (varC ⟨k,m,n⟩=1):=hIx (by rw[c,Qg (by omega)]);clear c
  rcases b with b|b
  rotate_left
  have p:1<=k:=by omega
  all_goals
   go_in
   go_wp2;go_ret;exact⟨zac d.out.symm,WaL⟩
 ·have p:1<=k:=by omega
  have u:k<=12:=by omega
  by_cases A:m<0
  ·have d:Hid (varC ⟨k,m,n⟩=1):=hIx (by rw[c,Qg (by omega)])
   clear c
   rcases b with b|rfl|rfl|rfl
   have j:(k==6)=false:=Qb.2 (by omega);have o:(k==8)=false:=Qb.2 (by omega);have g:(k==10)=false:=Qb.2 (by omega);clear b
   all_goals
    go_in
    go_wp2;go_ret;exact⟨zac d.out.symm,WaL⟩
  by_cases x:2<m
  ·have d:Hid (varC ⟨k,m,n⟩=1):=hIx (by rw[c,Qg (by omega)])
   clear c
   rcases b with b|rfl|rfl|rfl
   have j:(k==6)=false:=Qb.2 (by omega);have o:(k==8)=false:=Qb.2 (by omega);have g:(k==10)=false:=Qb.2 (by omega);clear b
   all_goals
    go_in
    go_wp2;go_ret;exact⟨zac d.out.symm,WaL⟩
  by_cases f:n.data.toList=[]
  ·have z:(n.toList==[])=true:=by rw[QP,f];rfl
   have q:n.toList.isEmpty=true:=by rw[QP,f];rfl
   have d:Hid (varC ⟨k,m,n⟩=0):=hIx (by rw[c,Qe];rintro(h|h|h|h|h);omega;omega;omega;omega;exact h.1 f);clear c f
   rcases b with b|rfl|rfl|rfl
   have j:(k==6)=false:=Qb.2 (by omega);have o:(k==8)=false:=Qb.2 (by omega);have g:(k==10)=false:=Qb.2 (by omega);clear b
   all_goals
    go_in
    go_wp2;go_ret;exact⟨zac d.out.symm,WaL⟩
  have z:(n.toList==[])=false:=by rw[QP];exact Qb.2 f
  have q:n.toList.isEmpty=false:=by rw[QP];cases y:n.data.toList with|nil=>exact absurd y f|cons a r=>rfl
  rcases b with b|b
  ·have d:Hid (varC ⟨k,m,n⟩=1):=hIx (by
    rw[c,Qg];refine .inr (.inr (.inr (.inr ⟨f,?_⟩)))
    have:ofK k=false:=by
     unfold ofK;rw[Qb.2 b.2.2.1,Qb.2 b.2.2.2.1,Qb.2 b.2.2.2.2];rfl
    rw[this,Bool.false_and])
   clear c f;have j:(k==6)=false:=Qb.2 (by omega);have o:(k==8)=false:=Qb.2 (by omega);have g:(k==10)=false:=Qb.2 (by omega);clear b
   go_in
   go_wp2;go_ret;exact⟨zac d.out.symm,WaL⟩
  ·have i:ofK k=true:=by rcases b with rfl|rfl|rfl <;> rfl
   rw[i,Bool.true_and]at c;cases hb:zfh n.data.toList with
   |true=>
    rw[hb]at l c;have d:Hid (varC ⟨k,m,n⟩=0):=hIx (by rw[c,Qe];rintro(h|h|h|h|h);omega;omega;omega;omega;exact absurd h.2 (by decide));clear c f i hb
    rcases b with rfl|rfl|rfl
    all_goals
     go_in
     go_wp2_with (go_at_call 100;refine(l.out _).mono ?_;rintro e t ⟨rfl,rfl⟩);go_ret;exact⟨zac d.out.symm,WaL⟩
   |false=>
    rw[hb]at l c;have d:Hid (varC ⟨k,m,n⟩=1):=hIx (by rw[c,Qg];exact .inr (.inr (.inr (.inr ⟨f,rfl⟩))));clear c f i hb
    rcases b with rfl|rfl|rfl
    all_goals
     go_in
     go_wp2_with (go_at_call 100;refine(l.out _).mono ?_;rintro e t ⟨rfl,rfl⟩);go_ret;exact⟨zac d.out.symm,WaL⟩
theorem zxo(a:zcZ)(w:World):
 Calls prog 76 #[.agg #[jA a.k,jA a.n]] w (zbl (actC a) w):=by
 have b:actC a=if a.k<1\/5<a.k\/a.n<loA a.k\/hiA a.k<a.n then 1 else 0:=rfl;obtain⟨k,n⟩:=a;dsimp only at b ⊢;unfold zbl;have e:(k<1\/5<k)\/k=1\/k=2\/k=3\/k=4\/k=5:=by omega
 rcases e with e|rfl|rfl|rfl|rfl|rfl
 ·have c:Hid (actC ⟨k,n⟩=1):=hIx (by rw[b,Qg (by omega)])
  have g:(k==1)=false:=Qb.2 (by omega);have i:(k==2)=false:=Qb.2 (by omega);have h:(k==3)=false:=Qb.2 (by omega);have f:(k==4)=false:=Qb.2 (by omega);have j:(k==5)=false:=Qb.2 (by omega);clear b e
  go_in
  go_wp2;go_ret;exact⟨zac c.out.symm,WaL⟩
 ·have hl:loA 1=0:=rfl
  have d:hiA 1=0:=rfl;rw[hl,d]at b;clear hl d
  by_cases h1:n<0
  ·have c:Hid (actC ⟨1,n⟩=1):=hIx (by rw[b,Qg (by omega)])
   clear b
   go_in
   go_wp2;go_ret;exact⟨zac c.out.symm,WaL⟩
  by_cases h2:0<n
  have c:Hid (actC ⟨1,n⟩=1):=hIx (by rw[b,Qg (by omega)])
  rotate_left
  have c:Hid (actC ⟨1,n⟩=0):=hIx (by rw[b,Qe (by omega)])
  all_goals
   clear b
   go_in
   go_wp2;go_ret;exact⟨zac c.out.symm,WaL⟩
 ·have hl:loA 2=400:=rfl
  have d:hiA 2=599:=rfl;rw[hl,d]at b;clear hl d
  by_cases h1:n<400
  ·have c:Hid (actC ⟨2,n⟩=1):=hIx (by rw[b,Qg (by omega)])
   clear b
   go_in
   go_wp2;go_ret;exact⟨zac c.out.symm,WaL⟩
  by_cases h2:599<n
  have c:Hid (actC ⟨2,n⟩=1):=hIx (by rw[b,Qg (by omega)])
  rotate_left
  have c:Hid (actC ⟨2,n⟩=0):=hIx (by rw[b,Qe (by omega)])
  all_goals
   clear b
   go_in
   go_wp2;go_ret;exact⟨zac c.out.symm,WaL⟩
 ·have hl:loA 3=1:=rfl
  have d:hiA 3=1000:=rfl;rw[hl,d]at b;clear hl d
  by_cases h1:n<1
  ·have c:Hid (actC ⟨3,n⟩=1):=hIx (by rw[b,Qg (by omega)])
   clear b
   go_in
   go_wp2;go_ret;exact⟨zac c.out.symm,WaL⟩
  by_cases h2:1000<n
  have c:Hid (actC ⟨3,n⟩=1):=hIx (by rw[b,Qg (by omega)])
  rotate_left
  have c:Hid (actC ⟨3,n⟩=0):=hIx (by rw[b,Qe (by omega)])
  all_goals
   clear b
   go_in
   go_wp2;go_ret;exact⟨zac c.out.symm,WaL⟩
 ·have hl:loA 4=1:=rfl
  have d:hiA 4=9:=rfl;rw[hl,d]at b;clear hl d
  by_cases h1:n<1
  ·have c:Hid (actC ⟨4,n⟩=1):=hIx (by rw[b,Qg (by omega)])
   clear b
   go_in
   go_wp2;go_ret;exact⟨zac c.out.symm,WaL⟩
  by_cases h2:9<n
  have c:Hid (actC ⟨4,n⟩=1):=hIx (by rw[b,Qg (by omega)])
  rotate_left
  have c:Hid (actC ⟨4,n⟩=0):=hIx (by rw[b,Qe (by omega)])
  all_goals
   clear b
   go_in
   go_wp2;go_ret;exact⟨zac c.out.symm,WaL⟩
 ·have hl:loA 5=0:=rfl
  have d:hiA 5=0:=rfl;rw[hl,d]at b;clear hl d
  by_cases h1:n<0
  ·have c:Hid (actC ⟨5,n⟩=1):=hIx (by rw[b,Qg (by omega)])
   clear b
   go_in
   go_wp2;go_ret;exact⟨zac c.out.symm,WaL⟩
  by_cases h2:0<n
  have c:Hid (actC ⟨5,n⟩=1):=hIx (by rw[b,Qg (by omega)])
  rotate_left
  have c:Hid (actC ⟨5,n⟩=0):=hIx (by rw[b,Qe (by omega)])
  all_goals
   clear b
   go_in
   go_wp2;go_ret;exact⟨zac c.out.symm,WaL⟩
theorem zyT{w:World}{B m:Nat}{A:Option Addr}{l:List zhn}(h:Sl w B 3 A m (l.flatMap zcj))(k:Nat)(c:k<l.length):
 ∃b off,A=some ⟨b,off,none⟩/\b<B/\w.cell? ⟨b,off+k*3,none⟩=some (jA l[k].k)/\w.cell? ⟨b,off+k*3+1,none⟩=some (jA l[k].m)/\w.cell? ⟨b,off+k*3+2,none⟩=some (.string l[k].n):=by
 have hl:=za0 zcj 3 (λ_=>rfl) l;obtain⟨b,off,e,hb,g⟩:=h.src (by omega)
 have a:∀j,j<3->∀v,(zcj l[k])[j]? = some v->w.cell? ⟨b,off+k*3+j,none⟩=some v:=λj f v d=>by
  have h1:=zcw zcj 3 (λ_=>rfl) l k j c f;have h2:k*3+j<(l.flatMap zcj).length:=by omega
  rw[Zk,g (k*3+j) h2];rw[Qd h2]at h1;rw[h1,d]
 exact⟨b,off,e,hb,a 0 (by decide) _ rfl,a 1 (by decide) _ rfl,a 2 (by decide) _ rfl⟩
theorem zpN(g:Nat)(C:Array Value)(N:∀args w,(callFunc g args).run prog w=.ok (.enter g args) w)(f:zhn->Int)(l:List zhn)(A:Option Addr)(c:Nat)(w:World)
 (h:Sl w w.heap.size 3 A l.length (l.flatMap zcj)) (hl:l.length<=1048576)
 (B:∀W,∀x∈l,w W->Calls prog g (#[.agg #[jA x.k,jA x.m,.string x.n]]++C) W (zbl (f x) W)):
 Calls prog 71 #[.slice A l.length c,.func (.func g) #[] C] w (zbl (zaS f l) w):=by
 have G:=hIx B;have K:Hid (∀k (u:k<l.length),l.drop k=l[k]::l.drop (k+1)):=λk u=>Zb u
 clear B
 go_in
 go_wp2
 go_loopw [10] (λi wr=>∃k:Nat,k<=l.length/\i=jA k/\w wr/\Hid (zaS f l=zaS f (l.drop k))) (λi _=>l.length-(intOf i).toNat)
 case atStart=>exact⟨0,Qm _,rfl,Qj _ _,rfl⟩
 case round=>
  obtain⟨k,u,rfl,hb,s⟩:=hrel
  by_cases a:k<l.length
  ·obtain⟨b,off,rfl,I,D,J,H⟩:=zyT (h.below hb) k a
   have v:=λW F=>G.out W l[k] (Qz a) F
   have t:=K.out k a;generalize l[k]=x at *;obtain⟨p,q,r⟩:=x;dsimp only at D J H v;have y:=hIx (v _ (hb.alloc hb.size (.cells #[jA p,jA q,.string r] 55)));have z:=hb.size;clear v
   by_cases j:f ⟨p,q,r⟩=0
   ·have o:Hid (zaS f l=zaS f (l.drop (k+1))):=hIx (by rw[s.out,t,zaS,Qe (by rw[j];decide)])
    rw[j]at y;clear t s j;go_wp2_with (go_at_fn g;refine y.out.mono ?_;rintro e E ⟨rfl,d⟩)
    go_roundw
    case rel=>exact⟨k+1,by omega,by go_num,hb.trans (zaI d z),o⟩
    case measure=>simp[intOf] <;> omega
   ·have o:Hid (zaS f l=f ⟨p,q,r⟩):=hIx (by rw[s.out,t,zaS,Qg j])
    have L:(f ⟨p,q,r⟩==0)=false:=Qb.2 j;clear t s j;generalize f ⟨p,q,r⟩=O at *;go_wp2_with (go_at_fn g;refine y.out.mono ?_;rintro e E ⟨rfl,d⟩);go_ret;exact⟨zac o.out.symm,hb.trans (zaI d z)⟩
  ·obtain rfl:k=l.length:=by omega
   have o:Hid (zaS f l=0):=hIx (by rw[s.out,QN (Qc _)];rfl);go_wp2;go_ret;exact⟨zac o.out.symm,hb⟩
theorem zwU{w:World}{B m:Nat}{A:Option Addr}{l:List zcZ}(h:Sl w B 2 A m (l.flatMap zck))(k:Nat)(c:k<l.length):
 ∃b off,A=some ⟨b,off,none⟩/\b<B/\w.cell? ⟨b,off+k*2,none⟩=some (jA l[k].k)/\w.cell? ⟨b,off+k*2+1,none⟩=some (jA l[k].n):=by
 have hl:=za0 zck 2 (λ_=>rfl) l;obtain⟨b,off,e,hb,g⟩:=h.src (by omega)
 have a:∀j,j<2->∀v,(zck l[k])[j]? = some v->w.cell? ⟨b,off+k*2+j,none⟩=some v:=λj f v d=>by
  have h1:=zcw zck 2 (λ_=>rfl) l k j c f;have h2:k*2+j<(l.flatMap zck).length:=by omega
  rw[Zk,g (k*2+j) h2];rw[Qd h2]at h1;rw[h1,d]
 exact⟨b,off,e,hb,a 0 (by decide) _ rfl,a 1 (by decide) _ rfl⟩
theorem zqz(g:Nat)(z:Array Value)(J:∀args w,(callFunc g args).run prog w=.ok (.enter g args) w)(f:zcZ->Int)(l:List zcZ)(A:Option Addr)(c:Nat)(w:World)
 (h:Sl w w.heap.size 2 A l.length (l.flatMap zck)) (hl:l.length<=1048576)
 (y:∀W,∀x∈l,w W->Calls prog g (#[.agg #[jA x.k,jA x.n]]++z) W (zbl (f x) W)):
 Calls prog 75 #[.slice A l.length c,.func (.func g) #[] z] w (zbl (zaS f l) w):=by
 have E:=hIx y;have H:Hid (∀k (s:k<l.length),l.drop k=l[k]::l.drop (k+1)):=λk s=>Zb s
 clear y
 go_in
 go_wp2
 go_loopw [10] (λi wr=>∃k:Nat,k<=l.length/\i=jA k/\w wr/\Hid (zaS f l=zaS f (l.drop k))) (λi _=>l.length-(intOf i).toNat)
 case atStart=>exact⟨0,Qm _,rfl,Qj _ _,rfl⟩
 case round=>
  obtain⟨k,s,rfl,hb,o⟩:=hrel
  by_cases a:k<l.length
  ·obtain⟨b,off,rfl,F,B,G⟩:=zwU (h.below hb) k a
   have t:=λW D=>E.out W l[k] (Qz a) D
   have r:=H.out k a;generalize l[k]=x at *;obtain⟨p,q⟩:=x;dsimp only at B G t;have u:=hIx (t _ (hb.alloc hb.size (.cells #[jA p,jA q] 44)));have v:=hb.size;clear t
   by_cases j:f ⟨p,q⟩=0
   ·have m:Hid (zaS f l=zaS f (l.drop (k+1))):=hIx (by rw[o.out,r,zaS,Qe (by rw[j];decide)])
    rw[j]at u;clear r o j;go_wp2_with (go_at_fn g;refine u.out.mono ?_;rintro e C ⟨rfl,d⟩)
    go_roundw
    case rel=>exact⟨k+1,by omega,by go_num,hb.trans (zaI d v),m⟩
    case measure=>simp[intOf] <;> omega
   ·have m:Hid (zaS f l=f ⟨p,q⟩):=hIx (by rw[o.out,r,zaS,Qg j])
    have I:(f ⟨p,q⟩==0)=false:=Qb.2 j;clear r o j;generalize f ⟨p,q⟩=K at *;go_wp2_with (go_at_fn g;refine u.out.mono ?_;rintro e C ⟨rfl,d⟩);go_ret;exact⟨zac m.out.symm,hb.trans (zaI d v)⟩
  ·obtain rfl:k=l.length:=by omega
   have m:Hid (zaS f l=0):=hIx (by rw[o.out,QN (Qc _)];rfl);go_wp2;go_ret;exact⟨zac m.out.symm,hb⟩
theorem zyl(x:RuM)(w:World)(l:RuIn w w.heap.size x)(A:zkL x.r)(m:LibOk w):
 Calls prog 47 #[.agg (za4 x).toArray] w (zbl (oneC argC x.r) w):=by
 have J:=λW (hb:w W)=>zpN 72 #[] (enters_of func72 (by kernel_rfl) rfl) varC x.r.vars x.vA x.vc W ((l.vars.below hb).more hb.size) A.vars
  (λW' v J _=>zlI v W' (by have:=A.names v J;unfold maxLen;omega))
 have hp:=λW (hb:w W)=>ziU x.r.pipe x.pA x.pc W ((l.pipe.below hb).more hb.size) (by have:=A.pipe;omega)
 have ha:∀W,w W->1<=x.r.op->x.r.op<=12->Calls prog 74 #[jA x.r.op,.string x.r.arg] W (zbl (argC x.r.op x.r.arg) W):=λW hb h1 h2=>zxb x.r.op h1 h2 x.r.arg W A.arg (m.below hb)
 have X:=λW (hb:w W)=>zqz 76 #[] (enters_of func76 (by kernel_rfl) rfl) actC x.r.acts x.aA x.ac W ((l.acts.below hb).more hb.size) A.acts (λW' a _ _=>zxo a W')
 have s:oneC argC x.r=if 8<x.r.vars.length\/6<x.r.acts.length then 2 else if x.r.vars.length=0\/x.r.acts.length=0 then 1 else if zaS varC x.r.vars≠0 then zaS varC x.r.vars else
  if zbw x.r.pipe≠0 then zbw x.r.pipe else if x.r.op<1\/12<x.r.op then 1 else if argC x.r.op x.r.arg≠0 then argC x.r.op x.r.arg else zaS actC x.r.acts:=rfl
 have E:∀o,w (w.alloc o):=λo=>WaL
 generalize oneC argC x.r=b at *;obtain⟨⟨id,ph,q,p,no,op,S,n,K⟩,vA,vc,pA,pc,aA,ac⟩:=x;unfold za4;dsimp only at *;generalize q.length=z at *;generalize n.length=C at *;generalize p.length=np at *;generalize zaS varC q=G at *;generalize zbw p=F at *;generalize argC op S=k at *;generalize zaS actC n=I at *;have HV:=hIx J;have HP:=hIx hp;have HA:=hIx ha;have HC:=hIx X;have B:=hIx s;have j:=hIx E;clear J hp ha X l A m s E;unfold zbl
 go_in
 by_cases c1:8<z
 ·have d:Hid (b=2):=hIx (by rw[B.out,Qg (.inl c1)])
  have d1:decide (8<(z:Int))=true:=by simp;omega
  go_wp2;go_ret;exact⟨zac d.out.symm,j.out _⟩
 have d1:decide (8<(z:Int))=false:=by simp;omega
 by_cases c2:6<C
 ·have d:Hid (b=2):=hIx (by rw[B.out,Qg (.inr c2)])
  have d2:decide (6<(C:Int))=true:=by simp;omega
  go_wp2;go_ret;exact⟨zac d.out.symm,j.out _⟩
 have d2:decide (6<(C:Int))=false:=by simp;omega
 by_cases c3:z=0
 ·have d:Hid (b=1):=hIx (by rw[B.out,Qe (by omega),Qg (.inl c3)])
  have d3:((z:Int)==0)=true:=by rw[Zo];omega
  go_wp2;go_ret;exact⟨zac d.out.symm,j.out _⟩
 have d3:((z:Int)==0)=false:=Qb.2 (by omega)
 by_cases c4:C=0
 ·have d:Hid (b=1):=hIx (by rw[B.out,Qe (by omega),Qg (.inr c4)])
  have d4:((C:Int)==0)=true:=by rw[Zo];omega
  go_wp2;go_ret;exact⟨zac d.out.symm,j.out _⟩
 have d4:((C:Int)==0)=false:=Qb.2 (by omega);have t:Hid (b=if G≠0 then G else if F≠0 then F else if op<1\/12<op then 1 else if k≠0 then k else I):=hIx (by rw[B.out,Qe (by omega),Qe (by omega)]);clear B c1 c2 c3 c4;go_wp2_with fail;refine(HV.out _ (j.out _)).mono ?_;rintro e w1 ⟨rfl,H⟩;obtain⟨h,g⟩:=zbs (w:=w) (by simpa using H);have Z:=h 3;have O:=h 5;have V:=h 6;have N:=h 7;simp only[ZT,XL,Z9]at Z O V N;clear h H
 by_cases T:G=0
 ·subst T
  go_wp2_with fail;refine(HP.out _ g).mono ?_;rintro e w2 ⟨rfl,i⟩;have c:=g.trans (i.mono g.size);have y5:=zaa i O;have y6:=zaa i V;have Y:=zaa i N;clear Z O V N i
  by_cases L:F=0
  ·subst L
   have u:Hid (b=if op<1\/12<op then 1 else if k≠0 then k else I):=hIx (by rw[t.out,Qe (by decide),Qe (by decide)])
   by_cases o1:op<1
   ·have d:Hid (b=1):=hIx (by rw[u.out,Qg (.inl o1)])
    go_wp2;go_ret;exact⟨zac d.out.symm,c⟩
   by_cases o2:12<op
   ·have d:Hid (b=1):=hIx (by rw[u.out,Qg (.inr o2)])
    go_wp2;go_ret;exact⟨zac d.out.symm,c⟩
   have D:Hid (b=if k≠0 then k else I):=hIx (by rw[u.out,Qe (by omega)]);have P:=hIx (HA.out _ c (by omega) (by omega));go_wp2_with fail;refine P.out.mono ?_;rintro e w3 ⟨rfl,y⟩;have f:=c.trans (y.mono c.size);have z7:=zaa y Y;clear y5 y6 Y y
   by_cases Q:k=0
   ·subst Q
    have d:Hid (b=I):=hIx (by rw[D.out,Qe (by decide)]);go_wp2_with fail;refine(HC.out _ f).mono ?_;rintro e w4 ⟨rfl,U⟩;go_wp2;go_ret;exact⟨zac d.out.symm,f.trans (U.mono f.size)⟩
   ·have q3:(k==0)=false:=Qb.2 Q
    have d:Hid (b=k):=hIx (by rw[D.out,Qg Q]);go_wp2;go_ret;exact⟨zac d.out.symm,f⟩
  ·have q2:(F==0)=false:=Qb.2 L
   have d:Hid (b=F):=hIx (by rw[t.out,Qe (by decide),Qg L]);go_wp2;go_ret;exact⟨zac d.out.symm,c⟩
 ·have q1:(G==0)=false:=Qb.2 T
  have d:Hid (b=G):=hIx (by rw[t.out,Qg T]);go_wp2;go_ret;exact⟨zac d.out.symm,g⟩
