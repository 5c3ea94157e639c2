/- Lemmas for the last texts. -/
import Derived.Test.YtfhaojhofiocaaaGreatDoorM17
import Derived.Deep.Strs
set_option maxHeartbeats 3200000
set_option maxRecDepth 100000
namespace Go.Proofs.YtfhaojhofiocaaaGreatDoor
open Go.RowKit Go.Proofs.Tryz
section
open Go.ChangeShapes Go.WideShapes Go.Deep
def zbO(v:zgZ):List Value:=[jA v.k,jA v.m,.string v.n]
def zbP(a:zcL):List Value:=[jA a.k,jA a.n]
structure RuM where
 r:zaz
 vA:Option Addr
 vc:Nat
 pA:Option Addr
 pc:Nat
 aA:Option Addr
 ac:Nat
def zax(x:RuM):List Value:=[jA x.r.id,jA x.r.phase,.slice x.vA x.r.vars.length x.vc,.slice x.pA x.r.pipe.length x.pc,.bool x.r.no,jA x.r.op,.string x.r.arg,.slice x.aA x.r.acts.length x.ac,.bool x.r.chain]
theorem znb(x:RuM):(zax x).length=9:=rfl
structure RuIn(w:World)(B:Nat)(x:RuM):Prop where
 vars:Sl w B 3 x.vA x.r.vars.length (x.r.vars.flatMap zbO)
 pipe:Sl w B 1 x.pA x.r.pipe.length (x.r.pipe.map (Value.int .i64))
 acts:Sl w B 2 x.aA x.r.acts.length (x.r.acts.flatMap zbP)
theorem RuIn.keep{w w':World}{B b:Nat}{x:RuM}(h:RuIn w B x)(hb:Below B w w')(a:B<=b):RuIn w' b x:=⟨(h.vars.below hb).more a,(h.pipe.below hb).more a,(h.acts.below hb).more a⟩
structure ze3(x:zaz):Prop where
 vars:x.vars.length<=1048576
 names:∀v∈x.vars,v.n.size<=1048576
 pipe:x.pipe.length<=1048576
 arg:x.arg.size<=1048576
 acts:x.acts.length<=1048576
def zzB{H:Type}(f:zgZ):DataW H:=.agg [.lit (.int .i64 f.k),.lit (.int .i64 f.m),.lit (.string f.n.data.toList)]
def zza{H:Type}(f:zcL):DataW H:=.agg [.lit (.int .i64 f.k),.lit (.int .i64 f.n)]
def zzM{H:Type}(z:Int):DataW H:=.lit (.int .i64 z)
section
variable {H:Type} {enc:TypeId × Value->H} {P:Program} {w:World} {base:Nat} {spare:Nat->Bool} {held:Bool}
theorem zmz{t:TypeId}{g k v B A r s j d:Field}{b:Nat}{cs:List Value}{x:DataW H × List MemPlace}(D:P.underlying t=some (.struct #[g,k,v,B,A,r,s,j,d]))(h:DataW.trod enc P w base spare held b t cs=some x):
 ∃(y:Fin 9->DataW H × List MemPlace) (n:Nat),x.1=.agg [(y 0).1,(y 1).1,(y 2).1,(y 3).1,(y 4).1,(y 5).1,(y 6).1,(y 7).1,(y 8).1]/\cs.length=P.cellsOf t/\
  ∀(i:Fin 9) (f:Field),[g,k,v,B,A,r,s,j,d][i.val]? = some f->DataW.trod enc P w base spare held n f.type ((cs.drop f.offset).take (P.cellsOf f.type))=some (y i):=by
 obtain⟨F,n,_,rfl,hl,a,E⟩:=DataW.trod_struct D h
 match F,a with
 | [z,e,C,l,u,o,q,c,m],_=>
  refine⟨λi=>[z,e,C,l,u,o,q,c,m][i.val]'(i.isLt),n,rfl,hl,λi f G=>?_⟩;have:=E i.val f (by simpa using G);rw[Qe (show i.val<[z,e,C,l,u,o,q,c,m].length from i.isLt)]at this
  simpa using this
end
theorem zp7{k:Type}{l:List k}(h:l.length=9):∃a b c d e f g i j,l=[a,b,c,d,e,f,g,i,j]:=by
 match l,h with
 | [a,b,c,d,e,f,g,i,j],_=>exact⟨a,b,c,d,e,f,g,i,j,rfl⟩
theorem znx{d:Type}{l:List d}(h:l.length=3):∃a b c,l=[a,b,c]:=by
 match l,h with
 | [a,b,c],_=>exact⟨a,b,c,rfl⟩
theorem ztX{c:Type}{l:List c}(h:l.length=2):∃a b,l=[a,b]:=by
 match l,h with
 | [a,b],_=>exact⟨a,b,rfl⟩
theorem zg8:prog.cellsOf 3=1:=by kernel_rfl
theorem zqY:prog.cellsOf 4=1:=by kernel_rfl
theorem zo4:prog.cellsOf 9=1:=by kernel_rfl
theorem zoS:prog.cellsOf 62=3:=by kernel_rfl
theorem zoC:prog.cellsOf 65=2:=by kernel_rfl
theorem zml:prog.cellsOf 68=9:=by kernel_rfl
theorem zqg:prog.cellsOf 24=3:=by kernel_rfl
theorem zrt:prog.cellsOf 63=1:=by kernel_rfl
theorem zt1:prog.cellsOf 66=1:=by kernel_rfl
theorem zs2:prog.cellsOf 54=1:=by kernel_rfl
theorem zij{H:Type}{l sp:List (DataW H)}{d:DataW H}(h:d∈l)(hb:Rows.uptoBulk (.slice l sp)<=1048576):Rows.uptoBulk d<=1048576:=by
 have:=zgC h;rw[Rows.uptoBulk]at hb;omega
theorem zc5{H:Type}{l:List (DataW H)}{d:DataW H}(h:d∈l)(hb:Rows.uptoBulk (.agg l)<=1048576):Rows.uptoBulk d<=1048576:=by
 have:=zgC h;rw[Rows.uptoBulk]at hb;omega
theorem zk7{H:Type}{s:ByteArray}(hb:Rows.uptoBulk (.lit (.string s.data.toList):DataW H)<=1048576):s.size<=1048576:=by
 simp only[Rows.uptoBulk,ZC]at hb;have:s.data.size=s.size:=rfl;omega
section
variable {H:Type} {enc:TypeId × Value->H} {w:World} {base:Nat} {spare:Nat->Bool} {held:Bool} {fuel:Nat} {cs:List Value} {x:DataW H × List MemPlace}
theorem zn5(h:DataW.trod enc prog w base spare held fuel 63 cs=some x):
 ∃(A:Option Addr) (c:Nat) (l:List zgZ),cs=[.slice A l.length c]/\Sl w w.heap.size 3 A l.length (l.flatMap zbO)/\(Rows.uptoBulk x.1<=1048576->l.length<=1048576/\∀v∈l,v.n.size<=1048576):=by
 obtain⟨A,len,c,l,h1,h2,_,_,_,C,b⟩:=zed 3 zbO zzB (λ_=>True) underlying63 zoS (λ_=>rfl)
  (λn t y u=>by
   obtain⟨F,E,G,n',B,hl,i,j,g⟩:=trod_struct3 underlying62 u;rw[zoS]at hl;obtain⟨c0,c1,c2,rfl⟩:=znx hl;rw[zg8]at i j;rw[zo4]at g;obtain⟨r,a,q,_⟩:=ZF underlying3 i;obtain⟨o,e,D,_⟩:=ZF underlying3 j;obtain⟨s,d,z,_⟩:=DataW.trod_string underlying9 g;injection a with a _
   injection e with e _
   injection d with d _
   subst a;subst e;subst d;subst B;subst q;subst D;subst z
   exact⟨⟨r,o,s⟩,rfl,rfl,trivial⟩) h
 subst h2;refine⟨A,c,l,h1,C,λhb=>?_⟩
 rcases b with ⟨_,rfl⟩|⟨sp,b⟩
 ·exact⟨Qn _,λv f=>by cases f⟩
 ·rw[b]at hb
  have:=zdh (l:=(l.map zzB:List (DataW H))) (sp:=sp);rw[Qk]at this;exact⟨by omega,λv f=>zk7 (zc5 (l:=[.lit (.int .i64 v.k),.lit (.int .i64 v.m),.lit (.string v.n.data.toList)]) (by simp) (zij (QS.2 ⟨v,f,rfl⟩) hb))⟩
theorem zmV(h:DataW.trod enc prog w base spare held fuel 66 cs=some x):
 ∃(A:Option Addr) (c:Nat) (l:List zcL),cs=[.slice A l.length c]/\Sl w w.heap.size 2 A l.length (l.flatMap zbP)/\(Rows.uptoBulk x.1<=1048576->l.length<=1048576):=by
 obtain⟨A,len,c,l,h1,h2,_,_,_,q,b⟩:=zed 2 zbP zza (λ_=>True) underlying66 zoC (λ_=>rfl)
  (λn k y m=>by
   obtain⟨t,s,n',o,hl,e,f⟩:=trod_struct2 underlying65 m;rw[zoC]at hl;obtain⟨c0,c1,rfl⟩:=ztX hl;rw[zg8]at e f;obtain⟨j,a,i,_⟩:=ZF underlying3 e;obtain⟨g,d,r,_⟩:=ZF underlying3 f;injection a with a _
   injection d with d _
   subst a;subst d;subst o;subst i;subst r
   exact⟨⟨j,g⟩,rfl,rfl,trivial⟩) h
 subst h2;refine⟨A,c,l,h1,q,λhb=>?_⟩
 rcases b with ⟨_,rfl⟩|⟨sp,b⟩
 ·exact Qn _
 ·rw[b]at hb
  have:=zdh (l:=(l.map zza:List (DataW H))) (sp:=sp);rw[Qk]at this;omega
theorem znV(h:DataW.trod enc prog w base spare held fuel 54 cs=some x):
 ∃(A:Option Addr) (c:Nat) (l:List Int),cs=[.slice A l.length c]/\Sl w w.heap.size 1 A l.length (l.map (Value.int .i64))/\(Rows.uptoBulk x.1<=1048576->l.length<=1048576):=by
 obtain⟨A,len,c,l,h1,h2,_,_,_,d,b⟩:=zed 1 (λz:Int=>[jA z]) zzM (λ_=>True) underlying54 zg8 (λ_=>rfl)
  (λn f y g=>by
   obtain⟨k,e,hy1,_⟩:=ZF underlying3 g;exact⟨k,e,by rw[hy1];rfl,trivial⟩) h
 subst h2;refine⟨A,c,l,h1,?_,λhb=>?_⟩
 ·have:∀l:List Int,l.flatMap (λz:Int=>[jA z])=l.map (Value.int .i64):=λl=>by
   induction l with
   |nil=>rfl
   |cons a r ih=>rw[QV,ih];rfl
  rw[this]at d;exact d
 ·rcases b with ⟨_,rfl⟩|⟨sp,b⟩
  ·exact Qn _
  ·rw[b]at hb
   have:=zdh (l:=(l.map zzM:List (DataW H))) (sp:=sp);rw[Qk]at this;omega
end
structure RuD(H:Type) where
 m:RuM
 dat:DataW H
def zzQ{H:Type}(w:World)(a:RuD H):Prop:=RuIn w w.heap.size a.m/\(Rows.uptoBulk a.dat<=1048576->ze3 a.m.r)
section
variable {H:Type} {enc:TypeId × Value->H} {w:World} {base:Nat} {spare:Nat->Bool} {held:Bool} {fuel:Nat} {cs:List Value} {x:DataW H × List MemPlace}
theorem znY(h:DataW.trod enc prog w base spare held fuel 68 cs=some x):∃a:RuD H,cs=zax a.m/\x.1=a.dat/\zzQ w a:=by
 obtain⟨y,n,hx,hl,b⟩:=zmz underlying68 h;rw[zml]at hl;obtain⟨c0,c1,c2,c3,c4,c5,c6,c7,S,rfl⟩:=zp7 hl;have f:=b 0 _ rfl;have k:=b 1 _ rfl;have e:=b 2 _ rfl;have o:=b 3 _ rfl;have j:=b 4 _ rfl;have l:=b 5 _ rfl;have c:=b 6 _ rfl;have g:=b 7 _ rfl;have i:=b 8 _ rfl;dsimp only at f k e o j l c g i;rw[zg8]at f k l;rw[zrt]at e;rw[zs2]at o;rw[zqY]at j i;rw[zo4]at c;rw[zt1]at g;obtain⟨u,L,_,_⟩:=ZF underlying3 f;obtain⟨q,e1,_,_⟩:=ZF underlying3 k;obtain⟨I,J,K,e2,Z,W⟩:=zn5 e;obtain⟨G,A,C,e3,s3,z3⟩:=znV o;obtain⟨v,e4,_⟩:=DataW.trod_bool underlying4 j;obtain⟨B,N,_,_⟩:=ZF underlying3 l;obtain⟨D,Y,x6,_⟩:=DataW.trod_string underlying9 c;obtain⟨z,r,E,T,V,Q⟩:=zmV g;obtain⟨t,e8,_⟩:=DataW.trod_bool underlying4 i;have O:c0=jA u:=by injection L
 have q1:c1=jA q:=by injection e1
 have q2:c2=.slice I K.length J:=by injection e2
 have q3:c3=.slice G C.length A:=by injection e3
 have q4:c4=.bool v:=by injection e4
 have q5:c5=jA B:=by injection N
 have X:c6=.string D:=by injection Y
 have P:c7=.slice z E.length r:=by injection T
 have q8:S=.bool t:=by injection e8
 subst O;subst q1;subst q2;subst q3;subst q4;subst q5;subst X;subst P;subst q8
 refine⟨⟨⟨⟨u,q,K,C,v,B,D,E,t⟩,I,J,G,A,z,r⟩,x.1⟩,rfl,rfl,⟨Z,s3,V⟩,λhb=>?_⟩;dsimp only at hb;rw[hx]at hb;have F:=W (zc5 (d:=(y 2).1) (by simp) hb);have U:=z3 (zc5 (d:=(y 3).1) (by simp) hb);have s:=zc5 (d:=(y 6).1) (by simp) hb;have b7:=Q (zc5 (d:=(y 7).1) (by simp) hb);rw[x6]at s;exact⟨F.1,F.2,U,zk7 s,b7⟩
end
structure RuArg where
 most:Int
 status:Int
 A:Option Addr
 c:Nat
 l:List RuM
def RuArg.set(a:RuArg):zfy:=⟨a.most,a.status,a.l.map RuM.r⟩
def RuArg.value(a:RuArg):Value:=.agg #[jA a.most,jA a.status,.slice a.A a.l.length a.c]
structure RuLies(W:World)(B:Nat)(a:RuArg):Prop where
 sl:Sl W B 9 a.A a.l.length (a.l.flatMap zax)
 all:∀x∈a.l,RuIn W B x
 cap:a.l.length<=a.c
theorem RuLies.keep{w w':World}{B b:Nat}{a:RuArg}(h:RuLies w B a)(hb:Below B w w')(c:B<=b):RuLies w' b a:=⟨(h.sl.below hb).more c,λx d=>(h.all x d).keep hb c,h.cap⟩
structure zoq(W:World)(v:Value)(a:RuArg):Prop where
 val:v=a.value
 lies:RuLies W W.heap.size a
structure zb9(a:RuArg):Prop where
 len:a.l.length<=1048576
 all:∀x∈a.l,ze3 x.r
def zoe{H:Type}(a:RuArg)(d:DataW H):Prop:=Rows.uptoBulk d<=1048576->zb9 a
theorem zqJ{H:Type}{a:RuArg}{d:DataW H}(h:zoe a d)(hb:Rows.uptoBulk d<=1048576):zb9 a:=h hb
theorem zpt{H:Type}{enc:TypeId × Value->H}{w:World}{base:Nat}{e:Nat->Bool}{i:Bool}{v:Value}{d:DataW H}{p:List MemPlace}{r:Reach}{D:Nat}
 (O:Value.okWide prog w r D 24 v) (B:DataW.Trod enc prog w base e i 24 v d p):∃a,zoq w v a/\zoe a d:=by
 obtain⟨P,G,K,T,S,t,n,rfl,rfl,rfl,E,I,C⟩:=Joins.open_agg3 underlying24 (by kernel_rfl) zqg O B;obtain⟨q,u,_,_⟩:=ZF underlying3 E;obtain⟨o,N,_,_⟩:=ZF underlying3 I;obtain⟨A,len,c,l,h1,h2,j,_,s,L,h⟩:=zed 9 (λa:RuD H=>zax a.m) RuD.dat (zzQ w) underlying22 zml (λ_=>rfl) (λn J y f=>znY f) C;have z:P=jA q:=by injection u
 have F:G=jA o:=by injection N
 subst h2;have Q:K=.slice A l.length c:=by injection h1
 subst z;subst F;subst Q
 have g:l.flatMap (λa=>zax a.m)=(l.map RuD.m).flatMap zax:=by rw[List.flatMap_map]
 refine⟨⟨q,o,A,c,l.map RuD.m⟩,⟨by unfold RuArg.value;rw[Qk],⟨?_,?_,by show (l.map RuD.m).length<=c;rw[Qk];exact j⟩⟩,λhb=>⟨?_,?_⟩⟩
 ·show Sl w w.heap.size 9 A (l.map RuD.m).length ((l.map RuD.m).flatMap zax)
  rw[Qk,<-g];exact L
 ·intro x k
  obtain⟨y,f,rfl⟩:=QS.1 k;exact(s y f).1
 ·have b:=zc5 (d:=t.1) (by simp) hb
  show (l.map RuD.m).length<=1048576
  rw[Qk]
  rcases h with ⟨_,rfl⟩|⟨sp,h⟩
  ·exact Qn _
  ·rw[h]at b
   have:=zdh (l:=(l.map RuD.dat)) (sp:=sp);rw[Qk]at this;omega
 ·intro x k
  obtain⟨y,f,rfl⟩:=QS.1 k;have b:=zc5 (d:=t.1) (by simp) hb
  rcases h with ⟨_,rfl⟩|⟨sp,h⟩
  ·cases f
  ·rw[h]at b
   exact(s y f).2 (zij (QS.2 ⟨y,f,rfl⟩) b)
end
def zbc(c:Int)(w:World)(e:Ending)(w':World):Prop:=e=jC (jA c)/\w w'
theorem zyL{b:UInt8}(h:(97<=(b.toNat:Int)/\(b.toNat:Int)<=122)\/(48<=(b.toNat:Int)/\(b.toNat:Int)<=57)\/(b.toNat:Int)=45\/(b.toNat:Int)=95):zky b=true:=by
 unfold zky;simp only[Xh,Q3,QX,Zn]
 rcases h with h|h|h|h
 ·left;left;left;omega
 ·left;left;right;omega
 ·left;right;exact Zr.1 (by show b.toNat=45;omega)
 ·right;exact Zr.1 (by show b.toNat=95;omega)
theorem zxg{b:UInt8}(h:¬((97<=(b.toNat:Int)/\(b.toNat:Int)<=122)\/(48<=(b.toNat:Int)/\(b.toNat:Int)<=57)\/(b.toNat:Int)=45\/(b.toNat:Int)=95)):zky b=false:=by
 cases hb:zky b with
 |false=>rfl
 |true=>
  unfold zky at hb;simp only[Xh,Q3,QX,Zn]at hb
  exfalso
  rcases hb with ((hb|hb)|hb)|hb
  ·omega
  ·omega
  ·subst hb;exact h (.inr (.inr (.inl rfl)))
  ·subst hb;exact h (.inr (.inr (.inr rfl)))
def zwY(s:ByteArray)(i:Value):Prop:=∃k:Nat,k<=s.size/\i=jA k/\s.data.toList.all zky=(s.data.toList.drop k).all zky
theorem zsu(s:ByteArray)(w:World)(o:s.size<=maxLen):
 Calls prog 42 #[.string s] w λe w'=>e=jC (.bool (zfr s.data.toList))/\w'=w:=by
 unfold maxLen at o;have h:Hid (s.data.toList.length=s.size):=by unfold Hid;simp
 go_in
 go_wp2_with fail
 go_loop [7] (λi=>zwY s i) (λi=>s.size-(intOf i).toNat)
 case atStart=>exact⟨0,Qn _,rfl,rfl⟩
 case round=>
  obtain⟨k,v,rfl,j⟩:=hrel;have d:=hIx j;clear j
  by_cases b:k<s.size
  ·have l:=hIx (zaH s k b)
   have m:=s[k].toNat_lt
   by_cases hn:(97<=(s[k].toNat:Int)/\(s[k].toNat:Int)<=122)\/(48<=(s[k].toNat:Int)/\(s[k].toNat:Int)<=57)\/(s[k].toNat:Int)=45\/(s[k].toNat:Int)=95
   ·have f:=hIx (zyL hn)
    have r:Hid (zwY s (jA ((k:Int)+1))):=⟨k+1,by omega,rfl,by rw[d.out,l.out,ZM,f.out];rfl⟩
    rcases hn with hn|hn|hn|hn
    all_goals
     go_wp2;exact⟨r.out,by simp[intOf] <;> omega⟩
   ·have f:=hIx (zxg hn)
    have q:(s[k].toNat:Int)≠45:=λe=>hn (.inr (.inr (.inl e)))
    have n2:(s[k].toNat:Int)≠95:=λe=>hn (.inr (.inr (.inr e)))
    have n3:(s[k].toNat:Int)<48\/(57<(s[k].toNat:Int)/\(s[k].toNat:Int)<97)\/122<(s[k].toNat:Int):=by omega
    have a:Hid (zfr s.data.toList=false):=by unfold Hid zfr;rw[d.out,l.out,ZM,f.out];rfl
    have x:((s[k].toNat:Int) != 45)=true:=Q6.2 q;have u:((s[k].toNat:Int) != 95)=true:=Q6.2 n2;clear hn
    rcases n3 with n3|n3|n3
    all_goals
     go_wp2;go_ret;exact⟨zaQ a.out.symm,rfl⟩
  ·have c:k=s.size:=by omega
   have t:Hid (s.data.toList.all zky=true):=by
    unfold Hid;rw[d.out,QM (by rw[h.out];omega)];rfl
   have a:Hid (zfr s.data.toList=(decide (1<=s.size)&&decide (s.size<=20))):=by
    unfold Hid zfr;rw[t.out,h.out];rfl
   clear c
   by_cases h1:1<=s.size
   ·by_cases h2:s.size<=20
    ·have g:decide ((1:Int)<=(s.size:Int))=true:=by simp;omega
     have n:decide ((s.size:Int)<=20)=true:=by simp;omega
     go_wp2;go_ret;exact⟨zaQ (by rw[a.out,Qx h1,Qx h2];rfl),rfl⟩
    ·have g:decide ((1:Int)<=(s.size:Int))=true:=by simp;omega
     have n:decide ((s.size:Int)<=20)=false:=by simp;omega
     go_wp2;go_ret;exact⟨zaQ (by rw[a.out,Qx h1,Qt h2];rfl),rfl⟩
   ·have g:decide ((1:Int)<=(s.size:Int))=false:=by simp;omega
    go_wp2;go_ret;exact⟨zaQ (by rw[a.out,Qt h1];rfl),rfl⟩
theorem zlA(v:zgZ)(w:World)(t:v.n.size<=maxLen):
 Calls prog 34 #[.agg #[jA v.k,jA v.m,.string v.n]] w (zbc (varC v) w):=by
 have c:varC v=if v.k<1\/12<v.k\/v.m<0\/2<v.m\/(v.n.data.toList≠[]/\(ofK v.k&&zfr v.n.data.toList)=false)then 1 else 0:=rfl;obtain⟨k,m,n⟩:=v;dsimp only at t c ⊢;have l:Hid (∀W,Calls prog 42 #[.string n] W λe w'=>e=jC (.bool (zfr n.data.toList))/\w'=W):=λW=>zsu n W t
 unfold zbc;have b:(k<1\/12<k)\/(1<=k/\k<=12/\k≠6/\k≠8/\k≠10)\/k=6\/k=8\/k=10:=by omega
 rcases b with b|b
 ·have j:(k==6)=false:=Qc.2 (by omega)
  have o:(k==8)=false:=Qc.2 (by omega);have g:(k==10)=false:=Qc.2 (by omega);have d:Hid (varC ⟨k,m,n⟩=1):=hIx (by rw[c,Qj (by omega)]);clear c
  rcases b with b|b
  rotate_left
  have q:1<=k:=by omega
  all_goals
   go_in
   go_wp2;go_ret;exact⟨zae d.out.symm,WaL⟩
 ·have q:1<=k:=by omega
  have x:k<=12:=by omega
  by_cases B:m<0
  ·have d:Hid (varC ⟨k,m,n⟩=1):=hIx (by rw[c,Qj (by omega)])
   clear c
   rcases b with b|rfl|rfl|rfl
   have j:(k==6)=false:=Qc.2 (by omega);have o:(k==8)=false:=Qc.2 (by omega);have g:(k==10)=false:=Qc.2 (by omega);clear b
   all_goals
    go_in
    go_wp2;go_ret;exact⟨zae d.out.symm,WaL⟩
  by_cases y:2<m
  ·have d:Hid (varC ⟨k,m,n⟩=1):=hIx (by rw[c,Qj (by omega)])
   clear c
   rcases b with b|rfl|rfl|rfl
   have j:(k==6)=false:=Qc.2 (by omega);have o:(k==8)=false:=Qc.2 (by omega);have g:(k==10)=false:=Qc.2 (by omega);clear b
   all_goals
    go_in
    go_wp2;go_ret;exact⟨zae d.out.symm,WaL⟩
  by_cases f:n.data.toList=[]
  ·have A:(n.toList==[])=true:=by rw[QU,f];rfl
   have s:n.toList.isEmpty=true:=by rw[QU,f];rfl
   have d:Hid (varC ⟨k,m,n⟩=0):=hIx (by rw[c,Qf];rintro(h|h|h|h|h);omega;omega;omega;omega;exact h.1 f);clear c f
   rcases b with b|rfl|rfl|rfl
   have j:(k==6)=false:=Qc.2 (by omega);have o:(k==8)=false:=Qc.2 (by omega);have g:(k==10)=false:=Qc.2 (by omega);clear b
   all_goals
    go_in
    go_wp2;go_ret;exact⟨zae d.out.symm,WaL⟩
  have A:(n.toList==[])=false:=by rw[QU];exact Qc.2 f
  have s:n.toList.isEmpty=false:=by rw[QU];cases z:n.data.toList with|nil=>exact absurd z f|cons a r=>rfl
  rcases b with b|b
  ·have d:Hid (varC ⟨k,m,n⟩=1):=hIx (by
    rw[c,Qj];refine .inr (.inr (.inr (.inr ⟨f,?_⟩)))
    have:ofK k=false:=by
     unfold ofK;rw[Qc.2 b.2.2.1,Qc.2 b.2.2.2.1,Qc.2 b.2.2.2.2];rfl
    rw[this,Bool.false_and])
   clear c f;have j:(k==6)=false:=Qc.2 (by omega);have o:(k==8)=false:=Qc.2 (by omega);have g:(k==10)=false:=Qc.2 (by omega);clear b
   go_in
   go_wp2;go_ret;exact⟨zae d.out.symm,WaL⟩
  ·have i:ofK k=true:=by rcases b with rfl|rfl|rfl <;> rfl
   rw[i,Bool.true_and]at c;cases hb:zfr n.data.toList with
   |true=>
    rw[hb]at l c;have d:Hid (varC ⟨k,m,n⟩=0):=hIx (by rw[c,Qf];rintro(h|h|h|h|h);omega;omega;omega;omega;exact absurd h.2 (by decide));clear c f i hb
    rcases b with rfl|rfl|rfl
    all_goals
     go_in
     go_wp2_with (go_at_call 42;refine(l.out _).mono ?_;rintro e u ⟨rfl,rfl⟩);go_ret;exact⟨zae d.out.symm,WaL⟩
   |false=>
    rw[hb]at l c;have d:Hid (varC ⟨k,m,n⟩=1):=hIx (by rw[c,Qj];exact .inr (.inr (.inr (.inr ⟨f,rfl⟩))));clear c f i hb
    rcases b with rfl|rfl|rfl
    all_goals
     go_in
     go_wp2_with (go_at_call 42;refine(l.out _).mono ?_;rintro e u ⟨rfl,rfl⟩);go_ret;exact⟨zae d.out.symm,WaL⟩
theorem zxr(a:zcL)(w:World):
 Calls prog 38 #[.agg #[jA a.k,jA a.n]] w (zbc (actC a) w):=by
 have b:actC a=if a.k<1\/5<a.k\/a.n<loA a.k\/hiA a.k<a.n then 1 else 0:=rfl;obtain⟨k,n⟩:=a;dsimp only at b ⊢;unfold zbc;have e:(k<1\/5<k)\/k=1\/k=2\/k=3\/k=4\/k=5:=by omega
 rcases e with e|rfl|rfl|rfl|rfl|rfl
 ·have c:Hid (actC ⟨k,n⟩=1):=hIx (by rw[b,Qj (by omega)])
  have g:(k==1)=false:=Qc.2 (by omega);have i:(k==2)=false:=Qc.2 (by omega);have h:(k==3)=false:=Qc.2 (by omega);have f:(k==4)=false:=Qc.2 (by omega);have j:(k==5)=false:=Qc.2 (by omega);clear b e
  go_in
  go_wp2;go_ret;exact⟨zae c.out.symm,WaL⟩
 ·have hl:loA 1=0:=rfl
  have d:hiA 1=0:=rfl;rw[hl,d]at b;clear hl d
  by_cases h1:n<0
  ·have c:Hid (actC ⟨1,n⟩=1):=hIx (by rw[b,Qj (by omega)])
   clear b
   go_in
   go_wp2;go_ret;exact⟨zae c.out.symm,WaL⟩
  by_cases h2:0<n
  have c:Hid (actC ⟨1,n⟩=1):=hIx (by rw[b,Qj (by omega)])
  rotate_left
  have c:Hid (actC ⟨1,n⟩=0):=hIx (by rw[b,Qf (by omega)])
  all_goals
   clear b
   go_in
   go_wp2;go_ret;exact⟨zae c.out.symm,WaL⟩
 ·have hl:loA 2=400:=rfl
  have d:hiA 2=599:=rfl;rw[hl,d]at b;clear hl d
  by_cases h1:n<400
  ·have c:Hid (actC ⟨2,n⟩=1):=hIx (by rw[b,Qj (by omega)])
   clear b
   go_in
   go_wp2;go_ret;exact⟨zae c.out.symm,WaL⟩
  by_cases h2:599<n
  have c:Hid (actC ⟨2,n⟩=1):=hIx (by rw[b,Qj (by omega)])
  rotate_left
  have c:Hid (actC ⟨2,n⟩=0):=hIx (by rw[b,Qf (by omega)])
  all_goals
   clear b
   go_in
   go_wp2;go_ret;exact⟨zae c.out.symm,WaL⟩
 ·have hl:loA 3=1:=rfl
  have d:hiA 3=1000:=rfl;rw[hl,d]at b;clear hl d
  by_cases h1:n<1
  ·have c:Hid (actC ⟨3,n⟩=1):=hIx (by rw[b,Qj (by omega)])
   clear b
   go_in
   go_wp2;go_ret;exact⟨zae c.out.symm,WaL⟩
  by_cases h2:1000<n
  have c:Hid (actC ⟨3,n⟩=1):=hIx (by rw[b,Qj (by omega)])
  rotate_left
  have c:Hid (actC ⟨3,n⟩=0):=hIx (by rw[b,Qf (by omega)])
  all_goals
   clear b
   go_in
   go_wp2;go_ret;exact⟨zae c.out.symm,WaL⟩
 ·have hl:loA 4=1:=rfl
  have d:hiA 4=9:=rfl;rw[hl,d]at b;clear hl d
  by_cases h1:n<1
  ·have c:Hid (actC ⟨4,n⟩=1):=hIx (by rw[b,Qj (by omega)])
   clear b
   go_in
   go_wp2;go_ret;exact⟨zae c.out.symm,WaL⟩
  by_cases h2:9<n
  have c:Hid (actC ⟨4,n⟩=1):=hIx (by rw[b,Qj (by omega)])
  rotate_left
  have c:Hid (actC ⟨4,n⟩=0):=hIx (by rw[b,Qf (by omega)])
  all_goals
   clear b
   go_in
   go_wp2;go_ret;exact⟨zae c.out.symm,WaL⟩
 ·have hl:loA 5=0:=rfl
  have d:hiA 5=0:=rfl;rw[hl,d]at b;clear hl d
  by_cases h1:n<0
  ·have c:Hid (actC ⟨5,n⟩=1):=hIx (by rw[b,Qj (by omega)])
   clear b
   go_in
   go_wp2;go_ret;exact⟨zae c.out.symm,WaL⟩
  by_cases h2:0<n
  have c:Hid (actC ⟨5,n⟩=1):=hIx (by rw[b,Qj (by omega)])
  rotate_left
  have c:Hid (actC ⟨5,n⟩=0):=hIx (by rw[b,Qf (by omega)])
  all_goals
   clear b
   go_in
   go_wp2;go_ret;exact⟨zae c.out.symm,WaL⟩
theorem zy6{w:World}{B m:Nat}{A:Option Addr}{l:List zgZ}(h:Sl w B 3 A m (l.flatMap zbO))(k:Nat)(d:k<l.length):
 ∃b a,A=some ⟨b,a,none⟩/\b<B/\w.cell? ⟨b,a+k*3,none⟩=some (jA l[k].k)/\w.cell? ⟨b,a+k*3+1,none⟩=some (jA l[k].m)/\w.cell? ⟨b,a+k*3+2,none⟩=some (.string l[k].n):=by
 have hl:=za3 zbO 3 (λ_=>rfl) l;obtain⟨b,a,e,hb,i⟩:=h.src (by omega)
 have c:∀j,j<3->∀v,(zbO l[k])[j]? = some v->w.cell? ⟨b,a+k*3+j,none⟩=some v:=λj g v f=>by
  have h1:=zcA zbO 3 (λ_=>rfl) l k j d g;have h2:k*3+j<(l.flatMap zbO).length:=by omega
  rw[Zf,i (k*3+j) h2];rw[Qe h2]at h1;rw[h1,f]
 exact⟨b,a,e,hb,c 0 (by decide) _ rfl,c 1 (by decide) _ rfl,c 2 (by decide) _ rfl⟩
theorem zpx(g:Nat)(C:Array Value)(O:∀args w,(callFunc g args).run prog w=.ok (.enter g args) w)(f:zgZ->Int)(l:List zgZ)(A:Option Addr)(c:Nat)(w:World)
 (h:Sl w w.heap.size 3 A l.length (l.flatMap zbO)) (hl:l.length<=1048576)
 (B:∀W,∀x∈l,w W->Calls prog g (#[.agg #[jA x.k,jA x.m,.string x.n]]++C) W (zbc (f x) W)):
 Calls prog 33 #[.slice A l.length c,.func (.func g) #[] C] w (zbc (zaX f l) w):=by
 have G:=hIx B;have L:Hid (∀k (u:k<l.length),l.drop k=l[k]::l.drop (k+1)):=λk u=>Zb u
 clear B
 go_in
 go_wp2
 go_loopw [10] (λi wr=>∃k:Nat,k<=l.length/\i=jA k/\w wr/\Hid (zaX f l=zaX f (l.drop k))) (λi _=>l.length-(intOf i).toNat)
 case atStart=>exact⟨0,Qn _,rfl,Qi _ _,rfl⟩
 case round=>
  obtain⟨k,u,rfl,hb,s⟩:=hrel
  by_cases a:k<l.length
  ·obtain⟨b,H,rfl,J,D,K,I⟩:=zy6 (h.below hb) k a
   have v:=λW F=>G.out W l[k] (QC a) F
   have t:=L.out k a;generalize l[k]=x at *;obtain⟨p,q,r⟩:=x;dsimp only at D K I v;have y:=hIx (v _ (hb.alloc hb.size (.cells #[jA p,jA q,.string r] 62)));have z:=hb.size;clear v
   by_cases j:f ⟨p,q,r⟩=0
   ·have o:Hid (zaX f l=zaX f (l.drop (k+1))):=hIx (by rw[s.out,t,zaX,Qf (by rw[j];decide)])
    rw[j]at y;clear t s j;go_wp2_with (go_at_fn g;refine y.out.mono ?_;rintro e E ⟨rfl,d⟩)
    go_roundw
    case rel=>exact⟨k+1,by omega,by go_num,hb.trans (zaN d z),o⟩
    case measure=>simp[intOf] <;> omega
   ·have o:Hid (zaX f l=f ⟨p,q,r⟩):=hIx (by rw[s.out,t,zaX,Qj j])
    have N:(f ⟨p,q,r⟩==0)=false:=Qc.2 j;clear t s j;generalize f ⟨p,q,r⟩=P at *;go_wp2_with (go_at_fn g;refine y.out.mono ?_;rintro e E ⟨rfl,d⟩);go_ret;exact⟨zae o.out.symm,hb.trans (zaN d z)⟩
  ·obtain rfl:k=l.length:=by omega
   have o:Hid (zaX f l=0):=hIx (by rw[s.out,QM (Qd _)];rfl);go_wp2;go_ret;exact⟨zae o.out.symm,hb⟩
theorem zwU{w:World}{B m:Nat}{A:Option Addr}{l:List zcL}(h:Sl w B 2 A m (l.flatMap zbP))(k:Nat)(d:k<l.length):
 ∃b a,A=some ⟨b,a,none⟩/\b<B/\w.cell? ⟨b,a+k*2,none⟩=some (jA l[k].k)/\w.cell? ⟨b,a+k*2+1,none⟩=some (jA l[k].n):=by
 have hl:=za3 zbP 2 (λ_=>rfl) l;obtain⟨b,a,e,hb,i⟩:=h.src (by omega)
 have c:∀j,j<2->∀v,(zbP l[k])[j]? = some v->w.cell? ⟨b,a+k*2+j,none⟩=some v:=λj g v f=>by
  have h1:=zcA zbP 2 (λ_=>rfl) l k j d g;have h2:k*2+j<(l.flatMap zbP).length:=by omega
  rw[Zf,i (k*2+j) h2];rw[Qe h2]at h1;rw[h1,f]
 exact⟨b,a,e,hb,c 0 (by decide) _ rfl,c 1 (by decide) _ rfl⟩
theorem zqm(g:Nat)(z:Array Value)(K:∀args w,(callFunc g args).run prog w=.ok (.enter g args) w)(f:zcL->Int)(l:List zcL)(A:Option Addr)(c:Nat)(w:World)
 (h:Sl w w.heap.size 2 A l.length (l.flatMap zbP)) (hl:l.length<=1048576)
 (y:∀W,∀x∈l,w W->Calls prog g (#[.agg #[jA x.k,jA x.n]]++z) W (zbc (f x) W)):
 Calls prog 37 #[.slice A l.length c,.func (.func g) #[] z] w (zbc (zaX f l) w):=by
 have E:=hIx y;have I:Hid (∀k (s:k<l.length),l.drop k=l[k]::l.drop (k+1)):=λk s=>Zb s
 clear y
 go_in
 go_wp2
 go_loopw [10] (λi wr=>∃k:Nat,k<=l.length/\i=jA k/\w wr/\Hid (zaX f l=zaX f (l.drop k))) (λi _=>l.length-(intOf i).toNat)
 case atStart=>exact⟨0,Qn _,rfl,Qi _ _,rfl⟩
 case round=>
  obtain⟨k,s,rfl,hb,o⟩:=hrel
  by_cases a:k<l.length
  ·obtain⟨b,F,rfl,G,B,H⟩:=zwU (h.below hb) k a
   have t:=λW D=>E.out W l[k] (QC a) D
   have r:=I.out k a;generalize l[k]=x at *;obtain⟨p,q⟩:=x;dsimp only at B H t;have u:=hIx (t _ (hb.alloc hb.size (.cells #[jA p,jA q] 65)));have v:=hb.size;clear t
   by_cases j:f ⟨p,q⟩=0
   ·have m:Hid (zaX f l=zaX f (l.drop (k+1))):=hIx (by rw[o.out,r,zaX,Qf (by rw[j];decide)])
    rw[j]at u;clear r o j;go_wp2_with (go_at_fn g;refine u.out.mono ?_;rintro e C ⟨rfl,d⟩)
    go_roundw
    case rel=>exact⟨k+1,by omega,by go_num,hb.trans (zaN d v),m⟩
    case measure=>simp[intOf] <;> omega
   ·have m:Hid (zaX f l=f ⟨p,q⟩):=hIx (by rw[o.out,r,zaX,Qj j])
    have J:(f ⟨p,q⟩==0)=false:=Qc.2 j;clear r o j;generalize f ⟨p,q⟩=L at *;go_wp2_with (go_at_fn g;refine u.out.mono ?_;rintro e C ⟨rfl,d⟩);go_ret;exact⟨zae m.out.symm,hb.trans (zaN d v)⟩
  ·obtain rfl:k=l.length:=by omega
   have m:Hid (zaX f l=0):=hIx (by rw[o.out,QM (Qd _)];rfl);go_wp2;go_ret;exact⟨zae m.out.symm,hb⟩
theorem zys(x:RuM)(w:World)(l:RuIn w w.heap.size x)(B:ze3 x.r)(m:LibOk w):
 Calls prog 25 #[.agg (zax x).toArray] w (zbc (oneC argC x.r) w):=by
 have K:=λW (hb:w W)=>zpx 34 #[] (enters_of func34 (by kernel_rfl) rfl) varC x.r.vars x.vA x.vc W ((l.vars.below hb).more hb.size) B.vars
  (λW' v K _=>zlA v W' (by have:=B.names v K;unfold maxLen;omega))
 have hp:=λW (hb:w W)=>ziV x.r.pipe x.pA x.pc W ((l.pipe.below hb).more hb.size) (by have:=B.pipe;omega)
 have ha:∀W,w W->1<=x.r.op->x.r.op<=12->Calls prog 36 #[jA x.r.op,.string x.r.arg] W (zbc (argC x.r.op x.r.arg) W):=λW hb h1 h2=>zxd x.r.op h1 h2 x.r.arg W B.arg (m.below hb)
 have Y:=λW (hb:w W)=>zqm 38 #[] (enters_of func38 (by kernel_rfl) rfl) actC x.r.acts x.aA x.ac W ((l.acts.below hb).more hb.size) B.acts (λW' a _ _=>zxr a W')
 have t:oneC argC x.r=if 8<x.r.vars.length\/6<x.r.acts.length then 2 else if x.r.vars.length=0\/x.r.acts.length=0 then 1 else if zaX varC x.r.vars≠0 then zaX varC x.r.vars else
  if zbu x.r.pipe≠0 then zbu x.r.pipe else if x.r.op<1\/12<x.r.op then 1 else if argC x.r.op x.r.arg≠0 then argC x.r.op x.r.arg else zaX actC x.r.acts:=rfl
 have F:∀o,w (w.alloc o):=λo=>WaL
 generalize oneC argC x.r=b at *;obtain⟨⟨id,ph,s,q,no,op,T,n,L⟩,vA,vc,pA,pc,aA,ac⟩:=x;unfold zax;dsimp only at *;generalize s.length=A at *;generalize n.length=D at *;generalize q.length=np at *;generalize zaX varC s=H at *;generalize zbu q=G at *;generalize argC op T=k at *;generalize zaX actC n=J at *;have HV:=hIx K;have HP:=hIx hp;have HA:=hIx ha;have HC:=hIx Y;have C:=hIx t;have j:=hIx F;clear K hp ha Y l B m t F;unfold zbc
 go_in
 by_cases c1:8<A
 ·have d:Hid (b=2):=hIx (by rw[C.out,Qj (.inl c1)])
  have d1:decide (8<(A:Int))=true:=by simp;omega
  go_wp2;go_ret;exact⟨zae d.out.symm,j.out _⟩
 have d1:decide (8<(A:Int))=false:=by simp;omega
 by_cases c2:6<D
 ·have d:Hid (b=2):=hIx (by rw[C.out,Qj (.inr c2)])
  have d2:decide (6<(D:Int))=true:=by simp;omega
  go_wp2;go_ret;exact⟨zae d.out.symm,j.out _⟩
 have d2:decide (6<(D:Int))=false:=by simp;omega
 by_cases c3:A=0
 ·have d:Hid (b=1):=hIx (by rw[C.out,Qf (by omega),Qj (.inl c3)])
  have d3:((A:Int)==0)=true:=by rw[Zn];omega
  go_wp2;go_ret;exact⟨zae d.out.symm,j.out _⟩
 have d3:((A:Int)==0)=false:=Qc.2 (by omega)
 by_cases c4:D=0
 ·have d:Hid (b=1):=hIx (by rw[C.out,Qf (by omega),Qj (.inr c4)])
  have d4:((D:Int)==0)=true:=by rw[Zn];omega
  go_wp2;go_ret;exact⟨zae d.out.symm,j.out _⟩
 have d4:((D:Int)==0)=false:=Qc.2 (by omega);have u:Hid (b=if H≠0 then H else if G≠0 then G else if op<1\/12<op then 1 else if k≠0 then k else J):=hIx (by rw[C.out,Qf (by omega),Qf (by omega)]);clear C c1 c2 c3 c4;go_wp2_with fail;refine(HV.out _ (j.out _)).mono ?_;rintro e w1 ⟨rfl,I⟩;obtain⟨h,g⟩:=zbB (w:=w) (by simpa using I);have x3:=h 3;have P:=h 5;have X:=h 6;have O:=h 7;simp only[Z1,XB,Z5]at x3 P X O;clear h I
 by_cases U:H=0
 ·subst U
  go_wp2_with fail;refine(HP.out _ g).mono ?_;rintro e w2 ⟨rfl,i⟩;have c:=g.trans (i.mono g.size);have y5:=zaa i P;have y6:=zaa i X;have Z:=zaa i O;clear x3 P X O i
  by_cases N:G=0
  ·subst N
   have y:Hid (b=if op<1\/12<op then 1 else if k≠0 then k else J):=hIx (by rw[u.out,Qf (by decide),Qf (by decide)])
   by_cases o1:op<1
   ·have d:Hid (b=1):=hIx (by rw[y.out,Qj (.inl o1)])
    go_wp2;go_ret;exact⟨zae d.out.symm,c⟩
   by_cases o2:12<op
   ·have d:Hid (b=1):=hIx (by rw[y.out,Qj (.inr o2)])
    go_wp2;go_ret;exact⟨zae d.out.symm,c⟩
   have E:Hid (b=if k≠0 then k else J):=hIx (by rw[y.out,Qf (by omega)]);have Q:=hIx (HA.out _ c (by omega) (by omega));go_wp2_with fail;refine Q.out.mono ?_;rintro e w3 ⟨rfl,z⟩;have f:=c.trans (z.mono c.size);have z7:=zaa z Z;clear y5 y6 Z z
   by_cases S:k=0
   ·subst S
    have d:Hid (b=J):=hIx (by rw[E.out,Qf (by decide)]);go_wp2_with fail;refine(HC.out _ f).mono ?_;rintro e w4 ⟨rfl,V⟩;go_wp2;go_ret;exact⟨zae d.out.symm,f.trans (V.mono f.size)⟩
   ·have q3:(k==0)=false:=Qc.2 S
    have d:Hid (b=k):=hIx (by rw[E.out,Qj S]);go_wp2;go_ret;exact⟨zae d.out.symm,f⟩
  ·have q2:(G==0)=false:=Qc.2 N
   have d:Hid (b=G):=hIx (by rw[u.out,Qf (by decide),Qj N]);go_wp2;go_ret;exact⟨zae d.out.symm,c⟩
 ·have q1:(H==0)=false:=Qc.2 U
  have d:Hid (b=H):=hIx (by rw[u.out,Qj U]);go_wp2;go_ret;exact⟨zae d.out.symm,g⟩
theorem srcR{wr:World}{B n:Nat}{A:Option Addr}{d:List Value}{s u w l o m r k g:Nat->Value}(h:Sl wr B 9 A n d){j:Nat}(y:j<n)(x:∀j,j<n->d[j*9]? = some (s j)/\d[j*9+1]? = some (u j)/\d[j*9+2]? = some (w j)/\d[j*9+3]? = some (l j)/\d[j*9+4]? = some (o j)/\d[j*9+5]? = some (m j)/\d[j*9+6]? = some (r j)/\d[j*9+7]? = some (k j)/\d[j*9+8]? = some (g j)):
 ∃b a,A=some ⟨b,a,none⟩/\wr.cell? ⟨b,a+j*9,none⟩=some (s j)/\wr.cell? ⟨b,a+j*9+1,none⟩=some (u j)/\wr.cell? ⟨b,a+j*9+2,none⟩=some (w j)/\wr.cell? ⟨b,a+j*9+3,none⟩=some (l j)/\wr.cell? ⟨b,a+j*9+4,none⟩=some (o j)/\wr.cell? ⟨b,a+j*9+5,none⟩=some (m j)/\wr.cell? ⟨b,a+j*9+6,none⟩=some (r j)/\wr.cell? ⟨b,a+j*9+7,none⟩=some (k j)/\wr.cell? ⟨b,a+j*9+8,none⟩=some (g j):=by
 have hl:=h.len;obtain⟨b,a,e,_,z⟩:=h.src (by omega);have f:=x j y
 have c:∀i v,d[i]? = some v->wr.cell? ⟨b,a+i,none⟩=some v:=λi v t=>by
  have q:i<d.length:=(Qy.1 t).1;rw[z i q,<-t,Qe q]
 exact⟨b,a,e,by have:=c _ _ f.1;rw[show a+j*9=a+j*9 from rfl]at this;exact this,by have:=c _ _ f.2.1;rw[<-Zf]at this;exact this,by have:=c _ _ f.2.2.1;rw[<-Zf]at this;exact this,by have:=c _ _ f.2.2.2.1;rw[<-Zf]at this;exact this,by have:=c _ _ f.2.2.2.2.1;rw[<-Zf]at this;exact this,by have:=c _ _ f.2.2.2.2.2.1;rw[<-Zf]at this;exact this,by have:=c _ _ f.2.2.2.2.2.2.1;rw[<-Zf]at this;exact this,by have:=c _ _ f.2.2.2.2.2.2.2.1;rw[<-Zf]at this;exact this,by have:=c _ _ f.2.2.2.2.2.2.2.2;rw[<-Zf]at this;exact this⟩
theorem ztR(g:Nat)(z:Array Value)(V:∀args w,(callFunc g args).run prog w=.ok (.enter g args) w)(A:Option Addr)(n c:Nat)(a:List Value)(E F G t v u D s r:Nat->Value)(p:Nat->Bool)(w:World)
 (h:Sl w w.heap.size 9 A n a) (y:n<=9223372036854775807) (C:∀j,j<n->a[j*9]? = some (E j)/\a[j*9+1]? = some (F j)/\a[j*9+2]? = some (G j)/\a[j*9+3]? = some (t j)/\a[j*9+4]? = some (v j)/\a[j*9+5]? = some (u j)/\a[j*9+6]? = some (D j)/\a[j*9+7]? = some (s j)/\a[j*9+8]? = some (r j))
 (x:∀W j,j<n->w W->Calls prog g (#[.agg #[E j,F j,G j,t j,v j,u j,D j,s j,r j]]++z) W (zaC (p j) W)):
 Calls prog 32 #[.slice A n c,.func (.func g) #[] z] w λe w'=>e=jC (jA (hitI p n))/\w w':=by
 have T:=hIx x;have U:=hIx C;clear x C
 go_in
 go_wp2
 go_loopw [5,8] (λ_ i wr=>∃j:Nat,j<=n/\i=jA j/\w wr/\Hid (∀i,i<j->p i=false)) (λ_ i _=>n-(intOf i).toNat)
 case atStart=>exact⟨0,Qn _,rfl,Qi _ _,λi B=>absurd B (by omega)⟩
 case round=>
  obtain⟨j,X,rfl,hb,d⟩:=hrel
  by_cases f:j<n
  ·obtain⟨b,L,rfl,H,J,O,S,K,I,Q,N,P⟩:=srcR (h.below hb) f U.out
   have q:=T.out wr j f hb;cases m:p j with
   |true=>
    rw[m]at q;have k:=hIx (zmb p n j f m d);clear m;go_wp2_with (go_at_fn g;refine q.mono ?_;rintro e w' ⟨rfl,l⟩);go_ret;exact⟨zae k.out.symm,hb.trans (l.mono hb.size)⟩
   |false=>
    rw[m]at q
    have o:Hid (∀i,i<j+1->p i=false):=λi B=>by
     by_cases e:i=j
     ·rw[e];exact m
     ·exact d i (by omega)
    clear m d;go_wp2_with (go_at_fn g;refine q.mono ?_;rintro e w' ⟨rfl,l⟩)
    go_roundw
    case rel=>exact⟨j+1,by omega,by go_num,hb.trans (l.mono hb.size),o⟩
    case measure=>simp[intOf] <;> omega
  ·obtain rfl:j=n:=by omega
   have k:=hIx (zeH p j d);go_wp2;go_ret;exact⟨zae k.out.symm,hb⟩
theorem zqF(g:Nat)(m:Array Value)(v:∀args w,(callFunc g args).run prog w=.ok (.enter g args) w)(A:Option Addr)(n c:Nat)(a:List Value)(q r s i l k o f d:Nat->Value)(p:Nat->Bool)(w:World)
 (h:Sl w w.heap.size 9 A n a) (b:n<=9223372036854775807) (u:∀j,j<n->a[j*9]? = some (q j)/\a[j*9+1]? = some (r j)/\a[j*9+2]? = some (s j)/\a[j*9+3]? = some (i j)/\a[j*9+4]? = some (l j)/\a[j*9+5]? = some (k j)/\a[j*9+6]? = some (o j)/\a[j*9+7]? = some (f j)/\a[j*9+8]? = some (d j))
 (t:∀W j,j<n->w W->Calls prog g (#[.agg #[q j,r j,s j,i j,l j,k j,o j,f j,d j]]++m) W (zaC (p j) W)):
 Calls prog 23 #[.slice A n c,.func (.func g) #[] m] w (zaC (anyN p n) w):=by
 have y:=hIx (ztR g m v A n c a q r s i l k o f d p w h b u t);have x:=hIx (zhM p n);clear t u h
 go_in
 go_wp2_with fail;refine y.out.mono ?_;rintro e z ⟨rfl,hb⟩;go_wp2;go_ret;exact⟨zaQ x.out,hb⟩
theorem zsy{w:World}{B m:Nat}{A:Option Addr}{l:List RuM}(h:Sl w B 9 A m (l.flatMap zax))(k:Nat)(c:k<l.length):
 ∃b a,A=some ⟨b,a,none⟩/\b<B/\∀j,j<9->∀v,(zax l[k])[j]? = some v->w.cell? ⟨b,a+k*9+j,none⟩=some v:=by
 have hl:=za3 zax 9 (λ_=>rfl) l;obtain⟨b,a,e,hb,g⟩:=h.src (by omega);refine⟨b,a,e,hb,λj f v d=>?_⟩;have h1:=zcA zax 9 (λ_=>rfl) l k j c f;have h2:k*9+j<(l.flatMap zax).length:=by omega
 rw[Zf,g (k*9+j) h2];rw[Qe h2]at h1;rw[h1,d]
theorem zuW{i:Type}{cells:i->List Value}{size:Nat}(c:∀a,(cells a).length=size){w:World}{B n:Nat}{A:Option Addr}{l:List i}(h:Sl w B size A n (l.flatMap cells))(k:Nat)(m:k<=l.length):Sl w B size A k ((l.take k).flatMap cells):=by
 have hl:=za3 cells size c (l.take k);have f:l.flatMap cells=(l.take k).flatMap cells++(l.drop k).flatMap cells:=by rw[<-Q7,Zt]
 refine⟨by rw[hl,QK,Nat.min_eq_left m],λr=>?_⟩;obtain⟨b,d,e,hb,o⟩:=h.src (by rw[f,Qb];omega);refine⟨b,d,e,hb,λj q=>?_⟩;have g:j<(l.flatMap cells).length:=by rw[f,Qb];omega
 rw[o j g]
 congr 1
 simp only[f,Zy q]
def dRu:RuM:=⟨⟨0,0,[],[],false,0,ByteArray.empty,[],false⟩,none,0,none,0,none,0⟩
theorem zvg(b i f e l j h n c:Value)(y a:Int)(g:Nat)(w:World)(d:b=jA y)(k:g<w.heap.size)(q:w.cell? g=some (jA a)):
 Calls prog 24 #[.agg #[b,i,f,e,l,j,h,n,c],.pointer g] w (zaC (y==a) w):=by
 subst d;have m:∀o,(w.alloc o).cell? g=some (jA a):=λo=>(((Qi _ _).alloc (Qd _) o).cell (p:=⟨g,0,none⟩) k).trans q
 go_in
 go_wp2;go_ret;exact⟨rfl,WaL⟩
theorem zqM(l:List RuM)(k:Nat)(s:k<=l.length)(f:Int)(A:Option Addr)(c g:Nat)(w:World)(h:Sl w w.heap.size 9 A l.length (l.flatMap zax))(hl:l.length<=1048576)(q:g<w.heap.size)(v:w.cell? g=some (jA f)):
 Calls prog 23 #[.slice A k c,.func (.func 24) #[] #[.pointer g]] w (zaC (((l.map RuM.r).take k).any λy=>y.id==f) w):=by
 have u:=zuW (cells:=zax) (λ_=>rfl) h k s;have d:(l.take k).length=k:=by rw[QK,Nat.min_eq_left s]
 have t:anyN (λj=>((l.take k).getD j dRu).r.id==f) (l.take k).length=(((l.map RuM.r).take k).any λy=>y.id==f):=by
  rw[zd2 (λy:RuM=>y.r.id==f) (l.take k) dRu,<-List.map_take,List.any_map];rfl
 rw[<-t,d];have o:=za3 zax 9 (λ_=>rfl) (l.take k)
 have a:∀j i,j<k->i<9->((l.take k).flatMap zax)[j*9+i]? = some (((l.take k).flatMap zax).getD (j*9+i) undef):=λj i b x=>by
  rw[Qr,Qe (by rw[o,d];omega)];rfl
 generalize n:(l.take k).flatMap zax=e at *;refine zqF 24 #[.pointer g] (enters_of func24 (by kernel_rfl) rfl) A k c e (λj=>e.getD (j*9) undef) (λj=>e.getD (j*9+1) undef) (λj=>e.getD (j*9+2) undef) (λj=>e.getD (j*9+3) undef) (λj=>e.getD (j*9+4) undef) (λj=>e.getD (j*9+5) undef) (λj=>e.getD (j*9+6) undef) (λj=>e.getD (j*9+7) undef) (λj=>e.getD (j*9+8) undef) _ w u (by omega) (λj b=>?_) (λW j b hb=>?_)
 ·exact⟨a j 0 b (by decide),a j 1 b (by decide),a j 2 b (by decide),a j 3 b (by decide),a j 4 b (by decide),a j 5 b (by decide),a j 6 b (by decide),a j 7 b (by decide),a j 8 b (by decide)⟩
 ·refine zvg _ _ _ _ _ _ _ _ _ ((l.take k).getD j dRu).r.id f g W ?_ (Qw q hb.size) ((hb.cell (p:=⟨g,0,none⟩) q).trans v)
  have m:j<(l.take k).length:=by rw[d];exact b
  have h1:=zcA zax 9 (λ_=>rfl) (l.take k) j 0 m (by decide);have h2:(l.take k).getD j dRu=(l.take k)[j]:=by rw[Qr,Qe m];rfl
  rw[n,XH]at h1;rw[h2,Qr,h1]
  rfl
theorem zuq(argC:Int->ByteArray->Int)(l:List zaz)(k:Nat)(a:k<l.length):
 goC argC (l.take k) (l.drop k)=if l[k].id<1\/9999<l[k].id\/(l[k].phase≠1/\l[k].phase≠2)then 1 else if (l.take k).any (λy=>y.id==l[k].id)=true then 9 else if oneC argC l[k]≠0 then oneC argC l[k]else goC argC (l.take (k+1)) (l.drop (k+1)):=by
 rw[Zb a,goC,Qu a]
theorem znD(l:List zaz)(k:Nat)(a:k+1=l.length):zby (l.drop k)=if l[k].chain=true then 1 else 0:=by
 rw[Zb (by omega),QM (by omega),zby]
theorem zmZ(l:List zaz)(k:Nat)(a:k+1<l.length):zby (l.drop k)=if l[k].chain=true/\l[k+1].phase≠l[k].phase then 1 else zby (l.drop (k+1)):=by
 rw[Zb (by omega:k<l.length),Zb a,zby]
def zwJ(L:List zaz)(w a:World)(i:Value)(wr:World):Prop:=∃k:Nat,k<=L.length/\i=jA k/\Below (w.heap.size+1) a wr/\goC argC [] L=goC argC (L.take k) (L.drop k)
def zwL(L:List zaz)(w a:World)(i:Value)(wr:World):Prop:=∃k:Nat,k<=L.length/\i=jA k/\Below (w.heap.size+1) a wr/\zby L=zby (L.drop k)
theorem ziL(a:RuArg)(w:World)(h:RuLies w w.heap.size a)(hs:zb9 a)(hd:LibOk w):Calls prog 16 #[a.value] w (zbc (za1 argC a.set) w):=by
 have v:=λ(x:RuM) (hx:x∈a.l) W (hb:w W)=>zys x W ((h.all x hx).keep hb hb.size) (hs.all x hx) (hd.below hb)
 have z:=λk (hk:k<=a.l.length) J g W (hb:w W)=>zqM a.l k hk J a.A a.c g W ((h.sl.below hb).more hb.size) hs.len
 have hG:=λW (hb:w W) k (hk:k<a.l.length)=>zsy (h.sl.below hb) k hk
 have hj:za1 argC a.set=if a.most<1\/1000000<a.most\/a.status<400\/599<a.status then 1 else if 40<(a.l.map RuM.r).length then 2 else if goC argC [] (a.l.map RuM.r)≠0 then goC argC [] (a.l.map RuM.r)else zby (a.l.map RuM.r):=rfl;have hC:∀o,w (w.alloc o):=λo=>WaL
 have he:(a.l.map RuM.r).length=a.l.length:=Qk _;have hA:=h.cap;have hW:=hs.len;have hg:∀k (hk:k<a.l.length) (hy:k<(a.l.map RuM.r).length),(a.l.map RuM.r)[k]'hy=a.l[k].r:=λk hk hy=>Zo _
 unfold RuArg.value;generalize za1 argC a.set=s at *;obtain⟨most,F,A,c,l⟩:=a;dsimp only at *;have HS:=hIx (zuq argC (l.map RuM.r));have hL:=hIx (znD (l.map RuM.r));have hO:=hIx (zmZ (l.map RuM.r));have hi:=hIx v;have h5:=hIx z;have hu:=hIx hG;have HD:=hIx hj;have U:=hIx hC;have V:=hIx he;have HG:=hIx hg;clear v z hG h hs hd hj hC he hg;unfold zbc
 go_in
 by_cases c1:most<1
 ·have HR:Hid (s=1):=hIx (by rw[HD.out,Qj (.inl c1)])
  go_wp2;go_ret;exact⟨zae HR.out.symm,U.out _⟩
 by_cases c2:1000000<most
 ·have HR:Hid (s=1):=hIx (by rw[HD.out,Qj (by omega)])
  go_wp2;go_ret;exact⟨zae HR.out.symm,U.out _⟩
 by_cases c3:F<400
 ·have HR:Hid (s=1):=hIx (by rw[HD.out,Qj (by omega)])
  go_wp2;go_ret;exact⟨zae HR.out.symm,U.out _⟩
 by_cases c4:599<F
 ·have HR:Hid (s=1):=hIx (by rw[HD.out,Qj (by omega)])
  go_wp2;go_ret;exact⟨zae HR.out.symm,U.out _⟩
 by_cases c5:40<l.length
 ·have HR:Hid (s=2):=hIx (by rw[HD.out,Qf (by omega),Qj (by rw[V.out];exact c5)])
  have d5:decide (40<(l.length:Int))=true:=by simp;omega
  go_wp2;go_ret;exact⟨zae HR.out.symm,U.out _⟩
 have d5:decide (40<(l.length:Int))=false:=by simp;omega
 have K:Hid (s=if goC argC [] (l.map RuM.r)≠0 then goC argC [] (l.map RuM.r)else zby (l.map RuM.r)):=hIx (by rw[HD.out,Qf (by omega),Qf (by rw[V.out];exact c5)]);clear HD;obtain⟨W0,hc⟩:∃W0,W0=w.alloc (.cells #[jA most,jA F,.slice A l.length c] 24):=⟨_,rfl⟩
 have hF:Hid (∀W,Below (w.heap.size+1) W0 W->W.cell? ⟨w.heap.size,2,none⟩=some (.slice A l.length c)/\w W):=λW hb=>by
  subst hc;obtain⟨a,b⟩:=zbB hb;exact⟨a 2,b⟩
 have hB:w.heap.size+1<=W0.heap.size:=by rw[hc];simp
 go_wp2_with fail;rw[<-hc];clear hc U c1 c2 c3 c4
 go_loopw [33] (λi wr=>zwJ (l.map RuM.r) w W0 i wr) (λi _=>l.length-(intOf i).toNat)
 case atStart=>exact⟨0,Qn _,rfl,Qi _ _,rfl⟩
 case round=>
  obtain⟨k,hk,rfl,Z,hr⟩:=hrel;rw[V.out]at hk;obtain⟨x2,I⟩:=hF.out wr Z;have hE:w.heap.size+1<=wr.heap.size:=Ql hB Z.size;have hJ:=hIx Z;have HR:=hIx hr
  by_cases H:k<l.length
  ·obtain⟨b,ha,rfl,hK,d⟩:=hu.out wr I k H
   have v:=hi.out l[k] (QC H);have Y:=HS.out k (by rw[V.out];exact H);rw[HG.out k H _]at Y;have z:=λJ g W hb=>h5.out k hk J g W hb
   rw[<-hr]at Y;have q0:=d 0 (by decide) _ rfl;have q1:=d 1 (by decide) _ rfl;have q2:=d 2 (by decide) _ rfl;have q3:=d 3 (by decide) _ rfl;have q4:=d 4 (by decide) _ rfl;have q5:=d 5 (by decide) _ rfl;have q6:=d 6 (by decide) _ rfl;have q7:=d 7 (by decide) _ rfl;have q8:=d 8 (by decide) _ rfl;rw[XH]at q0;generalize l[k]=X at *;obtain⟨⟨J,N,E,D,no,op,h6,B,n⟩,vA,vc,pA,pc,aA,ac⟩:=X;unfold zax at v;dsimp only at q0 q1 q2 q3 q4 q5 q6 q7 q8 Y v;generalize oneC argC ⟨J,N,E,D,no,op,h6,B,n⟩=oc at *;generalize E.length=nv at *;generalize D.length=np at *;generalize B.length=na at *;have i1:(k:Int)<=(c:Int):=by have:=hA;omega
   have hD:Hid (∀W,Below (wr.heap.size+1) (wr.alloc (.cells #[jA J,jA N,.slice vA nv vc,.slice pA np pc,.bool no,jA op,.string h6,.slice aA na ac,.bool n] 68)) W->(∀j,W.cell? ⟨wr.heap.size,j,none⟩=(#[jA J,jA N,.slice vA nv vc,.slice pA np pc,.bool no,jA op,.string h6,.slice aA na ac,.bool n]:Array Value)[j]?)/\wr W):=λW hb=>zbB hb
   have h9:=hIx Y;have hv:=hIx v;have Q:=hIx z;have P:Hid (∀o,w (wr.alloc o)):=λo=>I.alloc I.size o
   have hT:∀o,(wr.alloc o).cell? ⟨w.heap.size,2,none⟩=some (.slice (some ⟨b,ha,none⟩) l.length c):=λo=>zaa ((Qi _ _).alloc (Qd _) o) x2
   clear d Y v z Z hr
   by_cases c1:J<1
   ·have f:Hid (s=1):=hIx (by have e:=h9.out;rw[Qj (.inl c1)]at e;rw[K.out,e,Qj (by decide)])
    go_wp2;go_ret;exact⟨zae f.out.symm,P.out _⟩
   by_cases c2:9999<J
   ·have f:Hid (s=1):=hIx (by have e:=h9.out;rw[Qj (by omega)]at e;rw[K.out,e,Qj (by decide)])
    go_wp2;go_ret;exact⟨zae f.out.symm,P.out _⟩
   by_cases c3:N≠1/\N≠2
   ·have f:Hid (s=1):=hIx (by have e:=h9.out;rw[Qj (by omega)]at e;rw[K.out,e,Qj (by decide)])
    have e1:(N != 1)=true:=Q6.2 c3.1;have e2:(N != 2)=true:=Q6.2 c3.2;go_wp2;go_ret;exact⟨zae f.out.symm,P.out _⟩
   have hQ:N=1\/N=2:=by omega
   have h7:Hid (goC argC [] (l.map RuM.r)=if ((l.map RuM.r).take k).any (λy=>y.id==J)=true then 9 else if oc≠0 then oc else goC argC ((l.map RuM.r).take (k+1)) ((l.map RuM.r).drop (k+1))):=hIx (by rw[h9.out,Qf (by omega)]);clear h9 c3;have HC:=hIx λo (h:(wr.alloc o).cell? ⟨wr.heap.size,0,none⟩=some (jA J))=>Q.out J wr.heap.size (wr.alloc o) (P.out o) (by simp) h
   clear Q;have ho:∀cs t,cs[0]? = some (jA J)->(wr.alloc (.cells cs t)).cell? ⟨wr.heap.size,0,none⟩=some (jA J):=λcs t h=>(Qo _ _ 0 cs t (0,0) (Qv wr _)).trans h
   have hz:=hIx ho;clear ho
   rcases hQ with rfl|rfl
   all_goals
    generalize ((l.map RuM.r).take k).any (λy=>y.id==J)=an at *;go_wp2_with fail;refine(HC.out _ (hz.out _ _ rfl)).mono ?_;rintro e w1 ⟨rfl,hI⟩;obtain⟨hn,O⟩:=hD.out w1 (by simpa using hI);clear hI;cases an with
    |true=>
     have f:Hid (s=9):=hIx (by rw[K.out,h7.out,Qj rfl,Qj (by decide)]);go_wp2;go_ret;exact⟨zae f.out.symm,I.trans (O.mono I.size)⟩
    |false=>
     have hf:Hid (goC argC [] (l.map RuM.r)=if oc≠0 then oc else goC argC ((l.map RuM.r).take (k+1)) ((l.map RuM.r).drop (k+1))):=hIx (by rw[h7.out,Qf (by decide)]);have n0:=hn 0;have n1:=hn 1;have n2:=hn 2;have n3:=hn 3;have n4:=hn 4;have n5:=hn 5;have n6:=hn 6;have n7:=hn 7;have n8:=hn 8;simp only[Z1,XB,Z5]at n0 n1 n2 n3 n4 n5 n6 n7 n8;clear hn h7;have u:=I.trans (O.mono I.size);have HO:=hIx (hv.out w1 u)
     by_cases co:oc=0
     ·subst co
      have h4:Hid (∀w2,w1 w2->zwJ (l.map RuM.r) w W0 (jA ((k:Int)+1)) w2):=λw2 h0=>⟨k+1,by rw[V.out];omega,rfl,(hJ.out.trans (O.mono hE)).trans (h0.mono (Ql hE O.size)),by rw[hf.out,Qf (by decide)]⟩
      go_wp2_with fail;refine HO.out.mono ?_;rintro e w2 ⟨rfl,h0⟩;have hH:=h4.out w2 h0;go_wp2;exact⟨hH,by simp[intOf] <;> omega⟩
     ·have f:Hid (s=oc):=hIx (by rw[K.out,hf.out,Qj co,Qj co])
      have qo:(oc==0)=false:=Qc.2 co;go_wp2_with fail;refine HO.out.mono ?_;rintro e w2 ⟨rfl,h0⟩;go_wp2;go_ret;exact⟨zae f.out.symm,u.trans (h0.mono u.size)⟩
  ·have hP:l.length<=k:=by omega
   have ht:Hid (s=zby (l.map RuM.r)):=hIx (by
    have:goC argC [] (l.map RuM.r)=0:=by rw[hr,QM (by rw[V.out];exact hP)];rfl
    rw[K.out,this,Qf (by decide)])
   clear HS hi h5 K hr HR Z I;have i1:¬((k:Int)<(l.length:Int)):=by omega
   obtain⟨wo,rfl⟩:∃wo:World,wo=wr:=⟨_,rfl⟩
   go_wp2
   go_loopw [71] (λi wr=>zwL (l.map RuM.r) w W0 i wr) (λi _=>l.length-(intOf i).toNat)
   case atStart=>exact⟨0,Qn _,rfl,hJ.out,rfl⟩
   case round=>
    obtain⟨m,hm,rfl,C,S⟩:=hrel;rw[V.out]at hm;obtain⟨y2,u⟩:=hF.out wr C;have hS:=hIx C;have hV:=hIx S;clear x2
    by_cases H:m<l.length
    ·obtain⟨b,ha,rfl,hK,d⟩:=hu.out wr u m H
     have q0:=d 0 (by decide) _ rfl;have q1:=d 1 (by decide) _ rfl;have q2:=d 2 (by decide) _ rfl;have q3:=d 3 (by decide) _ rfl;have q4:=d 4 (by decide) _ rfl;have q5:=d 5 (by decide) _ rfl;have q6:=d 6 (by decide) _ rfl;have q7:=d 7 (by decide) _ rfl;have q8:=d 8 (by decide) _ rfl;rw[XH]at q0;have hU:∀o,(wr.alloc o).cell? ⟨w.heap.size,2,none⟩=some (.slice (some ⟨b,ha,none⟩) l.length c):=λo=>zaa ((Qi _ _).alloc (Qd _) o) y2
     have h4:Hid (∀o,zby (l.map RuM.r)=zby ((l.map RuM.r).drop (m+1))->∀q,zwL (l.map RuM.r) w W0 (jA ((m:Int)+1)) ((wr.alloc o).drewN q)):=λo h q=>⟨m+1,by rw[V.out];omega,rfl,below_drewN (C.alloc (Ql hB C.size) o) q,h⟩
     have hh:Hid (∀o q,w ((wr.alloc o).drewN q)):=λo q=>below_drewN (u.alloc u.size o) q
     by_cases hw:m+1=l.length
     ·have G:=hL.out m (by rw[V.out];exact hw)
      rw[<-S,HG.out m H _]at G;have hN:Hid (zby ((l.map RuM.r).drop (m+1))=0):=hIx (by rw[QM (by rw[V.out];omega)];rfl);generalize l[m]=X at *;obtain⟨⟨J,N,E,D,no,op,h6,B,n⟩,vA,vc,pA,pc,aA,ac⟩:=X;dsimp only at q0 q1 q2 q3 q4 q5 q6 q7 q8 G;generalize E.length=nv at *;generalize D.length=np at *;generalize B.length=na at *;have e1:((m:Int)+1==(l.length:Int))=true:=by rw[Zn];omega
      have T:=hIx G;clear d G C S;cases n with
      |true=>
       have f:Hid (s=1):=hIx (by rw[ht.out,T.out,Qj rfl]);go_wp2_with fail
       go_quiet (fail)
       go_wp2;go_ret;exact⟨zae f.out.symm,hh.out _ _⟩
      |false=>
       have h3:Hid (zby (l.map RuM.r)=zby ((l.map RuM.r).drop (m+1))):=hIx (by rw[T.out,hN.out,Qf (by decide)]);go_wp2_with fail
       go_quiet (fail)
       go_wp2;exact⟨h4.out _ h3.out _,by simp[intOf] <;> omega⟩
     ·have h8:m+1<l.length:=by omega
      obtain⟨b',hR,e',_,L⟩:=hu.out wr u (m+1) h8;injection e' with e'
      injection e' with e1 e2
      subst e1;subst e2
      have r1:=L 1 (by decide) _ rfl;have r2:∀o,(wr.alloc o).cell? ⟨b,ha+(m+1)*9+1,none⟩=some (jA l[m+1].r.phase):=λo=>zaa ((Qi _ _).alloc (Qd _) o) r1
      have G:=hO.out m (by rw[V.out];exact h8);rw[<-S,HG.out m H _,HG.out (m+1) h8 _]at G;generalize l[m+1].r.phase=hq at *;generalize l[m]=X at *;obtain⟨⟨J,N,E,D,no,op,h6,B,n⟩,vA,vc,pA,pc,aA,ac⟩:=X;dsimp only at q0 q1 q2 q3 q4 q5 q6 q7 q8 G;generalize E.length=nv at *;generalize D.length=np at *;generalize B.length=na at *;have e1:((m:Int)+1==(l.length:Int))=false:=Qc.2 (by omega);have T:=hIx G;clear d L G C S r1;cases n with
      |true=>
       by_cases hp:hq=N
       ·have h3:Hid (zby (l.map RuM.r)=zby ((l.map RuM.r).drop (m+1))):=hIx (by rw[T.out,Qf (λh=>h.2 hp)])
        have e3:(hq != N)=false:=by rw[hp];simp
        go_wp2_with fail
        go_quiet (fail)
        go_wp2;exact⟨h4.out _ h3.out _,by simp[intOf] <;> omega⟩
       ·have f:Hid (s=1):=hIx (by rw[ht.out,T.out,Qj ⟨rfl,hp⟩])
        have e3:(hq != N)=true:=Q6.2 hp;go_wp2_with fail
        go_quiet (fail)
        go_wp2;go_ret;exact⟨zae f.out.symm,hh.out _ _⟩
      |false=>
       have h3:Hid (zby (l.map RuM.r)=zby ((l.map RuM.r).drop (m+1))):=hIx (by rw[T.out,Qf (λh=>absurd h.1 (by decide))]);go_wp2_with fail
       go_quiet (fail)
       go_wp2;exact⟨h4.out _ h3.out _,by simp[intOf] <;> omega⟩
    ·have f:Hid (s=0):=hIx (by rw[ht.out,S,QM (by rw[V.out];omega)];rfl)
     have i2:¬((m:Int)<(l.length:Int)):=by omega
     go_wp2;go_ret;exact⟨zae f.out.symm,u⟩
