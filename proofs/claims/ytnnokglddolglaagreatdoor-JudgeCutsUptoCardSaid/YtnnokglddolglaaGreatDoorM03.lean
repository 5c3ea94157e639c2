/- Lemmas for the last texts. -/
import Derived.Test.YtnnokglddolglaaGreatDoorM02
import Derived.Deep.Draws
import Derived.Deep.Slices
import Derived.Deep.Fields
import Derived.ChangeSame
import Derived.Lib.SmallJoins
import Derived.SizedLaws
import Derived.Lib.OwnKind
import Derived.OwnWalk
import Derived.ChangeKeysEq
import Derived.Deep.QuietTactic
import Derived.BigQuiet
import Derived.Deep.RegionHeld3
import Derived.Laws.CopyOwn
import Derived.BigRegion
import Derived.IntWalk
import Derived.Shelf.GgClosure.Gives
set_option maxHeartbeats 1600000
set_option maxRecDepth 100000
namespace Go.Proofs.YtnnokglddolglaaGreatDoor
open Go.RowKit Go.Proofs.Tryz
structure Sl(w:World)(B size:Nat)(A:Option Addr)(n:Nat)(xs:List Value):Prop where
 len:xs.length=n*size
 src:0<xs.length->∃b off,A=some ⟨b,off,none⟩/\b<B/\∀j (h:j<xs.length),w.cell? ⟨b,off+j,none⟩=some xs[j]
theorem Sl.nil(w:World)(B size:Nat)(A:Option Addr):Sl w B size A 0 []:=⟨by simp,λh=>absurd h (by simp)⟩
theorem Sl.keep{w w':World}{B size n:Nat}{A:Option Addr}{xs:List Value}(h:Sl w B size A n xs)(c:∀b o,b<B->w'.cell? ⟨b,o,none⟩=w.cell? ⟨b,o,none⟩):Sl w' B size A n xs:=
 ⟨h.len,λa=>by
  obtain⟨b,off,e,hb,f⟩:=h.src a;exact⟨b,off,e,hb,λj d=>(c b _ hb).trans (f j d)⟩⟩
theorem Sl.below{w w':World}{B size n:Nat}{A:Option Addr}{xs:List Value}(h:Sl w B size A n xs)(hb:Below B w w'):Sl w' B size A n xs:=
 h.keep λb o a=>hb.cell (p:=⟨b,o,none⟩) a
theorem Sl.more{w:World}{B a size n:Nat}{A:Option Addr}{xs:List Value}(h:Sl w B size A n xs)(f:B<=a):Sl w a size A n xs:=
 ⟨h.len,λc=>by
  obtain⟨b,off,e,hb,d⟩:=h.src c;exact⟨b,off,e,by omega,d⟩⟩
theorem Sl.drewN{w:World}{B size n:Nat}{A:Option Addr}{xs:List Value}(h:Sl w B size A n xs)(q:Nat):Sl (w.drewN q) B size A n xs:=h.keep λ_ _ _=>rfl
theorem Sl.alloc{w:World}{B size n:Nat}{A:Option Addr}{xs:List Value}(h:Sl w B size A n xs)(a:B<=w.heap.size)(o:Obj):Sl (w.alloc o) B size A n xs:=
 h.below ((Qj _ _).alloc a _)
theorem zao{W w':World}{cs:Array Value}{t:TypeId}(hb:Below (W.alloc (.cells cs t)).heap.size (W.alloc (.cells cs t)) w')(j:Nat):w'.cell? ⟨W.heap.size,j,none⟩=cs[j]? :=
 (hb.cell (p:=⟨W.heap.size,j,none⟩) (by simp)).trans (Qf (W.alloc (.cells cs t)) W.heap.size j cs t (0,0) (Qt W _))
theorem zky{W w':World}{cs:Array Value}{t:TypeId}(hb:Below (W.alloc (.cells cs t)).heap.size (W.alloc (.cells cs t)) w')(j:Nat):w'.frozen? ⟨W.heap.size,j,none⟩=false:=by
 have a:=(hb.block W.heap.size (by simp)).trans (Qt W (.cells cs t));simp[World.frozen?, a]
theorem zaB{W W':World}(hb:W W'){p:Addr}{x:Value}(h:W.cell? p=some x)(a:W.frozen? p=false):W'.frozen? p=false:=(hb.frozen (QQ W p h)).trans a
theorem undrew{B:Nat}{W w':World}(hb:Below B W.drew w'):Below B W w':=⟨hb.os,hb.tape,hb.output,hb.size,hb.block⟩
theorem zaI{B:Nat}{W w':World}{o:Obj}(hb:Below (W.alloc o).heap.size (W.alloc o) w')(a:B<=W.heap.size):Below B W w':=
 ((Qj B W).alloc a o).trans (hb.mono (by simp;omega))
theorem zaa{W W':World}(hb:W W'){p:Addr}{x:Value}(h:W.cell? p=some x):W'.cell? p=some x:=(hb.cell (QQ W p h)).trans h
theorem zaU{w w':World}{base:Nat}{e:TypeId}{size:Nat}{v:Value}{n:Nat}{xs:List Value}(h:w.ownsRow base e size v n xs)(hb:w w'):w'.ownsRow base e size v n xs:=by
 refine⟨h.1,?_⟩
 rcases h.2 with c|⟨g,cap,a,h1,h2,d,b⟩
 ·exact .inl c
 ·exact .inr ⟨g,cap,a,h1,h2,(hb.block g (h.lt g (by rw[h1];rfl)).2).trans d,b⟩
theorem Sl.lit{W:World}{cs:Array Value}{t:TypeId}{g B n size:Nat}{xs:List Value}(b:W.heap.size=g)(c:g<B)(d:cs.toList=xs)(h:xs.length=n*size):Sl (W.alloc (.cells cs t)) B size (some ⟨g,0,none⟩) n xs:=by
 subst b;subst d
 exact⟨h,λ_=>⟨_,0,rfl,c,λj a=>by rw[Zh,Qf (W.alloc (.cells cs t)) W.heap.size j cs t (0,0) (Qt W _)];simp[Array.getElem?_eq_getElem (by simpa using a:j<cs.size)]⟩⟩
theorem za8{w:World}{g:Nat}{d c:Value}(x y:Value)(b:w.cell? g=some d)(h1:w.cell? ⟨g,1,none⟩=some c):
 ((w.setCell g x).setCell ⟨g,1,none⟩ y).cell? g=some x/\((w.setCell g x).setCell ⟨g,1,none⟩ y).cell? ⟨g,1,none⟩=some y:=by
 have a:(⟨g,1,none⟩:Addr)≠⟨g,0,none⟩:=by intro e;cases e
 refine⟨?_,?_⟩
 ·rw[QT _ _ _ _ a,ZA _ _ _ b]
 ·exact ZA (w.setCell g x) _ _ ((QT _ _ _ _ (Xv a)).trans h1)
theorem zbs{w W':World}{cs:Array Value}{t:TypeId}(hb:Below (w.heap.size+1) (w.alloc (.cells cs t)) W'):(∀j,W'.cell? ⟨w.heap.size,j,none⟩=cs[j]?)/\w W':=by
 have a:Below (w.alloc (.cells cs t)).heap.size (w.alloc (.cells cs t)) W':=by simpa using hb
 exact⟨λj=>zao a j,zaI a (Qc _)⟩
def zzQ(e:TypeId)(size n:Nat)(xs:List Value)(w:World)(r:Ending)(w':World):Prop:=∃v,r=jC v/\w'.ownsRow w.heap.size e size v n xs/\w w'
def OwnS(w:World)(base:Nat)(v:Value)(l:List ByteArray):Prop:=w.ownsRow base 9 1 v l.length (l.map Value.string)
theorem OwnS.nil(w:World)(base:Nat):OwnS w base (jD 0 0) []:=ZU w base 9 1
theorem OwnS.form{w:World}{base:Nat}{v:Value}{l:List ByteArray}(h:OwnS w base v l):∃A c,v=.slice A l.length c/\Sl w w.heap.size 1 A l.length (l.map Value.string):=by
 rcases h.2 with ⟨h1,h2⟩|⟨g,cap,a,h1,hb,e,_⟩
 ·have:l=[]:=QA h2
  subst this;exact⟨none,0,h1,Sl.nil _ _ _ _⟩
 ·refine⟨_,_,h1,by simp,λd=>⟨g,0,rfl,?_,λj b=>?_⟩⟩
  ·exact((h.lt g (by rw[h1];simp[Value.ownBlock])).2)
  ·have:=Zq (g:=g) h (by rw[h1];simp[Value.ownBlock]) j _ (Qd b)
   rw[zba]at this;rw[Zh];exact this
theorem OwnS.below{w w':World}{base:Nat}{v:Value}{l:List ByteArray}(h:OwnS w base v l)(hb:w w'):OwnS w' base v l:=zaU h hb
theorem OwnS.later{w w':World}{base:Nat}{v:Value}{l:List ByteArray}{o:Obj}(h:OwnS w base v l)(hb:Below (w.alloc o).heap.size (w.alloc o) w'):OwnS w' base v l:=zaU h (zaI hb (Qc _))
theorem OwnS.sl{w:World}{base:Nat}{A:Option Addr}{n c:Nat}{l:List ByteArray}(h:OwnS w base (.slice A n c) l):Sl w w.heap.size 1 A l.length (l.map Value.string):=by
 obtain⟨f,g,e,b⟩:=h.form;injection e with a i d
 subst a;exact b
theorem OwnS.far{w:World}{base g:Nat}{v:Value}{l:List ByteArray}(h:OwnS w base v l)(b:∀k,v.ownBlock=some k->k≠g)(j:Nat)(x:Value):OwnS (w.setCell ⟨g,j,none⟩ x) base v l:=
 ownsRow_setCell_other (a:=⟨g,j,none⟩) h (λe=>b g e rfl) x
theorem OwnS.lt{w:World}{base:Nat}{v:Value}{l:List ByteArray}(h:OwnS w base v l):∀k,v.ownBlock=some k->base<=k/\k<w.heap.size:=QK h
theorem zoz:(prog.info? 9).map (λi=>(i.zero,i.size,i.bytes))=some (some (.string ByteArray.empty),1,16):=by kernel_rfl
section
variable {ops:Array Oper} {rest:List Oper} {o:Oper} {a:Act} {Q:Exit->Act->World->Prop} {w:World}
theorem zaV{K:Act->World->Prop}(s x:Operand)(t:TypeId)(N:o.op=.call {callee:=.builtin .append,args:=#[s,x],argTypes:=#[t,t]})
 (base:Nat) (e:TypeId) (i:TypeInfo) (z:Value) (size b:Nat) (I:prog.underlying t=some (.slice e)) (S:prog.info? e=some i) (L:i.zero=some z)
 (l:i.size=size) (D:i.bytes=b) (G:z.cells.size=size) (C:0<size)
 (v:Value) (n:Nat) (xs:List Value) (O:a.eval s=v) (j:w.ownsRow base e size v n xs) (p:base<=w.heap.size)
 (d:List Value) (m c:Nat) (T:a.eval x=.slice w.heap.size m c) (hl:d.length=m*size) (h1:∀u∈d,u.oneCell'=true)
 (B:n+m<=maxLen) (f:(n+m)*b<=140737488355328)
 (h:∀v' w',w'.ownsRow base e size v' (n+m) (xs++d)->Below base w w'->(∀g,g<w.heap.size->v.ownBlock≠some g->w'.heap[g]? = w.heap[g]?)->w.heap.size<w'.heap.size->K (a.put o.dst v') w'):
 o.wp prog a (w.alloc (.cells d.toArray e)) K Q:=by
 have q:=j.alloc (.cells d.toArray e);refine wp_append_own (P:=prog) (w.alloc (.cells d.toArray e)) s x t N base e i z size b I S L l D G C v n xs O q ⟨w.heap.size,0,none⟩ m c d T hl (zd2 w d e) h1 B f (by simp;omega) ?_;intro v' w' E y _;have H:Below base w (w.alloc (.cells d.toArray e)):=(Qj _ _).alloc p _;have F:=H.grown y (by simp;omega) (λk J=>(j.lt k J).1);refine h v' w' E F (λg A r=>(y.block g (by simp;omega) (λe=>r e.symm)).trans (Qr _ _ _ A)) ?_;have:=y.size;simp at this;omega
theorem zbz(j:o.guard=none)(s x:Operand)(z:o.op=.call {callee:=.builtin .append,args:=#[s,x],argTypes:=#[125,125]})
 (base:Nat) (v:Value) (l:List ByteArray) (C:a.eval s=v) (f:OwnS w base v l) (e:base<=w.heap.size)
 (q:List Value) (d:List ByteArray) (F:q=d.map Value.string) (m c:Nat) (E:a.eval x=.slice w.heap.size m c) (hl:d.length=m)
 (i:(l.length+m)*16<=140737488355328)
 (h:∀v' w',OwnS w' base v' (l++d)->Below base w w'->(∀g,g<w.heap.size->v.ownBlock≠some g->w'.heap[g]? = w.heap[g]?)->w.heap.size<w'.heap.size->wpList prog ops Q rest (a.put o.dst v') w'):
 wpList prog ops Q (o::rest) a (w.alloc (.cells q.toArray 9)):=by
 subst F;subst hl
 obtain⟨y,D,k,n,p⟩:=ZG zoz
 exact Xe j λ_ t=>zaV s x 125 z base 9 y (.string ByteArray.empty) 1 16 underlying125 D k n p rfl (by decide) v l.length (l.map Value.string) C f e (d.map Value.string) d.length c E (by simp)
  (λu A=>by obtain⟨b,_,rfl⟩:=QR.1 A;rfl) (by unfold maxLen;omega) (by omega) λv' w' h1 h2 B r=>t _ _ (h v' w' (by unfold OwnS;rw[Qa,Q2];exact h1) h2 B r)
end
def zdS(a:List (ByteArray × ByteArray)):List Value:=a.flatMap λf=>[.string f.1,.string f.2]
theorem zpF(a:List (ByteArray × ByteArray)):(zdS a).length=a.length*2:=by
 induction a with
 |nil=>rfl
 |cons f r ih=>simp only[zdS,QH,Qa,Qn,QS]at ih ⊢;omega
theorem zmu:∀(a:List (ByteArray × ByteArray)) (k:Nat) (h:k<a.length),(zdS a)[k*2]? = some (.string a[k].1)/\(zdS a)[k*2+1]? = some (.string a[k].2)
 | [],k,h=>absurd h (by simp)
 |f::r,0,h=>⟨rfl,rfl⟩
 |f::r,k+1,h=>by
  have ih:=zmu r k (by simpa using h);have e:zdS (f::r)=.string f.1::.string f.2::zdS r:=rfl;rw[e,show (k+1)*2=k*2+1+1 by omega];exact ih
theorem Sl.field{w:World}{B n:Nat}{A:Option Addr}{a:List (ByteArray × ByteArray)}(h:Sl w B 2 A n (zdS a)){k:Nat}(g:k<a.length):
 ∃b off,A=some ⟨b,off,none⟩/\b<B/\w.cell? ⟨b,off+k*2,none⟩=some (.string a[k].1)/\w.cell? ⟨b,off+k*2+1,none⟩=some (.string a[k].2):=by
 have hl:=zpF a;obtain⟨b,off,e,hb,f⟩:=h.src (by omega);obtain⟨h1,h2⟩:=zmu a k g;have d:=f (k*2) (by omega);have c:=f (k*2+1) (by omega);rw[Qd (by omega)]at h1 h2;refine⟨b,off,e,hb,by rw[d];exact h1,by rw[Zk,c];exact h2⟩
section
open Go.ChangeShapes Go.WideShapes Go.Deep
theorem za0{c:Type}(cells:c->List Value)(size:Nat)(b:∀a,(cells a).length=size):∀l:List c,(l.flatMap cells).length=l.length*size
 | []=>by simp
 |a::r=>by rw[QH,Qa,b,za0 cells size b r,Qn,Xq];omega
theorem zcw{d:Type}(cells:d->List Value)(size:Nat)(b:∀a,(cells a).length=size):∀(l:List d) (k j:Nat) (h:k<l.length),j<size->(l.flatMap cells)[k*size+j]? = (cells l[k])[j]?
 | [],k,j,h,_=>absurd h (by simp)
 |a::r,0,j,h,c=>by
  rw[QH,XP,Zh,Zj (by rw[b];exact c)];rfl
 |a::r,k+1,j,h,c=>by
  rw[QH,Q0 (by rw[b,Xq];omega),b,show (k+1)*size+j-size=k*size+j by rw[Xq];omega];exact zcw cells size b r k j (by simpa using h) c
section
variable {H:Type} {enc:TypeId × Value->H} {P:Program} {w:World} {base:Nat} {spare:Nat->Bool} {held:Bool}
theorem zd6{C:Type}{t e:TypeId}{G:Nat}{cs:List Value}{x:DataW H × List MemPlace}(size:Nat)(cells:C->List Value)(o:C->DataW H)(K:C->Prop)
 (ht:P.underlying t=some (.slice e)) (hC:P.cellsOf e=size) (g:∀a,(cells a).length=size)
 (S:∀n B y,DataW.trod enc P w base spare held n e B=some y->∃a:C,B=cells a/\y.1=o a/\K a)
 (h:DataW.trod enc P w base spare held G t cs=some x):
 ∃(A:Option Addr) (len c:Nat) (l:List C),cs=[.slice A len c]/\l.length=len/\len<=c/\c<=maxLen/\(∀a∈l,K a)/\Sl w w.heap.size size A len (l.flatMap cells)/\
  ((x.1=.nil/\l=[])\/∃sp,x.1=.slice (l.map o) sp):=by
 rcases open_slice ht h with ⟨h1,h2⟩|⟨a,len,cap,m,n,D,Pl,Y,hb,hl,hm,O,Z,hi⟩
 ·exact⟨none,0,0,[],h1,rfl,Qc _,Qm _,by simp,Sl.nil _ _ _ _,.inl ⟨by rw[h2],rfl⟩⟩
 ·have h5:len<=m:=by rw[O];split <;> omega
  have I:∀i,i<len->∃u:C,w.cells? base (a.add (i*size)) size=some (cells u)/\D i=o u/\K u:=λi h4=>by
   obtain⟨B,J,W⟩:=hi i (by omega);obtain⟨u,L,e2,e3⟩:=S _ _ _ W;rw[hC]at J;subst L;exact⟨u,J,e2,e3⟩
  have r:∀k,k<=len->∃l:List C,l.length=k/\(∀i (h:i<l.length),w.cells? base (a.add (i*size)) size=some (cells l[i])/\D i=o l[i]/\K l[i]):=by
   intro k
   induction k with
   |zero=>exact λ_=>⟨[],rfl,λi h=>absurd h (by simp)⟩
   |succ k ih=>
    intro Q;obtain⟨l,f,d⟩:=ih (by omega);obtain⟨u,q⟩:=I k (by omega);refine⟨l++[u],by rw[Qa,f];rfl,λi h=>?_⟩
    by_cases c:i<l.length
    ·rw[Zw c];exact d i c
    ·have U:i=k:=by rw[Qa,Qn,QS]at h;omega
     subst U;rw[ZO (by omega)]
     simpa[f]using q
  obtain⟨l,f,d⟩:=r len (Qc _);refine⟨some a,len,cap,l,Y,f,hl,hm,λx Z=>?_,?_,.inr ⟨(List.range (m-len)).map λj=>D (len+j),?_⟩⟩
  ·obtain⟨i,s,rfl⟩:=List.mem_iff_getElem.1 Z
   exact(d i s).2.2
  ·refine⟨by rw[za0 cells size g,f],λV=>?_⟩
   rw[za0 cells size g]at V;have N:0<l.length:=Nat.pos_of_mul_pos_right V;have z:0<size:=Nat.pos_of_mul_pos_left V;have h0:=(World.cells?_some (d 0 N).1).2.2 0 z
   have p:∃v,w.cell? a=some v:=by
    have T:(cells l[0])[0]? = some ((cells l[0])[0]'(by rw[g];exact z)):=Qd _;rw[T,XP]at h0;exact⟨_,by simpa[Addr.add]using h0⟩
   obtain⟨v,hv⟩:=p;have h3:=World.cell?_spot hv;obtain⟨b,off,spot⟩:=a;have:spot=none:=h3;subst this;refine⟨b,off,rfl,QQ w ⟨b,off,none⟩ hv,λj hj=>?_⟩;have X:j<l.length*size:=by rw[za0 cells size g]at hj;exact hj
   have L:j / size*size+j % size=j:=by rw[Nat.mul_comm];exact Nat.div_add_mod j size
   have Q:j / size<l.length:=Nat.div_lt_of_lt_mul (by rw[Nat.mul_comm];exact X);have F:j % size<size:=XJ _ z;have E:=zcw cells size g l (j / size) (j % size) Q F;rw[L]at E;have J:=(World.cells?_some (d _ Q).1).2.2 (j % size) F;rw[<-E,Qd hj,Go.WideShapes.add_plain,Go.WideShapes.add_plain,Zk,L]at J;exact J
  ·rw[Z]
   show DataW.slice _ _=DataW.slice _ _
   congr 1
   refine List.ext_getElem (by simp[f]) λi h1 h2=>?_
   have s:i<l.length:=by simpa using h2
   simp[(d i s).2.1]
end
def zoX{H:Type}(f:ByteArray × ByteArray):DataW H:=.agg [.lit (.string f.1.data.toList),.lit (.string f.2.data.toList)]
theorem zuM{c:Type}{l:List c}(h:l.length=2):∃a b,l=[a,b]:=by
 match l,h with
 | [a,b],_=>exact⟨a,b,rfl⟩
theorem zeL:prog.cellsOf 9=1:=by kernel_rfl
theorem zfH:prog.cellsOf 133=2:=by kernel_rfl
theorem zog{H:Type}{enc:TypeId × Value->H}{w:World}{base:Nat}{a:Nat->Bool}{d:Bool}{e:Nat}{cs:List Value}{x:DataW H × List MemPlace}
 (h:DataW.trod enc prog w base a d e 25 cs=some x):
 ∃(A:Option Addr) (c:Nat) (b:List (ByteArray × ByteArray)),cs=[.slice A b.length c]/\(∀f∈b,f.1.size<=maxLen/\f.2.size<=maxLen)/\Sl w w.heap.size 2 A b.length (zdS b)/\
  ((x.1=.nil/\b=[])\/∃sp,x.1=.slice (b.map zoX) sp):=by
 obtain⟨A,len,c,l,h1,h2,_,_,p,z,o⟩:=zd6 2 (λf:ByteArray × ByteArray=>[.string f.1,.string f.2]) zoX (λf=>f.1.size<=maxLen/\f.2.size<=maxLen) underlying25 zfH (λ_=>rfl)
  (λn r y s=>by
   obtain⟨E,D,C,u,hl,j,h1⟩:=trod_struct2 underlying133 s;rw[zfH]at hl;obtain⟨c0,c1,rfl⟩:=zuM hl;rw[zeL]at j h1;obtain⟨q,g,k,v⟩:=DataW.trod_string underlying9 j;obtain⟨t,i,B,m⟩:=DataW.trod_string underlying9 h1;injection g with g _
   injection i with i _
   subst g;subst i;subst k;subst B;subst u
   exact⟨(q,t),rfl,rfl,v,m⟩) h
 subst h2;exact⟨A,c,l,h1,p,z,o⟩
theorem zmJ:prog.cellsOf 27=3:=by kernel_rfl
end
section
open Go.ChangeShapes Go.WideShapes Go.Deep
def zan(k:Int)(s:Set4)(A:Option Addr)(n c:Nat):List Value:=[jA k,jB s.a,jB s.b,jB s.c,jB s.d,.slice A n c]
def zix(x:Int):Prop:=0<=x/\x<=18446744073709551615
def Set4.Wf(s:Set4):Prop:=zix s.a/\zix s.b/\zix s.c/\zix s.d
def CellsAt(w:World)(b off:Nat)(cs:List Value):Prop:=∀j (h:j<cs.length),w.cell? ⟨b,off+j,none⟩=some cs[j]
mutual
def LT(w:World)(B:Nat):Tree->List Value->Prop
 |.node k s a,cs=>∃A c,cs=zan k s A a.length c/\s.Wf/\LK w B a A
def LK(w:World)(B:Nat):List Tree->Option Addr->Prop
 | [],_=>True
 |t::a,A=>∃b off cs,A=some ⟨b,off,none⟩/\b<B/\cs.length=6/\CellsAt w b off cs/\LT w B t cs/\LK w B a (some ⟨b,off+6,none⟩)
end
mutual
theorem LT.keep{w w':World}{B a:Nat}(g:B<=a)(d:∀b o,b<B->w'.cell? ⟨b,o,none⟩=w.cell? ⟨b,o,none⟩):∀(t:Tree) (cs:List Value),LT w B t cs->LT w' a t cs
 |.node k s f,cs,h=>by
  rw[LT]at h ⊢;obtain⟨A,c,h1,h2,e⟩:=h;exact⟨A,c,h1,h2,LK.keep g d f A e⟩
theorem LK.keep{w w':World}{B d:Nat}(e:B<=d)(c:∀b o,b<B->w'.cell? ⟨b,o,none⟩=w.cell? ⟨b,o,none⟩):∀(a:List Tree) (A:Option Addr),LK w B a A->LK w' d a A
 | [],_,_=>by rw[LK];trivial
 |t::a,A,h=>by
  rw[LK]at h ⊢;obtain⟨b,off,cs,h1,h2,i,f,g,k⟩:=h;exact⟨b,off,cs,h1,by omega,i,λj l=>(c b _ h2).trans (f j l),LT.keep e c t cs g,LK.keep e c a _ k⟩
end
theorem LT.below{w w':World}{B:Nat}{t:Tree}{cs:List Value}(h:LT w B t cs)(hb:Below B w w'):LT w' B t cs:=LT.keep (Qc _) (λb o a=>hb.cell (p:=⟨b,o,none⟩) a) t cs h
theorem LK.below{w w':World}{B:Nat}{a:List Tree}{A:Option Addr}(h:LK w B a A)(hb:Below B w w'):LK w' B a A:=LK.keep (Qc _) (λb o c=>hb.cell (p:=⟨b,o,none⟩) c) a A h
theorem LT.more{w:World}{B a:Nat}{t:Tree}{cs:List Value}(h:LT w B t cs)(b:B<=a):LT w a t cs:=LT.keep b (λ_ _ _=>rfl) t cs h
def Tree.kind:Tree->Int
 |.node k _ _=>k
def Tree.set:Tree->Set4
 |.node _ s _=>s
def Tree.kids:Tree->List Tree
 |.node _ _ a=>a
theorem LT.parts{w:World}{B:Nat}{t:Tree}{cs:List Value}(h:LT w B t cs):∃A c,cs=zan t.kind t.set A t.kids.length c/\t.set.Wf/\LK w B t.kids A:=by
 cases t with
 |node k s a=>rw[LT]at h;exact h
theorem LK.at{w:World}{B:Nat}:∀{a:List Tree} {A:Option Addr},LK w B a A->∀i (h:i<a.length),∃b off cs,A=some ⟨b,off,none⟩/\b<B/\CellsAt w b (off+i*6) cs/\LT w B a[i] cs
 | [],_,_,i,h=>absurd h (by simp)
 |t::a,A,h,0,_=>by
  rw[LK]at h;obtain⟨b,off,cs,h1,h2,_,f,j,_⟩:=h;exact⟨b,off,cs,h1,h2,by simpa using f,j⟩
 |t::a,A,h,i+1,m=>by
  rw[LK]at h;obtain⟨b,off,cs,h1,h2,_,_,_,n⟩:=h;obtain⟨q,d,c,e,g,l,o⟩:=LK.at n i (by simpa using m);injection e with e
  injection e with p k
  subst p;subst k
  exact⟨b,off,c,h1,g,by rw[show off+(i+1)*6=off+6+i*6 by omega];exact l,o⟩
theorem LK.nil(w:World)(B:Nat)(A:Option Addr):LK w B [] A:=by rw[LK];trivial
theorem CellsAt.six{w:World}{b off:Nat}{c0 c1 c2 c3 c4 c5:Value}(h:CellsAt w b off [c0,c1,c2,c3,c4,c5]):
 w.cell? ⟨b,off,none⟩=some c0/\w.cell? ⟨b,off+1,none⟩=some c1/\w.cell? ⟨b,off+2,none⟩=some c2/\w.cell? ⟨b,off+3,none⟩=some c3/\w.cell? ⟨b,off+4,none⟩=some c4/\w.cell? ⟨b,off+5,none⟩=some c5:=
 ⟨h 0 (by simp),h 1 (by simp),h 2 (by simp),h 3 (by simp),h 4 (by simp),h 5 (by simp)⟩
theorem zm9:prog.cellsOf 180=1:=by kernel_rfl
theorem zvH{g:Type}{l:List g}(h:l.length=6):∃a b c d e f,l=[a,b,c,d,e,f]:=by
 match l,h with
 | [a,b,c,d,e,f],_=>exact⟨a,b,c,d,e,f,rfl⟩
end
def tt(l:List Bool)(j:Nat):Bool:=l.getD j false
theorem zbx{w:World}{base:Nat}{e t:TypeId}{size n g:Nat}{v:Value}{xs:List Value}{cs:Array Value}{j:Nat × Nat}(h:w.ownsRow base e size v n xs)(i:w.heap[g]? = some (.cells cs t j))(b:e≠t):v.ownBlock≠some g:=by
 intro k;obtain⟨c,f,a⟩:=Xx h g k;rw[i]at a;injection a with a
 injection a with _ d
 exact b d.symm
theorem zf9{a w:World}{row:Option Nat}(h:a.grownBy w row)(n:Nat):a.grownBy (w.drewN n) row:=⟨h.os,h.tape,h.output,h.size,h.block⟩
theorem zak{a w:World}{g:Nat}(h:a.grownBy w (some g))(j:Nat)(u:Value):a.grownBy (w.setCell ⟨g,j,none⟩ u) (some g):=
 ⟨h.os,h.tape,h.output,by simpa[World.setCell]using h.size,λi c b=>(Qk w ⟨g,j,none⟩ u i (λe=>b (by rw[e]))).trans (h.block i c b)⟩
theorem zjq{a w w':World}{row:Option Nat}(h:a.grownBy w row)(hb:w w'):a.grownBy w' row:=
 ⟨hb.os.trans h.os,hb.tape.trans h.tape,hb.output.trans h.output,Ql h.size hb.size,λi c b=>(hb.block i (Qv c h.size)).trans (h.block i c b)⟩
theorem zax{a b c:World}{row:Option Nat}(h:a.grownBy b row)(k:b.grownBy c row):a.grownBy c row:=
 ⟨k.os.trans h.os,k.tape.trans h.tape,k.output.trans h.output,Ql h.size k.size,λi e d=>(k.block i (Qv e h.size) d).trans (h.block i e d)⟩
structure BL(w:World)(base g cap n:Nat)(l:List Bool):Prop where
 len:l.length=n
 own:w.ownsRow base 4 1 (.slice g n cap) n (l.map Value.bool)
theorem zqf{w w':World}(h:w.grownBy w' none):w w':=⟨h.os,h.tape,h.output,h.size,λi a=>h.block i a (λe=>by cases e)⟩
theorem zkJ(k:Int)(w:World):Calls prog 219 #[jA k] w λe w'=>e=jC (jA (zhM k))/\w'=w:=by
 by_cases b:k=4
 ·subst b;go_in
  go_wp2;go_ret;exact⟨rfl,rfl⟩
 by_cases d:k=5
 ·subst d;go_in
  go_wp2;go_ret;exact⟨rfl,rfl⟩
 by_cases a:k=6
 ·subst a;go_in
  go_wp2;go_ret;exact⟨rfl,rfl⟩
 by_cases h1:k=1
 ·subst h1;go_in
  go_wp2;go_ret;exact⟨rfl,rfl⟩
 by_cases h2:k=2
 ·subst h2;go_in
  go_wp2;go_ret;exact⟨rfl,rfl⟩
 by_cases g:k=3
 ·subst g;go_in
  go_wp2;go_ret;exact⟨rfl,rfl⟩
 by_cases c:k=7
 ·subst c;go_in
  go_wp2;go_ret;exact⟨rfl,rfl⟩
 by_cases f:k=8
 ·subst f;go_in
  go_wp2;go_ret;exact⟨rfl,rfl⟩
 have h:Hid (zhM k=-1):=by unfold Hid zhM;rw[Qe (by omega),Qe a,Qe (by omega)]
 have l:(k==1)=false:=Qb.2 h1;have q:(k==2)=false:=Qb.2 h2;have m:(k==3)=false:=Qb.2 g;have o:(k==4)=false:=Qb.2 b;have n:(k==5)=false:=Qb.2 d;have j:(k==6)=false:=Qb.2 a;have i:(k==7)=false:=Qb.2 c;have p:(k==8)=false:=Qb.2 f;clear h1 h2 g b d a c f
 go_in
 go_wp2
 go_ret;exact⟨by rw[h.out];rfl,rfl⟩
def setV(s:Set4):Value:=.agg #[jB s.a,jB s.b,jB s.c,jB s.d]
theorem zyx(s:Set4)(k:Nat)(e:k<4):([jB s.a,jB s.b,jB s.c,jB s.d]:List Value)[k]? = some (jB (s.word k)):=by
 match k,e with
 |0,_=>rfl
 |1,_=>rfl
 |2,_=>rfl
 |3,_=>rfl
theorem zx0{s:Set4}(h:s.Wf)(k:Nat):0<=s.word k/\s.word k<=18446744073709551615:=by
 obtain⟨h1,h2,b,a⟩:=h;unfold zix at h1 h2 b a;unfold Set4.word
 split
 ·exact h1
 ·split
  ·exact h2
  ·split
   ·exact b
   ·exact a
theorem zrH(s:Set4)(x:UInt8)(w:World)(h:s.Wf):Calls prog 255 #[setV s,.int .u8 x.toNat] w λe w'=>e=jC (.bool (hasB s x))/\w w':=by
 have k:=x.toNat_lt;have g:=zyx s (x.toNat / 64) (by omega);have f:=zx0 h (x.toNat / 64);have i:Hid (hasB s x=(s.word (x.toNat / 64) / 2 ^ (x.toNat % 64) % 2==1)):=rfl;generalize s.word (x.toNat / 64)=W at *;obtain⟨a,b,c,d⟩:=s;unfold setV;dsimp only at g ⊢;clear h
 go_in
 go_wp2_with fail
 have j:0<=W / 2 ^ (x.toNat % 64)/\W / 2 ^ (x.toNat % 64)<18446744073709551616:=by
  refine⟨Int.ediv_nonneg f.1 (Int.le_of_lt (Int.pow_pos (by decide))),?_⟩;have:=Int.ediv_le_self (2 ^ (x.toNat % 64)) f.1;omega
 rw[and_one_u64 _ j.1 (by omega)];go_ret;exact⟨by rw[i.out];rfl,WaL⟩
theorem zvb:∃i,prog.info? 180=some i:=by
 cases h:prog.info? 180 with
 |some i=>exact⟨i,rfl⟩
 |none=>exact absurd (show (prog.info? 180).isSome=true by kernel_rfl) (by rw[h];decide)
theorem zvN(d:Nat)(x y:Int)(w:World):(Op.equalIn (d+1) 180 (jB x) (jB y)).run prog w=.ok (x==y) w:=by
 simp[Op.equalIn,ZV underlying180]
theorem zmV:prog.plainKey 180=true:=by kernel_rfl
theorem ze5(d i:Nat)(b:List Nat)(xs a:Array Value)(x y:Int)(e:xs[i]? = some (jB x))(c:a[i]? = some (jB y))(w:World):
 (Op.eqItems (d+1) 180 1 xs a (i::b)).run prog w=if x=y then (Op.eqItems (d+1) 180 1 xs a b).run prog w else .ok false w:=by
 simp only[Op.eqItems,Xf,Nat.mul_one,run_part_plain w zmV e,run_part_plain w zmV c,Zx,zvN]
 by_cases h:x=y
 ·subst h;simp
 ·have:(x==y)=false:=Qb.2 h
  simp[h]
theorem zlj(x y:Set4)(w:World):(Op.equal 182 (setV x) (setV y)).run prog w=.ok (decide (x=y)) w:=by
 obtain⟨i,k⟩:=zvb;obtain⟨a,b,c,d⟩:=x;obtain⟨e,g,f,d'⟩:=y;have h:=run_equalIn_array (P:=prog) (w:=w) 9999 #[jB a,jB b,jB c,jB d] #[jB e,jB g,jB f,jB d'] underlying182 k;rw[zm9]at h;unfold Op.equal setV;refine h.trans ?_;rw[show List.range 4=[0,1,2,3]from rfl,ze5 9998 0 _ _ _ a e rfl rfl,ze5 9998 1 _ _ _ b g rfl rfl,ze5 9998 2 _ _ _ c f rfl rfl,ze5 9998 3 _ _ _ d d' rfl rfl]
 by_cases h1:a=e <;> by_cases h2:b=g <;> by_cases l:c=f <;> by_cases j:d=d' <;> simp[h1,h2,l,j,Op.eqItems]
def zxv(x y:Set4):Bool:=decide (x=y)
theorem zio(x y:Set4)(w:World):(binOp .eql 182 (setV x) (setV y)).run prog w=.ok (.bool (zxv x y)) w:=by
 have h:=zlj x y w;unfold setV at h ⊢;simp only[binOp,Xf];rw[h]
 rfl
theorem zxZ{W w':World}{c0 c1 c2 c3 c4 c5:Value}{t:TypeId}(hb:Below (W.alloc (.cells #[c0,c1,c2,c3,c4,c5] t)).heap.size (W.alloc (.cells #[c0,c1,c2,c3,c4,c5] t)) w'):
 (w'.cell? W.heap.size=some c0/\w'.cell? ⟨W.heap.size,1,none⟩=some c1/\w'.cell? ⟨W.heap.size,2,none⟩=some c2/\w'.cell? ⟨W.heap.size,3,none⟩=some c3/\w'.cell? ⟨W.heap.size,4,none⟩=some c4/\w'.cell? ⟨W.heap.size,5,none⟩=some c5)/\W w':=
 ⟨⟨zao hb 0,zao hb 1,zao hb 2,zao hb 3,zao hb 4,zao hb 5⟩,zaI hb (Qc _)⟩
def argX(t:Tree)(A:Option Addr)(c:Nat):Value:=.agg #[jA t.kind,jB t.set.a,jB t.set.b,jB t.set.c,jB t.set.d,.slice A t.kids.length c]
theorem LK.two{w:World}{B:Nat}{a b:Tree}{A:Option Addr}(h:LK w B [a,b] A):∃c off d e,A=some ⟨c,off,none⟩/\c<B/\CellsAt w c off d/\LT w B a d/\CellsAt w c (off+6) e/\LT w B b e:=by
 rw[LK]at h;obtain⟨c,off,d,h1,h2,s,j,k,i⟩:=h;rw[LK]at i;obtain⟨r,g,e,f,q,t,m,n,p⟩:=i;injection f with f
 injection f with o l
 subst o;subst l
 exact⟨c,off,d,e,h1,h2,j,k,m,n⟩
theorem LK.one{w:World}{B:Nat}{a:Tree}{A:Option Addr}(h:LK w B [a] A):∃b off c,A=some ⟨b,off,none⟩/\b<B/\CellsAt w b off c/\LT w B a c:=by
 rw[LK]at h;obtain⟨b,off,c,h1,h2,g,d,e,f⟩:=h;exact⟨b,off,c,h1,h2,d,e⟩
def zbi(x:Ins):List Value:=[jA x.kind,jA x.a,jA x.b,jB x.set.a,jB x.set.b,jB x.set.c,jB x.set.d]
theorem zcJ(x:Ins):(zbi x).length=7:=rfl
def OwnP(w:World)(base:Nat)(v:Value)(l:List Ins):Prop:=w.ownsRow base 235 7 v l.length (l.flatMap zbi)
theorem OwnP.nil(w:World)(base:Nat):OwnP w base (jD 0 0) []:=ZU w base 235 7
theorem OwnP.form{w:World}{base:Nat}{v:Value}{l:List Ins}(h:OwnP w base v l):∃A c,v=.slice A l.length c/\Sl w w.heap.size 7 A l.length (l.flatMap zbi):=by
 rcases h.2 with ⟨h1,h2⟩|⟨g,cap,a,h1,hb,e,_⟩
 ·have:l=[]:=QA h2
  subst this;exact⟨none,0,h1,Sl.nil _ _ _ _⟩
 ·refine⟨_,_,h1,za0 zbi 7 zcJ l,λd=>⟨g,0,rfl,?_,λj b=>?_⟩⟩
  ·exact((h.lt g (by rw[h1];simp[Value.ownBlock])).2)
  ·have:=Zq (g:=g) h (by rw[h1];simp[Value.ownBlock]) j _ (Qd b)
   rw[zba]at this;rw[Zh];exact this
theorem OwnP.below{w w':World}{base:Nat}{v:Value}{l:List Ins}(h:OwnP w base v l)(hb:w w'):OwnP w' base v l:=zaU h hb
theorem OwnP.head{w:World}{base:Nat}{v:Value}{l:List Ins}(h:OwnP w base v l)(hl:0<l.length):∃g c,v=.slice (some ⟨g,0,none⟩) l.length c/\base<=g/\g<w.heap.size:=by
 rcases h.2 with ⟨h1,h2⟩|⟨g,cap,a,h1,hb,b,_⟩
 ·omega
 ·exact⟨g,cap,h1,hb,(h.lt g (by rw[h1];simp[Value.ownBlock])).2⟩
theorem zv1:(prog.info? 235).map (λi=>(i.zero,i.size,i.bytes))=some (some (.agg #[jA 0,jA 0,jA 0,jB 0,jB 0,jB 0,jB 0]),7,56):=by kernel_rfl
section
variable {ops:Array Oper} {rest:List Oper} {o:Oper} {a:Act} {Q:Exit->Act->World->Prop} {w:World}
theorem zhl{K:Act->World->Prop}(s x:Operand)(t:o.op=.call {callee:=.builtin .append,args:=#[s,x],argTypes:=#[188,188]})
 (base:Nat) (v:Value) (l:List Ins) (z:a.eval s=v) (d:OwnP w base v l) (b:base<=w.heap.size)
 (m:List Value) (new:Ins) (C:m=zbi new) (n:Nat) (k:w.heap.size=n) (c:Nat) (B:a.eval x=.slice n 1 c)
 (e:l.length<=1048576)
 (h:∀v' w',OwnP w' base v' (l++[new])->Below base w w'->(∀g,g<w.heap.size->v.ownBlock≠some g->w'.heap[g]? = w.heap[g]?)->w.heap.size<w'.heap.size->K (a.put o.dst v') w'):
 o.wp prog a (w.alloc (.cells m.toArray 235)) K Q:=by
 subst C;subst k
 obtain⟨r,A,f,i,j⟩:=ZG zv1
 exact zaV s x 188 t base 235 r _ 7 56 underlying188 A f i j rfl (by decide) v l.length (l.flatMap zbi) z d b (zbi new) 1 c B rfl
  (λu p=>by simp only[zbi,QI,ZY,or_false]at p;rcases p with rfl|rfl|rfl|rfl|rfl|rfl|rfl <;> rfl) (by unfold maxLen;omega) (by omega) λv' w' h1 h2 y q=>h v' w' (by unfold OwnP;rw[Qa,Q6];simpa using h1) h2 y q
theorem zb2(f:o.guard=none)(s x:Operand)(p:o.op=.call {callee:=.builtin .append,args:=#[s,x],argTypes:=#[188,188]})
 (base:Nat) (v:Value) (l:List Ins) (r:a.eval s=v) (e:OwnP w base v l) (d:base<=w.heap.size)
 (i:List Value) (new:Ins) (u:i=zbi new) (j:Nat) (k:w.heap.size=j) (c:Nat) (t:a.eval x=.slice j 1 c)
 (b:l.length<=1048576)
 (h:∀v' w',OwnP w' base v' (l++[new])->Below base w w'->(∀g,g<w.heap.size->v.ownBlock≠some g->w'.heap[g]? = w.heap[g]?)->w.heap.size<w'.heap.size->wpList prog ops Q rest (a.put o.dst v') w'):
 wpList prog ops Q (o::rest) a (w.alloc (.cells i.toArray 235)):=
 Xe f λ_ n=>zhl s x p base v l r e d i new u j k c t b λv' w' h1 h2 q m=>n _ _ (h v' w' h1 h2 q m)
theorem zfa{K:Act->World->Prop}{E:Prop}(f:o.guard=none)(s x:Operand)(n:o.op=.call {callee:=.builtin .append,args:=#[s,x],argTypes:=#[188,188]})
 (base:Nat) (v:Value) (l:List Ins) (p:a.eval s=v) (e:OwnP w base v l) (d:base<=w.heap.size)
 (i:List Value) (new:Ins) (r:i=zbi new) (j:Nat) (k:w.heap.size=j) (c:Nat) (q:a.eval x=.slice j 1 c)
 (b:l.length<=1048576)
 (h:∀v' w',OwnP w' base v' (l++[new])->Below base w w'->(∀g,g<w.heap.size->v.ownBlock≠some g->w'.heap[g]? = w.heap[g]?)->w.heap.size<w'.heap.size->K (a.put o.dst v') w'):
 if Region.wanted o (yielded ops a.tmps)=true then Oper.wp prog o a (w.alloc (.cells i.toArray 235)) K Q else E:=by
 have m:Region.wanted o (yielded ops a.tmps)=true:=by simp[Region.wanted,f]
 rw[Qg m];exact zhl s x n base v l p e d i new r j k c q b h
end
theorem zy7{w:World}{B n:Nat}{A:Option Addr}{l:List Ins}(h:Sl w B 7 A n (l.flatMap zbi))(k:Nat)(g:k<l.length):
 ∃b off,A=some ⟨b,off,none⟩/\b<B/\w.cell? ⟨b,off+k*7,none⟩=some (jA l[k].kind)/\w.cell? ⟨b,off+k*7+1,none⟩=some (jA l[k].a)/\w.cell? ⟨b,off+k*7+2,none⟩=some (jA l[k].b)/\
  w.cell? ⟨b,off+k*7+3,none⟩=some (jB l[k].set.a)/\w.cell? ⟨b,off+k*7+4,none⟩=some (jB l[k].set.b)/\w.cell? ⟨b,off+k*7+5,none⟩=some (jB l[k].set.c)/\w.cell? ⟨b,off+k*7+6,none⟩=some (jB l[k].set.d):=by
 have hl:=za0 zbi 7 zcJ l;obtain⟨b,off,e,hb,o⟩:=h.src (by omega)
 have f:∀j,j<7->∀v,(zbi l[k])[j]? = some v->w.cell? ⟨b,off+k*7+j,none⟩=some v:=λj i v m=>by
  have h1:=zcw zbi 7 zcJ l k j g i;have h2:k*7+j<(l.flatMap zbi).length:=by omega
  rw[Zk,o (k*7+j) h2];rw[Qd h2]at h1;rw[h1,m]
 exact⟨b,off,e,hb,f 0 (by decide) _ rfl,f 1 (by decide) _ rfl,f 2 (by decide) _ rfl,f 3 (by decide) _ rfl,f 4 (by decide) _ rfl,f 5 (by decide) _ rfl,f 6 (by decide) _ rfl⟩
theorem zoo{d:Type}(cells:d->List Value)(size:Nat)(b:∀a,(cells a).length=size)(j:Nat)(f:j<size)(v:Value)(y:d):∀(l:List d) (k:Nat) (h:k<l.length),cells y=(cells l[k]).set j v->
 (l.flatMap cells).set (k*size+j) v=(l.set k y).flatMap cells
 | [],k,h,_=>absurd h (by simp)
 |a::r,0,_,c=>by
  have e:cells y=(cells a).set j v:=c;simp only[QH,Za,XP,Zh];rw[List.set_append_left _ _ (by rw[b];exact f),e]
 |a::r,k+1,h,c=>by
  simp only[QH,Zf];rw[ZH _ _ (by rw[b,Xq];omega),b,show (k+1)*size+j-size=k*size+j by rw[Xq];omega];rw[zoo cells size b j f v y r k (by simpa using h) c]
theorem OwnP.setAB{w:World}{base g c:Nat}{l:List Ins}(h:OwnP w base (.slice g l.length c) l)(k:Nat)(b:k<l.length)(j:Nat)(d:j<7)(u:Value)(y:Ins)(e:zbi y=(zbi l[k]).set j u):
 OwnP (w.setCell ⟨g,k*7+j,none⟩ u) base (.slice g l.length c) (l.set k y)/\w.grownBy (w.setCell ⟨g,k*7+j,none⟩ u) (some g):=by
 have a:=World.ownsRow.stored h (k*7+j) u;refine⟨?_,a.2⟩;unfold OwnP;rw[Xm,<-zoo zbi 7 zcJ j d u y l k b e];exact a.1
def hitI(p:Nat->Bool)(n:Nat):Int:=match (List.range n).find? p with
 |some i=>(i:Int)
 |none=>-1
def anyN(p:Nat->Bool)(n:Nat):Bool:=(List.range n).any p
theorem zew(p:Nat->Bool)(n:Nat)(h:∀i,i<n->p i=false):hitI p n=-1:=by
 unfold hitI;rw[List.find?_eq_none.2 (λx a=>by rw[h x (ZP.1 a)];decide)]
theorem zme(p:Nat->Bool)(n j:Nat)(a:j<n)(h1:p j=true)(h:∀i,i<j->p i=false):hitI p n=j:=by
 unfold hitI
 have:(List.range n).find? p=some j:=by
  rw[List.find?_eq_some_iff_getElem];refine⟨h1,j,by simpa using a,by simp,λi b=>by simpa using h i b⟩
 rw[this]
theorem zek(p:Nat->Bool)(n:Nat):anyN p n=false↔∀i,i<n->p i=false:=by
 unfold anyN;simp
theorem zkS(p:Nat->Bool)(n:Nat):anyN p n=true↔∃i,i<n/\p i=true:=by
 unfold anyN;simp
theorem zhK(p:Nat->Bool)(n:Nat):decide (0<=hitI p n)=anyN p n:=by
 cases h:anyN p n with
 |false=>rw[zew p n ((zek p n).1 h)];rfl
 |true=>
  obtain⟨i,c,a⟩:=(zkS p n).1 h;unfold hitI;cases b:(List.range n).find? p with
  |some j=>simp
  |none=>exact absurd a (by have:=List.find?_eq_none.1 b i (by simpa using c);simpa using this)
theorem zdY{b:Type}(f:b->Bool)(l:List b)(d:b):anyN (λj=>f (l.getD j d)) l.length=l.any f:=by
 rw[Bool.eq_iff_iff,zkS,Xy]
 constructor
 ·rintro⟨i,a,h⟩
  rw[Qo,Qd a]at h;exact⟨l[i],Qz a,h⟩
 ·rintro⟨x,c,h⟩
  obtain⟨i,a,rfl⟩:=List.mem_iff_getElem.1 c;exact⟨i,a,by rw[Qo,Qd a];exact h⟩
def zav(b:Bool)(w:World)(e:Ending)(w':World):Prop:=e=jC (.bool b)/\w w'
def Tgt(x:Ins)(c d:Int):Prop:=(x.kind=2/\c<=x.a/\x.a<=d/\c<=x.b/\x.b<=d)\/(x.kind=3/\c<=x.a/\x.a<=d)\/x.kind=1\/x.kind=4\/x.kind=5
theorem Tgt.mono{x:Ins}{c d a b:Int}(h:Tgt x c d)(h1:a<=c)(h2:d<=b):Tgt x a b:=by
 unfold Tgt at h ⊢;omega
theorem zph{t:Tree}{at_:Nat}{l:List Ins}(h:Code t at_ l):∀x∈l,Tgt x at_ (at_+l.length):=by
 induction h with
 |none|byte|begin|finish=>intro x c;simp only[Qy]at c;subst c;simp[Tgt]
 |empty=>intro x c;simp at c
 |cat S a b at_ d e _ _ h1 h2=>
  intro x c;rw[Qa]
  rcases QO.1 c with h|h
  ·exact(h1 x h).mono (ZD _) (by omega)
  ·exact(h2 x h).mono (by omega) (by omega)
 |alt S a b at_ d e _ _ h1 h2=>
  intro x c;simp only[Qa,Qn]
  rcases QI.1 c with h|c
  ·subst h;left;dsimp only;omega
  ·rcases QO.1 c with h|c
   ·exact(h1 x h).mono (by omega) (by omega)
   ·rcases QI.1 c with h|h
    ·subst h;right;left;dsimp only;omega
    ·exact(h2 x h).mono (by omega) (by omega)
 |star S a at_ d _ h1=>
  intro x c;simp only[Qa,Qn,QS]
  rcases QI.1 c with h|c
  ·subst h;left;dsimp only;omega
  ·rcases QO.1 c with h|c
   ·exact(h1 x h).mono (by omega) (by omega)
   ·rw[Qy]at c
    subst c;right;left;dsimp only;omega
def OkP(P:List Ins):Prop:=∀i (h:i<P.length),(P[i].kind=2/\(0<=P[i].a/\P[i].a<P.length)/\0<=P[i].b/\P[i].b<P.length)\/(P[i].kind=3/\0<=P[i].a/\P[i].a<P.length)\/((P[i].kind=1\/P[i].kind=4\/P[i].kind=5)/\i+1<P.length)\/P[i].kind=6
theorem znl{t:Tree}{l:List Ins}(h:Code t 0 l):OkP (l++[⟨6,0,0,.zero⟩]):=by
 intro i a;rw[Qa,QC]at a ⊢
 by_cases c:i<l.length
 ·rw[Zw c]
  have:=zph h l[i] (Qz c);unfold Tgt at this;omega
 ·obtain rfl:i=l.length:=by omega
  right;right;right
  simp
def Ins7(w:World)(b o:Nat)(x:Ins):Prop:=w.cell? ⟨b,o,none⟩=some (jA x.kind)/\w.cell? ⟨b,o+1,none⟩=some (jA x.a)/\w.cell? ⟨b,o+2,none⟩=some (jA x.b)/\
 w.cell? ⟨b,o+3,none⟩=some (jB x.set.a)/\w.cell? ⟨b,o+4,none⟩=some (jB x.set.b)/\w.cell? ⟨b,o+5,none⟩=some (jB x.set.c)/\w.cell? ⟨b,o+6,none⟩=some (jB x.set.d)
theorem zwq{w:World}{B n b off:Nat}{l:List Ins}(h:Sl w B 7 (some ⟨b,off,none⟩) n (l.flatMap zbi))(k:Nat)(c:k<l.length):Ins7 w b (off+k*7) l[k]:=by
 obtain⟨g,a,e,_,r⟩:=zy7 h k c;injection e with e
 injection e with d f
 subst d;subst f
 exact r
theorem zhZ(k:Int)(g:Nat)(n:Nat)(w:World)(a:0<=k)(h1:k<n)(b:w.cell? g=some (jA (n:Int))):
 Calls prog 141 #[jA k,.pointer g] w λe w'=>e=jC (.bool true)/\w'=w:=by
 go_in
 go_wp2;go_ret;exact⟨rfl,rfl⟩
def zyI(n:Nat)(w:World)(i:Value)(wr:World):Prop:=∃k:Nat,k<=n/\i=jA k/\w wr/\wr.cell? w.heap.size=some (jA (n:Int))/\w.heap.size<wr.heap.size
theorem zgw(P:List Ins)(A:Option Addr)(c:Nat)(w:World)(h:Sl w w.heap.size 7 A P.length (P.flatMap zbi))(j:OkP P)(S:0<P.length)(U:P.length<=400):
 Calls prog 105 #[.slice A P.length c] w λe w'=>e=jC (jA 0)/\w w':=by
 have m:=hIx j;obtain⟨b,off,rfl,J,d⟩:=h.src (by rw[h.len];omega);have n:Hid (∀k (r:k<P.length) W,w W->Ins7 W b (off+k*7) P[k]):=λk r W hb=>zwq (h.below hb) k r
 have V:decide (400<(P.length:Int))=false:=by simp;omega
 have Y:((P.length:Int)==0)=false:=Qb.2 (by omega);clear j d
 go_in
 go_wp2
 go_loopw [17] (λi wr=>zyI P.length w i wr) (λi _=>P.length-(intOf i).toNat)
 case atStart=>exact⟨0,Qm _,rfl,WaL,zao (Qj _ _) 0,by simp⟩
 case round=>
  obtain⟨k,r,rfl,a,q,s⟩:=hrel
  by_cases f:k<P.length
  ·obtain⟨y,H,E,C,B,F,G⟩:=n.out k f wr a
   have t:=m.out k f;generalize P[k]=x at y H E C B F G t;obtain⟨T,z,N,⟨Z,sb,sc,O⟩⟩:=x;dsimp only at y H E C B F G t;have Q:(k:Int)<(P.length:Int):=by omega
   have l:=hIx λo=>(((Qj wr.heap.size wr).alloc (Qc _) o).cell (p:=⟨w.heap.size,0,none⟩) s).trans q
   have I:∀o,zyI P.length w (jA ((k+1:Nat):Int)) (wr.alloc o):=λo=>⟨k+1,f,rfl,a.alloc a.size o,l.out o,by simp;omega⟩
   have g:=hIx I;clear I
   rcases t with ⟨rfl,⟨u,v⟩,L,K⟩|⟨rfl,u,v⟩|⟨rfl|rfl|rfl,X⟩|rfl
   ·go_wp2_with fail
    refine(zhZ z _ P.length _ u v (l.out _)).mono ?_;rintro e w' ⟨rfl,rfl⟩;go_wp2_with fail;refine(zhZ N _ P.length _ L K (l.out _)).mono ?_;rintro e w' ⟨rfl,rfl⟩;go_wp2_with fail
    go_roundw
    case rel=>exact g.out _
    case measure=>simp[intOf] <;> omega
   ·go_wp2_with fail
    refine(zhZ z _ P.length _ u v (l.out _)).mono ?_;rintro e w' ⟨rfl,rfl⟩;go_wp2_with fail
    go_roundw
    case rel=>exact g.out _
    case measure=>simp[intOf] <;> omega
   have D:(k:Int)+1<(P.length:Int):=by omega
   rotate_left
   have D:(k:Int)+1<(P.length:Int):=by omega
   rotate_left
   have D:(k:Int)+1<(P.length:Int):=by omega
   all_goals
    go_wp2_with fail
    go_roundw
    case rel=>exact g.out _
    case measure=>simp[intOf] <;> omega
  ·obtain rfl:k=P.length:=by omega
   go_wp2;go_ret;exact⟨rfl,a⟩
