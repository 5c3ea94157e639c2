/- Lemmas for the last texts. -/
import Derived.Test.YtnnokglddolglaaGreatDoorM02
import Derived.Deep.Slices
import Derived.Deep.Fields
import Derived.ChangeSame
import Derived.Lib.SmallJoins
import Derived.Lib.OwnKind
import Derived.OwnWalk
import Derived.ChangeKeysEq
import Derived.Deep.QuietTactic
import Derived.BigQuiet
import Derived.Deep.RegionHeld3
import Derived.Laws.CopyOwn
import Derived.BigRegion
import Derived.IntWalk
import Derived.Deep.AppendLies
import Derived.Shelf.GgClosure.Gives
set_option maxHeartbeats 1600000
set_option maxRecDepth 100000
namespace Go.Proofs.YtnnokglddolglaaGreatDoor
open Go.RowKit Go.Proofs.Tryz
section
open Go.ChangeShapes Go.WideShapes Go.Deep
theorem zaS{c:Type}(cells:c->List Value)(size:Nat)(b:∀a,(cells a).length=size):∀l:List c,(l.flatMap cells).length=l.length*size
 | []=>by simp
 |a::r=>by rw[QM,Qa,b,zaS cells size b r,Qo,Xt];omega
theorem zbM{d:Type}(cells:d->List Value)(size:Nat)(b:∀a,(cells a).length=size):∀(l:List d) (k j:Nat) (h:k<l.length),j<size->(l.flatMap cells)[k*size+j]? = (cells l[k])[j]?
 | [],k,j,h,_=>absurd h (by simp)
 |a::r,0,j,h,c=>by
  rw[QM,XZ,Zc,Zo (by rw[b];exact c)];rfl
 |a::r,k+1,j,h,c=>by
  rw[QM,QZ (by rw[b,Xt];omega),b,show (k+1)*size+j-size=k*size+j by rw[Xt];omega];exact zbM cells size b r k j (by simpa using h) c
section
variable {H:Type} {enc:TypeId × Value->H} {P:Program} {w:World} {base:Nat} {spare:Nat->Bool} {held:Bool}
theorem zej{C:Type}{t e:TypeId}{I:Nat}{cs:List Value}{x:DataW H × List MemPlace}(size:Nat)(cells:C->List Value)(o:C->DataW H)(L:C->Prop)
 (ht:P.underlying t=some (.slice e)) (hC:P.cellsOf e=size) (g:∀a,(cells a).length=size)
 (T:∀n B y,DataW.trod enc P w base spare held n e B=some y->∃a:C,B=cells a/\y.1=o a/\L a)
 (h:DataW.trod enc P w base spare held I t cs=some x):
 ∃(A:Option Addr) (len c:Nat) (l:List C),cs=[.slice A len c]/\l.length=len/\len<=c/\c<=maxLen/\(∀a∈l,L a)/\Sl w w.heap.size size A len (l.flatMap cells)/\
  ((x.1=.nil/\l=[])\/∃sp,x.1=.slice (l.map o) sp):=by
 rcases open_slice ht h with ⟨h1,h2⟩|⟨a,len,cap,m,n,D,Pl,Z,hb,hl,hm,Q,hx,hi⟩
 ·exact⟨none,0,0,[],h1,rfl,Qd _,Qm _,by simp,Sl.nil _ _ _ _,.inl ⟨by rw[h2],rfl⟩⟩
 ·have h5:len<=m:=by rw[Q];split <;> omega
  have J:∀i,i<len->∃u:C,w.cells? base (a.add (i*size)) size=some (cells u)/\D i=o u/\L u:=λi h4=>by
   obtain⟨B,K,X⟩:=hi i (by omega);obtain⟨u,N,e2,e3⟩:=T _ _ _ X;rw[hC]at K;subst N;exact⟨u,K,e2,e3⟩
  have r:∀k,k<=len->∃l:List C,l.length=k/\(∀i (h:i<l.length),w.cells? base (a.add (i*size)) size=some (cells l[i])/\D i=o l[i]/\L l[i]):=by
   intro k
   induction k with
   |zero=>exact λ_=>⟨[],rfl,λi h=>absurd h (by simp)⟩
   |succ k ih=>
    intro S;obtain⟨l,f,d⟩:=ih (by omega);obtain⟨u,q⟩:=J k (by omega);refine⟨l++[u],by rw[Qa,f];rfl,λi h=>?_⟩
    by_cases c:i<l.length
    ·rw[ZA c];exact d i c
    ·have V:i=k:=by rw[Qa,Qo,QR]at h;omega
     subst V;rw[Z3 (by omega)]
     simpa[f]using q
  obtain⟨l,f,d⟩:=r len (Qd _);refine⟨some a,len,cap,l,Z,f,hl,hm,λx hx=>?_,?_,.inr ⟨(List.range (m-len)).map λj=>D (len+j),?_⟩⟩
  ·obtain⟨i,s,rfl⟩:=List.mem_iff_getElem.1 hx
   exact(d i s).2.2
  ·refine⟨by rw[zaS cells size g,f],λW=>?_⟩
   rw[zaS cells size g]at W;have O:0<l.length:=Nat.pos_of_mul_pos_right W;have z:0<size:=Nat.pos_of_mul_pos_left W;have h0:=(World.cells?_some (d 0 O).1).2.2 0 z
   have p:∃v,w.cell? a=some v:=by
    have U:(cells l[0])[0]? = some ((cells l[0])[0]'(by rw[g];exact z)):=Qc _;rw[U,XZ]at h0;exact⟨_,by simpa[Addr.add]using h0⟩
   obtain⟨v,hv⟩:=p;have h3:=World.cell?_spot hv;obtain⟨b,G,spot⟩:=a;have:spot=none:=h3;subst this;refine⟨b,G,rfl,QT w ⟨b,G,none⟩ hv,λj hj=>?_⟩;have Y:j<l.length*size:=by rw[zaS cells size g]at hj;exact hj
   have N:j / size*size+j % size=j:=by rw[Nat.mul_comm];exact Nat.div_add_mod j size
   have S:j / size<l.length:=Nat.div_lt_of_lt_mul (by rw[Nat.mul_comm];exact Y);have F:j % size<size:=XT _ z;have E:=zbM cells size g l (j / size) (j % size) S F;rw[N]at E;have K:=(World.cells?_some (d _ S).1).2.2 (j % size) F;rw[<-E,Qc hj,XP,XP,Zh,N]at K;exact K
  ·rw[hx]
   show DataW.slice _ _=DataW.slice _ _
   congr 1
   refine List.ext_getElem (by simp[f]) λi h1 h2=>?_
   have s:i<l.length:=by simpa using h2
   simp[(d i s).2.1]
end
end
section
open Go.ChangeShapes Go.WideShapes Go.Deep
def zap(k:Int)(s:Set4)(A:Option Addr)(n c:Nat):List Value:=[.int .i64 k,.int .u64 s.a,.int .u64 s.b,.int .u64 s.c,.int .u64 s.d,.slice A n c]
def ziN(x:Int):Prop:=0<=x/\x<=18446744073709551615
def Set4.Wf(s:Set4):Prop:=ziN s.a/\ziN s.b/\ziN s.c/\ziN s.d
def CellsAt(w:World)(b a:Nat)(cs:List Value):Prop:=∀j (h:j<cs.length),w.cell? ⟨b,a+j,none⟩=some cs[j]
mutual
def LT(w:World)(B:Nat):Tree->List Value->Prop
 |.node k s a,cs=>∃A c,cs=zap k s A a.length c/\s.Wf/\LK w B a A
def LK(w:World)(B:Nat):List Tree->Option Addr->Prop
 | [],_=>True
 |t::c,A=>∃b a cs,A=some ⟨b,a,none⟩/\b<B/\cs.length=6/\CellsAt w b a cs/\LT w B t cs/\LK w B c (some ⟨b,a+6,none⟩)
end
mutual
theorem LT.keep{w w':World}{B a:Nat}(g:B<=a)(d:∀b o,b<B->w'.cell? ⟨b,o,none⟩=w.cell? ⟨b,o,none⟩):∀(t:Tree) (cs:List Value),LT w B t cs->LT w' a t cs
 |.node k s f,cs,h=>by
  rw[LT]at h ⊢;obtain⟨A,c,h1,h2,e⟩:=h;exact⟨A,c,h1,h2,LK.keep g d f A e⟩
theorem LK.keep{w w':World}{B e:Nat}(f:B<=e)(c:∀b o,b<B->w'.cell? ⟨b,o,none⟩=w.cell? ⟨b,o,none⟩):∀(a:List Tree) (A:Option Addr),LK w B a A->LK w' e a A
 | [],_,_=>by rw[LK];trivial
 |t::a,A,h=>by
  rw[LK]at h ⊢;obtain⟨b,d,cs,h1,h2,k,g,i,l⟩:=h;exact⟨b,d,cs,h1,by omega,k,λj m=>(c b _ h2).trans (g j m),LT.keep f c t cs i,LK.keep f c a _ l⟩
end
theorem LT.below{w w':World}{B:Nat}{t:Tree}{cs:List Value}(h:LT w B t cs)(hb:Below B w w'):LT w' B t cs:=LT.keep (Qd _) (λb o a=>hb.cell (p:=⟨b,o,none⟩) a) t cs h
theorem LK.below{w w':World}{B:Nat}{a:List Tree}{A:Option Addr}(h:LK w B a A)(hb:Below B w w'):LK w' B a A:=LK.keep (Qd _) (λb o c=>hb.cell (p:=⟨b,o,none⟩) c) a A h
theorem LT.more{w:World}{B a:Nat}{t:Tree}{cs:List Value}(h:LT w B t cs)(b:B<=a):LT w a t cs:=LT.keep b (λ_ _ _=>rfl) t cs h
def Tree.kind:Tree->Int
 |.node k _ _=>k
def Tree.set:Tree->Set4
 |.node _ s _=>s
def Tree.kids:Tree->List Tree
 |.node _ _ a=>a
theorem LT.parts{w:World}{B:Nat}{t:Tree}{cs:List Value}(h:LT w B t cs):∃A c,cs=zap t.kind t.set A t.kids.length c/\t.set.Wf/\LK w B t.kids A:=by
 cases t with
 |node k s a=>rw[LT]at h;exact h
theorem LK.at{w:World}{B:Nat}:∀{c:List Tree} {A:Option Addr},LK w B c A->∀i (h:i<c.length),∃b a cs,A=some ⟨b,a,none⟩/\b<B/\CellsAt w b (a+i*6) cs/\LT w B c[i] cs
 | [],_,_,i,h=>absurd h (by simp)
 |t::c,A,h,0,_=>by
  rw[LK]at h;obtain⟨b,a,cs,h1,h2,_,g,k,_⟩:=h;exact⟨b,a,cs,h1,h2,by simpa using g,k⟩
 |t::c,A,h,i+1,n=>by
  rw[LK]at h;obtain⟨b,a,cs,h1,h2,_,_,_,o⟩:=h;obtain⟨r,f,d,e,j,m,p⟩:=LK.at o i (by simpa using n);injection e with e
  injection e with q l
  subst q;subst l
  exact⟨b,a,d,h1,j,by rw[show a+(i+1)*6=a+6+i*6 by omega];exact m,p⟩
theorem LK.nil(w:World)(B:Nat)(A:Option Addr):LK w B [] A:=by rw[LK];trivial
theorem CellsAt.six{w:World}{b a:Nat}{c0 c1 c2 c3 c4 c5:Value}(h:CellsAt w b a [c0,c1,c2,c3,c4,c5]):
 w.cell? ⟨b,a,none⟩=some c0/\w.cell? ⟨b,a+1,none⟩=some c1/\w.cell? ⟨b,a+2,none⟩=some c2/\w.cell? ⟨b,a+3,none⟩=some c3/\w.cell? ⟨b,a+4,none⟩=some c4/\w.cell? ⟨b,a+5,none⟩=some c5:=
 ⟨h 0 (by simp),h 1 (by simp),h 2 (by simp),h 3 (by simp),h 4 (by simp),h 5 (by simp)⟩
theorem znJ:prog.cellsOf 180=1:=by kernel_rfl
theorem zwx{g:Type}{l:List g}(h:l.length=6):∃a b c d e f,l=[a,b,c,d,e,f]:=by
 match l,h with
 | [a,b,c,d,e,f],_=>exact⟨a,b,c,d,e,f,rfl⟩
end
theorem zbA{w:World}{base:Nat}{e t:TypeId}{size n g:Nat}{v:Value}{k:List Value}{cs:Array Value}{j:Nat × Nat}(h:w.ownsRow base e size v n k)(i:w.heap[g]? = some (.cells cs t j))(b:e≠t):v.ownBlock≠some g:=by
 intro l;obtain⟨c,f,a⟩:=XD h g l;rw[i]at a;injection a with a
 injection a with _ d
 exact b d.symm
theorem zgn{a w:World}{row:Option Nat}(h:a.grownBy w row)(n:Nat):a.grownBy (w.drewN n) row:=⟨h.os,h.tape,h.output,h.size,h.block⟩
theorem zan{a w:World}{g:Nat}(h:a.grownBy w (some g))(j:Nat)(u:Value):a.grownBy (w.setCell ⟨g,j,none⟩ u) (some g):=
 ⟨h.os,h.tape,h.output,by simpa[World.setCell]using h.size,λi c b=>(Ql w ⟨g,j,none⟩ u i (λe=>b (by rw[e]))).trans (h.block i c b)⟩
theorem zjG{a w w':World}{row:Option Nat}(h:a.grownBy w row)(hb:Below w.heap.size w w'):a.grownBy w' row:=
 ⟨hb.os.trans h.os,hb.tape.trans h.tape,hb.output.trans h.output,Qn h.size hb.size,λi c b=>(hb.block i (Qv c h.size)).trans (h.block i c b)⟩
theorem zay{a b c:World}{row:Option Nat}(h:a.grownBy b row)(k:b.grownBy c row):a.grownBy c row:=
 ⟨k.os.trans h.os,k.tape.trans h.tape,k.output.trans h.output,Qn h.size k.size,λi e d=>(k.block i (Qv e h.size) d).trans (h.block i e d)⟩
structure BL(w:World)(base g cap n:Nat)(l:List Bool):Prop where
 len:l.length=n
 own:w.ownsRow base 4 1 (.slice (some ⟨g,0,none⟩) n cap) n (l.map Value.bool)
theorem zqL{w w':World}(h:w.grownBy w' none):Below w.heap.size w w':=⟨h.os,h.tape,h.output,h.size,λi a=>h.block i a (λe=>by cases e)⟩
theorem zk8(k:Int)(w:World):Calls prog 219 #[.int .i64 k] w λe w'=>e=.returned (.int .i64 (zhZ k))/\w'=w:=by
 by_cases b:k=4
 ·subst b;go_in
  go_wp2;go_ret;exact⟨rfl,rfl⟩
 by_cases d:k=5
 ·subst d;go_in
  go_wp2;go_ret;exact⟨rfl,rfl⟩
 by_cases a:k=6
 ·subst a;go_in
  go_wp2;go_ret;exact⟨rfl,rfl⟩
 by_cases h1:k=1
 ·subst h1;go_in
  go_wp2;go_ret;exact⟨rfl,rfl⟩
 by_cases h2:k=2
 ·subst h2;go_in
  go_wp2;go_ret;exact⟨rfl,rfl⟩
 by_cases g:k=3
 ·subst g;go_in
  go_wp2;go_ret;exact⟨rfl,rfl⟩
 by_cases c:k=7
 ·subst c;go_in
  go_wp2;go_ret;exact⟨rfl,rfl⟩
 by_cases f:k=8
 ·subst f;go_in
  go_wp2;go_ret;exact⟨rfl,rfl⟩
 have h:Hid (zhZ k=-1):=by unfold Hid zhZ;rw[Qe (by omega),Qe a,Qe (by omega)]
 have l:(k==1)=false:=Qb.2 h1;have q:(k==2)=false:=Qb.2 h2;have m:(k==3)=false:=Qb.2 g;have o:(k==4)=false:=Qb.2 b;have n:(k==5)=false:=Qb.2 d;have j:(k==6)=false:=Qb.2 a;have i:(k==7)=false:=Qb.2 c;have p:(k==8)=false:=Qb.2 f;clear h1 h2 g b d a c f
 go_in
 go_wp2
 go_ret;exact⟨by rw[h.out];rfl,rfl⟩
def setV(s:Set4):Value:=.agg #[.int .u64 s.a,.int .u64 s.b,.int .u64 s.c,.int .u64 s.d]
theorem zy8(s:Set4)(k:Nat)(e:k<4):([.int .u64 s.a,.int .u64 s.b,.int .u64 s.c,.int .u64 s.d]:List Value)[k]? = some (.int .u64 (s.word k)):=by
 match k,e with
 |0,_=>rfl
 |1,_=>rfl
 |2,_=>rfl
 |3,_=>rfl
theorem zyF{s:Set4}(h:s.Wf)(k:Nat):0<=s.word k/\s.word k<=18446744073709551615:=by
 obtain⟨h1,h2,b,a⟩:=h;unfold ziN at h1 h2 b a;unfold Set4.word
 split
 ·exact h1
 ·split
  ·exact h2
  ·split
   ·exact b
   ·exact a
theorem zsp(s:Set4)(x:UInt8)(w:World)(h:s.Wf):Calls prog 255 #[setV s,.int .u8 x.toNat] w λe w'=>e=.returned (.bool (hasB s x))/\Below w.heap.size w w':=by
 have k:=x.toNat_lt;have g:=zy8 s (x.toNat / 64) (by omega);have f:=zyF h (x.toNat / 64);have i:Hid (hasB s x=(s.word (x.toNat / 64) / 2 ^ (x.toNat % 64) % 2==1)):=rfl;generalize s.word (x.toNat / 64)=W at *;obtain⟨a,b,c,d⟩:=s;unfold setV;dsimp only at g ⊢;clear h
 go_in
 go_wp2_with fail
 have j:0<=W / 2 ^ (x.toNat % 64)/\W / 2 ^ (x.toNat % 64)<18446744073709551616:=by
  refine⟨Int.ediv_nonneg f.1 (Int.le_of_lt (Int.pow_pos (by decide))),?_⟩;have:=Int.ediv_le_self (2 ^ (x.toNat % 64)) f.1;omega
 rw[and_one_u64 _ j.1 (by omega)];go_ret;exact⟨by rw[i.out];rfl,WaL⟩
theorem zv4:∃i,prog.info? 180=some i:=by
 cases h:prog.info? 180 with
 |some i=>exact⟨i,rfl⟩
 |none=>exact absurd (show (prog.info? 180).isSome=true by kernel_rfl) (by rw[h];decide)
theorem zwA(d:Nat)(x y:Int)(w:World):(Op.equalIn (d+1) 180 (.int .u64 x) (.int .u64 y)).run prog w=.ok (x==y) w:=by
 simp[Op.equalIn,ZY underlying180]
theorem zny:prog.plainKey 180=true:=by kernel_rfl
theorem zfk(d i:Nat)(c:List Nat)(b a:Array Value)(x y:Int)(f:b[i]? = some (.int .u64 x))(e:a[i]? = some (.int .u64 y))(w:World):
 (Op.eqItems (d+1) 180 1 b a (i::c)).run prog w=if x=y then (Op.eqItems (d+1) 180 1 b a c).run prog w else .ok false w:=by
 simp only[Op.eqItems,Xz,Nat.mul_one,run_part_plain w zny f,run_part_plain w zny e,Xg,zwA]
 by_cases h:x=y
 ·subst h;simp
 ·have:(x==y)=false:=Qb.2 h
  simp[h]
theorem zlK(x y:Set4)(w:World):(Op.equal 182 (setV x) (setV y)).run prog w=.ok (decide (x=y)) w:=by
 obtain⟨i,k⟩:=zv4;obtain⟨a,b,c,d⟩:=x;obtain⟨e,g,f,d'⟩:=y;have h:=run_equalIn_array (P:=prog) (w:=w) 9999 #[.int .u64 a,.int .u64 b,.int .u64 c,.int .u64 d] #[.int .u64 e,.int .u64 g,.int .u64 f,.int .u64 d'] underlying182 k;rw[znJ]at h;unfold Op.equal setV;refine h.trans ?_;rw[show List.range 4=[0,1,2,3]from rfl,zfk 9998 0 _ _ _ a e rfl rfl,zfk 9998 1 _ _ _ b g rfl rfl,zfk 9998 2 _ _ _ c f rfl rfl,zfk 9998 3 _ _ _ d d' rfl rfl]
 by_cases h1:a=e <;> by_cases h2:b=g <;> by_cases l:c=f <;> by_cases j:d=d' <;> simp[h1,h2,l,j,Op.eqItems]
def zvO(x y:Set4):Bool:=decide (x=y)
theorem zfe(x y:Set4)(w:World):(binOp .eql 182 (setV x) (setV y)).run prog w=.ok (.bool (zvO x y)) w:=by
 have h:=zlK x y w;unfold setV at h ⊢;simp only[binOp,Xz];rw[h]
 rfl
theorem zyE{W w':World}{c0 c1 c2 c3 c4 c5:Value}{t:TypeId}(hb:Below (W.alloc (.cells #[c0,c1,c2,c3,c4,c5] t)).heap.size (W.alloc (.cells #[c0,c1,c2,c3,c4,c5] t)) w'):
 (w'.cell? ⟨W.heap.size,0,none⟩=some c0/\w'.cell? ⟨W.heap.size,1,none⟩=some c1/\w'.cell? ⟨W.heap.size,2,none⟩=some c2/\w'.cell? ⟨W.heap.size,3,none⟩=some c3/\w'.cell? ⟨W.heap.size,4,none⟩=some c4/\w'.cell? ⟨W.heap.size,5,none⟩=some c5)/\Below W.heap.size W w':=
 ⟨⟨zar hb 0,zar hb 1,zar hb 2,zar hb 3,zar hb 4,zar hb 5⟩,zaJ hb (Qd _)⟩
def argX(t:Tree)(A:Option Addr)(c:Nat):Value:=.agg #[.int .i64 t.kind,.int .u64 t.set.a,.int .u64 t.set.b,.int .u64 t.set.c,.int .u64 t.set.d,.slice A t.kids.length c]
theorem LK.two{w:World}{B:Nat}{a b:Tree}{A:Option Addr}(h:LK w B [a,b] A):∃d c e f,A=some ⟨d,c,none⟩/\d<B/\CellsAt w d c e/\LT w B a e/\CellsAt w d (c+6) f/\LT w B b f:=by
 rw[LK]at h;obtain⟨d,c,e,h1,h2,t,k,l,j⟩:=h;rw[LK]at j;obtain⟨s,i,f,g,r,u,n,o,q⟩:=j;injection g with g
 injection g with p m
 subst p;subst m
 exact⟨d,c,e,f,h1,h2,k,l,n,o⟩
theorem LK.one{w:World}{B:Nat}{a:Tree}{A:Option Addr}(h:LK w B [a] A):∃c b d,A=some ⟨c,b,none⟩/\c<B/\CellsAt w c b d/\LT w B a d:=by
 rw[LK]at h;obtain⟨c,b,d,h1,h2,i,e,f,g⟩:=h;exact⟨c,b,d,h1,h2,e,f⟩
def zbk(x:Ins):List Value:=[.int .i64 x.kind,.int .i64 x.a,.int .i64 x.b,.int .u64 x.set.a,.int .u64 x.set.b,.int .u64 x.set.c,.int .u64 x.set.d]
theorem zcO(x:Ins):(zbk x).length=7:=rfl
def OwnP(w:World)(base:Nat)(v:Value)(l:List Ins):Prop:=w.ownsRow base 235 7 v l.length (l.flatMap zbk)
theorem OwnP.nil(w:World)(base:Nat):OwnP w base (.slice none 0 0) []:=ZI w base 235 7
theorem OwnP.form{w:World}{base:Nat}{v:Value}{l:List Ins}(h:OwnP w base v l):∃A c,v=.slice A l.length c/\Sl w w.heap.size 7 A l.length (l.flatMap zbk):=by
 rcases h.2 with ⟨h1,h2⟩|⟨g,cap,a,h1,hb,e,_⟩
 ·have:l=[]:=QA h2
  subst this;exact⟨none,0,h1,Sl.nil _ _ _ _⟩
 ·refine⟨_,_,h1,zaS zbk 7 zcO l,λd=>⟨g,0,rfl,?_,λj b=>?_⟩⟩
  ·exact((h.lt g (by rw[h1];simp[Value.ownBlock])).2)
  ·have:=Zx (g:=g) h (by rw[h1];simp[Value.ownBlock]) j _ (Qc b)
   rw[zbq]at this;rw[Zc];exact this
theorem OwnP.below{w w':World}{base:Nat}{v:Value}{l:List Ins}(h:OwnP w base v l)(hb:Below w.heap.size w w'):OwnP w' base v l:=zaP h hb
theorem OwnP.head{w:World}{base:Nat}{v:Value}{l:List Ins}(h:OwnP w base v l)(hl:0<l.length):∃g c,v=.slice (some ⟨g,0,none⟩) l.length c/\base<=g/\g<w.heap.size:=by
 rcases h.2 with ⟨h1,h2⟩|⟨g,cap,a,h1,hb,b,_⟩
 ·omega
 ·exact⟨g,cap,h1,hb,(h.lt g (by rw[h1];simp[Value.ownBlock])).2⟩
theorem zwN:(prog.info? 235).map (λi=>(i.zero,i.size,i.bytes))=some (some (.agg #[.int .i64 0,.int .i64 0,.int .i64 0,.int .u64 0,.int .u64 0,.int .u64 0,.int .u64 0]),7,56):=by kernel_rfl
section
variable {ops:Array Oper} {rest:List Oper} {o:Oper} {a:Act} {Q:Exit->Act->World->Prop} {w:World}
theorem zhD{K:Act->World->Prop}(s x:Operand)(t:o.op=.call {callee:=.builtin .append,args:=#[s,x],argTypes:=#[188,188]})
 (base:Nat) (v:Value) (l:List Ins) (z:a.eval s=v) (d:OwnP w base v l) (b:base<=w.heap.size)
 (m:List Value) (new:Ins) (C:m=zbk new) (n:Nat) (k:w.heap.size=n) (c:Nat) (B:a.eval x=.slice (some ⟨n,0,none⟩) 1 c)
 (e:l.length<=1048576)
 (h:∀v' w',OwnP w' base v' (l++[new])->Below base w w'->(∀g,g<w.heap.size->v.ownBlock≠some g->w'.heap[g]? = w.heap[g]?)->w.heap.size<w'.heap.size->K (a.put o.dst v') w'):
 o.wp prog a (w.alloc (.cells m.toArray 235)) K Q:=by
 subst C;subst k
 obtain⟨r,A,f,i,j⟩:=ZC zwN
 exact za1 s x 188 t base 235 r _ 7 56 underlying188 A f i j rfl (by decide) v l.length (l.flatMap zbk) z d b (zbk new) 1 c B rfl
  (λu p=>by simp only[zbk,QJ,ZR,X0]at p;rcases p with rfl|rfl|rfl|rfl|rfl|rfl|rfl <;> rfl) (by unfold maxLen;omega) (by omega) λv' w' h1 h2 y q=>h v' w' (by unfold OwnP;rw[Qa,Q4];simpa using h1) h2 y q
theorem zb5(f:o.guard=none)(s x:Operand)(p:o.op=.call {callee:=.builtin .append,args:=#[s,x],argTypes:=#[188,188]})
 (base:Nat) (v:Value) (l:List Ins) (r:a.eval s=v) (e:OwnP w base v l) (d:base<=w.heap.size)
 (i:List Value) (new:Ins) (u:i=zbk new) (j:Nat) (k:w.heap.size=j) (c:Nat) (t:a.eval x=.slice (some ⟨j,0,none⟩) 1 c)
 (b:l.length<=1048576)
 (h:∀v' w',OwnP w' base v' (l++[new])->Below base w w'->(∀g,g<w.heap.size->v.ownBlock≠some g->w'.heap[g]? = w.heap[g]?)->w.heap.size<w'.heap.size->wpList prog ops Q rest (a.put o.dst v') w'):
 wpList prog ops Q (o::rest) a (w.alloc (.cells i.toArray 235)):=
 Xs f λ_ n=>zhD s x p base v l r e d i new u j k c t b λv' w' h1 h2 q m=>n _ _ (h v' w' h1 h2 q m)
theorem zfn{K:Act->World->Prop}{E:Prop}(f:o.guard=none)(s x:Operand)(n:o.op=.call {callee:=.builtin .append,args:=#[s,x],argTypes:=#[188,188]})
 (base:Nat) (v:Value) (l:List Ins) (p:a.eval s=v) (e:OwnP w base v l) (d:base<=w.heap.size)
 (i:List Value) (new:Ins) (r:i=zbk new) (j:Nat) (k:w.heap.size=j) (c:Nat) (q:a.eval x=.slice (some ⟨j,0,none⟩) 1 c)
 (b:l.length<=1048576)
 (h:∀v' w',OwnP w' base v' (l++[new])->Below base w w'->(∀g,g<w.heap.size->v.ownBlock≠some g->w'.heap[g]? = w.heap[g]?)->w.heap.size<w'.heap.size->K (a.put o.dst v') w'):
 if Region.wanted o (yielded ops a.tmps)=true then Oper.wp prog o a (w.alloc (.cells i.toArray 235)) K Q else E:=by
 have m:Region.wanted o (yielded ops a.tmps)=true:=by simp[Region.wanted,f]
 rw[Qi m];exact zhD s x n base v l p e d i new r j k c q b h
end
theorem zzH{w:World}{B n:Nat}{A:Option Addr}{l:List Ins}(h:Sl w B 7 A n (l.flatMap zbk))(k:Nat)(i:k<l.length):
 ∃b f,A=some ⟨b,f,none⟩/\b<B/\w.cell? ⟨b,f+k*7,none⟩=some (.int .i64 l[k].kind)/\w.cell? ⟨b,f+k*7+1,none⟩=some (.int .i64 l[k].a)/\w.cell? ⟨b,f+k*7+2,none⟩=some (.int .i64 l[k].b)/\
  w.cell? ⟨b,f+k*7+3,none⟩=some (.int .u64 l[k].set.a)/\w.cell? ⟨b,f+k*7+4,none⟩=some (.int .u64 l[k].set.b)/\w.cell? ⟨b,f+k*7+5,none⟩=some (.int .u64 l[k].set.c)/\w.cell? ⟨b,f+k*7+6,none⟩=some (.int .u64 l[k].set.d):=by
 have hl:=zaS zbk 7 zcO l;obtain⟨b,f,e,hb,p⟩:=h.src (by omega)
 have g:∀j,j<7->∀v,(zbk l[k])[j]? = some v->w.cell? ⟨b,f+k*7+j,none⟩=some v:=λj m v o=>by
  have h1:=zbM zbk 7 zcO l k j i m;have h2:k*7+j<(l.flatMap zbk).length:=by omega
  rw[Zh,p (k*7+j) h2];rw[Qc h2]at h1;rw[h1,o]
 exact⟨b,f,e,hb,g 0 (by decide) _ rfl,g 1 (by decide) _ rfl,g 2 (by decide) _ rfl,g 3 (by decide) _ rfl,g 4 (by decide) _ rfl,g 5 (by decide) _ rfl,g 6 (by decide) _ rfl⟩
theorem zoT{d:Type}(cells:d->List Value)(size:Nat)(b:∀a,(cells a).length=size)(j:Nat)(f:j<size)(v:Value)(y:d):∀(l:List d) (k:Nat) (h:k<l.length),cells y=(cells l[k]).set j v->
 (l.flatMap cells).set (k*size+j) v=(l.set k y).flatMap cells
 | [],k,h,_=>absurd h (by simp)
 |a::r,0,_,c=>by
  have e:cells y=(cells a).set j v:=c;simp only[QM,Zb,XZ,Zc];rw[List.set_append_left _ _ (by rw[b];exact f),e]
 |a::r,k+1,h,c=>by
  simp only[QM,Zj];rw[ZV _ _ (by rw[b,Xt];omega),b,show (k+1)*size+j-size=k*size+j by rw[Xt];omega];rw[zoT cells size b j f v y r k (by simpa using h) c]
theorem OwnP.setAB{w:World}{base g c:Nat}{l:List Ins}(h:OwnP w base (.slice (some ⟨g,0,none⟩) l.length c) l)(k:Nat)(b:k<l.length)(j:Nat)(d:j<7)(u:Value)(y:Ins)(e:zbk y=(zbk l[k]).set j u):
 OwnP (w.setCell ⟨g,k*7+j,none⟩ u) base (.slice (some ⟨g,0,none⟩) l.length c) (l.set k y)/\w.grownBy (w.setCell ⟨g,k*7+j,none⟩ u) (some g):=by
 have a:=World.ownsRow.stored h (k*7+j) u;refine⟨?_,a.2⟩;unfold OwnP;rw[Xn,<-zoT zbk 7 zcO j d u y l k b e];exact a.1
def hitI(p:Nat->Bool)(n:Nat):Int:=match (List.range n).find? p with
 |some i=>(i:Int)
 |none=>-1
def anyN(p:Nat->Bool)(n:Nat):Bool:=(List.range n).any p
theorem zdT(p:Nat->Bool)(n:Nat)(h:∀i,i<n->p i=false):hitI p n=-1:=by
 unfold hitI;rw[List.find?_eq_none.2 (λx a=>by rw[h x (ZX.1 a)];decide)]
theorem zkn(p:Nat->Bool)(n j:Nat)(a:j<n)(h1:p j=true)(h:∀i,i<j->p i=false):hitI p n=j:=by
 unfold hitI
 have:(List.range n).find? p=some j:=by
  rw[List.find?_eq_some_iff_getElem];refine⟨h1,j,by simpa using a,by simp,λi b=>by simpa using h i b⟩
 rw[this]
theorem zez(p:Nat->Bool)(n:Nat):anyN p n=false↔∀i,i<n->p i=false:=by
 unfold anyN;simp
theorem zli(p:Nat->Bool)(n:Nat):anyN p n=true↔∃i,i<n/\p i=true:=by
 unfold anyN;simp
theorem zgl(p:Nat->Bool)(n:Nat):decide (0<=hitI p n)=anyN p n:=by
 cases h:anyN p n with
 |false=>rw[zdT p n ((zez p n).1 h)];rfl
 |true=>
  obtain⟨i,c,a⟩:=(zli p n).1 h;unfold hitI;cases b:(List.range n).find? p with
  |some j=>simp
  |none=>exact absurd a (by have:=List.find?_eq_none.1 b i (by simpa using c);simpa using this)
theorem zcp{b:Type}(f:b->Bool)(l:List b)(d:b):anyN (λj=>f (l.getD j d)) l.length=l.any f:=by
 rw[Bool.eq_iff_iff,zli,Xq]
 constructor
 ·rintro⟨i,a,h⟩
  rw[Qk,Qc a]at h;exact⟨l[i],Qy a,h⟩
 ·rintro⟨x,c,h⟩
  obtain⟨i,a,rfl⟩:=List.mem_iff_getElem.1 c;exact⟨i,a,by rw[Qk,Qc a];exact h⟩
def zal(b:Bool)(w:World)(e:Ending)(w':World):Prop:=e=.returned (.bool b)/\Below w.heap.size w w'
def Tgt(x:Ins)(c d:Int):Prop:=(x.kind=2/\c<=x.a/\x.a<=d/\c<=x.b/\x.b<=d)\/(x.kind=3/\c<=x.a/\x.a<=d)\/x.kind=1\/x.kind=4\/x.kind=5
theorem Tgt.mono{x:Ins}{c d a b:Int}(h:Tgt x c d)(h1:a<=c)(h2:d<=b):Tgt x a b:=by
 unfold Tgt at h ⊢;omega
theorem zpO{t:Tree}{at_:Nat}{l:List Ins}(h:Code t at_ l):∀x∈l,Tgt x at_ (at_+l.length):=by
 induction h with
 |none|byte|begin|finish=>intro x c;simp only[QE]at c;subst c;simp[Tgt]
 |empty=>intro x c;simp at c
 |cat S a b at_ d e _ _ h1 h2=>
  intro x c;rw[Qa]
  rcases QN.1 c with h|h
  ·exact(h1 x h).mono (Zw _) (by omega)
  ·exact(h2 x h).mono (by omega) (by omega)
 |alt S a b at_ d e _ _ h1 h2=>
  intro x c;simp only[Qa,Qo]
  rcases QJ.1 c with h|c
  ·subst h;left;dsimp only;omega
  ·rcases QN.1 c with h|c
   ·exact(h1 x h).mono (by omega) (by omega)
   ·rcases QJ.1 c with h|h
    ·subst h;right;left;dsimp only;omega
    ·exact(h2 x h).mono (by omega) (by omega)
 |star S a at_ d _ h1=>
  intro x c;simp only[Qa,Qo,QR]
  rcases QJ.1 c with h|c
  ·subst h;left;dsimp only;omega
  ·rcases QN.1 c with h|c
   ·exact(h1 x h).mono (by omega) (by omega)
   ·rw[QE]at c
    subst c;right;left;dsimp only;omega
def OkP(P:List Ins):Prop:=∀i (h:i<P.length),(P[i].kind=2/\(0<=P[i].a/\P[i].a<P.length)/\0<=P[i].b/\P[i].b<P.length)\/(P[i].kind=3/\0<=P[i].a/\P[i].a<P.length)\/((P[i].kind=1\/P[i].kind=4\/P[i].kind=5)/\i+1<P.length)\/P[i].kind=6
theorem znW{t:Tree}{l:List Ins}(h:Code t 0 l):OkP (l++[⟨6,0,0,.zero⟩]):=by
 intro i a;rw[Qa,QG]at a ⊢
 by_cases c:i<l.length
 ·rw[ZA c]
  have:=zpO h l[i] (Qy c);unfold Tgt at this;omega
 ·obtain rfl:i=l.length:=by omega
  right;right;right
  simp
def Ins7(w:World)(b o:Nat)(x:Ins):Prop:=w.cell? ⟨b,o,none⟩=some (.int .i64 x.kind)/\w.cell? ⟨b,o+1,none⟩=some (.int .i64 x.a)/\w.cell? ⟨b,o+2,none⟩=some (.int .i64 x.b)/\
 w.cell? ⟨b,o+3,none⟩=some (.int .u64 x.set.a)/\w.cell? ⟨b,o+4,none⟩=some (.int .u64 x.set.b)/\w.cell? ⟨b,o+5,none⟩=some (.int .u64 x.set.c)/\w.cell? ⟨b,o+6,none⟩=some (.int .u64 x.set.d)
theorem zxf{w:World}{B n b a:Nat}{l:List Ins}(h:Sl w B 7 (some ⟨b,a,none⟩) n (l.flatMap zbk))(k:Nat)(d:k<l.length):Ins7 w b (a+k*7) l[k]:=by
 obtain⟨i,c,e,_,r⟩:=zzH h k d;injection e with e
 injection e with f g
 subst f;subst g
 exact r
theorem zib(k:Int)(g:Nat)(n:Nat)(w:World)(a:0<=k)(h1:k<n)(b:w.cell? ⟨g,0,none⟩=some (.int .i64 (n:Int))):
 Calls prog 141 #[.int .i64 k,.pointer (some ⟨g,0,none⟩)] w λe w'=>e=.returned (.bool true)/\w'=w:=by
 go_in
 go_wp2;go_ret;exact⟨rfl,rfl⟩
def zzi(n:Nat)(w:World)(i:Value)(wr:World):Prop:=∃k:Nat,k<=n/\i=.int .i64 k/\Below w.heap.size w wr/\wr.cell? ⟨w.heap.size,0,none⟩=some (.int .i64 (n:Int))/\w.heap.size<wr.heap.size
theorem zgM(P:List Ins)(A:Option Addr)(c:Nat)(w:World)(h:Sl w w.heap.size 7 A P.length (P.flatMap zbk))(j:OkP P)(T:0<P.length)(V:P.length<=400):
 Calls prog 105 #[.slice A P.length c] w λe w'=>e=.returned (.int .i64 0)/\Below w.heap.size w w':=by
 have m:=hIx j;obtain⟨b,s,rfl,K,f⟩:=h.src (by rw[h.len];omega);have n:Hid (∀k (r:k<P.length) W,Below w.heap.size w W->Ins7 W b (s+k*7) P[k]):=λk r W hb=>zxf (h.below hb) k r
 have X:decide (400<(P.length:Int))=false:=by simp;omega
 have Z:((P.length:Int)==0)=false:=Qb.2 (by omega);clear j f
 go_in
 go_wp2
 go_loopw [17] (λi wr=>zzi P.length w i wr) (λi _=>P.length-(intOf i).toNat)
 case atStart=>exact⟨0,Qm _,rfl,WaL,zar (Qg _ _) 0,by simp⟩
 case round=>
  obtain⟨k,r,rfl,d,q,t⟩:=hrel
  by_cases g:k<P.length
  ·obtain⟨z,I,F,D,C,G,H⟩:=n.out k g wr d
   have u:=m.out k g;generalize P[k]=x at z I F D C G H u;obtain⟨U,B,O,⟨sa,sb,sc,Q⟩⟩:=x;dsimp only at z I F D C G H u;have S:(k:Int)<(P.length:Int):=by omega
   have l:=hIx λo=>(((Qg wr.heap.size wr).alloc (Qd _) o).cell (p:=⟨w.heap.size,0,none⟩) t).trans q
   have J:∀o,zzi P.length w (.int .i64 ((k+1:Nat):Int)) (wr.alloc o):=λo=>⟨k+1,g,rfl,d.alloc d.size o,l.out o,by simp;omega⟩
   have a:=hIx J;clear J
   rcases u with ⟨rfl,⟨v,y⟩,N,L⟩|⟨rfl,v,y⟩|⟨rfl|rfl|rfl,Y⟩|rfl
   ·go_wp2_with fail
    refine(zib B _ P.length _ v y (l.out _)).mono ?_;rintro e w' ⟨rfl,rfl⟩;go_wp2_with fail;refine(zib O _ P.length _ N L (l.out _)).mono ?_;rintro e w' ⟨rfl,rfl⟩;go_wp2_with fail
    go_roundw
    case rel=>exact a.out _
    case measure=>simp[intOf] <;> omega
   ·go_wp2_with fail
    refine(zib B _ P.length _ v y (l.out _)).mono ?_;rintro e w' ⟨rfl,rfl⟩;go_wp2_with fail
    go_roundw
    case rel=>exact a.out _
    case measure=>simp[intOf] <;> omega
   ·have E:(k:Int)+1<(P.length:Int):=by omega
    go_wp2_with fail
    go_roundw
    case rel=>exact a.out _
    case measure=>simp[intOf] <;> omega
   ·have E:(k:Int)+1<(P.length:Int):=by omega
    go_wp2_with fail
    go_roundw
    case rel=>exact a.out _
    case measure=>simp[intOf] <;> omega
   ·have E:(k:Int)+1<(P.length:Int):=by omega
    go_wp2_with fail
    go_roundw
    case rel=>exact a.out _
    case measure=>simp[intOf] <;> omega
   ·go_wp2_with fail
    go_roundw
    case rel=>exact a.out _
    case measure=>simp[intOf] <;> omega
  ·obtain rfl:k=P.length:=by omega
   go_wp2;go_ret;exact⟨rfl,d⟩
def natV(n:Nat):Value:=.int .i64 (n:Int)
def OwnNT(w:World)(v:Value)(l:List Nat):Prop:=w.ownsRow 0 3 1 v l.length (l.map natV)
theorem OwnNT.nil(w:World):OwnNT w (.slice none 0 0) []:=ZI w 0 3 1
theorem OwnNT.keep{w w':World}{v:Value}{l:List Nat}(h:OwnNT w v l)(b:∀g,v.ownBlock=some g->w'.heap[g]? = w.heap[g]?):OwnNT w' v l:=by
 refine⟨h.1,?_⟩
 rcases h.2 with d|⟨g,cap,a,h1,h2,e,c⟩
 ·exact .inl d
 ·exact .inr ⟨g,cap,a,h1,h2,(b g (by rw[h1];rfl)).trans e,c⟩
theorem OwnNT.lt{w:World}{v:Value}{l:List Nat}(h:OwnNT w v l):∀g,v.ownBlock=some g->g<w.heap.size:=λg a=>(QK h g a).2
theorem OwnNT.form{w:World}{v:Value}{l:List Nat}(h:OwnNT w v l):∃A c,v=.slice A l.length c:=by
 rcases h.2 with ⟨h1,h2⟩|⟨g,cap,a,h1,_⟩
 ·exact⟨none,0,by rw[h1,h2]⟩
 ·exact⟨_,_,h1⟩
theorem OwnNT.head{w:World}{v:Value}{l:List Nat}(h:OwnNT w v l)(hl:0<l.length):∃g c,v=.slice (some ⟨g,0,none⟩) l.length c/\g<w.heap.size:=by
 rcases h.2 with ⟨_,h2⟩|⟨g,cap,a,h1,_⟩
 ·omega
 ·exact⟨g,cap,h1,h.lt g (by rw[h1];rfl)⟩
theorem OwnNT.cell{w:World}{g c:Nat}{l:List Nat}(h:OwnNT w (.slice (some ⟨g,0,none⟩) l.length c) l)(k:Nat)(a:k<l.length):w.cell? ⟨g,k,none⟩=some (.int .i64 ((l[k]:Nat):Int)):=by
 have h1:=Zx (g:=g) h (by simp[Value.ownBlock]) k (natV l[k]) (by simp[a]);rw[zbq]at h1;exact h1
theorem OwnNT.pop{w:World}{g c k:Nat}{l:List Nat}(h:OwnNT w (.slice (some ⟨g,0,none⟩) (l++[k]).length c) (l++[k])):OwnNT w (.slice (some ⟨g,0,none⟩) l.length c) l:=by
 unfold OwnNT at h ⊢;rw[Qa,QG,QU]at h;exact ownsRow_pop (by simp) h
theorem OwnNT.one(w:World)(n:Nat):OwnNT (w.alloc (.cells #[natV n] 3)) (.slice (some ⟨w.heap.size,0,none⟩) 1 1) [n]:=
 ⟨rfl,.inr ⟨w.heap.size,1,#[natV n],rfl,Qm _,Qp w _,Qd _,by decide,rfl,rfl⟩⟩
def FromN(w:World)(g n:Nat)(F:Nat->Nat):Prop:=w.heap[g]? = some (.cells ((List.range n).map λi=>natV (F i)).toArray 3 (0,0))
theorem FromN.cell{w:World}{g n:Nat}{F:Nat->Nat}(h:FromN w g n F)(k:Nat)(a:k<n):w.cell? ⟨g,k,none⟩=some (.int .i64 ((F k:Nat):Int))/\w.frozen? ⟨g,k,none⟩=false:=
 ⟨(Qf w g k _ _ _ h).trans (by simp[a,natV]),ZJ w g k _ _ h⟩
theorem FromN.keep{w w':World}{g n:Nat}{F:Nat->Nat}(h:FromN w g n F)(a:w'.heap[g]? = w.heap[g]?):FromN w' g n F:=a.trans h
theorem FromN.set{w:World}{g n:Nat}{F:Nat->Nat}(h:FromN w g n F)(k v:Nat):FromN (w.setCell ⟨g,k,none⟩ (.int .i64 (v:Int))) g n (upd F k v):=by
 have h1:=Q2 w g k _ _ (.int .i64 (v:Int)) h;unfold FromN;rw[h1,Q0]
 congr 3
 apply List.ext_getElem (by simp)
 intro i h2 a;simp only[Xn,Qh,List.length_range]at h2;rw[List.getElem_set];simp only[Zd,List.getElem_range,upd]
 by_cases c:k=i
 ·subst c;simp[natV]
 ·rw[Qe c,Qe (λe=>c e.symm)]
theorem zmV:(prog.info? 3).map (λi=>(i.zero,i.size,i.bytes))=some (some (.int .i64 0),1,8):=by kernel_rfl
section
variable {ops:Array Oper} {rest:List Oper} {o:Oper} {a:Act} {Q:Exit->Act->World->Prop} {w:World}
theorem znI{K:Act->World->Prop}(s x:Operand)(F:o.op=.call {callee:=.builtin .append,args:=#[s,x],argTypes:=#[31,31]})
 (v:Value) (l:List Nat) (I:a.eval s=v) (f:OwnNT w v l)
 (y:List Value) (b:List Nat) (L:y=b.map natV) (z:Nat) (r:w.heap.size=z) (c:Nat) (J:a.eval x=.slice (some ⟨z,0,none⟩) b.length c) (t:0<b.length)
 (A:l.length+b.length<=1048576)
 (h:∀g cap w',OwnNT w' (.slice (some ⟨g,0,none⟩) (l++b).length cap) (l++b)->(∀k,k<w.heap.size->v.ownBlock≠some k->w'.heap[k]? = w.heap[k]?)->(v.ownBlock=some g\/w.heap.size<=g)->g<w'.heap.size->w.heap.size<w'.heap.size->Below 0 w w'->K (a.put o.dst (.slice (some ⟨g,0,none⟩) (l++b).length cap)) w'):
 o.wp prog a (w.alloc (.cells y.toArray 3)) K Q:=by
 subst L;subst r
 obtain⟨E,q,j,m,p⟩:=ZC zmV;have d:=World.ownsRow.alloc f (.cells (b.map natV).toArray 3)
 refine wp_append_lies (P:=prog) (w.alloc (.cells (b.map natV).toArray 3)) s x 31 F 0 3 E (.int .i64 0) 1 8 underlying31 q j m p rfl (by decide) v l.length (l.map natV) I d
  ⟨w.heap.size,0,none⟩ b.length c (b.map natV) J (by simp) (zeb w _ _) (λu G=>by obtain⟨n,_,rfl⟩:=QO.1 G;rfl) t (by unfold maxLen;omega) (by omega) (Qm _) (w.heap.size+1) (by simp) ?_
 intro g cap w' h1 h2 H C;have D:=h2.size;rw[Qr]at D;rw[<-QU,<-Qa]at h1;rw[<-Qa];exact h g cap w' h1 (λk B i=>(h2.block k (by simp;omega) (λe=>i e.symm)).trans (Qt _ _ _ B)) (H.imp_right λe=>by omega) C (by omega) (((Qg _ _).alloc (Qm _) _).trans ⟨h2.os,h2.tape,h2.output,h2.size,λ_ q=>absurd q (by omega)⟩)
theorem zas(f:o.guard=none)(s x:Operand)(t:o.op=.call {callee:=.builtin .append,args:=#[s,x],argTypes:=#[31,31]})
 (v:Value) (l:List Nat) (y:a.eval s=v) (d:OwnNT w v l)
 (i:List Value) (b:List Nat) (B:i=b.map natV) (j:Nat) (m:w.heap.size=j) (c:Nat) (z:a.eval x=.slice (some ⟨j,0,none⟩) b.length c) (n:0<b.length)
 (e:l.length+b.length<=1048576)
 (h:∀g cap w',OwnNT w' (.slice (some ⟨g,0,none⟩) (l++b).length cap) (l++b)->(∀k,k<w.heap.size->v.ownBlock≠some k->w'.heap[k]? = w.heap[k]?)->(v.ownBlock=some g\/w.heap.size<=g)->g<w'.heap.size->w.heap.size<w'.heap.size->Below 0 w w'->wpList prog ops Q rest (a.put o.dst (.slice (some ⟨g,0,none⟩) (l++b).length cap)) w'):
 wpList prog ops Q (o::rest) a (w.alloc (.cells i.toArray 3)):=
 Xs f λ_ q=>znI s x t v l y d i b B j m c z n e λg cap w' h1 h2 u p r A=>q _ _ (h g cap w' h1 h2 u p r A)
end
def unmet(n:Nat)(G:Nat->Nat):Nat:=((List.range n).filter λi=>G i==0).length
theorem zds(n:Nat)(G:Nat->Nat):unmet (n+1) G=unmet n G+if G n=0 then 1 else 0:=by
 unfold unmet;rw[List.range_succ,ZM,Qa]
 by_cases c:G n=0
 ·simp[c]
 ·simp[c]
theorem zqj{n:Nat}{G H:Nat->Nat}(h:∀i,i<n->(G i=0↔H i=0)):unmet n G=unmet n H:=by
 induction n with
 |zero=>rfl
 |succ n ih=>
  rw[zds,zds,ih λi a=>h i (by omega)]
  by_cases c:G n=0
  ·rw[Qi c,Qi ((h n (by omega)).1 c)]
  ·rw[Qe c,Qe λe=>c ((h n (by omega)).2 e)]
theorem zmZ{n k v:Nat}{G:Nat->Nat}(d:k<n)(b:G k=0)(a:v≠0):unmet n (upd G k v)+1=unmet n G:=by
 induction n with
 |zero=>omega
 |succ n ih=>
  rw[zds,zds]
  by_cases c:k=n
  ·subst c
   rw[Qi b,Qe (by unfold upd;rw[Qi rfl];exact a)];rw[zqj (H:=G) λi f=>by unfold upd;rw[Qe (by omega)]]
  ·have h1:=ih (by omega)
   have h2:upd G k v n=G n:=by unfold upd;rw[Qe λe=>c e.symm]
   rw[h2];omega
theorem zpd(n:Nat)(G:Nat->Nat):unmet n G<=n:=by
 induction n with
 |zero=>exact Qd _
 |succ n ih=>rw[zds];split <;> omega
def zAs:Value->Bool
 |.int _ m=>m==0
 |_=>false
def zmF(w:World)(g:Nat):Nat:=match w.heap[g]? with
 |some (.cells cs _ _)=>(cs.toList.filter zAs).length
 |_=>0
theorem FromN.unmet{w:World}{g n:Nat}{F:Nat->Nat}(h:FromN w g n F):zmF w g=unmet n F:=by
 unfold FromN at h;unfold zmF;rw[h];dsimp only;unfold Go.Proofs.YtnnokglddolglaaGreatDoor.unmet;rw[List.filter_map,Qh]
 congr 1
 apply List.filter_congr
 intro i _;show ((F i:Int)==0)=(F i==0)
 by_cases c:F i=0
 ·rw[c];rfl
 ·rw[Qb.2 c,Qb.2 (by omega)]
def lenV:Value->Nat
 |.slice _ n _=>n
 |_=>0
def ThB(w:World)(d:Nat)(e:Value)(s:ByteArray)(a n:Nat)(c:Value):Prop:=∃b,w.heap[d]? = some (.cells #[e,.string s,.slice (some ⟨a,0,none⟩) n b,c] 374 (0,0))
theorem ThB.cells{w:World}{a:Nat}{e:Value}{s:ByteArray}{c n:Nat}{d:Value}(h:ThB w a e s c n d):
 w.cell? ⟨a,0,none⟩=some e/\w.cell? ⟨a,1,none⟩=some (.string s)/\(∃b,w.cell? ⟨a,2,none⟩=some (.slice (some ⟨c,0,none⟩) n b))/\w.cell? ⟨a,3,none⟩=some d/\w.frozen? ⟨a,3,none⟩=false:=by
 obtain⟨b,h⟩:=h;exact⟨Qf w a 0 _ _ _ h,Qf w a 1 _ _ _ h,⟨b,Qf w a 2 _ _ _ h⟩,Qf w a 3 _ _ _ h,ZJ w a 3 _ _ h⟩
theorem ThB.keep{w w':World}{a:Nat}{d:Value}{s:ByteArray}{b n:Nat}{c:Value}(h:ThB w a d s b n c)(e:w'.heap[a]? = w.heap[a]?):ThB w' a d s b n c:=by
 obtain⟨f,h⟩:=h;exact⟨f,e.trans h⟩
theorem ThB.set{w:World}{a:Nat}{c:Value}{s:ByteArray}{b n:Nat}{d:Value}(h:ThB w a c s b n d)(u:Value):ThB (w.setCell ⟨a,3,none⟩ u) a c s b n u:=by
 obtain⟨e,h⟩:=h;exact⟨e,Q2 w a 3 _ _ u h⟩
structure ThM(w:World)(gt:Nat)(pv:Value)(s:ByteArray)(gF n:Nat)(vl:Value)(G:Nat->Nat)(lg:List Nat):Prop where
 blk:ThB w gt pv s gF n vl
 frm:FromN w gF n G
 lst:OwnNT w vl lg
 far:vl.ownBlock≠some gF
 len:lg.length+unmet n G<=n
theorem ThM.ne{w:World}{b:Nat}{i:Value}{s:ByteArray}{d n:Nat}{c:Value}{G:Nat->Nat}{f:List Nat}(h:ThM w b i s d n c G f):b≠d/\c.ownBlock≠some b:=by
 obtain⟨k,hb⟩:=h.blk
 constructor
 ·intro e
  have h2:=h.frm;unfold FromN at h2;rw[<-e,hb]at h2;injection h2 with h2
  injection h2 with _ h2 _
  exact absurd h2 (by decide)
 ·intro e
  rcases h.lst.2 with ⟨h1,_⟩|⟨g,cap,j,h1,_,a,_⟩
  ·rw[h1]at e;cases e
  ·rw[h1]at e
   injection e with e
   have e:g=b:=e;rw[e,hb]at a;injection a with a
   injection a with _ a _
   exact absurd a (by decide)
