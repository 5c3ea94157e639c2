/- Lemmas for the last texts. -/
import Derived.Test.YtnnokglddolglaaGreatDoorM00
import Derived.Test.YtnnokglddolglaaGreatDoorProg
import Derived.WalkKit
import Derived.WalkSpells
import Derived.WalkLawsBesides
import Derived.Lib.Hide
import Derived.StillTailTactics
import Derived.Deep.RegionLaw
namespace Go.Proofs.YtnnokglddolglaaGreatDoor
open Go.RowKit Go.Proofs.Tryz
theorem zac{k:IntKind}{a b:Int}(h:a=b):jC (.int k a)=jC (.int k b):=by rw[h]
theorem zsl{a b:ByteArray}(h:a=b):jC (.string a)=jC (.string b):=by rw[h]
theorem zaK{a b:Bool}(h:a=b):jC (.bool a)=jC (.bool b):=by rw[h]
def bs(l:jE):ByteArray:=⟨l.toArray⟩
theorem zah(l:jE):(bs l).data.toList=l:=rfl
theorem zc1(s:ByteArray):bs s.data.toList=s:=rfl
theorem zae(l:jE):(bs l).size=l.length:=rfl
theorem zge(l:jE):(bs l).toList=l:=by rw[Xj];rfl
theorem zh9(a b:jE):bs a++bs b=bs (a++b):=by
 show (bs a).append (bs b)=_
 apply XT
 have h:((bs a)++(bs b)).data=(bs a).data++(bs b).data:=by simp
 exact h.trans (by simp[bs])
attribute [go_sem] zae zge zah zh9
theorem zcq{p:UInt8->Bool}(h:(List.range 256).all (λn=>p (UInt8.ofNat n))=true)(b:UInt8):p b=true:=by
 have:=Zl.1 h b.toNat (ZP.2 b.toNat_lt)
 simpa using this
def zdX(b:UInt8):Value:=.int .u8 b.toNat
theorem zaH(s:ByteArray)(k:Nat)(h:k<s.size):s.data.toList.drop k=s[k]::s.data.toList.drop (k+1):=by
 rw[Zb (by simpa using h)];rfl
theorem zhC(s:ByteArray)(k:Nat)(h:k<s.size):s.data.toList.take (k+1)=s.data.toList.take k++[s[k]]:=by
 rw[Qs (by simpa using h)];rfl
def BytesAt(w:World)(g:Nat)(l:jE):Prop:=
 g<w.heap.size/\∀j (a:j<l.length),w.cell? ⟨g,j,none⟩=some (.int .u8 (l[j].toNat:Int))/\w.frozen? ⟨g,j,none⟩=false
theorem BytesAt.cell{w:World}{g:Nat}{l:jE}(h:BytesAt w g l){j:Nat}(a:j<l.length):w.cell? ⟨g,j,none⟩=some (.int .u8 (l[j].toNat:Int)):=(h.2 j a).1
theorem BytesAt.free{w:World}{g:Nat}{l:jE}(h:BytesAt w g l){j:Nat}(a:j<l.length):w.frozen? ⟨g,j,none⟩=false:=(h.2 j a).2
theorem ztq(w:World)(s:ByteArray)(c:Nat)(f:s.size<=c)(e:TypeId):
 BytesAt (w.drew.alloc (.cells (bytesRow s c) e ((bytesRow s c).size,(bytesRow s c).size+1))) w.heap.size s.data.toList:=by
 have d:(bytesRow s c).size=c:=by
  have:s.data.size=s.size:=rfl;simp[bytesRow];omega
 refine⟨by simp,λj b=>⟨?_,?_⟩⟩
 ·have a:j<s.data.size:=by simpa using b
  have:=World.cell?_alloc_mark w.drew (bytesRow s c) e ((bytesRow s c).size,(bytesRow s c).size+1) j;rw[show w.drew.heap.size=w.heap.size from rfl]at this;rw[this,bytesRow_at s c j a];simp
 ·have:=World.frozen?_alloc_mark w.drew (bytesRow s c) e (bytesRow s c).size ((bytesRow s c).size+1) j
  rw[show w.drew.heap.size=w.heap.size from rfl]at this;have a:j<s.size:=by simpa using b
  rw[this,d];simp;omega
theorem BytesAt.set{w:World}{g:Nat}{l:jE}(h:BytesAt w g l){k:Nat}(b:k<l.length)(x:UInt8):BytesAt (w.setCell ⟨g,k,none⟩ (.int .u8 x.toNat)) g (l.set k x):=by
 refine⟨by simpa[World.setCell]using h.1,λj c=>?_⟩;have a:j<l.length:=by simpa using c
 by_cases e:k=j
 ·subst e
  refine⟨?_,by rw[World.frozen?_setCell];exact h.free b⟩;rw[ZA _ _ _ (h.cell b)];simp
 ·refine⟨?_,by rw[World.frozen?_setCell];exact h.free a⟩
  rw[QT _ _ _ _ (by intro q;cases q;exact e rfl),h.cell a];simp[e]
theorem zba(g j:Nat):(⟨g,0,none⟩:Addr).add j=⟨g,j,none⟩:=by unfold Addr.add;split <;> simp_all
theorem zcQ{P:Program}{w:World}{g:Nat}{l:jE}(h:BytesAt w g l)(src dst e:TypeId)(n c:Nat)(i:n=l.length)
 (f:P.underlying src=some (.slice e)) (d:P.underlying e=some (.int .u8)) (a:P.underlying dst=some .string):
 (convert src dst (.slice g n c)).run P w=.ok (.string (bs l)) w:=by
 subst i;exact run_convert_bytes_back w src dst e ⟨g,0,none⟩ c l f d a (λj b=>by rw[zba];exact h.cell b)
theorem zgg{P:Program}{w:World}{base n:Nat}{v:Value}{l:jE}(src dst e:TypeId)(h:w.ownsRow base e 1 v n (l.map zdX))
 (d:P.underlying src=some (.slice e)) (f:P.underlying e=some (.int .u8)) (c:P.underlying dst=some .string):
 (convert src dst v).run P w=.ok (.string (bs l)) w:=by
 have a:n=l.length:=by have:=h.1;simp at this;omega
 rcases h.2 with ⟨rfl,q⟩|⟨g,cap,k,rfl,hb,r,m,i,o,b⟩
 ·have:l=[]:=QA (by omega)
  subst this;exact run_convert_bytes_nil w src e d f 0 0 dst c
 ·subst a
  refine run_convert_bytes_back w src dst e ⟨g,0,none⟩ cap l d f c (λj p=>?_);exact h.cells (g:=g) rfl j _ (by simp[Qd p,zdX])
theorem zgO{x:ByteArray}{l:jE}(h:x.data.toList=l):x=bs l:=by subst h;rfl
theorem zd2(w:World)(a:List Value)(t:TypeId):∀j u,a[j]? = some u->(w.alloc (.cells a.toArray t)).cell? ((⟨w.heap.size,0,none⟩:Addr).add j)=some u:=λj u h=>by
 rw[zba,Qf (w.alloc (.cells a.toArray t)) w.heap.size j a.toArray t (0,0) (Qt w _)]
 simpa using h
def OwnB(w:World)(base:Nat)(v:Value)(l:jE):Prop:=w.ownsRow base 5 1 v l.length (l.map zdX)
theorem OwnB.nil(w:World)(base:Nat):OwnB w base (jD 0 0) []:=ZU w base 5 1
theorem OwnB.string{w:World}{base:Nat}{v:Value}{l:jE}(h:OwnB w base v l):(convert 140 9 v).run prog w=.ok (.string (bs l)) w:=
 zgg 140 9 5 h underlying140 underlying5 underlying9
theorem zli:(prog.info? 5).map (λi=>(i.zero,i.size,i.bytes))=some (some (.int .u8 0),1,1):=by kernel_rfl
section
variable {P:Program} {ops:Array Oper} {rest:List Oper} {o:Oper} {a:Act} {Q:Exit->Act->World->Prop} {w:World}
theorem zeb(d:o.guard=none)(x:Operand)(src dst e:TypeId)(i:o.op=.convert src dst x)
 (k:P.underlying src=some .string) (f:P.underlying dst=some (.slice e)) (m:P.underlying e=some (.int .u8)) (s:ByteArray) (l:a.eval x=.string s)
 (h:∀(c:Nat) (w':World),s.size<=c->BytesAt w' w.heap.size s.data.toList->w w'->w'.heap.size=w.heap.size+1->
  wpList P ops Q rest (a.put o.dst (.slice w.heap.size s.size c)) w'):wpList P ops Q (o::rest) a w:=by
 refine Xe d λK g=>?_
 have j:=run_bytes_of_string (P:=P) w src dst e s k f m;unfold Oper.wp execOp;simp only[i,Xf,Sem.run_pure,Zx,l,j];have b:=grownCap_ge w s.size 0 e;exact g _ _ (h _ _ b (ztq w s _ b e) (((Qj _ w).drew).alloc (Qc _) _) (by simp))
theorem zkw{K:Act->World->Prop}(s x:Operand)(t:TypeId)(I:o.op=.call {callee:=.builtin .append,args:=#[s,x],argTypes:=#[t,t]})
 (base:Nat) (e:TypeId) (i:TypeInfo) (z:Value) (size b:Nat) (E:P.underlying t=some (.slice e)) (L:P.info? e=some i) (H:i.zero=some z)
 (l:i.size=size) (A:i.bytes=b) (C:z.cells.size=size) (y:0<size)
 (v:Value) (n:Nat) (xs:List Value) (J:a.eval s=v) (j:w.ownsRow base e size v n xs) (d:base<=w.heap.size)
 (f:List Value) (m c:Nat) (N:a.eval x=.slice w.heap.size m c) (hl:f.length=m*size) (h1:∀u∈f,u.oneCell'=true)
 (r:n+m<=maxLen) (g:(n+m)*b<=140737488355328)
 (h:∀v' w',w'.ownsRow base e size v' (n+m) (xs++f)->Below base w w'->base<=w'.heap.size->K (a.put o.dst v') w'):
 o.wp P a (w.alloc (.cells f.toArray e)) K Q:=by
 have p:=j.alloc (.cells f.toArray e);refine wp_append_own (P:=P) (w.alloc (.cells f.toArray e)) s x t I base e i z size b E L H l A C y v n xs J p ⟨w.heap.size,0,none⟩ m c f N hl (zd2 w f e) h1 r g (by simp;omega) ?_;intro v' w' B F _;have D:Below base w (w.alloc (.cells f.toArray e)):=(Qj _ _).alloc d _;have q:=D.grown F (by simp;omega) (λk G=>(j.lt k G).1);exact h v' w' B q (Ql d q.size)
end
section
variable {ops:Array Oper} {rest:List Oper} {o:Oper} {a:Act} {Q:Exit->Act->World->Prop} {w:World}
theorem znC{K:Act->World->Prop}(s x:Operand)(t:o.op=.call {callee:=.builtin .append,args:=#[s,x],argTypes:=#[140,140]})
 (base:Nat) (v:Value) (l:jE) (z:a.eval s=v) (f:OwnB w base v l) (e:base<=w.heap.size)
 (q:List Value) (d:jE) (C:q=d.map zdX) (m c:Nat) (B:a.eval x=.slice w.heap.size m c) (hl:d.length=m)
 (g:l.length+m<=140737488355328)
 (h:∀v' w',OwnB w' base v' (l++d)->Below base w w'->base<=w'.heap.size->K (a.put o.dst v') w'):
 o.wp prog a (w.alloc (.cells q.toArray 5)) K Q:=by
 subst C;subst hl
 obtain⟨r,A,j,k,n⟩:=ZG zli
 refine zkw s x 140 t base 5 r (.int .u8 0) 1 1 underlying140 A j k n rfl (by decide) v l.length (l.map zdX) z f e (d.map zdX) d.length c B (by simp)
  (λu y=>by obtain⟨b,_,rfl⟩:=QR.1 y;rfl) (by unfold maxLen;omega) (by omega) ?_
 intro v' w' p hb i;exact h v' w' (by unfold OwnB;rw[Qa,Q2];exact p) hb i
theorem zaf(g:o.guard=none)(s x:Operand)(k:o.op=.call {callee:=.builtin .append,args:=#[s,x],argTypes:=#[140,140]})
 (base:Nat) (v:Value) (l:jE) (p:a.eval s=v) (f:OwnB w base v l) (e:base<=w.heap.size)
 (i:List Value) (b:jE) (r:i=b.map zdX) (m c:Nat) (q:a.eval x=.slice w.heap.size m c) (hl:b.length=m)
 (d:l.length+m<=140737488355328)
 (h:∀v' w',OwnB w' base v' (l++b)->Below base w w'->base<=w'.heap.size->wpList prog ops Q rest (a.put o.dst v') w'):
 wpList prog ops Q (o::rest) a (w.alloc (.cells i.toArray 5)):=
 Xe g λ_ j=>znC s x k base v l p f e i b r m c q hl d λv' w' h1 h2 n=>j _ _ (h v' w' h1 h2 n)
end
structure Set4 where
 a:Int
 b:Int
 c:Int
 d:Int
deriving DecidableEq
def Set4.zero:Set4:=⟨0,0,0,0⟩
def Set4.word(s:Set4)(k:Nat):Int:=if k=0 then s.a else if k=1 then s.b else if k=2 then s.c else s.d
def hasB(s:Set4)(x:UInt8):Bool:=s.word (x.toNat / 64) / 2 ^ (x.toNat % 64) % 2==1
inductive Tree where
 |node (kind:Int) (set:Set4) (kids:List Tree)
def zhM(k:Int):Int:=if k=4\/k=5 then 2 else if k=6 then 1 else if k=1\/k=2\/k=3\/k=7\/k=8 then 0 else -1
def badT(k:Int)(s:Set4)(n:Nat):Bool:=zhM k != n||(k==3)==(decide (s=Set4.zero))
mutual
def chk:Tree->Int->Int->Int × Int
 |.node k s b,a,n=>
  if 80<n+1 then (n+1,2)else if 20<a then (n+1,11)else if badT k s b.length=true then (n+1,1)else chkL b (a+1) (n+1)
def chkL:List Tree->Int->Int->Int × Int
 | [],_,n=>(n,0)
 |t::b,a,n=>if (chk t a n).2≠0 then chk t a n else chkL b a (chk t a n).1
end
mutual
def Fine:Tree->Prop
 |.node k s a=>badT k s a.length=false/\zfz a
def zfz:List Tree->Prop
 | []=>True
 |t::a=>Fine t/\zfz a
end
mutual
theorem zkO:∀(t:Tree) (a n:Int),(chk t a n).2=0->Fine t
 |.node k s b,a,n,h=>by
  rw[chk]at h
  by_cases c1:80<n+1
  ·rw[Qg c1]at h;exact absurd (show (2:Int)=0 from h) (by decide)
  ·rw[Qe c1]at h
   by_cases c2:20<a
   ·rw[Qg c2]at h;exact absurd (show (11:Int)=0 from h) (by decide)
   ·rw[Qe c2]at h
    cases c3:badT k s b.length with
    |true=>rw[c3,Qg rfl]at h;exact absurd (show (1:Int)=0 from h) (by decide)
    |false=>
     rw[c3,Qe (by decide)]at h;rw[Fine];exact⟨c3,zmX b _ _ h⟩
theorem zmX:∀(b:List Tree) (a n:Int),(chkL b a n).2=0->zfz b
 | [],_,_,_=>by rw[zfz];trivial
 |t::b,a,n,h=>by
  rw[chkL]at h
  by_cases c:(chk t a n).2≠0
  ·rw[Qg c]at h;exact absurd h c
  ·rw[Qe c]at h
   rw[zfz];exact⟨zkO t a n (Z2.1 c),zmX b _ _ h⟩
end
inductive zkX:Int->List Tree->Prop
 |none:zkX 1 []
 |empty:zkX 2 []
 |byte:zkX 3 []
 |cat (a b:Tree):Fine a->Fine b->zkX 4 [a,b]
 |alt (a b:Tree):Fine a->Fine b->zkX 5 [a,b]
 |star (a:Tree):Fine a->zkX 6 [a]
 |begin:zkX 7 []
 |finish:zkX 8 []
theorem zq2{k:Int}{s:Set4}{e:List Tree}(h:Fine (.node k s e)):zkX k e:=by
 rw[Fine]at h;obtain⟨h1,h2⟩:=h;unfold badT at h1
 have d:zhM k=e.length:=by
  cases f:(zhM k != (e.length:Int))with
  |true=>rw[f]at h1;simp at h1
  |false=>simpa using f
 unfold zhM at d
 by_cases c1:k=4\/k=5
 ·rw[Qg c1]at d
  match e,d,h2 with
  | [a,b],_,h2=>
   rw[zfz,zfz]at h2
   rcases c1 with rfl|rfl
   ·exact .cat a b h2.1 h2.2.1
   ·exact .alt a b h2.1 h2.2.1
  | [],d,_=>exact absurd d (by decide)
  | [a],d,_=>exact absurd d (by simp)
  |a::b::c::r,d,_=>simp only[Qn]at d;omega
 ·rw[Qe c1]at d
  by_cases c2:k=6
  ·rw[Qg c2]at d
   subst c2
   match e,d,h2 with
   | [a],_,h2=>rw[zfz]at h2;exact .star a h2.1
   | [],d,_=>exact absurd d (by decide)
   |a::b::r,d,_=>simp only[Qn]at d;omega
  ·rw[Qe c2]at d
   by_cases c3:k=1\/k=2\/k=3\/k=7\/k=8
   ·rw[Qg c3]at d
    have:e=[]:=QA (by omega);subst this
    rcases c3 with rfl|rfl|rfl|rfl|rfl
    ·exact .none
    ·exact .empty
    ·exact .byte
    ·exact .begin
    ·exact .finish
   ·rw[Qe c3]at d;omega
inductive M (l:List UInt8):Tree->Nat->Nat->Prop
 |empty (s:Set4) (i:Nat):i<=l.length->M l (.node 2 s []) i i
 |byte (s:Set4) (i:Nat) (x:UInt8):l[i]? = some x->hasB s x=true->M l (.node 3 s []) i (i+1)
 |cat (s:Set4) (a b:Tree) (i j k:Nat):M l a i j->M l b j k->M l (.node 4 s [a,b]) i k
 |altl (s:Set4) (a b:Tree) (i j:Nat):M l a i j->M l (.node 5 s [a,b]) i j
 |altr (s:Set4) (a b:Tree) (i j:Nat):M l b i j->M l (.node 5 s [a,b]) i j
 |nil (s:Set4) (a:Tree) (i:Nat):i<=l.length->M l (.node 6 s [a]) i i
 |more (s:Set4) (a:Tree) (i j k:Nat):M l (.node 6 s [a]) i j->M l a j k->M l (.node 6 s [a]) i k
 |begin (s:Set4):M l (.node 7 s []) 0 0
 |finish (s:Set4):M l (.node 8 s []) l.length l.length
theorem M.le{l:jE}{t:Tree}{i j:Nat}(h:M l t i j):i<=j/\j<=l.length:=by
 induction h with
 |empty s i h=>exact⟨Qc _,h⟩
 |byte s i x h _=>have:=(Qw.1 h).1;omega
 |cat s a b i j k _ _ h1 h2=>omega
 |altl s a b i j _ h=>exact h
 |altr s a b i j _ h=>exact h
 |nil s a i h=>exact⟨Qc _,h⟩
 |more s a i j k _ _ h1 h2=>omega
 |begin s=>omega
 |finish s=>omega
structure Ins where
 kind:Int
 a:Int
 b:Int
 set:Set4
deriving DecidableEq
inductive Code:Tree->Nat->List Ins->Prop
 |none (S:Set4) (at_:Nat):Code (.node 1 S []) at_ [⟨1,0,0,S⟩]
 |empty (S:Set4) (at_:Nat):Code (.node 2 S []) at_ []
 |byte (S:Set4) (at_:Nat):Code (.node 3 S []) at_ [⟨1,0,0,S⟩]
 |begin (S:Set4) (at_:Nat):Code (.node 7 S []) at_ [⟨4,0,0,.zero⟩]
 |finish (S:Set4) (at_:Nat):Code (.node 8 S []) at_ [⟨5,0,0,.zero⟩]
 |cat (S:Set4) (a b:Tree) (at_:Nat) (la lb:List Ins):Code a at_ la->Code b (at_+la.length) lb->Code (.node 4 S [a,b]) at_ (la++lb)
 |alt (S:Set4) (a b:Tree) (at_:Nat) (la lb:List Ins):Code a (at_+1) la->Code b (at_+1+la.length+1) lb->
  Code (.node 5 S [a,b]) at_ (⟨2,at_+1,(at_+1+la.length+1:Nat),.zero⟩::(la++⟨3,(at_+1+la.length+1+lb.length:Nat),0,.zero⟩::lb))
 |star (S:Set4) (a:Tree) (at_:Nat) (la:List Ins):Code a (at_+1) la->
  Code (.node 6 S [a]) at_ (⟨2,at_+1,(at_+1+la.length+1:Nat),.zero⟩::(la++[⟨3,at_,0,.zero⟩]))
inductive Eps (P:List Ins) (s:List UInt8) (i:Nat):Nat->Nat->Prop
 |one (n:Nat) (x:Ins):P[n]? = some x->x.kind=2->Eps P s i n x.a.toNat
 |two (n:Nat) (x:Ins):P[n]? = some x->x.kind=2->Eps P s i n x.b.toNat
 |jump (n:Nat) (x:Ins):P[n]? = some x->x.kind=3->Eps P s i n x.a.toNat
 |begin (n:Nat) (x:Ins):P[n]? = some x->x.kind=4->i=0->Eps P s i n (n+1)
 |finish (n:Nat) (x:Ins):P[n]? = some x->x.kind=5->i=s.length->Eps P s i n (n+1)
def zcB(P:List Ins)(s:jE)(i n:Nat):Prop:=∃x c,P[n]? = some x/\x.kind=1/\s[i]? = some c/\hasB x.set c=true
inductive Path (P:List Ins) (s:List UInt8) (N j:Nat):Nat->Nat->Nat->Prop
 |here:Path P s N j 0 N j
 |eps (L n m i:Nat):Eps P s i n m->Path P s N j L m i->Path P s N j (L+1) n i
 |byte (L n i:Nat):zcB P s i n->Path P s N j L (n+1) (i+1)->Path P s N j (L+1) n i
theorem Path.trans{P:List Ins}{s:jE}{N j c b L:Nat}{n i:Nat}(h:Path P s N j L n i):∀{a},Path P s c b a N j->Path P s c b (L+a) n i:=by
 induction h with
 |here=>intro a h2;rw[Zh];exact h2
 |eps L n m i h1 _ ih=>intro a h2;rw[show L+1+a=(L+a)+1 by omega];exact .eps _ _ _ _ h1 (ih h2)
 |byte L n i h1 _ ih=>intro a h2;rw[show L+1+a=(L+a)+1 by omega];exact .byte _ _ _ h1 (ih h2)
def Lies(P:List Ins)(at_:Nat)(l:List Ins):Prop:=∀k,k<l.length->P[at_+k]? = l[k]?
theorem Lies.left{P:List Ins}{at_:Nat}{l m:List Ins}(h:Lies P at_ (l++m)):Lies P at_ l:=λk a=>by
 rw[h k (by rw[Qa];omega),Zj a]
theorem Lies.right{P:List Ins}{at_:Nat}{l m:List Ins}(h:Lies P at_ (l++m)):Lies P (at_+l.length) m:=λk a=>by
 rw[Zk,h (l.length+k) (by rw[Qa];omega),Q0 (by omega),Nat.add_sub_cancel_left]
theorem Lies.tail{P:List Ins}{at_:Nat}{x:Ins}{l:List Ins}(h:Lies P at_ (x::l)):P[at_]? = some x/\Lies P (at_+1) l:=
 ⟨h 0 (by simp),λk a=>by rw[show at_+1+k=at_+(k+1)by omega,h (k+1) (by simpa using a)];rfl⟩
theorem M.front{s:jE}{S:Set4}{a:Tree}{i k j:Nat}(h1:M s a i k)(h2:M s (.node 6 S [a]) k j):M s (.node 6 S [a]) i j:=by
 have:∀t k j,M s t k j->t=.node 6 S [a]->∀i,M s a i k->M s (.node 6 S [a]) i j:=by
  intro t k j h
  induction h with
  |nil c d q n=>intro e i f;exact .more S a i i q (.nil S a i (by have:=f.le;omega)) f
  |more c d q r u o l g _=>
   intro e i f;have m:=g e i f;injection e with _ _ e
   injection e with e _
   subst e;exact .more S d i r u m l
  |empty c q _=>intro e;exact absurd e (by intro e;injection e with e;exact absurd e (by decide))
  |byte c q x _ _=>intro e;exact absurd e (by intro e;injection e with e;exact absurd e (by decide))
  |cat c d b q r u _ _ _ _=>intro e;exact absurd e (by intro e;injection e with e;exact absurd e (by decide))
  |altl c d b q r _ _=>intro e;exact absurd e (by intro e;injection e with e;exact absurd e (by decide))
  |altr c d b q r _ _=>intro e;exact absurd e (by intro e;injection e with e;exact absurd e (by decide))
  |begin c=>intro e;exact absurd e (by intro e;injection e with e;exact absurd e (by decide))
  |finish c=>intro e;exact absurd e (by intro e;injection e with e;exact absurd e (by decide))
 exact this _ k j h2 rfl i h1
theorem zbU{P:List Ins}{s:jE}{N j L n i:Nat}{x:Ins}(h:Path P s N j L n i)(k:P[n]? = some x)(q:N≠n):
 ∃e,L=e+1/\((x.kind=2/\(Path P s N j e x.a.toNat i\/Path P s N j e x.b.toNat i))\/(x.kind=3/\Path P s N j e x.a.toNat i)\/(x.kind=4/\i=0/\Path P s N j e (n+1) i)\/
  (x.kind=5/\i=s.length/\Path P s N j e (n+1) i)\/(x.kind=1/\∃c,s[i]? = some c/\hasB x.set c=true/\Path P s N j e (n+1) (i+1))):=by
 cases h with
 |here=>exact absurd rfl q
 |eps e _ m _ p g=>
  refine⟨e,rfl,?_⟩;cases p with
  |one y d f=>rw[k]at d;injection d with d;subst d;exact .inl ⟨f,.inl g⟩
  |two y d f=>rw[k]at d;injection d with d;subst d;exact .inl ⟨f,.inr g⟩
  |jump y d f=>rw[k]at d;injection d with d;subst d;exact .inr (.inl ⟨f,g⟩)
  |begin y d f l=>rw[k]at d;injection d with d;subst d;exact .inr (.inr (.inl ⟨f,l,g⟩))
  |finish y d f l=>rw[k]at d;injection d with d;subst d;exact .inr (.inr (.inr (.inl ⟨f,l,g⟩)))
 |byte e _ _ hb g=>
  obtain⟨y,c,d,f,r,o⟩:=hb;rw[k]at d;injection d with d;subst d
  exact⟨e,rfl,.inr (.inr (.inr (.inr ⟨f,c,r,o,g⟩)))⟩
theorem zry{S:Set4}(h:Fine (.node 1 S []))(c:UInt8):hasB S c=false:=by
 rw[Fine]at h;have h1:=h.1;unfold badT at h1
 have h2:S=Set4.zero:=by
  cases a:decide (S=Set4.zero)with
  |true=>exact Zr a
  |false=>rw[a]at h1;simp at h1
 subst h2;unfold hasB Set4.word Set4.zero;simp
theorem zh8{k:Int}{S:Set4}{a:List Tree}(h:Fine (.node k S a)):zfz a:=by rw[Fine]at h;exact h.2
theorem zo5{a b:Tree}(h:zfz [a,b]):Fine a/\Fine b:=by rw[zfz,zfz]at h;exact⟨h.1,h.2.1⟩
theorem zuI{a:Tree}(h:zfz [a]):Fine a:=by rw[zfz]at h;exact h.1
theorem zwf{P:List Ins}{s:jE}{N j:Nat}{t:Tree}{at_:Nat}{l:List Ins}(O:Code t at_ l):Lies P at_ l->(N<at_\/at_+l.length<=N)->Fine t->
 ∀L i,i<=s.length->Path P s N j L at_ i->∃k f,f<=L/\M s t i k/\Path P s N j f (at_+l.length) k:=by
 induction O with
 |none S at_=>
  intro hl p v L i o g;obtain⟨f,_,h⟩:=zbU g hl.tail.1 (by simp at p;omega)
  rcases h with ⟨h,_⟩|⟨h,_⟩|⟨h,_⟩|⟨h,_⟩|⟨_,c,_,h,_⟩
  ·cases h
  ·cases h
  ·cases h
  ·cases h
  ·rw[zry v]at h;cases h
 |empty S at_=>
  intro _ _ _ L i o g;exact⟨i,L,Qc _,.empty S i o,g⟩
 |byte S at_=>
  intro hl p v L i o g;obtain⟨f,E,h⟩:=zbU g hl.tail.1 (by simp at p;omega)
  rcases h with ⟨h,_⟩|⟨h,_⟩|⟨h,_⟩|⟨h,_⟩|⟨_,c,O,h,d⟩
  ·cases h
  ·cases h
  ·cases h
  ·cases h
  ·exact⟨i+1,f,by omega,.byte S i c O h,d⟩
 |begin S at_=>
  intro hl p v L i o g;obtain⟨f,E,h⟩:=zbU g hl.tail.1 (by simp at p;omega)
  rcases h with ⟨h,_⟩|⟨h,_⟩|⟨_,F,d⟩|⟨h,_⟩|⟨h,_⟩
  ·cases h
  ·cases h
  ·subst F;exact⟨0,f,by omega,.begin S,d⟩
  ·cases h
  ·cases h
 |finish S at_=>
  intro hl p v L i o g;obtain⟨f,E,h⟩:=zbU g hl.tail.1 (by simp at p;omega)
  rcases h with ⟨h,_⟩|⟨h,_⟩|⟨h,_⟩|⟨_,F,d⟩|⟨h,_⟩
  ·cases h
  ·cases h
  ·cases h
  ·subst F;exact⟨_,f,by omega,.finish S,d⟩
  ·cases h
 |cat S a b at_ m x _ _ q B=>
  intro hl p v L i o g;rw[Qa]at p;have n:=zo5 (zh8 v);obtain⟨k,D,h1,w,A⟩:=q hl.left (by omega) n.1 L i o g;obtain⟨Q,C,h2,U,y⟩:=B hl.right (by omega) n.2 D k w.le.2 A;exact⟨Q,C,by omega,.cat S a b i k Q w U,by rw[Qa,<-Zk];exact y⟩
 |alt S a b at_ m x _ _ q B=>
  intro hl p v L i o g;have n:=zo5 (zh8 v)
  have r:(⟨2,at_+1,(at_+1+m.length+1:Nat),.zero⟩::(m++⟨3,(at_+1+m.length+1+x.length:Nat),0,.zero⟩::x):List Ins).length=1+m.length+1+x.length:=by
   simp only[Qn,Qa];omega
  rw[r]at p ⊢;obtain⟨H,u⟩:=hl.tail;have z:=u.left;obtain⟨I,G⟩:=u.right.tail;obtain⟨f,E,h⟩:=zbU g H (by omega)
  rcases h with ⟨_,d|d⟩|⟨h,_⟩|⟨h,_⟩|⟨h,_⟩|⟨h,_⟩
  ·have e:((at_:Int)+1).toNat=at_+1:=by omega
   rw[e]at d;obtain⟨k,D,h1,w,A⟩:=q z (by omega) n.1 f i o d;obtain⟨C,K,h2⟩:=zbU A I (by omega)
   rcases h2 with ⟨h,_⟩|⟨_,y⟩|⟨h,_⟩|⟨h,_⟩|⟨h,_⟩
   ·cases h
   ·rw[Q8]at y
    exact⟨k,C,by omega,.altl S a b i k w,by rw[show at_+(1+m.length+1+x.length)=at_+1+m.length+1+x.length by omega];exact y⟩
   ·cases h
   ·cases h
   ·cases h
  ·rw[Q8]at d
   obtain⟨k,D,h1,w,A⟩:=B G (by omega) n.2 f i o d;exact⟨k,D,by omega,.altr S a b i k w,by rw[show at_+(1+m.length+1+x.length)=at_+1+m.length+1+x.length by omega];exact A⟩
  ·cases h
  ·cases h
  ·cases h
  ·cases h
 |star S a at_ m _ q=>
  intro hl p v L;have n:=zuI (zh8 v)
  have r:(⟨2,at_+1,(at_+1+m.length+1:Nat),.zero⟩::(m++[⟨3,at_,0,.zero⟩]):List Ins).length=1+m.length+1:=by
   simp only[Qn,Qa,QS];omega
  rw[r]at p ⊢;obtain⟨H,u⟩:=hl.tail;have z:=u.left;obtain⟨I,_⟩:=u.right.tail
  induction L using Nat.strongRecOn with
  |ind L J=>
   intro i o g;obtain⟨f,E,h⟩:=zbU g H (by omega)
   rcases h with ⟨_,d|d⟩|⟨h,_⟩|⟨h,_⟩|⟨h,_⟩|⟨h,_⟩
   ·have e:((at_:Int)+1).toNat=at_+1:=by omega
    rw[e]at d;obtain⟨k,D,h1,w,A⟩:=q z (by omega) n f i o d;obtain⟨C,K,h2⟩:=zbU A I (by omega)
    rcases h2 with ⟨h,_⟩|⟨_,y⟩|⟨h,_⟩|⟨h,_⟩|⟨h,_⟩
    ·cases h
    ·rw[Q8]at y
     obtain⟨X,W,Y,V,T⟩:=J C (by omega) k w.le.2 y;exact⟨X,W,by omega,w.front V,T⟩
    ·cases h
    ·cases h
    ·cases h
   ·rw[Q8]at d
    exact⟨i,f,by omega,.nil S a i o,by rw[show at_+(1+m.length+1)=at_+1+m.length+1 by omega];exact d⟩
   ·cases h
   ·cases h
   ·cases h
   ·cases h
theorem zxf{P:List Ins}{s:jE}{t:Tree}{at_:Nat}{l:List Ins}(K:Code t at_ l):Lies P at_ l->∀i j,M s t i j->∃L,Path P s (at_+l.length) j L at_ i:=by
 induction K with
 |none S at_=>intro _ i j m;cases m
 |empty S at_=>intro _ i j m;cases m;exact⟨0,.here⟩
 |byte S at_=>
  intro hl i j m;cases m with
  |byte _ _ x h1 h2=>exact⟨1,.byte _ _ _ ⟨_,x,hl.tail.1,rfl,h1,h2⟩ .here⟩
 |begin S at_=>intro hl i j m;cases m;exact⟨1,.eps _ _ _ _ (.begin _ _ hl.tail.1 rfl rfl) .here⟩
 |finish S at_=>intro hl i j m;cases m;exact⟨1,.eps _ _ _ _ (.finish _ _ hl.tail.1 rfl rfl) .here⟩
 |cat S a b at_ d z _ _ f w=>
  intro hl i j m;cases m with
  |cat _ _ _ _ k _ y E=>
   obtain⟨C,o⟩:=f hl.left i k y;obtain⟨J,F⟩:=w hl.right k j E;exact⟨C+J,o.trans (by rw[Qa,<-Zk];exact F)⟩
 |alt S a b at_ d z _ _ f w=>
  intro hl i j m
  have g:(⟨2,at_+1,(at_+1+d.length+1:Nat),.zero⟩::(d++⟨3,(at_+1+d.length+1+z.length:Nat),0,.zero⟩::z):List Ins).length=1+d.length+1+z.length:=by
   simp only[Qn,Qa];omega
  rw[g,show at_+(1+d.length+1+z.length)=at_+1+d.length+1+z.length by omega];obtain⟨B,n⟩:=hl.tail;obtain⟨I,H⟩:=n.right.tail;cases m with
  |altl _ _ _ _ _ y=>
   obtain⟨C,o⟩:=f n.left i j y;have c:=Eps.one (s:=s) (i:=i) at_ _ B rfl;have e:((at_:Int)+1).toNat=at_+1:=by omega
   dsimp only at c;rw[e]at c;have v:=Eps.jump (s:=s) (i:=j) _ _ I rfl;dsimp only at v;rw[Q8]at v;exact⟨_,.eps _ _ _ _ c (o.trans (.eps _ _ _ _ v .here))⟩
  |altr _ _ _ _ _ y=>
   obtain⟨C,o⟩:=w H i j y;have c:=Eps.two (s:=s) (i:=i) at_ _ B rfl;dsimp only at c;rw[Q8]at c;exact⟨_,.eps _ _ _ _ c o⟩
 |star S a at_ d _ f=>
  intro hl i j m
  have g:(⟨2,at_+1,(at_+1+d.length+1:Nat),.zero⟩::(d++[⟨3,at_,0,.zero⟩]):List Ins).length=1+d.length+1:=by
   simp only[Qn,Qa,QS];omega
  rw[g,show at_+(1+d.length+1)=at_+1+d.length+1 by omega];obtain⟨B,n⟩:=hl.tail;obtain⟨I,_⟩:=n.right.tail
  have A:∀t i j,M s t i j->t=.node 6 S [a]->∃L,Path P s at_ j L at_ i:=by
   intro t i j h
   induction h with
   |nil p D q _=>intro _;exact⟨0,.here⟩
   |more p D q r u y E G _=>
    intro e;obtain⟨C,o⟩:=G e;injection e with _ _ e
    injection e with e _
    subst e;obtain⟨J,F⟩:=f n.left r u E;have c:=Eps.one (s:=s) (i:=r) at_ _ B rfl;have e:((at_:Int)+1).toNat=at_+1:=by omega
    dsimp only at c;rw[e]at c;have v:=Eps.jump (s:=s) (i:=u) _ _ I rfl;dsimp only at v;rw[Q8]at v;exact⟨_,o.trans (.eps _ _ _ _ c (F.trans (.eps _ _ _ _ v .here)))⟩
   |empty p q _=>intro e;exact absurd e (by intro e;injection e with e;exact absurd e (by decide))
   |byte p q x _ _=>intro e;exact absurd e (by intro e;injection e with e;exact absurd e (by decide))
   |cat p D b q r u _ _ _ _=>intro e;exact absurd e (by intro e;injection e with e;exact absurd e (by decide))
   |altl p D b q r _ _=>intro e;exact absurd e (by intro e;injection e with e;exact absurd e (by decide))
   |altr p D b q r _ _=>intro e;exact absurd e (by intro e;injection e with e;exact absurd e (by decide))
   |begin p=>intro e;exact absurd e (by intro e;injection e with e;exact absurd e (by decide))
   |finish p=>intro e;exact absurd e (by intro e;injection e with e;exact absurd e (by decide))
  obtain⟨C,o⟩:=A _ i j m rfl;have c:=Eps.two (s:=s) (i:=j) at_ _ B rfl;dsimp only at c;rw[Q8]at c;exact⟨_,o.trans (.eps _ _ _ _ c .here)⟩
theorem zoY{s:jE}{t:Tree}{l:List Ins}(f:Code t 0 l)(g:Fine t)(x:Ins)(d:x.kind=6)(i j:Nat)(h:i<=s.length):(∃L,Path (l++[x]) s l.length j L 0 i)↔M s t i j:=by
 have hl:Lies (l++[x]) 0 l:=λk b=>by rw[Zh,Zj b]
 constructor
 ·rintro⟨L,p⟩
  obtain⟨k,o,_,m,e⟩:=zwf f hl (.inr (by omega)) g L i h p;rw[Zh]at e;have hM:(l++[x])[l.length]? = some x:=by rw[Q0 (Qc _)];simp
  have:k=j:=by
   cases e with
   |here=>rfl
   |eps _ _ q _ n _=>
    cases n with
    |one y a b=>rw[hM]at a;injection a with a;rw[<-a,d]at b;cases b
    |two y a b=>rw[hM]at a;injection a with a;rw[<-a,d]at b;cases b
    |jump y a b=>rw[hM]at a;injection a with a;rw[<-a,d]at b;cases b
    |begin y a b _=>rw[hM]at a;injection a with a;rw[<-a,d]at b;cases b
    |finish y a b _=>rw[hM]at a;injection a with a;rw[<-a,d]at b;cases b
   |byte _ _ _ hb _=>
    obtain⟨y,c,a,b,_⟩:=hb;rw[hM]at a;injection a with a;rw[<-a,d]at b;cases b
  subst this;exact m
 ·intro m
  obtain⟨L,p⟩:=zxf f hl i j m;rw[Zh]at p;exact⟨L,p⟩
section
variable {P:List Ins} {s:jE}
inductive EpsS (P:List Ins) (s:List UInt8) (i n:Nat):Nat->Prop
 |refl:EpsS P s i n n
 |step (m k:Nat):EpsS P s i n m->Eps P s i m k->EpsS P s i n k
theorem EpsS.front{i n m k:Nat}(h:Eps P s i n m)(h2:EpsS P s i m k):EpsS P s i n k:=by
 induction h2 with
 |refl=>exact .step _ _ .refl h
 |step _ _ _ a ih=>exact .step _ _ ih a
def R(P:List Ins)(s:jE)(i n j:Nat):Prop:=∃L,Path P s n j L 0 i
theorem R.start(i:Nat):R P s i 0 i:=⟨0,.here⟩
theorem R.eps{i n m j:Nat}(h:R P s i n j)(a:Eps P s j n m):R P s i m j:=by
 obtain⟨L,p⟩:=h;exact⟨_,p.trans (.eps _ _ _ _ a .here)⟩
theorem R.epsS{i n m j:Nat}(h:R P s i n j)(a:EpsS P s j n m):R P s i m j:=by
 induction a with
 |refl=>exact h
 |step _ _ _ h2 ih=>exact ih.eps h2
theorem R.byte{i n j:Nat}(h:R P s i n j)(hb:zcB P s j n):R P s i (n+1) (j+1):=by
 obtain⟨L,p⟩:=h;exact⟨_,p.trans (.byte _ _ _ hb .here)⟩
theorem Path.mono{N j L n i:Nat}(h:Path P s N j L n i):i<=j:=by
 induction h with
 |here=>exact Qc _
 |eps _ _ _ _ _ _ ih=>exact ih
 |byte _ _ _ _ _ ih=>omega
theorem R.le{i n j:Nat}(h:R P s i n j):i<=j:=by obtain⟨L,p⟩:=h;exact p.mono
theorem Path.same{N j L n i:Nat}(h:Path P s N j L n i):i=j->EpsS P s j n N:=by
 induction h with
 |here=>intro _;exact .refl
 |eps _ _ _ _ b _ ih=>intro e;subst e;exact EpsS.front b (ih rfl)
 |byte _ _ _ _ a _=>intro e;have:=a.mono;omega
theorem Path.last{N j L n i:Nat}(h:Path P s N j L n i):∀a,j=a+1->i<=a->∃m,(∃b,Path P s m a b n i)/\zcB P s a m/\EpsS P s (a+1) (m+1) N:=by
 induction h with
 |here=>intro a e h;omega
 |eps L n m i l _ ih=>
  intro a e h;obtain⟨k,⟨b,p⟩,hb,d⟩:=ih a e h;exact⟨k,⟨_,.eps _ _ _ _ l p⟩,hb,d⟩
 |byte L n i hb g ih=>
  intro a e h
  by_cases c:i+1<=a
  ·obtain⟨k,⟨b,p⟩,f,d⟩:=ih a e c
   exact⟨k,⟨_,.byte _ _ _ hb p⟩,f,d⟩
  ·obtain rfl:i=a:=by omega
   subst e;exact⟨n,⟨0,.here⟩,hb,g.same rfl⟩
theorem R.last{i m a:Nat}(h:R P s i m (a+1))(b:i<=a):∃n,R P s i n a/\zcB P s a n/\EpsS P s (a+1) (n+1) m:=by
 obtain⟨L,p⟩:=h;exact p.last a rfl b
theorem R.same{m a:Nat}(h:R P s a m a):EpsS P s a 0 m:=by obtain⟨L,p⟩:=h;exact p.same rfl
structure Thr(P:List Ins)(s:jE)(i:Nat)(F:Nat->Nat)(ls:List Nat):Prop where
 mem:∀n,n∈ls↔F n≠0
 sorted:ls.Pairwise λa b=>F a<=F b
 closed:∀n m,F n≠0->Eps P s i n m->F m≠0/\F m<=F n
 real:∀n,F n≠0->∃k,F n=k+1/\R P s k n i
theorem Thr.epsS{i n m:Nat}{F:Nat->Nat}{b:List Nat}(h:Thr P s i F b)(c:F n≠0)(a:EpsS P s i n m):F m≠0/\F m<=F n:=by
 induction a with
 |refl=>exact⟨c,Qc _⟩
 |step _ _ _ h2 ih=>have:=h.closed _ _ ih.1 h2;exact⟨this.1,by omega⟩
theorem Thr.zero(i:Nat):Thr P s i (λ_=>0) []:=⟨λn=>by simp,.nil,λn m h=>absurd rfl h,λn h=>absurd rfl h⟩
structure AddPost(P:List Ins)(s:jE)(i n f:Nat)(F:Nat->Nat)(ls:List Nat)(G:Nat->Nat)(lg:List Nat):Prop where
 keep:∀m,F m≠0->G m=F m
 new:∀m,F m=0->G m≠0->G m=f+1/\EpsS P s i n m
 lst:∃ns,lg=ls++ns/\∀m,m∈ns↔(F m=0/\G m≠0)
 at_:G n≠0
 closed:∀m k,F m=0->G m≠0->Eps P s i m k->G k≠0
theorem AddPost.thr{i n f:Nat}{F:Nat->Nat}{t:List Nat}{G:Nat->Nat}{u:List Nat}(h:AddPost P s i n f F t G u)(j:Thr P s i F t)(g:∀m,F m<=f+1)(w:R P s f n i):Thr P s i G u:=by
 obtain⟨x,q,e⟩:=h.lst;have o:∀m,G m≠0->F m=0->G m=f+1:=λm h1 h2=>(h.new m h2 h1).1
 refine⟨λm=>?_,?_,λm k r v=>?_,λm r=>?_⟩
 ·rw[q,QO,j.mem,e]
  constructor
  ·rintro(h1|h1)
   ·rw[h.keep m h1];exact h1
   ·exact h1.2
  ·intro h1
   by_cases c:F m=0
   ·exact .inr ⟨c,h1⟩
   ·exact .inl c
 ·rw[q,List.pairwise_append]
  refine⟨j.sorted.imp_of_mem λ{a b} l hb d=>by rw[h.keep a ((j.mem a).1 l),h.keep b ((j.mem b).1 hb)];exact d,?_,λa l b hb=>?_⟩
  ·refine List.pairwise_iff_forall_sublist.2 λ{a b} d=>?_
   have l:=(e a).1 (d.subset (by simp));have hb:=(e b).1 (d.subset (by simp));rw[o a l.2 l.1,o b hb.2 hb.1];exact Qc _
  ·have p:=(e b).1 hb
   rw[h.keep a ((j.mem a).1 l),o b p.2 p.1];exact g a
 ·by_cases c:F m=0
  ·have h1:=h.closed m k c r v
   refine⟨h1,?_⟩;rw[o m r c]
   by_cases c2:F k=0
   ·rw[o k h1 c2];exact Qc _
   ·rw[h.keep k c2];exact g k
  ·have h1:=j.closed m k c v
   rw[h.keep m c,h.keep k h1.1];exact h1
 ·by_cases c:F m=0
  ·obtain⟨h1,h2⟩:=h.new m c r
   exact⟨f,h1,w.epsS h2⟩
  ·rw[h.keep m c];exact j.real m c
theorem AddPost.le{i n f:Nat}{F:Nat->Nat}{b:List Nat}{G:Nat->Nat}{d:List Nat}(h:AddPost P s i n f F b G d)(a:∀m,F m<=f+1)(m:Nat):G m<=f+1:=by
 by_cases c:F m=0
 ·by_cases c2:G m=0
  ·omega
  ·rw[(h.new m c c2).1];exact Qc _
 ·rw[h.keep m c];exact a m
structure DfsI(P:List Ins)(s:jE)(i n f:Nat)(F:Nat->Nat)(ls:List Nat)(G:Nat->Nat)(lg todo:List Nat):Prop where
 keep:∀m,F m≠0->G m=F m
 new:∀m,F m=0->G m≠0->G m=f+1/\EpsS P s i n m
 lst:∃ns,lg=ls++ns/\∀m,m∈ns↔(F m=0/\G m≠0)
 at_:n∈todo\/G n≠0
 pend:∀k∈todo,EpsS P s i n k
 closed:∀m k,F m=0->G m≠0->Eps P s i m k->G k≠0\/k∈todo
theorem DfsI.start(i n f:Nat)(F:Nat->Nat)(a:List Nat):DfsI P s i n f F a F a [n]:=
 ⟨λ_ _=>rfl,λm h1 h2=>absurd h1 h2,⟨[],by simp,λm=>⟨λh=>(by cases h),λh=>absurd h.1 h.2⟩⟩,.inl (by simp),λk b=>by rw[Qy.1 b];exact .refl,λm k h1 h2=>absurd h1 h2⟩
theorem DfsI.stop{i n f:Nat}{F:Nat->Nat}{a:List Nat}{G:Nat->Nat}{b:List Nat}(h:DfsI P s i n f F a G b []):AddPost P s i n f F a G b:=
 ⟨h.keep,h.new,h.lst,h.at_.resolve_left (by simp),λm k h1 h2 c=>(h.closed m k h1 h2 c).resolve_right (by simp)⟩
theorem DfsI.skip{i n f k:Nat}{F:Nat->Nat}{d:List Nat}{G:Nat->Nat}{e a:List Nat}(h:DfsI P s i n f F d G e (a++[k]))(g:G k≠0):DfsI P s i n f F d G e a:=by
 refine⟨h.keep,h.new,h.lst,?_,λq j=>h.pend q (by simp[j]),λm q h1 h2 l=>?_⟩
 ·rcases h.at_ with h1|h1
  ·rcases QO.1 h1 with h2|h2
   ·exact .inl h2
   ·rw[Qy.1 h2];exact .inr g
  ·exact .inr h1
 ·rcases h.closed m q h1 h2 l with b|b
  ·exact .inl b
  ·rcases QO.1 b with c|c
   ·exact .inr c
   ·rw[Qy.1 c];exact .inl g
def upd(G:Nat->Nat)(k v:Nat):Nat->Nat:=λm=>if m=k then v else G m
theorem DfsI.mark{i n f k:Nat}{F:Nat->Nat}{t:List Nat}{G:Nat->Nat}{u b succ:List Nat}(h:DfsI P s i n f F t G u (b++[k]))(y:G k=0)(w:∀m,m∈succ↔Eps P s i k m):
 DfsI P s i n f F t (upd G k (f+1)) (u++[k]) (b++succ):=by
 have l:F k=0:=by
  by_cases c:F k=0
  ·exact c
  ·exact absurd ((h.keep k c).symm.trans y) c
 have j:EpsS P s i n k:=h.pend k (by simp);have d:∀m,m≠k->upd G k (f+1) m=G m:=λm o=>by unfold upd;rw[Qe o]
 have a:upd G k (f+1) k=f+1:=by unfold upd;rw[Qg rfl]
 refine⟨λm o=>?_,λm h1 h2=>?_,?_,?_,λq g=>?_,λm q h1 h2 v=>?_⟩
 ·rw[d m (λe=>o (by rw[e];exact l))];exact h.keep m o
 ·by_cases c:m=k
  ·subst c;exact⟨a,j⟩
  ·rw[d m c]at h2 ⊢;exact h.new m h1 h2
 ·obtain⟨x,h1,h2⟩:=h.lst
  refine⟨x++[k],by rw[h1,QG],λm=>?_⟩;rw[QO,h2,Qy]
  by_cases c:m=k
  ·subst c;rw[a];exact⟨λ_=>⟨l,by omega⟩,λ_=>.inr rfl⟩
  ·rw[d m c];exact⟨λh=>h.resolve_right c,λh=>.inl h⟩
 ·by_cases c:n=k
  ·right;rw[c,a];omega
  ·rcases h.at_ with h1|h1
   ·rcases QO.1 h1 with h2|h2
    ·exact .inl (by simp[h2])
    ·exact absurd (Qy.1 h2) c
   ·right;rw[d n c];exact h1
 ·rcases QO.1 g with h1|h1
  ·exact h.pend q (by simp[h1])
  ·exact .step _ _ j ((w q).1 h1)
 ·have g:∀q,G q≠0->upd G k (f+1) q≠0:=λq g=>by
   by_cases c:q=k
   ·rw[c,a];omega
   ·rw[d q c];exact g
  by_cases c:m=k
  ·subst c;exact .inr (by simp[(w q).2 v])
  ·rw[d m c]at h2
   rcases h.closed m q h1 h2 v with p|p
   ·exact .inl (g q p)
   ·rcases QO.1 p with r|r
    ·exact .inr (by simp[r])
    ·rw[Qy.1 r,a];exact .inl (by omega)
def Comp(P:List Ins)(s:jE)(i:Nat)(F:Nat->Nat)(found:Bool)(b:Nat):Prop:=∀n k,R P s k n i->(found=true->k<=b)->F n≠0/\F n<=k+1
def zpx(P:List Ins)(s:jE)(i:Nat)(F:Nat->Nat)(found:Bool)(b:Nat):Prop:=∀n k,R P s k n i->k<i->(found=true->k<=b)->F n≠0/\F n<=k+1
theorem zpH{i b:Nat}{F:Nat->Nat}{g:List Nat}{G:Nat->Nat}{l:List Nat}(h:zpx P s i F false b)(o:Thr P s i F g)(a:∀m,F m<=i+1)(d:AddPost P s i 0 i F g G l):Comp P s i G false b:=λn k f _=>by
 have p:=d.thr o a (R.start i);have j:=f.le
 by_cases c:k<i
 ·obtain⟨h1,h2⟩:=h n k f c (λe=>by cases e)
  rw[d.keep n h1];exact⟨h1,h2⟩
 ·obtain rfl:k=i:=by omega
  have h1:=p.epsS d.at_ f.same;exact⟨h1.1,d.le a n⟩
def zn2(P:List Ins)(s:jE)(N:Nat)(T:Nat->Prop)(found:Bool)(f a:Nat):Prop:=
 (found=true->R P s f N a/\T a/\∀i j,R P s i N j->T j->f<i\/(f=i/\j<=a))/\(found=false->(∀i j,T j->¬R P s i N j)/\f=0/\a=0)
theorem zrO(N:Nat):zn2 P s N (λj=>j<0) false 0 0:=⟨λe=>(by cases e),λ_=>⟨λi j h=>absurd h (by omega),rfl,rfl⟩⟩
theorem zsx{N t f l b:Nat}{found a:Bool}{F:Nat->Nat}(h:zn2 P s N (λj=>j<t) found f l)(r:Comp P s t F a b)(n:a=true->found=true/\f<=b)(k:F N≠0->found=true/\f+1<F N):
 zn2 P s N (λj=>j<t+1) found f l:=by
 have g:∀i,R P s i N t->found=true/\f<i:=λi p=>by
  by_cases c2:a=true->i<=b
  ·obtain⟨h1,h2⟩:=r N i p c2
   have m:=k h1;exact⟨m.1,by omega⟩
  ·have c3:a=true:=by cases o:a;exact absurd (λe=>by rw[o]at e;cases e) c2;rfl
   have h1:=n c3;have m:¬i<=b:=λe=>c2 λ_=>e
   exact⟨h1.1,by omega⟩
 refine⟨λe=>⟨(h.1 e).1,by have:=(h.1 e).2.1;omega,λi j d q=>?_⟩,λe=>⟨λi j q d=>?_,(h.2 e).2⟩⟩
 ·by_cases c:j<t
  ·exact(h.1 e).2.2 i j d c
  ·obtain rfl:j=t:=by omega
   exact .inl (g i d).2
 ·by_cases c:j<t
  ·exact(h.2 e).1 i j c d
  ·obtain rfl:j=t:=by omega
   have:=(g i d).1;rw[e]at this;cases this
theorem zsV{t f b:Nat}{found a:Bool}{F G:Nat->Nat}{g:List Nat}(r:Comp P s t F a b)(d:a=true->found=true/\f<=b)(p:Thr P s (t+1) G g)
 (i:∀n,F n≠0->zcB P s t n->(found=true->F n<=f+1)->G (n+1)≠0/\G (n+1)<=F n):zpx P s (t+1) G found f:=λm k l u c=>by
 obtain⟨n,h1,h2,o⟩:=l.last (by omega);obtain⟨h,w⟩:=r n k h1 (λe=>by have:=d e;have:=c this.1;omega);obtain⟨q,v⟩:=i n h h2 (λe=>by have:=c e;omega);obtain⟨j,x⟩:=p.epsS q o;exact⟨j,by omega⟩
end
