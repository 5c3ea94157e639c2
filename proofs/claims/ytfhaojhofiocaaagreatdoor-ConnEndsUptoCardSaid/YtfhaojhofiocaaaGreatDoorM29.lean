/- Lemmas for the last texts. -/
import Derived.Test.YtfhaojhofiocaaaGreatDoorM28
set_option maxHeartbeats 3200000
set_option maxRecDepth 100000
namespace Go.Proofs.YtfhaojhofiocaaaGreatDoor
open Go.RowKit Go.Proofs.Tryz
def zen(C:ConS):Int:=if C.st=2 then 8 else if C.st=0 then 1 else 0
def zei(p:ConP)(C:ConS):ConS:=if zen C=0 then ansC p C 502 [] 502 else C
def zfH(C:ConS)(n:Int):Int:=if C.st=2 then 8 else if n<1\/1000<n then 1 else 0
def zdW(C:ConS)(n:Int):ConS:={C with gone:=if C.gone+n<=2000 then C.gone+n else 2000}
def zdH(p:ConP)(C:ConS):ConS:=if C.gone<=p.tk then C else if C.st=1 then ansC p C 504 [] 504 else if C.inp≠[]then endC (zc3 C 408 [])else C
def zi9(p:ConP)(C:ConS)(n:Int):ConS:=if zfH C n=0 then zdH p (zdW C n)else C
def zhi(C:ConS):Int:=if C.st=2 then 8 else 0
def zgH(C:ConS):ConS:=if C.st=2 then C else endC C
structure FineC(C:ConS)(m:Nat):Prop where
 big:Big C m
 lo:0<=C.gone
 hi:C.gone<=2000
theorem zvi(p:ConP)(C:ConS)(o:OutP):(judC p C o).gone=C.gone\/(judC p C o).gone=0:=by
 unfold judC
 split
 ·exact .inl rfl
 ·split
  ·exact .inl rfl
  ·exact .inr rfl
theorem zsa(p:ConP):∀(n:Nat) (C:ConS),(onN p n C).gone=C.gone\/(onN p n C).gone=0:=by
 intro n
 induction n with
 |zero=>intro C;exact .inl rfl
 |succ n ih=>
  intro C
  by_cases a:C.st=0
  ·cases h:oneR C.inp p.H p.B with
   |error e=>
    rw[zkq a h]
    split
    ·exact .inl rfl
    ·exact .inl rfl
   |ok x=>
    obtain⟨q,k⟩:=x;rw[zo6 a h]
    rcases ih (judC p {C with inp:=C.inp.drop k} (p.F q))with e|e
    ·rw[e];exact zvi p _ _
    ·exact .inr e
  ·rw[zdb a];exact .inl rfl
section
variable {p:ConP} {C:ConS} {m:Nat}
theorem FineC.more(h:FineC C m){k:Nat}(a:m<=k):FineC C k:=⟨h.big.more a,h.lo,h.hi⟩
theorem zx2(a:0<=p.H)(b:0<=p.B)(d:∀q,StIn (p.F q).st/\StIn (p.F q).err)(h:FineC C m)(c:C.inp.length<=65536):FineC (onC p C) (m+65540):=by
 have g:=zwB a b d 65536 C m c h.big;refine⟨g.more (by omega),?_,?_⟩ <;> rcases zsa p (C.inp.length+1) C with e|e <;> (show _<=_) <;> unfold onC <;> rw[e]
 ·exact h.lo
 ·decide
 ·exact h.hi
 ·decide
theorem zkG(c:0<=p.H)(d:0<=p.B)(j:∀q,StIn (p.F q).st/\StIn (p.F q).err)(h:FineC C m)(i:C.inp.length<=65536)(s:Int)(f:s<1000)(b:jE)(hb:b.length<=4096)(x:Int):FineC (ansC p C s b x) (m+65540):=by
 have g:=zxS c d j i h.big s f b hb x;refine⟨g.more (by omega),?_,?_⟩ <;> unfold ansC onC <;> rcases zsa p ((zns (zhv p.num (zc3 C s b) C.wt x)).inp.length+1) (zns (zhv p.num (zc3 C s b) C.wt x))with e|e <;> rw[e] <;> first|exact ZB 0|exact(by decide:(0:Int)<=2000)
theorem zuy(h:FineC C m)(s:jE):FineC (putC C s) m:=by
 obtain⟨⟨d,e,f,a,g⟩,b,c⟩:=h;refine⟨⟨d,e,f,a,g⟩,?_,?_⟩ <;> unfold putC <;> dsimp only <;> split <;> first|decide|assumption
theorem zjX{s:jE}(h:zdX C s=0):C.st≠2/\s.length<=8192/\C.inp.length+s.length<=65536:=by
 unfold zdX at h
 split at h
 ·cases h
 split at h
 ·cases h
 split at h
 ·cases h
 exact⟨by assumption,by omega,by omega⟩
theorem zqB(b:0<=p.H)(c:0<=p.B)(d:∀q,StIn (p.F q).st/\StIn (p.F q).err)(h:FineC C m)(s:jE):FineC (zdT p C s) (m+65540):=by
 unfold zdT
 split
 ·rename_i a
  refine zx2 b c d (zuy h s) ?_;unfold putC;rw[Qb];exact(zjX a).2.2
 ·exact h.more (by omega)
theorem zj0(h:FineC C m){n:Int}(i:0<=n):FineC (zdW C n) m:=by
 obtain⟨⟨d,e,f,a,g⟩,b,c⟩:=h;refine⟨⟨d,e,f,a,g⟩,?_,?_⟩ <;> unfold zdW <;> dsimp only <;> split <;> omega
theorem zpD(h:FineC C m):FineC (zgH C) m:=by
 unfold zgH
 split
 ·exact h
 ·exact⟨⟨h.big.up,h.big.down,h.big.log,h.big.jd0,h.big.jd⟩,h.lo,h.hi⟩
theorem ztG(a:0<=p.H)(b:0<=p.B)(d:∀q,StIn (p.F q).st/\StIn (p.F q).err)(h:FineC C m)(c:C.inp.length<=65536):FineC (zei p C) (m+65540):=by
 unfold zei
 split
 ·exact zkG a b d h c _ (by decide) _ (by decide) _
 ·exact h.more (by omega)
theorem znq(c:0<=p.H)(d:0<=p.B)(f:∀q,StIn (p.F q).st/\StIn (p.F q).err)(h:FineC C m)(e:C.inp.length<=65536)(s:Int)(b:jE):FineC (zcz p C s b) (m+65540):=by
 unfold zcz
 split
 ·rename_i a
  unfold zcB at a
  split at a
  ·cases a
  split at a
  ·cases a
  exact zkG c d f h e _ (by omega) _ (by omega) _
 ·exact h.more (by omega)
theorem zsA(c:0<=p.H)(d:0<=p.B)(f:∀q,StIn (p.F q).st/\StIn (p.F q).err)(h:FineC C m)(e:C.inp.length<=65536)(n:Int):FineC (zi9 p C n) (m+65540):=by
 unfold zi9
 split
 ·rename_i b
  unfold zfH at b
  split at b
  ·cases b
  split at b
  ·cases b
  have g:=zj0 (n:=n) h (by omega);unfold zdH
  split
  ·exact g.more (by omega)
  split
  ·exact zkG c d f g e _ (by decide) _ (by decide) _
  split
  ·have a:=(zdS g.big 408 (by decide) [] (by decide)).more (show m+1<=m+65540 by omega)
   exact⟨⟨a.up,a.down,a.log,a.jd0,a.jd⟩,g.lo,g.hi⟩
  ·exact g.more (by omega)
 ·exact h.more (by omega)
end
def doC(p:ConP)(C:ConS)(x:VarV):ConS:=
 if x.k=0 then zdT p C x.n.data.toList else if x.k=1 then zcz p C x.m x.n.data.toList else if x.k=2 then zei p C else if x.k=3 then zi9 p C x.m else if x.k=4 then zgH C else C
def doE(C:ConS)(x:VarV):Int:=
 if x.k=0 then zdX C x.n.data.toList else if x.k=1 then zcB C x.m x.n.data.toList else if x.k=2 then zen C else if x.k=3 then zfH C x.m else if x.k=4 then zhi C else 8
def zyn(C:ConS):ConS:={C with up:=[],down:=[],log:=[]}
theorem ztO{p:ConP}{C:ConS}(h:C.st=2)(x:VarV):doE C x=8/\doC p C x=C:=by
 have a:zdX C x.n.data.toList=8:=by unfold zdX;rw[Qj h]
 have b:zcB C x.m x.n.data.toList=8:=by unfold zcB;rw[Qj h]
 have c:zen C=8:=by unfold zen;rw[Qj h]
 have d:zfH C x.m=8:=by unfold zfH;rw[Qj h]
 have e:zhi C=8:=by unfold zhi;rw[Qj h]
 have f:zgH C=C:=by unfold zgH;rw[Qj h]
 unfold doE doC zdT zcz zei zi9;rw[a,b,c,d,e,f]
 constructor
 ·split
  ·rfl
  split
  ·rfl
  split
  ·rfl
  split
  ·rfl
  split <;> rfl
 ·split
  ·rfl
  split
  ·rfl
  split
  ·rfl
  split
  ·rfl
  split <;> rfl
section
variable {g L n:Nat} {k:ConK} {m:ConM} {w:World}
theorem zra(h:Con w g L k m)(s:Nat)(F:s<1000)(b:ByteArray)(hb:b.size<=4096)(i:Int)(a:Big m.s n)(I:n<=700000000000):
 Calls prog 22 #[.pointer g,jA (s:Int),.string b] w λe l=>e=jC (.tuple #[])/\∃f,CAt l g k f/\
  Calls prog 29 #[.pointer g,.agg (zbK f.w),jA i] l λe w2=>e=jC (.tuple #[])/\
   Calls prog 30 #[.pointer g] w2 λe w3=>e=jC (.tuple #[])/\
    Calls prog 20 #[.pointer g] w3 (MPost g L k (ansC k.p m.s s b.data.toList i) (.tuple #[]) w):=by
 refine(zcS h s F b hb (by have:=a.down;omega)).mono ?_;rintro e l ⟨⟨rfl,f,d,c,z⟩,_⟩;refine⟨rfl,f,c.box,?_⟩;have y:f.s.log=m.s.log:=by rw[d];rfl
 refine(zmA c f.w c.t.wo.mt i (by rw[y];have:=a.log;omega)).mono ?_;rintro e w2 ⟨rfl,H,r,u,x⟩;refine⟨rfl,(ztW u).mono ?_⟩;rintro e w3 ⟨⟨rfl,C,q,B,o⟩,_⟩;have v:f.w.p=m.s.wt:=by rw[c.t.wt,d];rfl
 have E:C.s=zns (zhv k.p.num (zc3 m.s s b.data.toList) m.s.wt i):=by rw[q,r,d,v];rfl
 have j:=zdS a (s:Int) (by omega) b.data.toList (by simpa using hb)
 have A:Big C.s (n+2):=by
  rw[E];refine⟨Ql j.up (by omega),Ql j.down (by omega),?_,j.jd0,Int.le_trans j.jd (by omega)⟩;show (m.s.log++[_]).length<=_
  have:=a.log;rw[Qb];simp only[Qq,QP];omega
 refine⟨rfl,(ztB B A (by omega)).mono λe G D=>?_⟩;rw[E]at D;exact MPost.then ((z.trans x).trans o) D
end
theorem zeu{g L n:Nat}{k:ConK}{m:ConM}{w:World}(h:Con w g L k m)(s:Nat)(r:s<1000)(b:ByteArray)(hb:b.size<=4096)(f:Int)(a:Big m.s n)(t:n<=700000000000):
 Calls prog 21 #[.pointer g,jA (s:Int),.string b,jA f] w (MPost g L k (ansC k.p m.s s b.data.toList f) (.tuple #[]) w):=by
 have l:=hIx (zra h s r b hb f a t);clear h r hb a t
 go_in
 go_wp2_with (go_at_call 22;apply Hid.out);refine WhM l ?_;rintro e A ⟨rfl,v,c,h1⟩;have i:=c.cells;have d:=hIx h1;clear l h1 c;obtain⟨J,⟨⟨⟨⟨y,O,G⟩,C⟩,B,I,N,F,K⟩,H,c2,D,E⟩,lv,ld⟩:=v;unfold zaO at i;unfold zbK at d;dsimp only at i d;go_wp2_with (go_at_call 29;apply Hid.out);refine WhM d ?_;rintro e w2 ⟨rfl,h2⟩;have o:=hIx h2;clear d h2 i;go_wp2_with (go_at_call 30;apply Hid.out);refine WhM o ?_;rintro e w3 ⟨rfl,q⟩;have u:=hIx q;clear o q;go_wp2_with (go_at_call 20;apply Hid.out);refine WhM u ?_;rintro e z ⟨rfl,j⟩;have x:=hIx j;clear u j;go_wp2_with fail
 go_end0
 exact⟨rfl,x.out⟩
theorem zuM{g L n:Nat}{k:ConK}{m:ConM}{w:World}(h:Con w g L k m)(a:Big m.s n)(o:n<=700000000000):
 Calls prog 14 #[.pointer g] w (MPost g L k (zei k.p m.s) (jA (zen m.s)) w):=by
 have i:=h.box.cells;unfold zaO at i
 by_cases h2:m.s.st=2
 ·have b:zen m.s=8:=by unfold zen;rw[Qj h2]
  have c:zei k.p m.s=m.s:=by unfold zei;rw[b,Qf (by decide)]
  rw[b,c];have f:Hid (MPost g L k m.s (jA 8) w (jC (jA 8)) w):=hIx ⟨rfl,m,rfl,h,Fr.refl⟩;rw[h2]at i;clear h a b c
  go_in
  go_wp2;exact zad f.out
 ·by_cases d:m.s.st=0
  ·have b:zen m.s=1:=by unfold zen;rw[Qf h2,Qj d]
   have c:zei k.p m.s=m.s:=by unfold zei;rw[b,Qf (by decide)]
   rw[b,c];have f:Hid (MPost g L k m.s (jA 1) w (jC (jA 1)) w):=hIx ⟨rfl,m,rfl,h,Fr.refl⟩;rw[d]at i;clear h a b c h2
   go_in
   go_wp2;exact zad f.out
  ·have b:zen m.s=0:=by unfold zen;rw[Qf h2,Qf d]
   have c:zei k.p m.s=ansC k.p m.s 502 [] 502:=by unfold zei;rw[b,Qj rfl]
   rw[b,c];have n2:(m.s.st==2)=false:=Qc.2 h2;have r:(m.s.st==0)=false:=Qc.2 d;have l:=hIx (zeu h 502 (by decide) (ByteArray.mk #[]) (by decide) 502 a o);clear h a b c h2 d
   go_in
   go_wp2_with (go_at_call 21;apply Hid.out);refine WhM l ?_;rintro e q ⟨rfl,j⟩;have f:=hIx j;clear l j;go_wp2;exact zad ⟨rfl,f.out⟩
theorem ziA{g L:Nat}{k:ConK}{m:ConM}{w:World}(h:Con w g L k m):
 Calls prog 7 #[.pointer g] w (MPost g L k (zgH m.s) (jA (zhi m.s)) w):=by
 have b:=h.box.cells;unfold zaO at b;unfold zgH zhi
 by_cases h2:m.s.st=2
 ·rw[Qj h2,Qj h2]
  have a:Hid (MPost g L k m.s (jA 8) w (jC (jA 8)) w):=hIx ⟨rfl,m,rfl,h,Fr.refl⟩;rw[h2]at b;clear h
  go_in
  go_wp2;exact zad a.out
 ·rw[Qf h2,Qf h2]
  have n2:(m.s.st==2)=false:=Qc.2 h2;have d:=hIx (zkb h);clear h h2
  go_in
  go_wp2_with (go_at_call 19;apply Hid.out);refine WhM d ?_;rintro e f ⟨⟨rfl,c⟩,_⟩;have a:=hIx c;clear d c;go_wp2;exact zad ⟨rfl,a.out⟩
theorem zrM{g L:Nat}{k:ConK}{m:ConM}{w:World}(h:Con w g L k m):Calls prog 8 #[.pointer g] w λe w'=>e=jC (jA m.s.st)/\w'=w:=by
 have a:=h.box.cells;unfold zaO at a;clear h
 go_in
 go_wp2;go_ret;exact⟨rfl,rfl⟩
theorem zAo{g L:Nat}{k:ConK}{m:ConM}{w:World}(h:Con w g L k m):Calls prog 9 #[.pointer g] w (zlL g L k {m.s with up:=[]} (.string (bs m.s.up)) w):=by
 have b:=h.box.cells;have d:=h.box.free;have a:=h.puts (Qi _ _) [(21,.string (.mk #[]))] {m with s:={m.s with up:=[]}} ⟨h.t.wt,h.t.wo,h.t.log,h.t.ld,h.t.own,h.t.few⟩ (by kernel_rfl) (.string (bs m.s.up));unfold zaO at b;simp only[zcI]at a;have c:=hIx a;clear h a
 go_in
 go_wp2;exact zad c.out
theorem zw6{g L:Nat}{k:ConK}{m:ConM}{w:World}(h:Con w g L k m):Calls prog 10 #[.pointer g] w (zlL g L k {m.s with down:=[]} (.string (bs m.s.down)) w):=by
 have b:=h.box.cells;have d:=h.box.free;have a:=h.puts (Qi _ _) [(22,.string (.mk #[]))] {m with s:={m.s with down:=[]}} ⟨h.t.wt,h.t.wo,h.t.log,h.t.ld,h.t.own,h.t.few⟩ (by kernel_rfl) (.string (bs m.s.down));unfold zaO at b;simp only[zcI]at a;have c:=hIx a;clear h a
 go_in
 go_wp2;exact zad c.out
theorem zzE{g L:Nat}{k:ConK}{m:ConM}{w:World}(h:Con w g L k m):Calls prog 11 #[.pointer g] w (zlL g L k {m.s with log:=[]} m.lv w):=by
 have b:=h.box.cells;have i:=h.box.free;have a:=h.puts (Qi _ _) [(23,jD 0 0)] {m with s:={m.s with log:=[]},lv:=jD 0 0,ld:=[]} ⟨h.t.wt,h.t.wo,OwnG.nil _ _ _,rfl,λx f=>(by cases f),h.t.few⟩ (by kernel_rfl) m.lv;obtain⟨A,c,d,_⟩:=h.t.log.form;unfold zaO at b;rw[d]at b a ⊢;simp only[zcI]at a;have e:=hIx a;clear h a d
 go_in
 go_wp2;exact zad e.out
theorem ztw{g L n:Nat}{k:ConK}{m:ConM}{w:World}(h:Con w g L k m)(t:ByteArray)(a:Big m.s n)(y:n<=700000000000)(q:zdX m.s t.data.toList=0)(X:ByteArray)(r:X=bs m.s.inp++t):
 Calls prog 20 #[.pointer g] (if m.s.st=0 then (w.setCell ⟨g,11,none⟩ (.string X)).setCell ⟨g,9,none⟩ (jA 0)else w.setCell ⟨g,11,none⟩ (.string X)) (MPost g L k (zdT k.p m.s t.data.toList) (.tuple #[]) w):=by
 have l:X=bs (m.s.inp++t.data.toList):=by rw[r,<-zbq,zeT]
 subst l;have x:zdT k.p m.s t.data.toList=onC k.p (putC m.s t.data.toList):=by unfold zdT;rw[Qj q]
 have u:=(zjX q).2.2;have i:Big (putC m.s t.data.toList) n:=⟨a.up,a.down,a.log,a.jd0,a.jd⟩
 have j:ConT w L {m with s:=putC m.s t.data.toList}:=⟨h.t.wt,h.t.wo,h.t.log,h.t.ld,h.t.own,by show (m.s.inp++t.data.toList).length<=_;rw[Qb];exact u⟩
 rw[x]
 split
 ·rename_i o
  have e:putC m.s t.data.toList={m.s with inp:=m.s.inp++t.data.toList,gone:=0}:=by unfold putC;rw[Qj o]
  rw[e]at j i ⊢;obtain⟨⟨_,v,b,d,c⟩,_⟩:=h.puts (Qi _ _) [(11,.string (bs (m.s.inp++t.data.toList))),(9,jA 0)] _ j (by kernel_rfl) (.tuple #[]);refine(ztB d (by rw[b];exact i) (by omega)).mono λe w2 f=>?_
  rw[b]at f;exact MPost.then c f
 ·rename_i o
  have e:putC m.s t.data.toList={m.s with inp:=m.s.inp++t.data.toList}:=by unfold putC;rw[Qf o]
  rw[e]at j i ⊢;obtain⟨⟨_,v,b,d,c⟩,_⟩:=h.puts (Qi _ _) [(11,.string (bs (m.s.inp++t.data.toList)))] _ j (by kernel_rfl) (.tuple #[]);refine(ztB d (by rw[b];exact i) (by omega)).mono λe w2 f=>?_
  rw[b]at f;exact MPost.then c f
theorem zqx{g L n:Nat}{k:ConK}{m:ConM}{w:World}(h:Con w g L k m)(t:ByteArray)(S:t.size<=4611686018427387904)(l:Big m.s n)(J:n<=700000000000):
 Calls prog 12 #[.pointer g,.string t] w (MPost g L k (zdT k.p m.s t.data.toList) (jA (zdX m.s t.data.toList)) w):=by
 have i:∀x,x≠0->zdX m.s t.data.toList=x->MPost g L k (zdT k.p m.s t.data.toList) (jA (zdX m.s t.data.toList)) w (jC (jA x)) w:=λx Q B=>by
  have P:zdT k.p m.s t.data.toList=m.s:=by unfold zdT;rw[B,Qf Q]
  rw[B,P];exact⟨rfl,m,rfl,h,Fr.refl⟩
 have f:=λB X O=>ztw h t l J B X O
 have C:=h.box.cells;have W:=h.box.free;have y:=h.t.few;have hl:t.data.toList.length=t.size:=by simp
 obtain⟨E,D⟩:∃E,zdX m.s t.data.toList=E:=⟨_,rfl⟩
 have a:=D;unfold zdX at a;rw[hl]at a;unfold zaO at C;obtain⟨I,F⟩:∃I,bs m.s.inp=I:=⟨_,rfl⟩
 have v:I.size=m.s.inp.length:=by rw[<-F,zah]
 rw[F]at C f;rw[<-v]at a y;rw[D]at i f ⊢;have b:=hIx i;have c:=hIx f;clear h l J i f hl D F v;generalize zdT k.p m.s t.data.toList=V at *;obtain⟨s,H⟩:∃s,m.s.st=s:=⟨_,rfl⟩
 rw[H]at C a c;clear H
 by_cases h2:s=2
 ·subst h2
  rw[Qj rfl]at a;subst a;have j:=hIx (b.out 8 (by decide) rfl);clear b c
  go_in
  go_wp2;exact zad j.out
 ·rw[Qf h2]at a
  have n2:(s==2)=false:=Qc.2 h2;clear h2
  by_cases u:8192<t.size
  ·have d:decide ((8192:Int)<(t.size:Int))=true:=by simp;omega
   rw[Qj u]at a;subst a;have j:=hIx (b.out 2 (by decide) rfl);clear b c u
   go_in
   go_wp2;exact zad j.out
  ·have d:decide ((8192:Int)<(t.size:Int))=false:=by simp;omega
   rw[Qf u]at a;have T:IntKind.i64.wrap ((I.size:Int)+(t.size:Int))=(I.size:Int)+(t.size:Int):=Qz _ (by omega)
   by_cases A:65536<I.size+t.size
   ·have N:decide ((65536:Int)<(I.size:Int)+(t.size:Int))=true:=by simp;omega
    rw[Qj A]at a;subst a;have j:=hIx (b.out 10 (by decide) rfl);clear b c u A
    go_in
    go_wp2;exact zad j.out
   ·have N:decide ((65536:Int)<(I.size:Int)+(t.size:Int))=false:=by simp;omega
    have G:I.size+t.size<=9223372036854775807:=by omega
    rw[Qf A]at a;subst a;have o:=c.out rfl (I++t) rfl;clear b c u A
    by_cases z:s=0
    ·subst z
     rw[Qj rfl]at o;have r:=hIx o;clear o
     go_in
     go_wp2_with (go_at_call 20;apply Hid.out);refine WhM r ?_;rintro e K ⟨rfl,q⟩;have j:=hIx q;clear r q;go_wp2;exact zad ⟨rfl,j.out⟩
    ·rw[Qf z]at o
     have r:=hIx o;have U:(s==0)=false:=Qc.2 z;clear o z
     go_in
     go_wp2_with (go_at_call 20;apply Hid.out);refine WhM r ?_;rintro e K ⟨rfl,q⟩;have j:=hIx q;clear r q;go_wp2;exact zad ⟨rfl,j.out⟩
theorem zn2{g L n:Nat}{k:ConK}{m:ConM}{w:World}(h:Con w g L k m)(x:Int)(t:ByteArray)(o:Big m.s n)(G:n<=700000000000):
 Calls prog 13 #[.pointer g,jA x,.string t] w (MPost g L k (zcz k.p m.s x t.data.toList) (jA (zcB m.s x t.data.toList)) w):=by
 have i:∀y,y≠0->zcB m.s x t.data.toList=y->MPost g L k (zcz k.p m.s x t.data.toList) (jA (zcB m.s x t.data.toList)) w (jC (jA y)) w:=λy H l=>by
  have z:zcz k.p m.s x t.data.toList=m.s:=by unfold zcz;rw[l,Qf H]
  rw[l,z];exact⟨rfl,m,rfl,h,Fr.refl⟩
 have f:zcB m.s x t.data.toList=0->Calls prog 21 #[.pointer g,jA x,.string t,jA 0] w (MPost g L k (zcz k.p m.s x t.data.toList) (.tuple #[]) w):=λl=>by
  have z:zcz k.p m.s x t.data.toList=ansC k.p m.s x t.data.toList 0:=by unfold zcz;rw[Qj l]
  rw[z];unfold zcB at l
  split at l
  ·cases l
  split at l
  ·cases l
  have hl:t.data.toList.length=t.size:=by simp
  obtain⟨s,r⟩:∃s:Nat,(s:Int)=x:=⟨x.toNat,ZX (by omega)⟩
  rw[<-r];exact zeu h s (by omega) t (by omega) 0 o G
 have C:=h.box.cells;have hl:t.data.toList.length=t.size:=by simp
 obtain⟨E,A⟩:∃E,zcB m.s x t.data.toList=E:=⟨_,rfl⟩
 have a:=A;unfold zcB at a;rw[hl]at a;unfold zaO at C;rw[A]at i f ⊢;have b:=hIx i;have d:=hIx f;clear h o G i f hl A;generalize zcz k.p m.s x t.data.toList=K at *;obtain⟨s,r⟩:∃s,m.s.st=s:=⟨_,rfl⟩
 rw[r]at C a;clear r
 by_cases h2:s=2
 ·subst h2
  rw[Qj rfl]at a;subst a;have q:=hIx (b.out 8 (by decide) rfl);clear b d
  go_in
  go_wp2;exact zad q.out
 ·rw[Qf h2]at a
  have n2:(s==2)=false:=Qc.2 h2;clear h2
  by_cases c:s≠1\/x<200\/599<x\/4096<t.size
  ·rw[Qj c]at a
   subst a;have q:=hIx (b.out 1 (by decide) rfl);clear b d
   have j:(s != 1)=true\/((s != 1)=false/\decide (x<(200:Int))=true)\/((s != 1)=false/\decide (x<(200:Int))=false/\decide ((599:Int)<x)=true)\/((s != 1)=false/\decide (x<(200:Int))=false/\decide ((599:Int)<x)=false/\decide ((4096:Int)<(t.size:Int))=true):=by
    by_cases h1:s=1
    ·subst h1
     simp only[bne_self_eq_false,Bool.false_eq_true,QX,XE,true_and,false_or];omega
    ·exact .inl (Q6.2 h1)
   clear c
   rcases j with v|⟨v,u⟩|⟨v,u,B⟩|⟨v,u,B,I⟩
   all_goals
    go_in
    go_wp2;exact zad q.out
  ·have h1:s=1:=by omega
   subst h1;have u:decide (x<(200:Int))=false:=by simp;omega
   have B:decide ((599:Int)<x)=false:=by simp;omega
   have I:decide ((4096:Int)<(t.size:Int))=false:=by simp;omega
   rw[Qf c]at a;subst a;have F:=hIx (d.out rfl);clear b d c
   go_in
   go_wp2_with (go_at_call 21;apply Hid.out);refine WhM F ?_;rintro e J ⟨rfl,D⟩;have q:=hIx D;clear F D;go_wp2;exact zad ⟨rfl,q.out⟩
theorem zqd{g L n:Nat}{k:ConK}{m:ConM}{w:World}(h:Con w g L k m)(x:Int)(J:0<=x)(i:FineC m.s n)(K:n<=700000000000)(G:Int)(D:G=(zdW m.s x).gone)(W:World)(E:Below w.heap.size (w.setCell ⟨g,9,none⟩ (jA G)) W):
 (G<=k.tk->MPost g L k (zdH k.p (zdW m.s x)) (.tuple #[]) w (jC (.tuple #[])) W)/\
 (¬G<=k.tk->m.s.st=1->Calls prog 21 #[.pointer g,jA 504,.string (.mk #[]),jA 504] W (MPost g L k (zdH k.p (zdW m.s x)) (.tuple #[]) w))/\
 (¬G<=k.tk->m.s.st≠1->m.s.inp≠[]->Calls prog 22 #[.pointer g,jA 408,.string (.mk #[])] W λe w2=>e=jC (.tuple #[])/\Calls prog 19 #[.pointer g] w2 (MPost g L k (zdH k.p (zdW m.s x)) (.tuple #[]) w))/\
 (¬G<=k.tk->m.s.st≠1->m.s.inp=[]->MPost g L k (zdH k.p (zdW m.s x)) (.tuple #[]) w (jC (.tuple #[])) W):=by
 have v:=zj0 i J;obtain⟨⟨_,j,d,q,r⟩,_⟩:=h.puts (Qi _ _) [(9,jA G)] {m with s:=zdW m.s x} ⟨h.t.wt,h.t.wo,h.t.log,h.t.ld,h.t.own,h.t.few⟩ (by rw[D];kernel_rfl) (.tuple #[]);have F:(w.setCell ⟨g,9,none⟩ (jA G)).heap.size=w.heap.size:=by simp
 obtain⟨f,B⟩:=q.below (W:=W) (by show Below (w.setCell ⟨g,9,none⟩ (jA G)).heap.size _ W;rw[F];exact E);have o:=r.trans B;have d:j.s=zdW m.s x:=d;rw[<-d]at v ⊢;have H:j.s.st=m.s.st:=by rw[d];rfl
 have I:j.s.inp=m.s.inp:=by rw[d];rfl
 have z:j.s.gone=G:=by rw[D,d]
 rw[<-z,<-H,<-I];unfold zdH;have l:k.p.tk=k.tk:=rfl;rw[l];refine⟨λa=>?_,λa b=>?_,λa b c=>?_,λa b c=>?_⟩
 ·rw[Qj a];exact⟨rfl,j,rfl,f,o⟩
 ·rw[Qf a,Qj b]
  exact(zeu f 504 (by decide) (ByteArray.mk #[]) (by decide) 504 v.big K).mono λe w2 l=>MPost.then o l
 ·rw[Qf a,Qf b,Qj c]
  refine(zcS f 408 (by decide) (ByteArray.mk #[]) (by decide) (by have:=v.big.down;omega)).mono ?_;rintro e w2 ⟨⟨rfl,N,u,y,A⟩,_⟩;refine⟨rfl,(zkb y).mono λe w3 l=>?_⟩;have C:=MPost.then (o.trans A) l.1;rw[u]at C;exact C
 ·rw[Qf a,Qf b,Qf (by rw[c];simp)]
  exact⟨rfl,j,rfl,f,o⟩
theorem zsv{g L n:Nat}{k:ConK}{m:ConM}{w:World}(h:Con w g L k m)(x:Int)(b:FineC m.s n)(U:n<=700000000000):
 Calls prog 15 #[.pointer g,jA x] w (MPost g L k (zi9 k.p m.s x) (jA (zfH m.s x)) w):=by
 have c:∀y,y≠0->zfH m.s x=y->MPost g L k (zi9 k.p m.s x) (jA (zfH m.s x)) w (jC (jA y)) w:=λy Q H=>by
  have v:zi9 k.p m.s x=m.s:=by unfold zi9;rw[H,Qf Q]
  rw[H,v];exact⟨rfl,m,rfl,h,Fr.refl⟩
 have t:=h.box.cells;have f9:=h.box.free;unfold zaO at t
 by_cases h2:m.s.st=2
 ·have f:zfH m.s x=8:=by unfold zfH;rw[Qj h2]
  have hb:=c 8 (by decide) f;rw[f]at hb ⊢;have d:=hIx hb;rw[h2]at t;clear h b c hb f h2
  go_in
  go_wp2;exact zad d.out
 ·have n2:(m.s.st==2)=false:=Qc.2 h2
  by_cases C:x<1\/1000<x
  ·have f:zfH m.s x=1:=by unfold zfH;rw[Qf h2,Qj C]
   have hb:=c 1 (by decide) f;rw[f]at hb ⊢;have d:=hIx hb;clear h b c h2 hb f
   by_cases h1:x<1
   ·have F:decide (x<(1:Int))=true:=by simp;omega
    go_in
    go_wp2;exact zad d.out
   ·have F:decide (x<(1:Int))=false:=by simp;omega
    have K:decide ((1000:Int)<x)=true:=by simp;omega
    go_in
    go_wp2;exact zad d.out
  ·have f:zfH m.s x=0:=by unfold zfH;rw[Qf h2,Qf C]
   have v:zi9 k.p m.s x=zdH k.p (zdW m.s x):=by unfold zi9;rw[Qj f]
   have F:decide (x<(1:Int))=false:=by simp;omega
   have K:decide ((1000:Int)<x)=false:=by simp;omega
   have D:=b.lo;have A:=b.hi;have u:IntKind.i64.wrap (m.s.gone+x)=m.s.gone+x:=Qz _ (by omega);have J:=hIx (λG o W N=>zqd h x (by omega) b U G o W N);obtain⟨G,o⟩:∃G,min (m.s.gone+x) 2000=G:=⟨_,rfl⟩
   have j:=J.out G (by rw[<-o,Int.min_def];rfl) (w.setCell ⟨g,9,none⟩ (jA G)).drew (Qi _ _).drew;rw[f,v];clear h b c h2 C f v D A J;generalize zdH k.p (zdW m.s x)=S' at *;obtain⟨I,B⟩:∃I,bs m.s.inp=I:=⟨_,rfl⟩
   rw[B]at t
   have l:(m.s.inp=[]/\I=ByteArray.mk #[])\/(m.s.inp≠[]/\I.toList≠[]):=by
    rw[<-B,QU,zam]
    by_cases e:m.s.inp=[]
    ·exact .inl ⟨e,by rw[e];rfl⟩
    ·exact .inr ⟨e,e⟩
   clear B;generalize m.s.inp=Y at *
   by_cases i:G<=k.tk
   ·have P:decide (G<=k.tk)=true:=Qx i
    have d:=hIx (j.1 i);clear j l i
    go_in
    go_upto_region 6 with fail
    clear u o
    go_region
    all_goals
     go_wp2;exact zad ⟨rfl,d.out.2⟩
   ·have P:decide (G<=k.tk)=false:=Qt i
    by_cases h1:m.s.st=1
    ·have z:=hIx (j.2.1 i h1)
     rw[h1]at t;clear j l i h1 n2
     go_in
     go_upto_region 6 with fail
     clear u o
     go_region
     all_goals
      go_wp2_with (go_at_call 21;apply Hid.out);refine WhM z ?_;rintro e X ⟨rfl,O⟩;have d:=hIx O;go_wp2;exact zad ⟨rfl,d.out⟩
    ·have n1:(m.s.st==1)=false:=Qc.2 h1
     rcases l with ⟨q,rfl⟩|⟨q,E⟩
     ·have d:=hIx (j.2.2.2 i h1 q)
      clear j i h1 q
      go_in
      go_upto_region 6 with fail
      clear u o
      go_region
      all_goals
       go_wp2;exact zad ⟨rfl,d.out.2⟩
     ·have z:=hIx (j.2.2.1 i h1 q)
      have q2:(I.toList==[])=false:=Qc.2 E;have Z:I.toList.isEmpty=false:=by cases S:I.toList with|nil=>exact absurd S E|cons a r=>rfl
      clear j i h1 q E
      go_in
      go_upto_region 6 with fail
      clear u o
      go_region
      all_goals
       go_wp2_with (go_at_call 22;apply Hid.out);refine WhM z ?_;rintro e w2 ⟨rfl,h2⟩;have V:=hIx h2;clear h2;go_wp2_with (go_at_call 19;apply Hid.out);refine WhM V ?_;rintro e w3 ⟨rfl,T⟩;have d:=hIx T;go_wp2;exact zad ⟨rfl,d.out⟩
attribute [go_sem] results18
theorem zAm{w:World}{base:Nat}{v:Value}{l:List Int}(h:OwnG rowZ w base v l):OwnK w base v l:=by
 have h1:w.ownsRow base 3 1 v l.length (l.flatMap λz=>[jA z]):=h;rw[zmF]at h1;exact h1
def RB(w:World)(g:Nat)(x:RuM):Prop:=w.heap[g]? = some (.cells (zax x).toArray 68 (0,0))
theorem RB.put2{w:World}{g:Nat}{x:RuM}(h:RB w g x)(A:Option Addr)(c:Nat):RB (w.setCell ⟨g,2,none⟩ (.slice A x.r.vars.length c)) g {x with vA:=A,vc:=c}:=QW w g 2 _ _ _ h
theorem RB.put3{w:World}{g:Nat}{x:RuM}(h:RB w g x)(A:Option Addr)(c:Nat):RB (w.setCell ⟨g,3,none⟩ (.slice A x.r.pipe.length c)) g {x with pA:=A,pc:=c}:=QW w g 3 _ _ _ h
theorem RB.put7{w:World}{g:Nat}{x:RuM}(h:RB w g x)(A:Option Addr)(c:Nat):RB (w.setCell ⟨g,7,none⟩ (.slice A x.r.acts.length c)) g {x with aA:=A,ac:=c}:=QW w g 7 _ _ _ h
theorem RB.below{w w':World}{g:Nat}{x:RuM}(h:RB w g x)(hb:w w'):RB w' g x:=(hb.block g (QI.1 h).1).trans h
theorem zxX{f:Type}(R:RowT f){wr W w2:World}(hb:wr W)(b:wr.heap.size<W.heap.size){v:Value}{l:List f}(g:OwnG R w2 W.heap.size v l)(a:W w2)(j:Nat)(u:Value):
 OwnG R (w2.setCell ⟨wr.heap.size,j,none⟩ u) (wr.heap.size+1) v l/\wr (w2.setCell ⟨wr.heap.size,j,none⟩ u)/\wr.heap.size<(w2.setCell ⟨wr.heap.size,j,none⟩ u).heap.size/\∀{e:Type} (c:RowT e) (v':Value) (d:List e),OwnG c W (wr.heap.size+1) v' d->OwnG c (w2.setCell ⟨wr.heap.size,j,none⟩ u) (wr.heap.size+1) v' d:=
 ⟨zbE (OwnG.low g b) (Zu _) j u,(hb.trans (a.mono (QZ b))).setCell (p:=⟨wr.heap.size,j,none⟩) (Qd _) u,by simp only[ZT];exact Qw b a.size,λc v' d h=>zbE (h.below a) (Zu _) j u⟩
def zs7(a:RuArg)(w:World)(e:Ending)(w':World):Prop:=
 ∃b:RuArg,e=jC (.agg #[jA b.most,jA b.status,.slice b.A b.l.length b.c])/\b.set=a.set/\RuLies w' w'.heap.size b/\w w'
def zAu(l:List RuM)(m st:Int)(a:World)(i:Value)(wr:World):Prop:=∃k d v,k<=l.length/\i=jA (k:Int)/\PyAt a wr m st v d/\d.map RuM.r=(l.take k).map RuM.r
theorem zt4(a:RuArg)(w:World)(h:RuLies w w.heap.size a)(hs:zb9 a):Calls prog 18 #[a.value] w (zs7 a w):=by
 obtain⟨m,st,A,c,l⟩:=a;obtain⟨o,J⟩:∃o,w.alloc (.cells #[jA m,jA st,.slice A l.length c] 24)=o:=⟨_,rfl⟩
 obtain⟨W0,G⟩:∃W0,(o.alloc (.cells #[jA 0,jA 0,jD 0 0] 24)).alloc (.cells #[jA m,jA st,jD 0 0] 24)=W0:=⟨_,rfl⟩
 have hu:w.heap.size+1=o.heap.size:=by rw[<-J];simp
 have q:w o:=by rw[<-J];exact WaL
 have Y:Hid (PyAt o W0 m st (jD 0 0) []):=hIx ⟨by rw[<-G];exact zbb _ _ _ (by simp),by rw[<-G];exact(Qs _ _ _ (by simp)).trans (Qv o _),OwnRu.nil _ _,λx hx=>(by cases hx),λx hx=>(by cases hx),by rw[<-G];exact WaL.alloc (by simp) _⟩
 have hI:Hid (∀W,o W->∀k (hk:k<l.length),(∃b h7,A=some ⟨b,h7,none⟩/\b<w.heap.size/\∀j,j<9->∀v,(zax l[k])[j]? = some v->W.cell? ⟨b,h7+k*9+j,none⟩=some v)/\ze3 l[k].r):=hIx λW hb k hk=>
  ⟨zsy (h.sl.below (q.trans (hb.mono q.size))) k hk,hs.all _ (QC hk)⟩
 have hE:Hid (∀W,o W->∀x∈l,RuIn W w.heap.size x):=hIx λW hb x hx=>(h.all x hx).keep (q.trans (hb.mono q.size)) (Qd _)
 have T:=hIx hs.len
 have U:Hid (∀wr v d,PyAt o wr m st v d->d.map RuM.r=l.map RuM.r->∃A' c',v=.slice A' d.length c'/\∀u0 u1 u2,zs7 ⟨m,st,A,c,l⟩ w (jC (.agg #[jA m,jA st,.slice A' d.length c'])) (((wr.setCell ⟨o.heap.size,0,none⟩ u0).setCell ⟨o.heap.size,1,none⟩ u1).setCell ⟨o.heap.size,2,none⟩ u2)):=hIx λwr v d e hd=>by
  obtain⟨A',c',hv,hm,_⟩:=e.rows.form;refine⟨A',c',hv,λu0 u1 u2=>⟨⟨m,st,A',c',d⟩,rfl,by unfold RuArg.set;dsimp only;rw[hd],?_,?_⟩⟩
  ·have t:o.heap.size<o.heap.size+1+1:=by omega
   have hr:=zbE (zbE (zbE e.rows t 0 u0) t 1 u1) t 2 u2;obtain⟨A2,c2,hB,_,hQ⟩:=OwnRu.form hr;rw[hv]at hB;injection hB with e1 e2 e3
   subst e1;exact⟨hQ,λx hx=>((((e.own x hx).farS t 0 u0).farS t 1 u1).farS t 2 u2).ruIn,hm⟩
  ·exact(((q.trans (e.bel.mono q.size)).setCell (p:=⟨o.heap.size,0,none⟩) q.size _).setCell (p:=⟨o.heap.size,1,none⟩) q.size _).setCell (p:=⟨o.heap.size,2,none⟩) q.size _
 unfold RuArg.value;dsimp only;have hP:=hIx J;have hX:=hIx G;have HZ:=hIx hu;clear J G q h hs hu
 go_in
 go_wp2_with fail;rw[hP.out,HZ.out,hX.out]
 go_loopw [11] (λi wr=>zAu l m st o i wr) (λi _=>l.length-(intOf i).toNat)
 case atStart=>exact⟨0,[],_,Qn _,rfl,Y.out,rfl⟩
 case round=>
  obtain⟨k,d,v,hk,rfl,e,hd⟩:=hrel
  by_cases N:k<l.length
  ·have d1:decide ((k:Int)<(l.length:Int))=true:=by simp;omega
   have i7:IntKind.i64.wrap ((k:Int)+1)=(k:Int)+1:=Qz _ (by have:=T.out;omega);obtain⟨⟨b',h7,rfl,_,s⟩,hp⟩:=hI.out wr e.bel k N;have HT:Hid ((l.take (k+1)).map RuM.r=(l.take k).map RuM.r++[l[k].r]):=hIx (by rw[Qu N,Q2];rfl);have hK:=λW hb=>hE.out W hb l[k] (QC N)
   generalize l[k]=X at *;have ho:o o:=Qi _ _;obtain⟨Z,y⟩:∃Z,wr.alloc (.cells (zax X).toArray 68)=Z:=⟨_,rfl⟩
   have I:RB Z wr.heap.size X:=by rw[<-y];exact Qv wr _
   have hj:wr Z:=by rw[<-y];exact WaL
   have hJ:wr.heap.size<Z.heap.size:=by rw[<-y];simp
   have h6:=hIx e
   have L:Hid (∀W,wr W->Sl W w.heap.size 3 X.vA X.r.vars.length (X.r.vars.flatMap ziN.cells)/\Sl W w.heap.size 1 X.pA X.r.pipe.length (X.r.pipe.flatMap rowZ.cells)/\Sl W w.heap.size 2 X.aA X.r.acts.length (X.r.acts.flatMap zlO.cells)):=hIx λW hb=>by
    have h3:=hK W (e.bel.trans (hb.mono e.bel.size));refine⟨h3.vars,?_,h3.acts⟩;show Sl W w.heap.size 1 X.pA X.r.pipe.length (X.r.pipe.flatMap λz=>[jA z])
    rw[zmF];exact h3.pipe
   have C:=hIx hp;clear hK hp ho;obtain⟨⟨id,B,n,g,no,op,hG,f,D⟩,vA,vc,pA,pc,aA,ac⟩:=X;have c0:=s 0 (by decide) _ rfl;have c1:=s 1 (by decide) _ rfl;have c2:=s 2 (by decide) _ rfl;have c3:=s 3 (by decide) _ rfl;have c4:=s 4 (by decide) _ rfl;have c5:=s 5 (by decide) _ rfl;have K:=s 6 (by decide) _ rfl;have c7:=s 7 (by decide) _ rfl;have c8:=s 8 (by decide) _ rfl;rw[XH]at c0;dsimp only at c0 c1 c2 c3 c4 c5 K c7 c8 L C HT;unfold zax at y;have hF:=hIx y;have HD:=hIx hd;clear y e s hd;go_upto_region 6 with fail
   rw[hF.out];clear hF c0 c1 c2 c3 c4 c5 K c7 c8;have H:=zak I;have g9:=λj=>Zc _ _ j _ _ I
   unfold zax at H;have hO:=hIx (L.out Z hj).1;have hW:Hid (n.length<=1048576):=hIx C.out.vars;have hU:Hid (g.length<=1048576):=hIx C.out.pipe;have hL:Hid (f.length<=1048576):=hIx C.out.acts;go_upto_region 7 with (at_builtin;refine zbF ziN rfl (.const (jD 0 0)) (.tmp 16) rfl Z.heap.size (jD 0 0) [] rfl (OwnG.nil _ _ _) (Qd _) vA n.length vc n rfl rfl w.heap.size hO.out (by have:=hW.out;simp;omega) ?_;intro v2 w2 h0 h8 _ _;obtain⟨A2,c2,rfl,_⟩:=h0.form;have r2:=RB.below I h8;have p9:=zak r2;have k9:=λj=>Zc _ _ j _ _ r2)
   have P:OwnG ziN w2 Z.heap.size (.slice A2 n.length c2) n:=h0;obtain⟨t3,h9,ht,p3⟩:=zxX ziN hj hJ P h8 2 (.slice A2 n.length c2);have E:=r2.put2 A2 c2;dsimp only at E;clear r2 p9 k9 h0 P h8 p3 H g9 I hj hJ;generalize w2.setCell ⟨wr.heap.size,2,none⟩ (.slice A2 n.length c2)=W3 at *;have H:=zak E;have g9:=λj=>Zc _ _ j _ _ E
   unfold zax at H;have hT:=hIx (L.out W3 h9).2.1;go_upto_region 8 with (at_builtin;refine zbF rowZ rfl (.const (jD 0 0)) (.tmp 20) rfl W3.heap.size (jD 0 0) [] rfl (OwnG.nil _ _ _) (Qd _) pA g.length pc g rfl rfl w.heap.size hT.out (by have:=hU.out;simp;omega) ?_;intro v4 w4 ha hi _ _;obtain⟨A4,c4,rfl,_⟩:=ha.form;have r4:=RB.below E hi;have p9:=zak r4;have k9:=λj=>Zc _ _ j _ _ r4)
   have Q:OwnG rowZ w4 W3.heap.size (.slice A4 g.length c4) g:=ha;obtain⟨t5,hg,hw,p5⟩:=zxX rowZ h9 ht Q hi 3 (.slice A4 g.length c4);have hn:=p5 ziN _ _ t3;clear t3;have F:=r4.put3 A4 c4;dsimp only at F;clear r4 p9 k9 ha Q hi p5 H g9 E h9 ht;generalize w4.setCell ⟨wr.heap.size,3,none⟩ (.slice A4 g.length c4)=W5 at *;have H:=zak F;have g9:=λj=>Zc _ _ j _ _ F
   unfold zax at H;have hR:=hIx (L.out W5 hg).2.2;go_upto_region 9 with (at_builtin;refine zbF zlO rfl (.const (jD 0 0)) (.tmp 24) rfl W5.heap.size (jD 0 0) [] rfl (OwnG.nil _ _ _) (Qd _) aA f.length ac f rfl rfl w.heap.size hR.out (by have:=hL.out;simp;omega) ?_;intro v6 w6 hf hc _ _;obtain⟨A6,K,rfl,_⟩:=hf.form;have r6:=RB.below F hc;have p9:=zak r6;have k9:=λj=>Zc _ _ j _ _ r6)
   have S:OwnG zlO w6 W5.heap.size (.slice A6 f.length K) f:=hf;obtain⟨t7,hh,hY,p7⟩:=zxX zlO hg hw S hc 7 (.slice A6 f.length K);have hz:=p7 ziN _ _ hn;have hy:=p7 rowZ _ _ t5;clear hn t5;have h5:=r6.put7 A6 K;dsimp only at h5;clear r6 p9 k9 hf S hc p7 H g9 F hg hw;generalize w6.setCell ⟨wr.heap.size,7,none⟩ (.slice A6 f.length K)=W7 at *;have H:=zak h5;have g9:=λj=>Zc _ _ j _ _ h5
   unfold zax at H;have u:=h6.out.below hh;have t:=R3.lt h6.out.out;have hH:RuOwn W7 (o.heap.size+1+1) ⟨⟨id,B,n,g,no,op,hG,f,D⟩,A2,c2,A4,c4,A6,K⟩:=RuOwn.low ⟨hz,zAm hy,t7⟩ (by omega);have hq:o.heap.size+1+1<=W7.heap.size:=by have:=hh.size;omega
   have hS:d.length<=1048576:=by
    have h1:=HD.out;have h2:=Zm List.length h1;rw[Qk,Qk,QK]at h2;have:=T.out;omega
   have o7:=u.out.cell;have f7:=u.out.free;have hA:=hIx u.rows;have hV:=hIx hH;have O:=hIx u;clear hz hy t7 u t hH h6 hh;go_wp2_with (at_builtin;refine zg2 rfl (.tmp 28) (.tmp 30) rfl (o.heap.size+1+1) v d rfl hA.out hq _ ⟨⟨id,B,n,g,no,op,hG,f,D⟩,A2,c2,A4,c4,A6,K⟩ rfl _ rfl 1 rfl hS ?_;intro v8 w8 he h4 hD _;have hN:=hIx (PyAt.push O.out hV.out C.out he h4 hD);obtain⟨A8,c8,hC,_,_⟩:=he.form;rw[Qb,QH]at hC;subst hC;have o8:R3 w8 (o.heap.size+1) m st v:=(h4.block _ (Zu _)).trans O.out.out;have o5:=o8.cell.2.2;have f5:=o8.free 2;clear he h4 hD o7 f7);exact⟨⟨k+1,_,_,N,rfl,hN.out,by rw[Q2,HD.out,HT.out];rfl⟩,by simp only[intOf];omega⟩
  ·obtain rfl:k=l.length:=by omega
   rw[Q0]at hd;obtain⟨A',c',rfl,V⟩:=U.out wr v d e hd;have HF:=hIx (V (jA m) (jA st) (.slice A' d.length c'));have o7:=e.out.cell;have q7:=e.res.cell;have f7:=e.res.free;clear V e hd U hI hE Y;go_wp2;exact zad HF.out
def ziX(a:RuArg)(H B A0 num:Int)(c:Nat)(tk:Int)(w:World)(e:Ending)(w':World):Prop:=
 w w'/\((zcd a.set H B A0≠0/\e=jC (.tuple #[.pointer none,jA (zcd a.set H B A0)]))\/
  (zcd a.set H B A0=0/\∃(g:Nat) (b:RuArg) (m:ConM),e=jC (.tuple #[.pointer g,jA 0])/\w.heap.size<=g/\b.set=a.set/\m.s=newC/\Con w' g w'.heap.size ⟨b,H,B,A0,num,c,tk⟩ m))
theorem zyj{a b:RuArg}(h:b.set=a.set)(d:zb9 a):zb9 b:=by
 have e:b.l.map RuM.r=a.l.map RuM.r:=Zm zfy.list h;have f:=Zm List.length e;rw[Qk,Qk]at f;refine⟨by rw[f];exact d.len,λx j=>?_⟩;have g:x.r∈a.l.map RuM.r:=by rw[<-e];exact QS.2 ⟨x,j,rfl⟩
 obtain⟨y,i,c⟩:=QS.1 g;rw[<-c];exact d.all y i
def newM:ConM:=⟨newC,badM 0,jD 0 0,[]⟩
theorem zyx{a b:RuArg}{H B A0 num tk:Int}{g:Nat}{w w2:World}(k:zb9 a)(m:g<4294967296)(d:LibOk w)(c:TabOk w)(h:b.set=a.set)(i:zcd a.set H B A0=0)(hl:RuLies w2 w2.heap.size b)(hb:w w2):
 ziX a H B A0 num g tk w (jC (.tuple #[.pointer w2.heap.size,jA 0])) (w2.alloc (.cells (zaO ⟨b,H,B,A0,num,g,tk⟩ newM) 60)):=by
 have f:w2 (w2.alloc (.cells (zaO ⟨b,H,B,A0,num,g,tk⟩ newM) 60)):=WaL;have e:=hb.trans (f.mono hb.size);have n:(w2.alloc (.cells (zaO ⟨b,H,B,A0,num,g,tk⟩ newM) 60)).heap.size=w2.heap.size+1:=Qp _ _;refine⟨e,.inr ⟨i,w2.heap.size,b,newM,rfl,hb.size,h,rfl,⟨by omega,Qd _,λW j=>?_,hl.keep f (Qd _),zyj h k,by rw[h];exact i,m⟩,Qv w2 _,rfl,zla _ _ _,OwnG.nil _ _ _,rfl,λx l=>(by cases l),Qn _⟩⟩;have:=e.trans (j.mono hb.size);exact⟨d.below this,c.below this⟩
theorem zsV(a:RuArg)(H B A0 num:Int)(I:Nat)(tk:Int)(w:World)(h:RuLies w w.heap.size a)(O:zb9 a)(hc:I<4294967296)(h3:0<=num)(V:num<=255)(h4:1<=tk)(Z:tk<=1000)(r:LibOk w)(C:TabOk w):
 Calls prog 4 #[a.value,.agg #[jA H,jA B,jA A0],jA num,.int .u32 (I:Int),jA tk] w (ziX a H B A0 num I tk w):=by
 obtain⟨f,o⟩:∃f,((w.alloc (.cells #[jA a.most,jA a.status,.slice a.A a.l.length a.c] 24)).alloc (.cells #[jA H,jA B,jA A0] 26))=f:=⟨_,rfl⟩
 have U:f.heap.size=w.heap.size+2:=by rw[<-o];simp
 have d:w f:=by rw[<-o];exact WaL.alloc (by simp) _
 have hR:f.heap[w.heap.size]? = some (.cells #[jA a.most,jA a.status,.slice a.A a.l.length a.c] 24 (0,0)):=by
  rw[<-o];exact(Qs _ _ _ (by simp only[Qp];omega)).trans (Qv w _)
 have hQ:f.heap[w.heap.size+1]? = some (.cells #[jA H,jA B,jA A0] 26 (0,0)):=by
  rw[<-o];exact zbb _ _ _ (by simp only[Qp])
 have n:Hid (∀W,f W->(∀j,W.cell? ⟨w.heap.size,j,none⟩=(#[jA a.most,jA a.status,.slice a.A a.l.length a.c]:Array Value)[j]?)/\(∀j,W.cell? ⟨w.heap.size+1,j,none⟩=(#[jA H,jA B,jA A0]:Array Value)[j]?)):=hIx λW hb=>
  ⟨zak ((hb.block _ (by omega)).trans hR),zak ((hb.block _ (by omega)).trans hQ)⟩
 have h5:Hid (∀W,f W->w W):=hIx λW hb=>d.trans (hb.mono d.size)
 have G:Hid (Calls prog 16 #[.agg #[jA a.most,jA a.status,.slice a.A a.l.length a.c]] f (zbc (za1 argC a.set) f)):=hIx (ziL a f (h.keep d d.size) O (r.below d))
 have h0:Hid (∀W,f W->Calls prog 18 #[.agg #[jA a.most,jA a.status,.slice a.A a.l.length a.c]] W (zs7 a W)):=hIx λW hb=>by
  have F:=d.trans (hb.mono d.size);exact zt4 a W (h.keep F F.size) O
 have D:Hid (zcd a.set H B A0=if za1 argC a.set≠0 then za1 argC a.set else bndE H B A0):=rfl;have k:Hid (∀W,f W->zcd a.set H B A0≠0->ziX a H B A0 num I tk w (jC (.tuple #[.pointer none,jA (zcd a.set H B A0)])) W):=hIx λW hb t=>⟨d.trans (hb.mono d.size),.inl ⟨t,rfl⟩⟩
 have g:=hIx (λ(b:RuArg) (w2:World) (u:b.set=a.set) t hl (hb:f w2)=>zyx (num:=num) (tk:=tk) (H:=H) (B:=B) (A0:=A0) O hc r C u t hl (d.trans (hb.mono d.size)));have d1:decide (num<(0:Int))=false:=by simp;omega
 have d2:decide ((255:Int)<num)=false:=by simp;omega
 have d3:decide (tk<(1:Int))=false:=by simp;omega
 have d4:decide ((1000:Int)<tk)=false:=by simp;omega
 have r0:=zak hR;have X:=hIx o;unfold RuArg.value;clear o hR hQ h O U d r C h3 V h4 Z;generalize ziX a H B A0 num I tk w=P at *;generalize zcd a.set H B A0=J at *
 go_in
 go_upto_region 1 with fail
 rw[X.out];go_wp2_with (go_at_call 16;apply Hid.out);refine WhM G ?_;rintro e Q ⟨rfl,x⟩;have ⟨_,q9⟩:=n.out Q x;clear r0 G
 by_cases m:za1 argC a.set=0
 rotate_left
 ·have n0:(za1 argC a.set != 0)=true:=Q6.2 m
  have y:J=za1 argC a.set:=by rw[D.out,Qj m]
  have u:=k.out Q x (by rw[y];exact m);rw[y]at u;have L:=hIx u;clear u y m D k g;go_wp2;exact L.out
 ·rw[Qf (by rw[m];decide)]at D
  rw[m];have HC:=hIx (zgx H B A0 Q);clear m;go_wp2_with (go_at_call 17;apply Hid.out);refine WhM HC ?_;rintro e w2 ⟨rfl,s⟩;have s:=x.trans (s.mono x.size);have ⟨p9,q9⟩:=n.out w2 s;clear x HC
  by_cases t:J=0
  rotate_left
  ·have y:=D.out
   have u:=k.out w2 s t;rw[y]at u t;have n0:(bndE H B A0 != 0)=true:=Q6.2 t;have L:=hIx u;clear u y t D k g;go_wp2;exact L.out
  ·have y:=D.out
   rw[t]at y;rw[<-y];have HG:=hIx (λb w2 u hl hb=>g.out b w2 u t hl hb);clear D y t k g;go_upto_region 9 with fail
   refine zcm 6 (λW=>f W) (by kernel_rfl) s.drew ?_;intro q;generalize w2.drew=wd at q ⊢;refine zaq (i:=0) (v:=?v0_1) [1,6] (some 38) rfl rfl (by kernel_rfl) (by kernel_rfl) (by kernel_rfl) (by decide) (by kernel_rfl) (by decide) (by kernel_rfl) (λ_ _ _ h=>h) (by rfl) ?hy0_1 q ?rest0_1
   case hy0_1=>(intro w E;obtain⟨u9,v9⟩:=n.out w E;go_simp;try rfl)
   intro _
   (try simp only[Act.put,Qa,Qg,Qh])
   refine zaq (i:=2) (v:=?v2_2) [6] (some 40) rfl rfl (by kernel_rfl) (by kernel_rfl) (by kernel_rfl) (by decide) (by kernel_rfl) (by decide) (by kernel_rfl) (λ_ _ _ h=>h) (by rfl) ?hy2_2 q ?rest2_2
   case hy2_2=>(intro w E;obtain⟨u9,v9⟩:=n.out w E;go_simp;try rfl)
   intro _
   (try simp only[Act.put,Qa,Qg,Qh])
   refine zab (i:=3) (v:=?v3_3) (some 41) rfl rfl (by kernel_rfl) (by kernel_rfl) (by kernel_rfl) (by decide) (λ_ _ _ h=>h) (by rfl) ?hy3_3 q ?rest3_3
   case hy3_3=>(intro w;go_simp;try rfl)
   intro _
   (try simp only[Act.put,Qa,Qg,Qh])
   refine zab (i:=4) (v:=?v4_4) (some 42) rfl rfl (by kernel_rfl) (by kernel_rfl) (by kernel_rfl) (by decide) (λ_ _ _ h=>h) (by rfl) ?hy4_4 q ?rest4_4
   case hy4_4=>(intro w;go_simp;try rfl)
   intro _
   (try simp only[Act.put,Qa,Qg,Qh])
   refine zab (i:=5) (v:=?v5_5) (some 43) rfl rfl (by kernel_rfl) (by kernel_rfl) (by kernel_rfl) (by decide) (λ_ _ _ h=>h) (by rfl) ?hy5_5 q ?rest5_5
   case hy5_5=>(intro w;go_simp;try rfl)
   intro _
   (try simp only[Act.put,Qa,Qg,Qh])
   refine zdq (i:=1) (some 39) _ (by kernel_rfl) rfl rfl rfl (by rfl) ?_;intro K z
   go_simp
   refine(h0.out _ q).mono ?_;rintro e wz ⟨b,rfl,S,T,Y⟩;have q:=q.trans (Y.mono q.size);have N:=HG.out b wz S T q;unfold zaO newM newC badM errO at N;dsimp only at N;have L:=hIx N;clear N;refine z.out _ _ q λ_=>?_
   (try simp only[Act.put,Qa,Qg,Qh])
   refine zaj (i:=6) (some 44) _ (by kernel_rfl) rfl rfl rfl (by rfl) (by kernel_rfl) ?_;intro K z
   go_simp
   refine z.out _ _ ?_
   (try simp only[Act.put,Qa,Qg,Qh])
   refine zaj (i:=7) (some 45) _ (by kernel_rfl) rfl rfl rfl (by rfl) (by kernel_rfl) ?_;intro K z
   go_simp
   refine z.out _ _ ?_
   (try simp only[Act.put,Qa,Qg,Qh])
   refine zaj (i:=8) (some 10) _ (by kernel_rfl) rfl rfl rfl (by rfl) (by kernel_rfl) ?_;intro K z
   go_simp
   refine z.out _ _ ?_
   (try simp only[Act.put,Qa,Qg,Qh])
   refine zaj (i:=9) (some 11) _ (by kernel_rfl) rfl rfl rfl (by rfl) (by kernel_rfl) ?_;intro K z
   go_simp
   refine z.out _ _ ?_
   (try simp only[Act.put,Qa,Qg,Qh])
   refine zcl (by kernel_rfl) ?_ _;go_wp2;exact L.out
theorem zuP:zcd zcs 4096 4096 40=0:=by
 unfold zcd;rw[zlp,Qf (by decide)]
 decide
section
variable {p:ConP} {C:ConS} {n:Nat}
theorem zxK(a:0<=p.H)(b:0<=p.B)(c:∀q,StIn (p.F q).st/\StIn (p.F q).err)(h:FineC C n)(d:C.inp.length<=65536)(x:VarV):FineC (doC p C x) (n+65540):=by
 unfold doC
 split
 ·exact zqB a b c h _
 split
 ·exact znq a b c h d _ _
 split
 ·exact ztG a b c h d
 split
 ·exact zsA a b c h d _
 split
 ·exact(zpD h).more (by omega)
 ·exact h.more (by omega)
end
def EnIn(w:World)(g L:Nat)(k:ConK)(S:ConS)(n:Nat)(wr:World):Prop:=∃m,m.s=S/\Con wr g L k m/\w wr/\FineC S n
def zy1(S:ConS):Prop:=S.st=2/\S.up=[]/\S.down=[]/\S.log=[]
section
variable {g L n:Nat} {k:ConK} {S:ConS} {w wr:World}
theorem EnIn.post{a:ConS}{r:Value}{e:Ending}{w':World}{n':Nat}(h:EnIn w g L k S n wr)(f:w.heap.size<=g)(b:MPost g L k a r wr e w')(c:FineC a n'):e=jC r/\EnIn w g L k a n' w':=by
 obtain⟨h1,m,h2,i,d⟩:=b;obtain⟨_,_,_,hb,_⟩:=h;exact⟨h1,m,h2,i,hb.trans (d.low.mono f),c⟩
theorem zos(h:EnIn w g L k S n wr):Calls prog 8 #[.pointer g] wr λe w'=>e=jC (jA S.st)/\w'=wr:=by
 obtain⟨m,rfl,a,_⟩:=h;exact zrM a
def EnP(w:World)(g L:Nat)(k:ConK)(S:ConS)(n:Nat)(r:Value)(wr:World)(e:Ending)(w':World):Prop:=e=jC r/\EnIn w g L k S n w'/\∀j,j<wr.heap.size->j≠g->w'.heap[j]? = wr.heap[j]?
theorem zy4(h:EnIn w g L k S n wr)(d:w.heap.size<=g):Calls prog 9 #[.pointer g] wr (EnP w g L k {S with up:=[]} n (.string (bs S.up)) wr):=by
 obtain⟨m,rfl,c,hb,a⟩:=h;refine(zAo c).mono λe w' b=>?_
 have h2:=EnIn.post ⟨m,rfl,c,hb,a⟩ d b.1 (n':=n) ⟨⟨Qn _,a.big.down,a.big.log,a.big.jd0,a.big.jd⟩,a.lo,a.hi⟩;exact⟨h2.1,h2.2,b.2⟩
theorem zsM(h:EnIn w g L k S n wr)(d:w.heap.size<=g):Calls prog 10 #[.pointer g] wr (EnP w g L k {S with down:=[]} n (.string (bs S.down)) wr):=by
 obtain⟨m,rfl,c,hb,a⟩:=h;refine(zw6 c).mono λe w' b=>?_
 have h2:=EnIn.post ⟨m,rfl,c,hb,a⟩ d b.1 (n':=n) ⟨⟨a.big.up,Qn _,a.big.log,a.big.jd0,a.big.jd⟩,a.lo,a.hi⟩;exact⟨h2.1,h2.2,b.2⟩
theorem zwx(h:EnIn w g L k S n wr)(i:w.heap.size<=g):Calls prog 11 #[.pointer g] wr λe w'=>∃A c,EnP w g L k {S with log:=[]} n (.slice A S.log.length c) wr e w':=by
 obtain⟨m,rfl,b,hb,a⟩:=h;obtain⟨A,c,f,_⟩:=b.t.log.form;have hl:m.ld.length=m.s.log.length:=by rw[<-b.t.ld,Qk]
 refine(zzE b).mono λe w' d=>?_
 have h2:=EnIn.post ⟨m,rfl,b,hb,a⟩ i d.1 (n':=n) ⟨⟨a.big.up,a.big.down,Qn _,a.big.jd0,a.big.jd⟩,a.lo,a.hi⟩;rw[f,hl]at h2;exact⟨A,c,h2.1,h2.2,d.2⟩
structure EnDo(w:World)(g L:Nat)(k:ConK)(S:ConS)(n:Nat)(x:VarV)(wr:World):Prop where
 c0:x.k=0->Calls prog 12 #[.pointer g,.string x.n] wr λe w'=>e=jC (jA (doE S x))/\EnIn w g L k (doC k.p S x) (n+65540) w'
 c1:x.k=1->Calls prog 13 #[.pointer g,jA x.m,.string x.n] wr λe w'=>e=jC (jA (doE S x))/\EnIn w g L k (doC k.p S x) (n+65540) w'
 c2:x.k=2->Calls prog 14 #[.pointer g] wr λe w'=>e=jC (jA (doE S x))/\EnIn w g L k (doC k.p S x) (n+65540) w'
 c3:x.k=3->Calls prog 15 #[.pointer g,jA x.m] wr λe w'=>e=jC (jA (doE S x))/\EnIn w g L k (doC k.p S x) (n+65540) w'
 c4:x.k=4->Calls prog 7 #[.pointer g] wr λe w'=>e=jC (jA (doE S x))/\EnIn w g L k (doC k.p S x) (n+65540) w'
 c5:x.k≠0->x.k≠1->x.k≠2->x.k≠3->x.k≠4->doE S x=8/\EnIn w g L k (doC k.p S x) (n+65540) wr
theorem zAb(h:EnIn w g L k S n wr)(i:w.heap.size<=g)(o:n<=700000000000)(x:VarV)(C:x.n.size<=4611686018427387904):EnDo w g L k S n x wr:=by
 have f:=h;obtain⟨m,rfl,d,hb,j⟩:=h;obtain⟨⟨B,_⟩,r,_⟩:=zfo (zd8 d.e.ok);have b:=zxK (p:=k.p) (by show 0<=k.H;omega) r (λq=>zkW k.a.set k.cl k.A0.toNat q) j d.t.few x;refine⟨λe=>?_,λe=>?_,λe=>?_,λe=>?_,λe=>?_,λu y v z A=>?_⟩
 ·refine(zqx d x.n C j.big o).mono λl w' c=>f.post i ?_ b
  unfold doC doE;rw[Qj e,Qj e];exact c
 ·refine(zn2 d x.m x.n j.big o).mono λl w' c=>f.post i ?_ b
  unfold doC doE;rw[e];exact c
 ·refine(zuM d j.big o).mono λl w' c=>f.post i ?_ b
  unfold doC doE;rw[e];exact c
 ·refine(zsv d x.m j o).mono λl w' c=>f.post i ?_ b
  unfold doC doE;rw[e];exact c
 ·refine(ziA d).mono λl w' c=>f.post i ?_ b
  unfold doC doE;rw[e];exact c
 ·have e:doC k.p m.s x=m.s:=by unfold doC;rw[Qf u,Qf y,Qf v,Qf z,Qf A]
  refine⟨by unfold doE;rw[Qf u,Qf y,Qf v,Qf z,Qf A],?_⟩;rw[e]at b ⊢;exact⟨m,rfl,d,hb,b⟩
theorem EnIn.below(h:EnIn w g L k S n wr){W:World}(hb:wr W):EnIn w g L k S n W:=by
 obtain⟨m,h1,h2,a,b⟩:=h;exact⟨m,h1,(h2.below hb).1,a.trans (hb.mono a.size),b⟩
end
