/- Lemmas for the last texts. -/
import Derived.Test.YtnnokglddolglaaGreatDoorM33
import Derived.Shelf.Spec.SlicesInsertGrow
set_option maxHeartbeats 3200000
set_option maxRecDepth 100000
namespace Go.Proofs.YtnnokglddolglaaGreatDoor
open Go.RowKit Go.Proofs.Tryz
def dT:Tree:=.node 0 .zero []
theorem zs2(n m:Int)(w:World)(a:0<m)(h1:m<=4611686018427387904):
 Calls prog 16 #[.int .i64 n,.int .i64 m] w λe w'=>∃j:Nat,e=.returned (.int .i64 (j:Int))/\(j:Int)<m/\w'=w:=by
 have b:n.tmod m<m:=Int.tmod_lt_of_pos n a
 have d:-m<n.tmod m:=by
  have:=Int.neg_tmod n m;have:=Int.tmod_lt_of_pos (-n) a;omega
 have g:¬m=0:=by omega
 obtain⟨r,f⟩:∃r,n.tmod m=r:=⟨_,rfl⟩
 rw[f]at b d
 by_cases c:r<0
 ·go_in
  go_wp2;go_ret;exact⟨(r+m).toNat,by rw[Z5 (by omega)];rfl,by omega,rfl⟩
 ·go_in
  go_wp2;go_ret;exact⟨r.toNat,by rw[Z5 (by omega)];rfl,by omega,rfl⟩
def zlX(l:List zai):Prop:=∀r∈l,∀a∈r.acts,a.k≠4
theorem zqq(hit:Int->zai->Bool)(s:RunS)(c:List zai)(b:Adds c)(d:zlX c)(a:s.sk=0):(zc5 hit s c).sk=0:=by
 unfold zc5
 split
 ·exact a
 split
 ·omega
 split
 ·have:=(zcY c {s with mt:=s.mt++c.map (·.id)} b).2.2.2.2.1 d
  unfold doS;rw[this];exact a
 ·exact a
def zwB(a:Int)(done:List zai)(x:RunS × List zai):Prop:=x.1.sk=0/\(∀r∈x.2,r∈done)/\(x.2≠[]->∃y,done.getLast? = some y/\y.chain=true/\y.phase=a)
theorem ze1{x:zai}{l:List zai}(h:zaE (x::l)=0):zaE l=0:=by
 cases l with
 |nil=>rfl
 |cons y r=>
  unfold zaE at h
  split at h
  ·cases h
  ·exact h
theorem zky:∀(done:List zai) (r:zai) (l:List zai),zaE (done++r::l)=0->∀y,done.getLast? = some y->y.chain=true->r.phase=y.phase
 | [],r,l,_,y,a,_=>by cases a
 | [x],r,l,h,y,a,c=>by
  have e:x=y:=by simpa using a
  subst e;rw[List.singleton_append,zaE]at h
  split at h
  ·cases h
  ·rename_i b
   by_cases d:r.phase=x.phase
   ·exact d
   ·exact absurd ⟨c,d⟩ b
 |x::z::done,r,l,h,y,a,c=>by
  refine zky (z::done) r l (ze1 (x:=x) h) y ?_ c;rw[List.getLast?_cons_cons]at a;exact a
theorem zrB(hit:Int->zai->Bool)(f:Int){done:List zai}{x:RunS × List zai}(r:zai)(l:List zai)(i:zaE (done++r::l)=0)(m:Adds (done++[r]))(j:zlX (done++[r]))(h:zwB f done x):zwB f (done++[r]) (phS hit f x r):=by
 obtain⟨h1,h2,k⟩:=h
 have b:∀y∈x.2++[r],y∈done++[r]:=λy a=>by
  rcases QN.1 a with a|a
  ·exact Zr _ (h2 y a)
  ·exact Z8 _ a
 unfold phS
 split
 ·rename_i e
  refine⟨h1,λy a=>Zr _ (h2 y a),λc=>?_⟩;obtain⟨y,a,g,d⟩:=k c;exact absurd ((zky done r l i y a g).trans d) e
 ·rename_i e
  split
  ·rename_i g
   exact⟨h1,b,λ_=>⟨r,by simp,g,by simpa using e⟩⟩
  ·exact⟨zqq hit x.1 _ (λy a=>m y (b y a)) (λy a=>j y (b y a)) h1,λy a=>(by cases a),λc=>absurd rfl c⟩
theorem zkh(hit:Int->zai->Bool)(b:Int):∀(l rest done:List zai) (x:RunS × List zai),zaE (done++l++rest)=0->Adds (done++l)->zlX (done++l)->zwB b done x->zwB b (done++l) (l.foldl (phS hit b) x)
 | [],_,done,x,_,_,_,h=>by rw[QI];exact h
 |r::l,rest,done,x,a,d,c,h=>by
  rw[XK];have e:done++r::l=(done++[r])++l:=by simp
  rw[e]at d c a ⊢;refine zkh hit b l rest (done++[r]) _ a d c (zrB hit b r (l++rest) (by simpa using a) (zd7 d) (λy f=>c y (Zr _ f)) h)
theorem zg0(hit:Int->zai->Bool)(e:Int)(a b:List zai)(x:zai)(s:RunS)(q:∀v,hit v x=false)(k:x.chain=false)(j:zaE (a++b)=0)(t:Adds (a++b))(n:zlX (a++b))(g:∀y,a.getLast? = some y->y.chain=false):
 zaV hit e (a++x::b) s=zaV hit e (a++b) s:=by
 have l:=zkh hit e a b [] ({s with sk:=0},[]) j (zd7 t) (λy i=>n y (Zr _ i)) ⟨rfl,λr o=>(by cases o),λd=>absurd rfl d⟩;unfold zaV;rw[Xx,Xx,XK];rw[Xa]at l;obtain⟨h1,_,p⟩:=l
 have f:(a.foldl (phS hit e) ({s with sk:=0},[])).2=[]:=by
  by_cases d:(a.foldl (phS hit e) ({s with sk:=0},[])).2=[]
  ·exact d
  ·obtain⟨y,i,m,_⟩:=p d
   rw[g y i]at m;cases m
 have h:phS hit e (a.foldl (phS hit e) ({s with sk:=0},[])) x=a.foldl (phS hit e) ({s with sk:=0},[]):=by
  generalize a.foldl (phS hit e) ({s with sk:=0},[])=u at *;obtain⟨u,c⟩:=u;dsimp only at f h1;subst f;unfold phS
  split
  ·rfl
  ·rw[Qe (by simp[k])]
   have:zc5 hit u ([]++[x])=u:=by
    unfold zc5
    split
    ·rfl
    ·rw[Qe (by omega),Qe (by simp[q])]
   dsimp only;rw[this]
 rw[h]
theorem zqP(hit:Int->zai->Bool)(most c:Int)(a b:List zai)(x:zai)(i:∀j,hit j x=false)(f:x.chain=false)(e:zaE (a++b)=0)(h:Adds (a++b))(g:zlX (a++b))(d:∀y,a.getLast? = some y->y.chain=false):
 runS hit ⟨most,c,a++x::b⟩=runS hit ⟨most,c,a++b⟩:=by
 unfold runS;dsimp only;rw[zg0 hit 1 a b x run0 i f e h g d,zg0 hit 2 a b x _ i f e h g d]
theorem srcT{wr:World}{B n:Nat}{A:Option Addr}{d:List Value}{k m:Nat->Value}(h:Sl wr B 2 A n d){j:Nat}(p:j<n)(o:∀j,j<n->d[j*2]? = some (k j)/\d[j*2+1]? = some (m j)):
 ∃b a,A=some ⟨b,a,none⟩/\wr.cell? ⟨b,a+j*2,none⟩=some (k j)/\wr.cell? ⟨b,a+j*2+1,none⟩=some (m j):=by
 have hl:=h.len;obtain⟨b,a,e,_,q⟩:=h.src (by omega);have f:=o j p
 have c:∀i v,d[i]? = some v->wr.cell? ⟨b,a+i,none⟩=some v:=λi v l=>by
  have g:i<d.length:=(Qw.1 l).1;rw[q i g,<-l,Qc g]
 exact⟨b,a,e,by have:=c _ _ f.1;rw[show a+j*2=a+j*2 from rfl]at this;exact this,by have:=c _ _ f.2;rw[<-Zh]at this;exact this⟩
theorem zt6(g:Nat)(t:Array Value)(F:∀args w,(callFunc g args).run prog w=.ok (.enter g args) w)(A:Option Addr)(n c:Nat)(q:List Value)(x y:Nat->Value)(p:Nat->Bool)(w:World)
 (h:Sl w w.heap.size 2 A n q) (s:n<=9223372036854775807) (v:∀j,j<n->q[j*2]? = some (x j)/\q[j*2+1]? = some (y j))
 (r:∀W j,j<n->Below w.heap.size w W->Calls prog g (#[.agg #[x j,y j]]++t) W (zal (p j) W)):
 Calls prog 33 #[.slice A n c,.func (.func g) #[] t] w λe w'=>e=.returned (.int .i64 (hitI p n))/\Below w.heap.size w w':=by
 have D:=hIx r;have E:=hIx v;clear r v
 go_in
 go_wp2
 go_loopw [5,8] (λ_ i wr=>∃j:Nat,j<=n/\i=.int .i64 j/\Below w.heap.size w wr/\Hid (∀i,i<j->p i=false)) (λ_ i _=>n-(intOf i).toNat)
 case atStart=>exact⟨0,Qm _,rfl,Qg _ _,λi u=>absurd u (by omega)⟩
 case round=>
  obtain⟨j,G,rfl,hb,a⟩:=hrel
  by_cases d:j<n
  ·obtain⟨b,C,rfl,z,B⟩:=srcT (h.below hb) d E.out
   have o:=D.out wr j d hb;cases l:p j with
   |true=>
    rw[l]at o;have f:=hIx (zkn p n j d l a);clear l;go_wp2_with (go_at_fn g;refine o.mono ?_;rintro e w' ⟨rfl,k⟩);go_ret;exact⟨zac f.out.symm,hb.trans (k.mono hb.size)⟩
   |false=>
    rw[l]at o
    have m:Hid (∀i,i<j+1->p i=false):=λi u=>by
     by_cases e:i=j
     ·rw[e];exact l
     ·exact a i (by omega)
    clear l a;go_wp2_with (go_at_fn g;refine o.mono ?_;rintro e w' ⟨rfl,k⟩)
    go_roundw
    case rel=>exact⟨j+1,by omega,by go_num,hb.trans (k.mono hb.size),m⟩
    case measure=>simp[intOf] <;> omega
  ·obtain rfl:j=n:=by omega
   have f:=hIx (zdT p j a);go_wp2;go_ret;exact⟨zac f.out.symm,hb⟩
theorem zra(g:Nat)(d:Array Value)(m:∀args w,(callFunc g args).run prog w=.ok (.enter g args) w)(A:Option Addr)(n c:Nat)(b:List Value)(f i:Nat->Value)(p:Nat->Bool)(w:World)
 (h:Sl w w.heap.size 2 A n b) (a:n<=9223372036854775807) (l:∀j,j<n->b[j*2]? = some (f j)/\b[j*2+1]? = some (i j))
 (k:∀W j,j<n->Below w.heap.size w W->Calls prog g (#[.agg #[f j,i j]]++d) W (zal (p j) W)):
 Calls prog 14 #[.slice A n c,.func (.func g) #[] d] w (zal (anyN p n) w):=by
 have q:=hIx (zt6 g d m A n c b f i p w h a l k);have o:=hIx (zgl p n);clear k l h
 go_in
 go_wp2_with fail;refine q.out.mono ?_;rintro e r ⟨rfl,hb⟩;go_wp2;go_ret;exact⟨zaI o.out,hb⟩
def dAc:zbV:=⟨0,0⟩
def zvs(l:List zbV):Bool:=l.any λa=>a.k==4
def badE(x:zai):Bool:=x.id==9999||zvs x.acts
theorem zw2(k n:Int)(w:World):Calls prog 15 #[.agg #[.int .i64 k,.int .i64 n]] w (zal (k==4) w):=by
 go_in
 go_wp2;go_ret;exact⟨rfl,WaL⟩
theorem zrY(l:List zbV)(A:Option Addr)(c:Nat)(w:World)(h:Sl w w.heap.size 2 A l.length (l.flatMap za5))(hl:l.length<=1048576):
 Calls prog 14 #[.slice A l.length c,.func (.func 15) #[] #[]] w (zal (zvs l) w):=by
 have o:anyN (λj=>(l.getD j dAc).k==4) l.length=zvs l:=zcp (λy:zbV=>y.k==4) l dAc;rw[<-o];have f:=zaS za5 2 (λ_=>rfl) l
 have b:∀j i,j<l.length->i<2->(l.flatMap za5)[j*2+i]? = some ((l.flatMap za5).getD (j*2+i) undef):=λj i a q=>by
  rw[Qk,Qc (by rw[f];omega)];rfl
 generalize d:l.flatMap za5=e at *;refine zra 15 #[] (enters_of func15 (by kernel_rfl) rfl) A l.length c e (λj=>e.getD (j*2) undef) (λj=>e.getD (j*2+1) undef) _ w h (by omega) (λj a=>⟨b j 0 a (by decide),b j 1 a (by decide)⟩) (λW j a hb=>?_);have g:=zbM za5 2 (λ_=>rfl) l j 0 a (by decide);have h1:=zbM za5 2 (λ_=>rfl) l j 1 a (by decide);have h2:l.getD j dAc=l[j]:=by rw[Qk,Qc a];rfl
 rw[d,Xj]at g;rw[d]at h1;have m:e.getD (j*2) undef=.int .i64 l[j].k:=by rw[Qk,g];rfl
 have p:e.getD (j*2+1) undef=.int .i64 l[j].n:=by rw[Qk,h1];rfl
 rw[m,p,h2];exact zw2 _ _ W
theorem zu5(x:RuM)(w:World)(d:RuIn w w.heap.size x)(h:ze7 x.r):
 Calls prog 13 #[.agg #[.int .i64 x.r.id,.int .i64 x.r.phase,.slice x.vA x.r.vars.length x.vc,.slice x.pA x.r.pipe.length x.pc,.bool x.r.no,.int .i64 x.r.op,.string x.r.arg,.slice x.aA x.r.acts.length x.ac,.bool x.r.chain]] w (zal (badE x.r) w):=by
 obtain⟨c,b⟩:∃c,w.alloc (.cells #[.int .i64 x.r.id,.int .i64 x.r.phase,.slice x.vA x.r.vars.length x.vc,.slice x.pA x.r.pipe.length x.pc,.bool x.r.no,.int .i64 x.r.op,.string x.r.arg,.slice x.aA x.r.acts.length x.ac,.bool x.r.chain] 42)=c:=⟨_,rfl⟩
 have a:Below w.heap.size w c:=by rw[<-b];exact WaL
 have j:R9 c w.heap.size (.int .i64 x.r.id) (.int .i64 x.r.phase) (.slice x.vA x.r.vars.length x.vc) (.slice x.pA x.r.pipe.length x.pc) (.bool x.r.no) (.int .i64 x.r.op) (.string x.r.arg) (.slice x.aA x.r.acts.length x.ac) (.bool x.r.chain):=by rw[<-b];exact Qp w _
 have ⟨q,l,u,p,v,s,t,o,n⟩:=j.cells9;have k:=hIx (zrY x.r.acts x.aA x.ac c ((d.keep a a.size).acts) h.acts);have f:=hIx b;unfold badE;clear b j d h
 go_in
 go_upto_region 1 with fail
 rw[f.out];cases i:x.r.id==9999
 rotate_left
 ·go_wp2
  go_ret;exact⟨by rw[i];rfl,a⟩
 go_wp2_with (go_at_call 14;apply Hid.out);refine WhM k ?_;rintro e m ⟨rfl,g⟩;go_wp2;go_ret;exact⟨by rw[i];rfl,a.trans (g.mono a.size)⟩
theorem zxc(l:List RuM)(A:Option Addr)(c:Nat)(w:World)(h:Sl w w.heap.size 9 A l.length (l.flatMap zag))(k:∀x∈l,RuIn w w.heap.size x)(C:∀x∈l,ze7 x.r)(hl:l.length<=1048576):
 Calls prog 11 #[.slice A l.length c,.func (.func 13) #[] #[]] w (zal ((l.map RuM.r).any badE) w):=by
 have u:anyN (λj=>badE (l.getD j dRu).r) l.length=(l.map RuM.r).any badE:=by
  rw[zcp (λy:RuM=>badE y.r) l dRu,List.any_map];rfl
 rw[<-u];have m:=zaS zag 9 (λ_=>rfl) l
 have a:∀j i,j<l.length->i<9->(l.flatMap zag)[j*9+i]? = some ((l.flatMap zag).getD (j*9+i) undef):=λj i b g=>by
  rw[Qk,Qc (by rw[m];omega)];rfl
 have f:∀j (b:j<l.length) i,i<9->some ((l.flatMap zag).getD (j*9+i) undef)=(zag l[j])[i]? := λj b i g=>by
  rw[<-a j i b g];exact zbM zag 9 (λ_=>rfl) l j i b g
 generalize q:l.flatMap zag=d at *;refine zgH 13 #[] (enters_of func13 (by kernel_rfl) rfl) A l.length c d (λj=>d.getD (j*9) undef) (λj=>d.getD (j*9+1) undef) (λj=>d.getD (j*9+2) undef) (λj=>d.getD (j*9+3) undef) (λj=>d.getD (j*9+4) undef) (λj=>d.getD (j*9+5) undef) (λj=>d.getD (j*9+6) undef) (λj=>d.getD (j*9+7) undef) (λj=>d.getD (j*9+8) undef) _ w h (by omega) (λj b=>?_) (λW j b hb=>?_)
 ·exact⟨a j 0 b (by decide),a j 1 b (by decide),a j 2 b (by decide),a j 3 b (by decide),a j 4 b (by decide),a j 5 b (by decide),a j 6 b (by decide),a j 7 b (by decide),a j 8 b (by decide)⟩
 ·have h2:l.getD j dRu=l[j]:=by rw[Qk,Qc b];rfl
  have e:=λi g=>f j b i g
  have n:=QD (e 0 (by decide));have s:=QD (e 1 (by decide));have z:=QD (e 2 (by decide));have o:=QD (e 3 (by decide));have B:=QD (e 4 (by decide));have D:=QD (e 5 (by decide));have p:=QD (e 6 (by decide));have t:=QD (e 7 (by decide));have v:=QD (e 8 (by decide));rw[Xj]at n;rw[n,s,z,o,B,D,p,t,v,h2];exact zu5 l[j] W ((k _ (Qy b)).keep hb hb.size) (C _ (Qy b))
def zdl:zai:=⟨9999,1,[⟨1,0,ByteArray.mk #[]⟩],[],true,12,ByteArray.mk #[],[⟨2,500⟩],false⟩
theorem zq5(m t b:ByteArray)(f:List zao)(d:Nat)(e:Int)(c a:List Pair):isR zdl m t b f d e c a=false:=by
 have g:∀v,tstO 12 (ByteArray.mk #[]) v=true:=λv=>by unfold tstO;simp
 unfold isR;rw[List.any_eq_false];intro x _;show ¬hitX [] true (tstO 12 (ByteArray.mk #[])) x=true
 unfold hitX;rw[g];simp
theorem zvE:argC 12 (ByteArray.mk #[])=0:=by
 unfold argC;simp
theorem zxa:oneC argC zdl=0:=by
 have a:zaR varC [⟨1,0,ByteArray.mk #[]⟩]=0:=by decide
 have c:zaR actC [⟨2,500⟩]=0:=by decide
 have b:zbt []=0:=by decide
 simp[zdl,oneC,a,c,b,zvE]
theorem zpR{argC:Int->ByteArray->Int}:∀(l done:List zai),(∀x∈l,1<=x.id/\x.id<=9999/\(x.phase=1\/x.phase=2)/\oneC argC x=0)->(∀x∈l,∀y∈done,y.id≠x.id)->(l.map (·.id)).Nodup->goC argC done l=0
 | [],_,_,_,_=>rfl
 |x::r,done,h,d,c=>by
  obtain⟨h1,h2,i,f⟩:=h x (Q7 ..);rw[QX,ZP]at c;unfold goC;rw[Qe (by omega),Qe,Qe (by rw[f];exact λh=>h rfl)]
  ·refine zpR r _ (λy a=>h y (Q3 _ a)) (λy a z b=>?_) c.2
   rcases QN.1 b with b|b
   ·exact d y (Q3 _ a) z b
   ·rw[QE.1 b]
    exact λe=>c.1 (QO.2 ⟨y,a,e.symm⟩)
  ·intro g
   obtain⟨y,a,e⟩:=Xq.1 g;exact d x (Q7 ..) y a (by simpa using e)
theorem zkr(b:List zai)(h:zaE b=0):zaE (zdl::b)=0:=by
 cases b with
 |nil=>rfl
 |cons y r=>
  unfold zaE;rw[Qe (by intro e;exact absurd e.1 (by decide))];exact h
theorem zg7:∀(a b:List zai),zaE (a++b)=0->(∀y,a.getLast? = some y->y.chain=false)->zaE (a++zdl::b)=0
 | [],b,h,_=>zkr b h
 | [x],b,h,hl=>by
  have f:=hl x rfl;have hb:zaE b=0:=ze1 h;show zaE (x::zdl::b)=0
  unfold zaE;rw[Qe (by rw[f];intro e;cases e.1)];exact zkr b hb
 |x::y::a,b,h,hl=>by
  have ih:=zg7 (y::a) b (ze1 h) (λz g=>hl z (by rw[List.getLast?_cons_cons];exact g));have c:zaE (x::y::(a++b))=0:=h;unfold zaE at c;show zaE (x::y::(a++zdl::b))=0
  unfold zaE
  split at c
  ·cases c
  ·rename_i d
   rw[Qe d];exact ih
theorem zlY(p q:Int)(a b:List zai)(d:zaZ argC ⟨p,q,a++b⟩=0)(s:(a++b).length≠40)(k:∀x∈a++b,x.id≠9999)(hl:∀y,a.getLast? = some y->y.chain=false):zaZ argC ⟨p,q,a++zdl::b⟩=0:=by
 have j:=zeg d;have g:=(zec d).2;have m:=zjg d
 have i:∀x∈a++zdl::b,x=zdl\/x∈a++b:=λx c=>by
  rcases QN.1 c with c|c
  ·exact .inr (Zr _ c)
  ·rcases QJ.1 c with c|c
   ·exact .inl c
   ·exact .inr (Z8 _ c)
 have n:goC argC [] (a++zdl::b)=0:=by
  refine zpR _ _ (λx c=>?_) (λx _ y u=>(by cases u)) ?_
  ·rcases i x c with rfl|c
   ·exact⟨by decide,by decide,.inl rfl,zxa⟩
   ·exact⟨(g x c).id1,(g x c).id2,m x c,j.one x c⟩
  ·have o:=j.nodup
   dsimp only at o;rw[QU]at o ⊢;rw[QX];have t:((a.map (·.id))++zdl.id::b.map (·.id)).Perm (zdl.id::((a.map (·.id))++b.map (·.id))):=List.perm_middle;rw[t.nodup_iff,ZP];refine⟨λr=>?_,o⟩;rw[<-QU]at r;obtain⟨x,c,e⟩:=QO.1 r;exact k x c e
 have f:(a++zdl::b).length=(a++b).length+1:=by rw[Qa,Qa,Qo];omega
 have l:=j.len;dsimp only at l;unfold zaZ at d ⊢;dsimp only at d ⊢
 split at d
 ·cases d
 ·rename_i h1
  rw[Qe h1,Qe (by rw[f];omega),Qe (by rw[n];exact λh=>h rfl)];exact zg7 a b j.chain hl
theorem zww(f i:Int)(l:List zai)(k:Nat)(m t b:ByteArray)(j:List zao)(q most:Nat)(h:(runG ⟨f,i,l⟩ m t b j q most).1=0)(D:k<=l.length)(u:l.length≠40)(s:l.any badE=false)(w:∀(_:0<k) (h2:k-1<l.length),l[k-1].chain=false):
 runG ⟨f,i,l.take k++zdl::l.drop k⟩ m t b j q most=runG ⟨f,i,l⟩ m t b j q most:=by
 have g:l.take k++l.drop k=l:=Zm k l
 have d:zaZ argC ⟨f,i,l⟩=0:=by
  unfold runG at h
  by_cases d:zaZ argC ⟨f,i,l⟩=0
  ·exact d
  ·rw[Qi d]at h;exact absurd h d
 have hb:∀x∈l,badE x=false:=λx p=>by simpa using List.any_eq_false.1 s x p
 have c:∀y,(l.take k).getLast? = some y->y.chain=false:=λy n=>by
  rw[List.getLast?_eq_getElem?, Qz,List.getElem?_take]at n
  split at n
  ·rename_i A
   obtain⟨h2,e⟩:=Qw.1 n;have:=w (by omega) (by omega);have B:min k l.length-1=k-1:=by omega
   rw[<-e];simp only[B];exact this
  ·cases n
 have v:=zlY f i (l.take k) (l.drop k) (by rw[g];exact d) (by rw[g];exact u) (λx p e=>by
  rw[g]at p;have:=hb x p;unfold badE at this;rw[e]at this;cases this) c
 have o:=zqP (λz x=>isR x m t b j q z (ofP t j b most).2.1 (ofP t j b most).2.2) f i (l.take k) (l.drop k) zdl (λz=>zq5 _ _ _ _ _ _ _ _) rfl (by rw[g];exact(zeg d).chain) (by rw[g];exact zjR d) (by
  rw[g];intro r o a C e;have:=hb r o;unfold badE zvs at this;rw[Xv]at this;exact List.any_eq_false.1 this.2 a C (by rw[e];rfl)) c
 rw[g]at o;unfold runG;rw[d,v,o]
section
open Go.Lib
theorem zcI{P:Program}(p:Nat)(w:World)(dT s x b:TypeId)(g o c f:Nat)(a:Addr)(e k:Nat)(d:Array Value)(t:TypeId)(cs:List Value)
 (u:P.underlying dT=some (.slice b)) (q:(P.info? b).map (·.size)=some p)
 (r:w.heap[g]? = some (.cells d t (0,0))) (z:cs.length=Nat.min e c*p)
 (l:∀j v,cs[j]? = some v->w.cell? (a.add j)=some v) (h:o+cs.length<=d.size) (h1:∀v∈cs,v.oneCell'=true):
 (Builtin.copy_ #[dT,s] x #[.slice (some ⟨g,o,none⟩) c f,.slice (some a) e k]).run P w=
  .ok (goInt (Nat.min e c)) (w.setRow g (d.toList.take o++cs++d.toList.drop (o+cs.length)).toArray):=by
 have hl:=run_loadCells_list (P:=P) w a cs l;have m:=run_storeCells_at P g o t cs 0 d w r (by simpa using h) h1;cases n:P.info? b with
 |none=>simp[n]at q
 |some i=>
  have y:i.size=p:=by simpa[n]using q
  rw[z]at hl;simp[Builtin.copy_,ZY u,Builtin.lenOf,Builtin.firstCells,sizeOf,typeInfo,n,y,hl,m]
def ruZ:Value:=.agg #[.int .i64 0,.int .i64 0,.slice none 0 0,.slice none 0 0,.bool false,.int .i64 0,.string ByteArray.empty,.slice none 0 0,.bool false]
theorem zlQ:(prog.info? 42).map (λi=>(i.zero,i.size,i.bytes))=some (some ruZ,9,128):=by kernel_rfl
theorem zho:(prog.info? 42).map (·.size)=some 9:=by kernel_rfl
def zgg(base:Nat)(v:Value)(a:List Value)(n:Nat)(w:World)(e:Ending)(w':World):Prop:=
 ∃v',e=.returned v'/\w'.ownsRow base 42 9 v' n a/\Below base w w'/\∀k,k<w.heap.size->v.ownBlock≠some k->w'.heap[k]? = w.heap[k]?
theorem zrD(C f b:List Value)(a m n:Nat)(d:f.length=m)(o:a<=n)(p:n+m<=C.length)(e:C.take n=b)(A:List Value)(h:A=C.take (a+m)++b.drop a++C.drop (a+m+(n-a))):
 A.length=C.length/\(A.take a++f++A.drop (a+m)).length=C.length/\(A.take a++f++A.drop (a+m)).take (n+m)=b.take a++f++b.drop a:=by
 have k:b.length=n:=by rw[<-e,Qz];omega
 have l:(C.take (a+m)).length=a+m:=by rw[Qz];omega
 have g:(b.drop a).length=n-a:=by rw[QF,k]
 have hl:A.length=C.length:=by rw[h,Qa,Qa,l,g,QF];omega
 have j:A.take a=b.take a:=by
  rw[h,QH,List.take_append_of_le_length (by omega),List.take_take,Xb (by omega),<-e,List.take_take,Xb o]
 have i:A.drop (a+m)=b.drop a++C.drop (a+m+(n-a)):=by
  rw[h,QH,ZL (by omega),QP (by omega),Xa]
 have c:(b.take a).length=a:=by rw[Qz];omega
 refine⟨hl,?_,?_⟩
 ·rw[j,i,Qa,Qa,Qa,c,d,g,QF];omega
 ·rw[j,i,<-QH,List.take_append_of_le_length (by rw[Qa,Qa,c,d,g];omega)]
  exact QC (by rw[Qa,Qa,c,d,g];omega)
theorem zmv(base g n c k V:Nat)(a:Array Value)(l x:List Value)(w:World)(d:base<=g)(I:w.heap[g]? = some (.cells a 42 (0,0)))(hc:c<=maxLen)(D:a.size=c*9)(r:a.toList.take (n*9)=l)
 (hk:k<n) (C:n+1<=c) (Q:w.heap[V]? = some (.cells x.toArray 42 (0,0))) (b:x.length=9) (G:V≠g) (h1:∀u∈l,u.oneCell'=true) (h2:∀u∈x,u.oneCell'=true):
 Calls prog 17 #[.slice (some ⟨g,0,none⟩) n c,.int .i64 (k:Int),.slice (some ⟨V,0,none⟩) 1 1] w
  (zgg base (.slice (some ⟨g,0,none⟩) n c) (l.take (k*9)++(x++l.drop (k*9))) (n+1) w):=by
 have h0:c<=9223372036854775807:=by unfold maxLen at hc;omega
 have f:∀W,(Go.sizeOf 42).run prog W=.ok 9 W:=λW=>by
  obtain⟨i0,hi,h5,X,Z⟩:=ZC zlQ;simp[Go.sizeOf,typeInfo,hi,X]
 have T:∀lb Y,(callFunc 34 #[.slice (some ⟨V,0,none⟩) 1 1,.slice (some ⟨g,(k+1)*9,none⟩) lb Y]).run prog w=.ok (.value (.bool false)) w:=λlb Y=>by
  rw[run_callFunc_extern func34 (by kernel_rfl) (by kernel_rfl) (by kernel_rfl) (e:=Extern.SlicesOverlaps.overlaps #[22,22] #[4]) (by kernel_rfl)];rw[Lib.run_overlaps_apart w 22 4 42 underlying22 9 f ⟨V,0,none⟩ ⟨g,(k+1)*9,none⟩ 1 1 lb Y G 42 42 9 (c*9) (by simp[World.shape?, Q,b]) (by simp[World.shape?, I,D]) (by omega) (ZJ _ _ 0 _ _ Q) (ZJ _ _ 9 _ _ Q)]
  rfl
 have y:l.length=n*9:=by rw[<-r,Qz,Zi];omega
 obtain⟨q,F⟩:∃q,a.toList.take (k*9+9)++l.drop (k*9)++a.toList.drop (k*9+9+(n*9-k*9))=q:=⟨_,rfl⟩
 obtain⟨f1,S,f3⟩:=zrD a.toList x l (k*9) 9 (n*9) b (by omega) (by rw[Zi];omega) r q F.symm;have P:a.toList.length=c*9:=by rw[Zi,D]
 rw[P]at f1 S;clear P;have p:(l.drop (k*9)).length=(n-k)*9:=by rw[QF,y];omega
 have t:∀E A sc,(Builtin.copy_ #[22,22] E #[.slice (some ⟨g,(k+1)*9,none⟩) (n-k) A,.slice (some ⟨g,k*9,none⟩) (n+1-k) sc]).run prog w.drew=.ok (goInt ((n-k:Nat):Int)) (w.drew.setRow g q.toArray):=λE A sc=>by
  have:=zcI 9 w.drew 22 22 E 42 g ((k+1)*9) (n-k) A ⟨g,k*9,none⟩ (n+1-k) sc a 42 (l.drop (k*9)) underlying22 zho I (by rw[p];simp only[Nat.min_def];split <;> omega) (λj v s=>?_) (by rw[p];omega) (λu hu=>h1 u (List.mem_of_mem_drop hu))
  ·rw[p,show (k+1)*9=k*9+9 by omega,show k*9+9+(n-k)*9=k*9+9+(n*9-k*9)by omega,F]at this
   rw[show (k+1)*9=k*9+9 by omega];rw[this]
   congr 2
   simp only[Nat.min_def]
   split <;> omega
  ·rw[Addr.add_lit]
   rw[List.getElem?_drop,<-r,List.getElem?_take]at s
   split at s
   ·rw[show w.drew.cell? ⟨g,k*9+j,none⟩=w.cell? ⟨g,k*9+j,none⟩from rfl,Qf _ _ _ _ _ _ I,<-s,Array.getElem?_toList]
   ·cases s
 obtain⟨i,h⟩:∃i,i=w.drew.setRow g q.toArray:=⟨_,rfl⟩
 have m:i.heap[g]? = some (.cells q.toArray 42 (0,0)):=by rw[h];exact setRow_heap w.drew g _ _ _ _ I
 have o:∀j,j≠g->i.heap[j]? = w.heap[j]? := λj s=>by rw[h];exact setRow_other w.drew g j _ s
 obtain⟨N,z⟩:∃N,q.take (k*9)++x++q.drop (k*9+9)=N:=⟨_,rfl⟩
 rw[z]at S f3
 have H:∀E A,(Builtin.copy_ #[22,22] E #[.slice (some ⟨g,k*9,none⟩) (n+1-k) A,.slice (some ⟨V,0,none⟩) 1 1]).run prog i=.ok (goInt 1) (i.setRow g N.toArray):=λE A=>by
  have:=zcI 9 i 22 22 E 42 g (k*9) (n+1-k) A ⟨V,0,none⟩ 1 1 q.toArray 42 x underlying22 zho m (by rw[b];simp only[Nat.min_def];split <;> omega) (λj v s=>?_) (by rw[b];show k*9+9<=q.length;omega) h2
  ·rw[b]at this
   rw[this];rw[<-z]
   congr 2
   simp only[Nat.min_def]
   split <;> omega
  ·rw[Addr.add_lit,Zc,Qf _ _ _ _ _ _ ((o V G).trans Q),<-s]
   simp
 rw[<-h]at t
 have K:Hid (zgg base (.slice (some ⟨g,0,none⟩) n c) (l.take (k*9)++(x++l.drop (k*9))) (n+1) w (.returned (.slice (some ⟨g,0,none⟩) (n+1) c)) (i.setRow g N.toArray)):=hIx (by
  have J:Below base w i:=by rw[h];exact below_setRow (B:=base) ((Qg base w).drew) d _
  refine⟨_,rfl,⟨?_,.inr ⟨g,c,N.toArray,rfl,d,setRow_heap i g _ _ _ _ m,C,hc,S,?_⟩⟩,below_setRow J d _,λj s L=>?_⟩
  ·rw[Qa,Qa,Qz,b,p,y];omega
  ·rw[show (n+1)*9=n*9+9 by omega];rw[<-QH];exact f3
  ·have O:j≠g:=λe=>L (by rw[e];rfl)
   rw[setRow_other i g j _ O];exact o j O)
 have U:prog.follows .mixedOrders=true:=by kernel_rfl
 have e2:((k:Int)==(n:Int))=false:=Qb.2 (by omega);have d1:decide ((c:Int)<(n:Int)+1)=false:=by simp;omega
 have h9:IntKind.i64.wrap ((k:Int)+1)=(k:Int)+1:=by rw[IntKind.wrap_i64];omega
 have h6:IntKind.i64.wrap ((n:Int)+1)=(n:Int)+1:=by rw[IntKind.wrap_i64];omega
 have Z:¬((k:Int)=(n:Int)):=by omega
 have h8:k<=n:=by omega
 have h4:k+1<=n+1:=by omega
 have he:(0:Int)<=(k:Int)+1:=by omega
 have hf:(k:Int)<=(n:Int)+1:=by omega
 have h7:((k:Int)+1).toNat=k+1:=by omega
 have h3:((n:Int)+1).toNat=n+1:=by omega
 have ha:¬(c=k+1):=by omega
 have hd:¬(c=k):=by omega
 clear F z h m o f1 S f3 f h1 h2 Q I D r b y p
 go_in
 go_wp2_with (simp only[T])
 go_region_law_o (refine step_copy_runI rfl _ _ 22 22 rfl _ _ (by simp[Act.eval,Act.put]) (by simp[Act.eval,Act.put]) (t _ _ _) ?_)
 go_wp2_with (at_builtin;refine wpList_copy_runI _ rfl _ _ 22 22 rfl _ _ rfl rfl (H _ _) ?_);go_ret;exact K.out
theorem zrW(R d c:List Value)(a m n:Nat)(b:d.length=m)(q:a<=n)(l:c.length=n)(o:R.take a=c.take a)(p:n+m<=R.length)(A B:List Value)(i:R.take a++d++R.drop (a+m)=A)(k:A.take (a+m)++c.drop a++A.drop (a+m+(n-a))=B):
 A.length=R.length/\B.length=R.length/\B.take (n+m)=c.take a++(d++c.drop a):=by
 have g:(R.take a).length=a:=by rw[Qz];omega
 have f:(c.drop a).length=n-a:=by rw[QF,l]
 have e:A.length=R.length:=by rw[<-i,Qa,Qa,g,b,QF];omega
 have j:A.take (a+m)=c.take a++d:=by
  rw[<-i,List.take_append_of_le_length (by rw[Qa,g,b];omega),QC (by rw[Qa,g,b];omega),o]
 have h:(c.take a).length=a:=by rw[Qz];omega
 refine⟨e,?_,?_⟩
 ·rw[<-k,j,Qa,Qa,Qa,h,b,f,QF];omega
 ·rw[<-k,j,List.take_append_of_le_length (by rw[Qa,Qa,h,b,f];omega),QH]
  exact QC (by rw[Qa,Qa,h,b,f];omega)
theorem zvU:ruZ.cells.size=9:=rfl
theorem zjS(cs:Array Value)(m:Nat):(Builtin.zeroCells cs m).size=m*cs.size:=by
 simp[Builtin.zeroCells]
theorem zn2(base g n c k V:Nat)(H:Array Value)(e C:List Value)(w:World)(d:base<=w.heap.size)(hg:w.heap[g]? = some (.cells H 42 (0,0)))(h8:H.size=c*9)(P:H.toList.take (n*9)=e)
 (hk:k<n) (hy:n<=c) (J:c<n+1) (h6:(n+1)*128<=140737488355328) (hV:w.heap[V]? = some (.cells C.toArray 42 (0,0))) (i:C.length=9) (h1:∀u∈e,u.oneCell'=true) (h2:∀u∈C,u.oneCell'=true):
 Calls prog 17 #[.slice (some ⟨g,0,none⟩) n c,.int .i64 (k:Int),.slice (some ⟨V,0,none⟩) 1 1] w
  (zgg base (.slice (some ⟨g,0,none⟩) n c) (e.take (k*9)++(C++e.drop (k*9))) (n+1) w):=by
 obtain⟨i0,hf,ha,h9,U⟩:=ZC zlQ;have h7:=zaq hg;have he:=zaq hV;have o:e.length=n*9:=by rw[<-P,Qz,Zi];omega
 have Q:∀(W:World) j v,W.heap[g]? = w.heap[g]? -> e[j]? = some v->W.cell? ⟨g,j,none⟩=some v:=λW j v hh b=>by
  rw[<-P,List.getElem?_take]at b
  split at b
  ·rw[Qf W g j _ _ _ (hh.trans hg),<-b,Array.getElem?_toList]
  ·cases b
 have E:(Builtin.firstCells i0.size k (.slice (some ⟨g,0,none⟩) k c)).run prog w.drew=.ok (e.take (k*9)).toArray w.drew:=by
  rw[h9]
  exact run_firstCells_some w.drew 9 k ⟨g,0,none⟩ k c (e.take (k*9)) (by rw[Qz];omega) (λj v b=>by
   rw[Addr.add_lit,Zc];rw[List.getElem?_take]at b
   split at b
   ·exact Q w.drew j v rfl b
   ·cases b)
 obtain⟨G,hG⟩:∃G,grownCap w (n+1) c 42=G:=⟨_,rfl⟩
 have hd:n+1<=G:=by rw[<-hG];exact grownCap_ge w _ _ _
 have hc:G<=maxLen:=by rw[<-hG];exact grownCap_le_maxLen w (n+1) c _ (by unfold maxLen;omega)
 obtain⟨a,f⟩:∃a:Array Value,(e.take (k*9)).toArray++Builtin.zeroCells ruZ.cells (n+1-k)++Builtin.zeroCells ruZ.cells (G-(n+1))=a:=⟨_,rfl⟩
 have h4:∀q,(Builtin.append_ #[22,3] q #[.slice (some ⟨g,0,none⟩) k c,.int .i64 ((n:Int)+1-(k:Int))]).run prog w=
  .ok (.slice (some ⟨w.heap.size,0,none⟩) (n+1) G) (w.drew.alloc (.cells a 42)):=λq=>by
  have h:=Lib.run_append_grow_zeros w 22 3 q 42 i0 _ .i64 .i64 underlying22 underlying3 hf ha (some ⟨g,0,none⟩) k c (e.take (k*9)) E (n+1-k) (by omega) (by omega) (by omega) (by omega) (by rw[U];omega) (by rw[U,show k+(n+1-k)=n+1 by omega];exact growslice_fits J h6);rw[show k+(n+1-k)=n+1 by omega,hG,f]at h;rw[show (n:Int)+1-(k:Int)=((n+1-k:Nat):Int)by omega];exact h
 have N:a.toList.length=G*9:=by
  rw[Zi,<-f,Array.size_append,Array.size_append,zjS,zjS,zvU,List.size_toArray,Qz,o];omega
 have h3:a.toList.take (k*9)=e.take (k*9):=by
  rw[<-f,Array.toList_append,Array.toList_append,QH,List.take_append_of_le_length (by show k*9<=(e.take (k*9)).length;rw[Qz];omega)];exact QC (by show (e.take (k*9)).length<=k*9;rw[Qz];omega)
 obtain⟨B,K⟩:∃B,a.toList.take (k*9)++C++a.toList.drop (k*9+9)=B:=⟨_,rfl⟩
 obtain⟨S,O⟩:∃S,B.take (k*9+9)++e.drop (k*9)++B.drop (k*9+9+(n*9-k*9))=S:=⟨_,rfl⟩
 obtain⟨f1,f2,f3⟩:=zrW a.toList C e (k*9) 9 (n*9) i (by omega) o h3 (by omega) B S K O;rw[N]at f1 f2;have r:(e.drop (k*9)).length=(n-k)*9:=by rw[QF,o];omega
 obtain⟨A,t⟩:∃A,w.drew.alloc (.cells a 42)=A:=⟨_,rfl⟩
 have m:A.heap[w.heap.size]? = some (.cells a 42 (0,0)):=by rw[<-t];exact Qp w.drew _
 have z:∀j,j<w.heap.size->A.heap[j]? = w.heap[j]? := λj b=>by rw[<-t];exact Qt w.drew _ _ b
 obtain⟨l,s⟩:∃l,A.setRow w.heap.size B.toArray=l:=⟨_,rfl⟩
 have p:l.heap[w.heap.size]? = some (.cells B.toArray 42 (0,0)):=by rw[<-s];exact setRow_heap A _ _ _ _ _ m
 have x:∀j,j<w.heap.size->l.heap[j]? = w.heap[j]? := λj b=>by rw[<-s,setRow_other A _ j _ (by omega)];exact z j b
 obtain⟨I,y⟩:∃I,l.drew.setRow w.heap.size S.toArray=I:=⟨_,rfl⟩
 have F:I.heap[w.heap.size]? = some (.cells S.toArray 42 (0,0)):=by rw[<-y];exact setRow_heap l.drew _ _ _ _ _ p
 have D:∀j,j<w.heap.size->I.heap[j]? = w.heap[j]? := λj b=>by rw[<-y,setRow_other l.drew _ j _ (by omega)];exact x j b
 rw[t]at h4
 have Y:∀q L,(Builtin.copy_ #[22,22] q #[.slice (some ⟨w.heap.size,k*9,none⟩) (n+1-k) L,.slice (some ⟨V,0,none⟩) 1 1]).run prog A=.ok (goInt 1) l:=λq L=>by
  have:=zcI 9 A 22 22 q 42 w.heap.size (k*9) (n+1-k) L ⟨V,0,none⟩ 1 1 a 42 C underlying22 zho m (by rw[i];simp only[Nat.min_def];split <;> omega) (λj v b=>?_) (by rw[i,<-Zi,N];omega) h2
  ·rw[i,K,s]at this
   rw[this]
   congr 2
   simp only[Nat.min_def]
   split <;> omega
  ·rw[Addr.add_lit,Zc,Qf _ _ _ _ _ _ ((z V he).trans hV),<-b]
   simp
 have X:∀q L sc,(Builtin.copy_ #[22,22] q #[.slice (some ⟨w.heap.size,(k+1)*9,none⟩) (n-k) L,.slice (some ⟨g,k*9,none⟩) (n-k) sc]).run prog l.drew=.ok (goInt ((n-k:Nat):Int)) I:=λq L sc=>by
  have:=zcI 9 l.drew 22 22 q 42 w.heap.size ((k+1)*9) (n-k) L ⟨g,k*9,none⟩ (n-k) sc B.toArray 42 (e.drop (k*9)) underlying22 zho p (by rw[r];simp only[Nat.min_def];split <;> omega) (λj v b=>?_) (by rw[r];show (k+1)*9+(n-k)*9<=B.length;omega) (λu hu=>h1 u (List.mem_of_mem_drop hu))
  ·rw[r,show (k+1)*9=k*9+9 by omega,show k*9+9+(n-k)*9=k*9+9+(n*9-k*9)by omega]at this
   rw[O,y]at this;rw[show (k+1)*9=k*9+9 by omega];rw[this]
   congr 2
   simp only[Nat.min_def]
   split <;> omega
  ·rw[Addr.add_lit]
   rw[List.getElem?_drop]at b;exact Q l.drew _ v (x g h7) b
 have Z:Hid (zgg base (.slice (some ⟨g,0,none⟩) n c) (e.take (k*9)++(C++e.drop (k*9))) (n+1) w (.returned (.slice (some ⟨w.heap.size,0,none⟩) (n+1) G)) I):=hIx (by
  have h0:Below base w A:=by rw[<-t];exact((Qg base w).drew).alloc d _
  have h5:Below base w l:=by rw[<-s];exact below_setRow h0 d _
  have T:Below base w I:=by rw[<-y];exact below_setRow h5.drew d _
  refine⟨_,rfl,⟨?_,.inr ⟨w.heap.size,G,S.toArray,rfl,d,F,hd,hc,f2,?_⟩⟩,T,λj b _=>D j b⟩
  ·rw[Qa,Qa,Qz,i,r,o];omega
  ·rw[show (n+1)*9=n*9+9 by omega];exact f3)
 have hi:prog.follows .mixedOrders=true:=by kernel_rfl
 have e2:((k:Int)==(n:Int))=false:=Qb.2 (by omega);have d1:decide ((c:Int)<(n:Int)+1)=true:=by simp;omega
 have hx:¬((k:Int)=(n:Int)):=by omega
 have hr:(c:Int)<(n:Int)+1:=by omega
 have hq:IntKind.i64.wrap ((k:Int)+1)=(k:Int)+1:=by rw[IntKind.wrap_i64];omega
 have ho:IntKind.i64.wrap ((n:Int)+1)=(n:Int)+1:=by rw[IntKind.wrap_i64];omega
 have hw:IntKind.i64.wrap ((n:Int)+1-(k:Int))=(n:Int)+1-(k:Int):=by rw[IntKind.wrap_i64];omega
 have hB:(0:Int)<=(k:Int)+1:=by omega
 have hA:k<=n:=by omega
 have hm:k+1<=n+1:=by omega
 have hp:((k:Int)+1).toNat=k+1:=by omega
 have hv:(k:Int)<=(n:Int)+1:=by omega
 have hs:(k:Int)<=(c:Int):=by omega
 have hz:¬(G=k):=by omega
 have hn:¬(G=k+1):=by omega
 have ht:¬(c=k):=by omega
 clear K O t m z s p x y F D f1 f2 f3 h1 h2 hV hg h8 P i o r Q E hG f N h3
 go_in
 go_wp2_with (first
  |(at_builtin;refine Lib.wpList_append_run _ rfl _ _ _ _ rfl _ _ rfl rfl _ _ (h4 _) ?_)
  |(at_builtin;refine wpList_copy_runI _ rfl _ _ 22 22 rfl _ _ rfl rfl (Y _ _) ?_))
 go_region_law_o (refine step_copy_runI rfl _ _ 22 22 rfl _ _ (by simp[Act.eval,Act.put]) (by simp[Act.eval,Act.put]) (X _ _ _) ?_)
 go_wp2;go_ret;exact Z.out
end
