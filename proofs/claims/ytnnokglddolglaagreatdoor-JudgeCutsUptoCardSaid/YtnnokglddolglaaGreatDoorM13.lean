/- Lemmas for the last texts. -/
import Derived.Test.YtnnokglddolglaaGreatDoorM12
import Derived.Laws.StructEq
import Derived.DeepKeys3
import Derived.WideKeyMaps2
import Derived.Shelf.SlicesQ.Contains
import Derived.Shelf.SlLaysF0
import Derived.Shelf.SlSortCmp.InsertionK
import Derived.Lib.AppendIntMem
set_option maxHeartbeats 1000000
set_option maxRecDepth 100000
namespace Go.Proofs.YtnnokglddolglaaGreatDoor
open Go.RowKit Go.Proofs.Tryz
structure zaC where
 b:UInt8
 up:Nat
 fail:Nat
structure Inv(ns:List zaC)(ss:List jE):Prop where
 len:ns.length=ss.length
 trie:TrieS ss
 zero:ns[0]? = some ⟨0,0,0⟩
 node:∀j n,0<j->ns[j]? = some n->n.up<j/\n.fail<j/\∃p f,ss[n.up]? = some p/\ss[n.fail]? = some f/\ss[j]? = some (p++[n.b])/\IsFail ss (p++[n.b]) f
theorem zsG:Inv [⟨0,0,0⟩] [[]] where
 len:=rfl
 trie:=⟨rfl,by simp,λv b h=>by simp at h,λi j e a h=>by
  have c:i=0:=by simpa using e
  have d:j=0:=by simpa using a
  subst c;subst d
  exact absurd h (by simp)⟩
 zero:=rfl
 node j n a h:=by
  have:=(Qw.1 h).1;simp only[QC]at this;omega
theorem Inv.lt{b:List zaC}{a:List jE}(h:Inv b a){j:Nat}{v:jE}(c:a[j]? = some v):j<b.length:=by
 rw[h.len];exact(Qw.1 c).1
theorem Inv.inj{e:List zaC}{a:List jE}(h:Inv e a){i j:Nat}{v:jE}(f:a[i]? = some v)(c:a[j]? = some v):i=j:=by
 obtain⟨h1,b⟩:=Qw.1 f;obtain⟨h2,d⟩:=Qw.1 c;exact(List.getElem_inj h.trie.uniq).1 (b.trans d.symm)
theorem Inv.kid{l:List zaC}{k:List jE}(h:Inv l k){u:Nat}{p:jE}{b:UInt8}(m:k[u]? = some p){j:Nat}:k[j]? = some (p++[b])↔(0<j/\∃n,l[j]? = some n/\n.up=u/\n.b=b):=by
 constructor
 ·intro i
  have a:0<j:=by
   rcases Z7 j with e|e
   ·subst e
    rw[h.trie.root]at i;have:=QD i;exact absurd this.symm (by simp)
   ·exact e
  obtain⟨n,c⟩:∃n,l[j]? = some n:=⟨_,Qd (h.lt i)⟩
  obtain⟨_,_,o,f,d,_,g,_⟩:=h.node j n a c;rw[i]at g;obtain⟨r,q⟩:=List.append_inj' (QD g) rfl;refine⟨a,n,c,h.inj (v:=o) d (by rw[<-r];exact m),?_⟩
  simpa using q.symm
 ·rintro⟨a,n,c,rfl,rfl⟩
  obtain⟨_,_,o,f,d,_,g,_⟩:=h.node j n a c;rw[m]at d;rw[QD d];exact g
theorem Inv.fail_at{c:List zaC}{a:List jE}(h:Inv c a){j:Nat}{n:zaC}(g:0<j)(k:c[j]? = some n){v:jE}(d:a[j]? = some v):n.fail<j/\∃f,a[n.fail]? = some f/\IsFail a v f:=by
 obtain⟨_,h2,p,f,_,i,b,e⟩:=h.node j n g k;rw[d]at b;rw[QD b];exact⟨h2,f,i,e⟩
theorem Inv.add{l:List zaC}{d:List jE}(h:Inv l d){u fl:Nat}{b:UInt8}{p f:jE}(o:d[u]? = some p)(s:d[fl]? = some f)(y:p++[b] ∉ d)(hl:∀v,v∈d->v.length<=p.length+1)
 (a:f∈d/\f <:+p++[b]/\f≠p++[b]/\∀u,u∈d->u <:+p++[b]->u≠p++[b]->u <:+f):Inv (l++[⟨b,u,fl⟩]) (d++[p++[b]]) where
 len:=by rw[Qa,Qa,h.len];rfl
 trie:=zuJ h.trie (Xb o) y hl
 zero:=by rw[Zj (Qw.1 h.zero).1];exact h.zero
 node j n hj hjn:=by
  have up:∀{i v},d[i]? = some v->(d++[p++[b]])[i]? = some v:=λ{i v} e=>by
   rw[Zj (Qw.1 e).1];exact e
  rcases ZI j l.length with c|c
  ·rw[Zj c]at hjn
   obtain⟨h1,h2,q,g,z,w,t,A⟩:=h.node j n hj hjn;refine⟨h1,h2,q,g,up z,up w,up t,A.more ?_⟩;have:=hl _ (Xb t);rw[Qa,QC]at this ⊢;rw[Qa,QC];omega
  ·have m:=(Qw.1 hjn).1
   rw[Qa,QC]at m;have e:j=l.length:=by omega
   subst e;rw[Q0 (Qc _),Xg]at hjn;have r:n=⟨b,u,fl⟩:=(QD hjn).symm;subst r;refine⟨h.lt o,h.lt s,p,f,up o,up s,?_,ZN _ a.1,a.2.1,a.2.2.1,λx k h1 h2=>?_⟩
   ·rw[h.len,Q0 (Qc _),Xg];rfl
   ·rcases QO.1 k with k|k
    ·exact a.2.2.2 x k h1 h2
    ·exact absurd (Qy.1 k) h2
def zvr(ws:List jE)(n:Nat)(v:jE):Prop:=v.length<=n/\∃w,w∈ws/\v <+:w
structure Lev(ws:List jE)(n:Nat)(ns:List zaC)(ss:List jE):Prop where
 inv:Inv ns ss
 mem:∀v,v∈ss↔zvr ws n v
theorem zvV{ws:List jE}(h:ws≠[])(n:Nat):zvr ws n []:=by
 obtain⟨w,a⟩:=List.exists_mem_of_ne_nil ws h;exact⟨Qm _,w,a,List.nil_prefix⟩
theorem zrf{ws:List jE}(h:ws≠[]):Lev ws 0 [⟨0,0,0⟩] [[]] where
 inv:=zsG
 mem v:=by
  rw[Qy]
  constructor
  ·rintro rfl;exact zvV h 0
  ·rintro⟨h1,_⟩;exact QA (by omega)
theorem zvf{ws:List jE}{n:Nat}{v:jE}:zvr ws (n+1) v↔zvr ws n v\/∃w,w∈ws/\n<w.length/\v=w.take (n+1):=by
 constructor
 ·rintro⟨h1,w,a,b⟩
  by_cases c:v.length<=n
  ·exact .inl ⟨c,w,a,b⟩
  ·have hl:=b.length_le
   refine .inr ⟨w,a,by omega,?_⟩;have:=List.prefix_iff_eq_take.1 b;rw[this,show v.length=n+1 by omega]
 ·rintro(⟨h1,w,a,b⟩|⟨w,a,hl,rfl⟩)
  ·exact⟨by omega,w,a,b⟩
  ·exact⟨by rw[QJ];omega,w,a,List.take_prefix _ _⟩
theorem Lev.words{ws:List jE}{n:Nat}{d:List zaC}{c:List jE}(h:Lev ws n d c)(e:∀w,w∈ws->w.length<=n):∀k,k<ws.length->ws.getD k []∈c:=λk b=>by
 have a:ws.getD k []∈ws:=by rw[Qo,Qd b];exact Qz b
 exact(h.mem _).2 ⟨e _ a,_,a,List.prefix_refl _⟩
structure AtOk(ws:List jE)(n:Nat)(ss:List jE)(at0:List Nat):Prop where
 len:at0.length=ws.length
 str:∀k,k<ws.length->ss[at0.getD k 0]? = some ((ws.getD k []).take n)
theorem zvy{ws:List jE}:AtOk ws 0 [[]] (List.replicate ws.length 0) where
 len:=by simp
 str k hk:=by
  have:(List.replicate ws.length 0).getD k 0=0:=by rw[Qo];simp[hk]
  rw[this,XM];rfl
structure EdgesOf(ws:List jE)(n:Nat)(at0:List Nat)(es:List (Nat × UInt8)):Prop where
 nod:es.Nodup
 mem:∀e,e∈es↔∃k,k<ws.length/\n<(ws.getD k []).length/\e=(at0.getD k 0,(ws.getD k []).getD n 0)
def strE(a:List jE)(e:Nat × UInt8):jE:=a.getD e.1 []++[e.2]
theorem zcn{w:jE}{n:Nat}(h:n<w.length):w.take (n+1)=w.take n++[w.getD n 0]:=by
 rw[Qs h,Qo,Qd h];rfl
theorem zet{ws:List jE}{n:Nat}{a:List jE}{b:List Nat}{es:List (Nat × UInt8)}(f:AtOk ws n a b)(d:EdgesOf ws n b es){e:Nat × UInt8}(h:e∈es):
 ∃k,k<ws.length/\n<(ws.getD k []).length/\strE a e=(ws.getD k []).take (n+1)/\a[e.1]? = some ((ws.getD k []).take n)/\((ws.getD k []).take n).length=n:=by
 obtain⟨k,h1,h2,rfl⟩:=(d.mem e).1 h;have c:=f.str k h1;refine⟨k,h1,h2,?_,c,by rw[QJ];omega⟩;unfold strE;rw[zcn h2,Qo,c]
 rfl
theorem zuC{ws:List jE}{n:Nat}{i:List zaC}{a:List jE}{c:List Nat}{es:List (Nat × UInt8)}(o:Inv i a)(g:AtOk ws n a c)(f:EdgesOf ws n c es){e b:Nat × UInt8}(h:e∈es)(k:b∈es)(m:strE a e=strE a b):e=b:=by
 obtain⟨_,_,_,_,h1,_⟩:=zet g f h;obtain⟨_,_,_,_,h2,_⟩:=zet g f k;obtain⟨d,j⟩:=List.append_inj' (show a.getD e.1 []++[e.2]=a.getD b.1 []++[b.2]from m) rfl;rw[Qo,Qo,h1,h2]at d;have p:e.1=b.1:=o.inj h1 (by rw[h2];exact Zi some d.symm);have l:e.2=b.2:=by simpa using j
 exact Prod.ext p l
structure Mid(ws:List jE)(n:Nat)(ss0:List jE)(es:List (Nat × UInt8))(i:Nat)(ns:List zaC)(ss:List jE):Prop where
 inv:Inv ns ss
 str:ss=ss0++(es.take i).map (strE ss0)
theorem Mid.up{ws:List jE}{n:Nat}{a:List jE}{es:List (Nat × UInt8)}{i:Nat}{d:List zaC}{c:List jE}(h:Mid ws n a es i d c){j:Nat}{v:jE}(b:a[j]? = some v):c[j]? = some v:=by
 rw[h.str,Zj (Qw.1 b).1];exact b
theorem Mid.next{ws:List jE}{n:Nat}{q z:List zaC}{a m:List jE}{g:List Nat}{es:List (Nat × UInt8)}{i:Nat}(hl:Lev ws n q a)(t:AtOk ws n a g)(o:EdgesOf ws n g es)(h:Mid ws n a es i z m)(y:i<es.length):
 ∃p,m[es[i].1]? = some p/\strE a es[i]=p++[es[i].2]/\p++[es[i].2] ∉ m/\∀v,v∈m->v.length<=p.length+1:=by
 obtain⟨k,h1,h2,D,u,w⟩:=zet t o (Qz y);have b:strE a es[i]=(ws.getD k []).take n++[es[i].2]:=by unfold strE;rw[Qo,u];rfl
 have x:(strE a es[i]).length=n+1:=by rw[b,Qa,w];rfl
 refine⟨_,h.up u,b,?_,λv d=>?_⟩
 ·rw[<-b,h.str]
  intro l
  rcases QO.1 l with l|l
  ·have:=((hl.mem _).1 l).1
   omega
  ·obtain⟨e,c,s⟩:=QR.1 l
   obtain⟨j,B,f⟩:=Xk c;rw[QJ]at B;rw[List.getElem_take]at f;have r:j<es.length:=by omega
   have:es[j]=es[i]:=zuC hl.inv t o (Qz r) (Qz y) (by rw[f];exact s);have:=(List.getElem_inj o.nod).1 this;omega
 ·rw[w]
  rw[h.str]at d
  rcases QO.1 d with d|d
  ·have:=((hl.mem _).1 d).1
   omega
  ·obtain⟨e,c,rfl⟩:=QR.1 d
   obtain⟨_,_,_,C,A,E⟩:=zet t o (Xd c);unfold strE;rw[Qo,A];simp only[Xz,Qa,QC];omega
theorem Mid.step{ws:List jE}{n:Nat}{d:List zaC}{c a:List jE}{es:List (Nat × UInt8)}{i:Nat}(h:Mid ws n c es i d a)(k:i<es.length){p f:jE}{fl:Nat}(g:a[es[i].1]? = some p)(j:strE c es[i]=p++[es[i].2])(l:p++[es[i].2] ∉ a)(hl:∀v,v∈a->v.length<=p.length+1)
 (e:a[fl]? = some f) (b:f∈a/\f <:+p++[es[i].2]/\f≠p++[es[i].2]/\∀u,u∈a->u <:+p++[es[i].2]->u≠p++[es[i].2]->u <:+f):Mid ws n c es (i+1) (d++[⟨es[i].2,es[i].1,fl⟩]) (a++[p++[es[i].2]]) where
 inv:=h.inv.add g e l hl b
 str:=by
  rw[Qs k,Q2,<-QG,<-h.str];rw[QW,Zu,j]
theorem Mid.done{ws:List jE}{n:Nat}{c i:List zaC}{a g:List jE}{b:List Nat}{es:List (Nat × UInt8)}(hl:Lev ws n c a)(o:AtOk ws n a b)(m:EdgesOf ws n b es)(h:Mid ws n a es es.length i g):Lev ws (n+1) i g where
 inv:=h.inv
 mem v:=by
  rw[h.str,QZ,QO,hl.mem v,zvf];refine or_congr_right ⟨λr=>?_,?_⟩
  ·obtain⟨e,h1,rfl⟩:=QR.1 r
   obtain⟨k,j,p,s,_,_⟩:=zet o m h1;exact⟨ws.getD k [],by rw[Qo,Qd j];exact Qz j,p,s⟩
  ·rintro⟨w,q,h1,rfl⟩
   obtain⟨k,f,rfl⟩:=Xk q;have d:ws.getD k []=ws[k]:=by rw[Qo,Qd f];rfl
   refine QR.2 ⟨(b.getD k 0,(ws.getD k []).getD n 0),(m.mem _).2 ⟨k,f,by rw[d];exact h1,rfl⟩,?_⟩;unfold strE;rw[Qo (l:=a),o.str k f,<-d,zcn (by rw[d];exact h1)]
   rfl
theorem Mid.go{ws:List jE}{n:Nat}{p:List zaC}{b c:List jE}{a:List Nat}{es:List (Nat × UInt8)}(f:AtOk ws n b a)(m:EdgesOf ws n a es)(h:Mid ws n b es es.length p c){k:Nat}(d:k<ws.length)(g:n<(ws.getD k []).length):
 ∃j:Nat,c[j]? = some ((ws.getD k []).take (n+1))/\c[a.getD k 0]? = some ((ws.getD k []).take n):=by
 have i:(ws.getD k []).take (n+1)∈c:=by
  rw[h.str,QZ];refine XE _ (QR.2 ⟨(a.getD k 0,(ws.getD k []).getD n 0),(m.mem _).2 ⟨k,d,g,rfl⟩,?_⟩);unfold strE;rw[Qo (l:=b),f.str k d,zcn g]
  rfl
 obtain⟨j,o,e⟩:=Xk i;exact⟨j,by rw[Qd o,e],h.up (f.str k d)⟩
structure FailAt(ss:List jE)(f:jE)(b:UInt8)(a:Nat):Prop where
 cand:∃v,ss[a]? = some v/\Cand ss f b v
theorem zmB{c:List jE}{f:jE}{b:UInt8}{a:Nat}(h:c[a]? = some f):FailAt c f b a:=
 ⟨f,h,zgD b ⟨Xb h,List.suffix_refl _,λ_ _ d=>d⟩⟩
theorem FailAt.found{d:List zaC}{c:List jE}{f:jE}{b:UInt8}{a j:Nat}(e:Inv d c)(h:FailAt c f b a)(g:0<j/\∃n,d[j]? = some n/\n.up=a/\n.b=b):∃v,c[j]? = some v/\zfu c (f++[b]) v:=by
 obtain⟨v,i,k⟩:=h.cand;have:=(e.kid i).2 g;exact⟨_,this,zqH e.trie k (Xb this)⟩
theorem FailAt.none{g:List zaC}{c:List jE}{f:jE}{b:UInt8}(a:Inv g c)(h:FailAt c f b 0)(m:∀j,¬(0<j/\∃n,g[j]? = some n/\n.up=0/\n.b=b)):zfu c (f++[b]) []:=by
 obtain⟨v,d,i⟩:=h.cand;rw[a.trie.root]at d;rw[<-QD d]at i;refine zsh a.trie i λk=>?_
 obtain⟨j,l,e⟩:=Xk k;exact m j ((a.kid a.trie.root).1 (by rw[Qd l,e];rfl))
theorem FailAt.next{d:List zaC}{c:List jE}{f:jE}{b:UInt8}{a:Nat}{x:zaC}(i:Inv d c)(h:FailAt c f b a)(l:0<a)(o:d[a]? = some x)(p:∀j,¬(0<j/\∃n,d[j]? = some n/\n.up=a/\n.b=b)):FailAt c f b x.fail/\x.fail<a:=by
 obtain⟨v,k,s⟩:=h.cand;obtain⟨h1,g,h2,m⟩:=i.fail_at l o k;refine⟨⟨g,h2,zso s (λq=>?_) m⟩,h1⟩;obtain⟨j,r,e⟩:=Xk q;exact p j ((i.kid k).1 (by rw[Qd r,e]))
abbrev zaJ:=Int × UInt8
def keyV(k:zaJ):Value:=.agg #[jA k.1,.int .u8 k.2.toNat]
theorem zrx(d:Nat)(x y:Int)(w:World):(Op.equalIn (d+1) 3 (jA x) (jA y)).run prog w=.ok (x==y) w:=by
 simp[Op.equalIn,ZV underlying3]
theorem zvC(d:Nat)(x y:Int)(w:World):(Op.equalIn (d+1) 5 (.int .u8 x) (.int .u8 y)).run prog w=.ok (x==y) w:=by
 simp[Op.equalIn,ZV underlying5]
theorem zst:prog.plainKey 3=true:=by kernel_rfl
theorem zu1:prog.plainKey 5=true:=by kernel_rfl
theorem ziy (d off:Nat) (t:TypeId) (f:Field) (c:List Field) (xs a:Array Value) (x y:Value) (r:Bool) (w:World) (g:(f.name== "_")=false) (h:f.type=t) (i:f.offset=off)
 (b:prog.plainKey t=true) (k:xs[off]? = some x) (j:a[off]? = some y) (l:(Op.equalIn d t x y).run prog w=.ok r w):
 (Op.eqFields d xs a (f::c)).run prog w=if r=true then (Op.eqFields d xs a c).run prog w else .ok false w:=by
 subst h;subst i
 have h1:f.name≠ "_":=λe=>by rw[e]at g;exact absurd g (by decide)
 simp only[Op.eqFields,Qg h1,Xf,run_part_plain w b k,run_part_plain w b j,Zx,l];cases r <;> simp
theorem zh7(a b:zaJ)(w:World):(Op.equal 275 (keyV a) (keyV b)).run prog w=.ok (decide (a=b)) w:=by
 have h:=run_equalIn_struct (P:=prog) w 9999 275 #[jA a.1,.int .u8 a.2.toNat] #[jA b.1,.int .u8 b.2.toNat] (by kernel_rfl) (by kernel_rfl);unfold Op.equal keyV;refine h.trans ?_;have c:(prog.fieldsOf 275).toList.map (λf=>(f.name== "_",f.type,f.offset))=[(false,3,0),(false,5,1)]:=by kernel_rfl
 generalize (prog.fieldsOf 275).toList=l at *
 match l,c with
 | [],c=>cases c
 | [_],c=>simp at c
 |_::_::_::_,c=>simp at c
 | [o,j],c=>
  simp only[QW,Zu,XS,Prod.mk.injEq,and_true]at c;obtain⟨⟨p,q,t⟩,u,s,r⟩:=c;rw[ziy 9999 0 3 o [j] _ _ (jA a.1) (jA b.1) (a.1==b.1) w p q t zst rfl rfl (zrx 9998 _ _ w)];rw[ziy 9999 1 5 j [] _ _ (.int .u8 a.2.toNat) (.int .u8 b.2.toNat) ((a.2.toNat:Int)==(b.2.toNat:Int)) w u s r zu1 rfl rfl (zvC 9998 _ _ w)];obtain⟨m,n⟩:=a;obtain⟨i,k⟩:=b
  by_cases d:m=i
  ·by_cases g:n=k
   ·subst d;subst g;simp[Op.eqFields]
   ·have:((n.toNat:Int)==(k.toNat:Int))=false:=Qb.2 λe=>g (Zs.1 (by omega))
    simp[d,g,this]
  ·have:(m==i)=false:=Qb.2 d
   simp[d,this]
def MpAt(w:World)(b:Nat)(l:List (zaJ × Nat)):Prop:=∃(es:Array MapEntry) (a:Nat),w.heap[b]? = some (.map es a)/\es.toList.map (λe=>(e.key,e.val))=l.map λp=>(keyV p.1,jA (p.2:Int))
def zbH:List (zaJ × Nat)->zaJ->Option Nat
 | [],_=>none
 |p::l,k=>if k=p.1 then some p.2 else zbH l k
def zjd:List (zaJ × Nat)->zaJ->Nat->Option (Nat × Value)
 | [],_,_=>none
 |p::l,k,i=>if k=p.1 then some (i,jA (p.2:Int))else zjd l k (i+1)
theorem zen:∀(l:List (zaJ × Nat)) (k:zaJ) (i:Nat),(zjd l k i).map (·.2)=(zbH l k).map λv=>jA (v:Int)
 | [],_,_=>rfl
 |p::l,k,i=>by
  rw[zjd,zbH]
  by_cases h:k=p.1
  ·rw[Qg h,Qg h];rfl
  ·rw[Qe h,Qe h];exact zen l k (i+1)
theorem ztd:∀(es:List MapEntry) (l:List (zaJ × Nat)) (k:zaJ) (i:Nat) (w:World),es.map (λe=>(e.key,e.val))=l.map (λp=>(keyV p.1,jA (p.2:Int)))->
 (Instr.findAsking 275 (keyV k) es i).run prog w=.ok (zjd l k i) w
 | [],[],k,i,w,_=>by simp[Instr.findAsking,zjd]
 | [],_::_,_,_,_,h=>by cases h
 |_::_,[],_,_,_,h=>by cases h
 |e::es,p::l,k,i,w,h=>by
  simp only[QW,XS,Prod.mk.injEq]at h;obtain⟨⟨h1,h2⟩,b⟩:=h;simp only[Instr.findAsking,Xf,h1,zh7,Zx,zjd]
  by_cases a:k=p.1
  ·simp[a,h2]
  ·simp only[Qq a,Bool.false_eq_true,if_false,Qe a]
   exact ztd es l k (i+1) w b
theorem zhg(l:List (zaJ × Nat))(es:Array MapEntry)(k:zaJ)(w:World)(h:es.toList.map (λe=>(e.key,e.val))=l.map (λp=>(keyV p.1,jA (p.2:Int)))):
 (Instr.findKey 275 (keyV k) es.toList).run prog w=.ok (zjd l k 0) w:=by
 rw[run_findKey_eq w (by kernel_rfl)];exact ztd es.toList l k 0 w h
theorem zwk(d:Nat)(x:Int)(h:-9223372036854775808<=x/\x<9223372036854775808):prog.keyLits (d+1) 3 [.int .i64 x]=some [.int .i64 x]:=by
 have a:(Lit.int .i64 x).wf=true:=by
  have b:IntKind.i64.min=-9223372036854775808:=by decide
  have c:IntKind.i64.max=9223372036854775807:=by decide
  simp only[Lit.wf,b,c,QU,QY];omega
 simp[Program.keyLits,underlying3,a]
theorem zxS(d:Nat)(x:UInt8):prog.keyLits (d+1) 5 [.int .u8 x.toNat]=some [.int .u8 x.toNat]:=by
 have a:(Lit.int .u8 (x.toNat:Int)).wf=true:=by
  have:=x.toNat_lt;have b:IntKind.u8.min=0:=by decide
  have c:IntKind.u8.max=255:=by decide
  simp only[Lit.wf,b,c,QU,QY];omega
 simp[Program.keyLits,underlying5,a]
theorem znF(k:zaJ)(h:-9223372036854775808<=k.1/\k.1<9223372036854775808):∃l,keyOf prog 275 (keyV k)=some l:=by
 have c:prog.underlying 275=some (.struct (prog.fieldsOf 275)):=by kernel_rfl
 have a:(prog.fieldsOf 275).toList.map (λf=>(f.type,f.offset))=[(3,0),(5,1)]:=by kernel_rfl
 have hb:(prog.fieldsOf 275).all (·.name != "_")=true:=by kernel_rfl
 have e:prog.keyType 275=true:=by kernel_rfl
 have d:prog.cellsOf 275=2:=by kernel_rfl
 have o:prog.cellsOf 3=1:=by kernel_rfl
 have g:prog.cellsOf 5=1:=by kernel_rfl
 have p:∃n,prog.types.size=n+1:=⟨prog.types.size-1,by kernel_rfl⟩
 obtain⟨n,q⟩:=p
 have hl:prog.keyLits (prog.types.size+1) 275 [.int .i64 k.1,.int .u8 k.2.toNat]=some [.int .i64 k.1,.int .u8 k.2.toNat]:=by
  rw[q,Program.keyLits.eq_def];simp only[c];rw[Qg ⟨by rw[d];rfl,hb⟩];generalize (prog.fieldsOf 275).toList=l at *
  match l,a with
  | [],a=>cases a
  | [_],a=>simp at a
  |_::_::_::_,a=>simp at a
  | [s,t],a=>
   simp only[QW,Zu,XS,Prod.mk.injEq,and_true]at a;obtain⟨⟨i,r⟩,m,j⟩:=a;simp[i,r,m,j,o,g,zwk n k.1 h,zxS n k.2]
 unfold keyOf;rw[c];refine⟨.string (keyBytes [.int .i64 k.1,.int .u8 k.2.toNat]),?_⟩;have b:(keyV k).formed prog 275=true:=by simp[keyV,Value.formed,c,d]
 simp only[e,b,Bool.and_self,if_true];show Option.map _ (prog.keyLits (prog.types.size+1) 275 [.int .i64 k.1,.int .u8 k.2.toNat])=_
 rw[hl]
 rfl
theorem zkK:WideMaps.KeyLaw prog 275:=deep_law (m:=2) (by omega) (by kernel_rfl) (by kernel_rfl) (by kernel_rfl)
theorem zlo{b:Nat}{l:List (zaJ × Nat)}{w:World}(M:MpAt w b l)(k:zaJ)(h:-9223372036854775808<=k.1/\k.1<9223372036854775808):
 (Instr.lookup 240 (.map (some b)) (keyV k) false).run prog w=.ok (jA (((zbH l k).getD 0:Nat):Int)) w:=by
 obtain⟨es,c,hb,j⟩:=M;obtain⟨m,a⟩:=znF k h;have i:(zeroValue 3).run prog w=.ok (jA 0) w:=by kernel_rfl
 have d:=zen l k 0;have h1:=zhg l es k w j;have e:prog.underlying 240=some (.map 275 3):=by kernel_rfl
 have f:=zkK.check w es.isEmpty a;generalize zjd l k 0=r at *;generalize zbH l k=g at *;cases r <;> cases g <;> simp at d
 ·simp[Instr.lookup,ZV e,Xw hb,f,h1,i,Result.andThen]
 ·simp[Instr.lookup,ZV e,Xw hb,f,h1,d,Result.andThen]
theorem zdf{b:Nat}{l:List (zaJ × Nat)}{w:World}(M:MpAt w b l)(k:zaJ)(h:-9223372036854775808<=k.1/\k.1<9223372036854775808):
 (Instr.lookup 240 (.map (some b)) (keyV k) true).run prog w=.ok (.tuple #[jA (((zbH l k).getD 0:Nat):Int),.bool (zbH l k).isSome]) w:=by
 obtain⟨es,c,hb,j⟩:=M;obtain⟨m,a⟩:=znF k h;have i:(zeroValue 3).run prog w=.ok (jA 0) w:=by kernel_rfl
 have d:=zen l k 0;have h1:=zhg l es k w j;have e:prog.underlying 240=some (.map 275 3):=by kernel_rfl
 have f:=zkK.check w es.isEmpty a;generalize zjd l k 0=r at *;generalize zbH l k=g at *;cases r <;> cases g <;> simp at d
 ·simp[Instr.lookup,ZV e,Xw hb,f,h1,i,Result.andThen]
 ·simp[Instr.lookup,ZV e,Xw hb,f,h1,d,Result.andThen]
theorem zdI{b:Nat}{l:List (zaJ × Nat)}{w:World}(M:MpAt w b l)(k:zaJ)(v:Nat)(g:-9223372036854775808<=k.1/\k.1<9223372036854775808)(i:zbH l k=none):
 ∃o:Obj,∀W:World,W.heap[b]? = w.heap[b]? -> (Instr.mapUpdate 240 (.map (some b)) (keyV k) (jA (v:Int))).run prog W=.ok () (ChangeMaps.setBlock W b o)/\MpAt (ChangeMaps.setBlock W b o) b (l++[(k,v)]):=by
 obtain⟨es,a,hb,f⟩:=M;obtain⟨m,d⟩:=znF k g;have e:=zen l k 0;have h:prog.underlying 240=some (.map 275 3):=by kernel_rfl
 rw[i]at e;refine⟨.map (es.push ⟨keyV k,jA (v:Int),a⟩) (a+1),λW c=>?_⟩;rw[hb]at c;have h1:=zhg l es k W f;have j:=zkK.check W false d;generalize zjd l k 0=r at *;cases r <;> simp at e
 refine⟨by simp[Instr.mapUpdate,ZV h,Xw c,j,h1,MapKept.run_setObj_map _ c,Result.andThen,ChangeMaps.setBlock],es.push ⟨keyV k,jA (v:Int),a⟩,a+1,?_,by simp[f]⟩;simp[ChangeMaps.setBlock,(QV.1 c).1]
section
open Go.Shelf Go.Lib
def zib:Go.Shelf.Ren:=⟨λ|6=>220|7=>179|n=>n,λ|0=>0|3=>3|4=>4|22=>273|24=>275|n=>n,λn=>n⟩
theorem zoc:SlLaysQ.n7 prog zib:=by constructor<;>first|kernel_rfl|(intro _;kernel_rfl)|decide|exact⟨f220.name,by decide,func220.trans (Zi some (by kernel_rfl))⟩|exact⟨f179.name,by decide,func179.trans (Zi some (by kernel_rfl))⟩
def encK(k:zaJ):List Value:=[jA k.1,.int .u8 k.2.toNat]
theorem eqlK:EqlAt prog 275 (λk=>.agg (encK k).toArray) (λa b=>decide (a=b)):=by
 refine⟨λx y w=>?_,GuardAt.agg _ (by kernel_rfl)⟩;have d:prog.underlying 275=some (.struct (prog.fieldsOf 275)):=by kernel_rfl
 have c:prog.stoodInHeld 275=false:=by kernel_rfl
 have h:=zh7 x y w;unfold Op.equal keyV at h;simp only[encK];rw[run_eql_struct];exact(Zi (λr=>Result.andThen r λb w'=>Result.ok (Value.bool b) w') h).trans rfl
theorem zxT(b off n c:Nat)(d:List zaJ)(x:zaJ)(w:World)(g:n<=d.length)(f:n<=9223372036854775807)
 (k:∀j,j<d.length->∀i v,(encK d[j]!)[i]? = some v->w.cell? ⟨b,off+j*2+i,none⟩=some v):
 Calls prog 179 #[.slice (some ⟨b,off,none⟩) n c,keyV x] w λe w'=>e=jC (.bool ((d.take n).any λy=>decide (x=y)))/\w w':=by
 have h:=AnyQ.slices_Contains zoc 2 isAgg275 sizeOf275 encK (λ_=>rfl) (λa b=>decide (a=b)) eqlK b off n c d x w g f k;exact h
end
section
open Go.Shelf Go.Lib Go.Sort
def zfT:Go.Shelf.Ren:=⟨λ|6=>180|14=>221|15=>184|20=>260|21=>261|22=>262|23=>263|24=>264|25=>265|26=>266|27=>267|28=>231|29=>170|46=>291|47=>269|48=>270|49=>292|50=>293|57=>308|n=>n,λ|0=>0|3=>3|4=>4|5=>5|9=>9|22=>273|24=>275|25=>278|39=>213|45=>297|46=>298|50=>295|53=>30|55=>180|66=>333|70=>272|76=>363|77=>364|n=>n,λn=>n⟩
theorem zks:SlLaysF0.n6 prog zfT:=by constructor<;>first|kernel_rfl|(intro _;kernel_rfl)|decide|exact⟨f180.name,by decide,func180.trans (Zi some (by kernel_rfl))⟩|exact⟨f221.name,by decide,func221.trans (Zi some (by kernel_rfl))⟩|exact⟨f260.name,by decide,func260.trans (Zi some (by kernel_rfl))⟩|exact⟨f261.name,by decide,func261.trans (Zi some (by kernel_rfl))⟩|exact⟨f262.name,by decide,func262.trans (Zi some (by kernel_rfl))⟩|exact⟨f263.name,by decide,func263.trans (Zi some (by kernel_rfl))⟩|exact⟨f264.name,by decide,func264.trans (Zi some (by kernel_rfl))⟩|exact⟨f265.name,by decide,func265.trans (Zi some (by kernel_rfl))⟩|exact⟨f266.name,by decide,func266.trans (Zi some (by kernel_rfl))⟩|exact⟨f267.name,by decide,func267.trans (Zi some (by kernel_rfl))⟩|exact⟨f291.name,by decide,func291.trans (Zi some (by kernel_rfl))⟩|exact⟨f292.name,by decide,func292.trans (Zi some (by kernel_rfl))⟩|exact⟨f293.name,by decide,func293.trans (Zi some (by kernel_rfl))⟩|exact⟨f308.name,by decide,func308.trans (Zi some (by kernel_rfl))⟩
abbrev zhz:=Fin 65536 × UInt8
def encS(k:zhz):List Value:=[jA (k.1.val:Int),.int .u8 k.2.toNat]
def cmpS(x y:zhz):Int:=((x.1.val:Int)-y.1.val)*256+x.2.toNat-y.2.toNat
theorem ltS(x y:zhz):ltOf cmpS x y=decide (x.1.val<y.1.val\/x.1.val=y.1.val/\x.2.toNat<y.2.toNat):=by
 have h1:=x.2.toNat_lt;have h2:=y.2.toNat_lt;unfold ltOf cmpS
 apply decide_eq_decide.2
 omega
theorem swoS:SWO (ltOf cmpS) where
 irrefl x:=by rw[ltS];simp
 trans x y z h1 h2:=by rw[ltS]at *;simp only[QY]at *;omega
 ntrans x y z h1 h2:=by rw[ltS]at *;simp only[decide_eq_false_iff_not]at *;omega
theorem zrs(x y:zhz)(W:World):Calls prog 181 #[.agg (encS x).toArray,.agg (encS y).toArray] W λe w'=>e=jC (jA (cmpS x y))/\∃q f,w'=grow (W.drewN q) f:=by
 obtain⟨i,h⟩:=x;obtain⟨g,j⟩:=y;unfold encS cmpS;have h1:=i.isLt;have h2:=g.isLt;have o:=h.toNat_lt;have m:=j.toNat_lt;simp only;generalize i.val=a at *;generalize g.val=b at *;generalize h.toNat=c at *;generalize j.toNat=d at *;have p:IntKind.i64.wrap ((a:Int)-b)=(a:Int)-b:=by simp[IntKind.wrap,IntKind.bits,IntKind.signed];omega
 have n:IntKind.i64.wrap (((a:Int)-b)*256)=((a:Int)-b)*256:=by simp[IntKind.wrap,IntKind.bits,IntKind.signed];omega
 have r:IntKind.i64.wrap (((a:Int)-b)*256+c)=((a:Int)-b)*256+c:=by simp[IntKind.wrap,IntKind.bits,IntKind.signed];omega
 have s:IntKind.i64.wrap (((a:Int)-b)*256+c-d)=((a:Int)-b)*256+c-d:=by simp[IntKind.wrap,IntKind.bits,IntKind.signed];omega
 have k:IntKind.i64.wrap (c:Int)=c:=by simp[IntKind.wrap,IntKind.bits,IntKind.signed];omega
 have l:IntKind.i64.wrap (d:Int)=d:=by simp[IntKind.wrap,IntKind.bits,IntKind.signed];omega
 go_in
 go_wp2
 go_ret;exact⟨rfl,0,_,by rw[alloc_eq_grow,alloc_eq_grow,grow_grow];rfl⟩
theorem zl6(v:zaJ)(w:World):Calls prog 220 #[jD 0 0,keyV v] w λe w'=>e=jC (jA (-1))/\∃q os,w'=grow (w.drewN q) os:=by
 unfold keyV
 go_in
 go_wp2_with fail
 go_loop [8] (λi=>i=jA 0) (λ_=>0)
 case atStart=>rfl
 case round=>
  subst hrel;go_wp2;go_ret;exact⟨rfl,0,_,by rw[alloc_eq_grow];rfl⟩
theorem zn5(v:zaJ)(w:World):Calls prog 179 #[jD 0 0,keyV v] w λe w'=>e=jC (.bool false)/\w w':=by
 have a:=λW=>zl6 v W
 unfold keyV at a ⊢
 go_in
 go_wp2_with (go_at_call 220;refine(a _).mono ?_;rintro e w' ⟨rfl,q,os,rfl⟩);go_ret;refine⟨rfl,?_⟩;rw[alloc_eq_grow];exact Below.trans (below_grow w.heap.size w (Qc _) 0 #[.cells #[jA v.1,.int .u8 v.2.toNat] 275]) (below_grow _ _ (by simp[grow]) q os)
end
structure MkF(w:World)(gm g bm cap:Nat)(ns:List zaC)(l:List (zaJ × Nat)):Prop where
 nodes:w.cell? gm=some (.slice g ns.length cap)
 next:w.cell? ⟨gm,1,none⟩=some (.map (some bm))
 fail:∀j n,ns[j]? = some n->w.cell? ⟨g,j*4+2,none⟩=some (jA (n.fail:Int))
 map:MpAt w bm l
 lt:gm<w.heap.size/\g<w.heap.size
theorem ziA(a:Nat)(b:UInt8)(w:World):Calls prog 182 #[.pointer a,.agg #[jA 0,.int .u8 b.toNat]] w λe w'=>e=jC (jA 0)/\w w':=by
 go_in
 go_wp2;go_ret;exact⟨rfl,by rw[Go.Sort.alloc_eq_grow];exact Go.Lib.below_grow w.heap.size w (Qc _) 0 _⟩
def NextOk(c:List zaC)(l:List (zaJ × Nat)):Prop:=∀(a:Nat) (b:UInt8) (j:Nat),zbH l ((a:Int),b)=some j↔0<j/\∃n,c[j]? = some n/\n.up=a/\n.b=b
def zny(a:List jE)(u:jE)(r:Nat):Prop:=∃v,a[r]? = some v/\zfu a u v
theorem zqM(d:List zaC)(s:List jE)(D:Inv d s)(l:List (zaJ × Nat))(B g z cap up:Nat)(hl:∀(a:Nat) (b:UInt8) (j:Nat),a<up->(zbH l ((a:Int),b)=some j↔0<j/\∃n,d[j]? = some n/\n.up=a/\n.b=b))(b:UInt8)(y:zaC)(f:jE)(p:d[up]? = some y)(_:up≠0)(K:FailAt s f b y.fail)(G:y.fail<up)(hb:d.length<9223372036854775808)
 (w:World) (M:MkF w B g z cap d l):
 Calls prog 182 #[.pointer B,.agg #[jA (up:Int),.int .u8 b.toNat]] w λe w'=>(∃r:Nat,e=jC (jA (r:Int))/\zny s (f++[b]) r)/\w w':=by
 have h1:=M.nodes;have h2:=M.next;have h3:=M.fail up y p;have l1:B<w.heap.size:=M.lt.1;have l2:g<w.heap.size:=M.lt.2;have Y:B≠w.heap.size:=by omega
 have Z:g≠w.heap.size:=by omega
 have P:up<d.length:=(Qw.1 p).1;have C:=hIx K;have J:∀a x,d[a]? = some x->a<d.length:=λa x h=>(Qw.1 h).1
 have A:∀a,a<d.length->∃x,d[a]? = some x:=λa h=>⟨_,Qd h⟩
 have L:∀(a:Nat) (o:Obj) (q:Nat),a<d.length->(Instr.lookup 240 (.map (some z)) (.agg #[jA (a:Int),.int .u8 b.toNat]) true).run prog ((w.alloc o).drewN q)=.ok (.tuple #[jA (((zbH l ((a:Int),b)).getD 0:Nat):Int),.bool (zbH l ((a:Int),b)).isSome]) ((w.alloc o).drewN q):=λa o q O=>by
  refine zdf (k:=((a:Int),b)) ?_ ⟨by omega,by show (a:Int)<_;omega⟩;obtain⟨es,T,I,W⟩:=M.map;refine⟨es,T,?_,W⟩;have:z<w.heap.size:=(QV.1 I).1;show (w.heap.push o)[z]? = _
  rw[Array.getElem?_push_lt this];exact(Array.getElem?_eq_getElem this).symm.trans I
 have S:=hIx M.fail;generalize d.length=n at *;clear K p
 go_in
 go_wp2_with (fail)
 go_quiet (fail)
 go_wp2
 go_loopw [5] (λi wr=>∃a:Nat,a<up/\i=jA (a:Int)/\Hid (FailAt s f b a)/\∃q,wr=(w.alloc (.cells #[jA (up:Int),.int .u8 b.toNat] 275)).drewN q) (λi _=>(intOf i).toNat)
 case atStart=>exact⟨y.fail,G,rfl,C,_,rfl⟩
 case round=>
  obtain⟨a,O,rfl,c,q,rfl⟩:=hrel;have v:=λq=>L a (.cells #[jA (up:Int),.int .u8 b.toNat] 275) q (by omega)
  have t:=hIx (λj=>hl a b j O);clear L;generalize zbH l ((a:Int),b)=r at v t;cases r with
  |some j=>
   simp only[Xz,Option.isSome_some]at v;have F:Hid (zny s (f++[b]) j):=hIx (c.out.found D ((t.out j).1 rfl));clear c t C;go_wp2_with fail
   go_quiet (fail)
   go_wp2;go_ret;exact⟨⟨j,rfl,F.out⟩,by repeat (first|exact Below.alloc (Qj _ _) (Qc _) _|apply below_drewN_q)⟩
  |none=>
   have m:∀j,¬(0<j/\∃x,d[j]? = some x/\x.up=a/\x.b=b):=λj h=>by cases (t.out j).2 h
   simp only[XB,Option.isSome_none]at v
   by_cases H:a=0
   ·subst H
    have F:Hid (zny s (f++[b]) 0):=hIx ⟨[],D.trie.root,c.out.none D m⟩;have Q:∀q,(Instr.lookup 240 (.map (some z)) (.agg #[jA 0,.int .u8 b.toNat]) true).run prog ((w.alloc (.cells #[jA (up:Int),.int .u8 b.toNat] 275)).drewN q)=.ok (.tuple #[jA 0,.bool false]) ((w.alloc (.cells #[jA (up:Int),.int .u8 b.toNat] 275)).drewN q):=v;clear c t C m v;go_wp2_with fail
    go_quiet (fail)
    go_wp2;go_ret;exact⟨⟨0,rfl,F.out⟩,by repeat (first|exact Below.alloc (Qj _ _) (Qc _) _|apply below_drewN_q)⟩
   ·obtain⟨x,N⟩:=A a (by omega)
    have E:=S.out a x N;obtain⟨u,V⟩:=c.out.next D (by omega) N m;have U:=hIx u;clear c t C m u;go_wp2_with fail
    go_quiet (fail)
    go_wp2;exact⟨⟨x.fail,by omega,rfl,U,_,rfl⟩,by simp[intOf] <;> omega⟩
abbrev SlT:=Option Addr × Nat × Nat
def slV(s:SlT):Value:=.slice s.1 s.2.1 s.2.2
abbrev zcG:=zaC × SlT
def zsK(x:zcG):List Value:=[.int .u8 x.1.b.toNat,jA (x.1.up:Int),jA (x.1.fail:Int),slV x.2]
def rowN:RowT zcG where
 e:=239
 t:=192
 size:=4
 bytes:=48
 z:=.agg #[.int .u8 0,jA 0,jA 0,jD 0 0]
 cells:=zsK
 hsz _:=rfl
 hpos:=by decide
 under:=underlying192
 info:=by kernel_rfl
 hz:=rfl
 one x u hu:=by
  simp only[zsK,QI,ZY,or_false]at hu
  rcases hu with rfl|rfl|rfl|rfl <;> rfl
 hbytes:=by decide
def rowE:RowT (Nat × UInt8) where
 e:=275
 t:=273
 size:=2
 bytes:=16
 z:=.agg #[jA 0,.int .u8 0]
 cells x:=[jA (x.1:Int),.int .u8 x.2.toNat]
 hsz _:=rfl
 hpos:=by decide
 under:=underlying273
 info:=by kernel_rfl
 hz:=rfl
 one x u hu:=by
  simp only[QI,ZY,or_false]at hu
  rcases hu with rfl|rfl <;> rfl
 hbytes:=by decide
def rowI:RowT Nat where
 e:=3
 t:=31
 size:=1
 bytes:=8
 z:=jA 0
 cells x:=[jA (x:Int)]
 hsz _:=rfl
 hpos:=by decide
 under:=underlying31
 info:=by kernel_rfl
 hz:=rfl
 one x u hu:=by
  rw[Qy]at hu;rw[hu];rfl
 hbytes:=by decide
theorem zxR{w:World}{g:Nat}{cs:Array Value}{t:TypeId}{a:Nat × Nat}(h:w.heap[g]? = some (.cells cs t a))(j:Nat)(v:Value):(w.setCell ⟨g,j,none⟩ v).heap[g]? = some (.cells (cs.setIfInBounds j v) t a):=by
 simp[World.setCell,Q4,h]
theorem zcU{w:World}{g:Nat}{o:Obj}(h:w.heap[g]? = some o):g<w.heap.size:=(QV.1 h).1
theorem OwnG.apart{d:Type}{R:RowT d}{w:World}{base g:Nat}{v:Value}{l:List d}(h:OwnG R w base v l){o:Obj}(k:w.heap[g]? = some o)(b:∀cs i,o≠.cells cs R.e i):v.ownBlock≠some g:=by
 intro j;obtain⟨c,f,a⟩:=Xx h g j;rw[k]at a;injection a with a
 exact b _ _ a
def zjm(g cap n c b a d:Nat):Obj:=.cells #[.slice g n cap,.map (some c),.slice b a d] 242
structure Mk(w:World)(B gm bm ga ca g cap:Nat)(ms:List zcG)(l:List (zaJ × Nat))(ats:List Nat):Prop where
 blk:w.heap[gm]? = some (zjm g cap ms.length bm ga ats.length ca)
 own:OwnG rowN w B (.slice g ms.length cap) ms
 aown:OwnG rowI w B (.slice ga ats.length ca) ats
 map:MpAt w bm l
 low:B<=gm/\B<=bm
section
variable {w:World} {B gm bm ga ca g cap:Nat} {ms:List zcG} {l:List (zaJ × Nat)} {ats:List Nat}
theorem Mk.lt(h:Mk w B gm bm ga ca g cap ms l ats):gm<w.heap.size/\g<w.heap.size/\ga<w.heap.size/\bm<w.heap.size:=by
 obtain⟨es,a,hb,_⟩:=h.map;exact⟨zcU h.blk,(h.own.lt g rfl).2,(h.aown.lt ga rfl).2,zcU hb⟩
theorem Mk.base(h:Mk w B gm bm ga ca g cap ms l ats):B<=gm/\B<=g/\B<=ga/\B<=bm:=⟨h.low.1,(h.own.lt g rfl).1,(h.aown.lt ga rfl).1,h.low.2⟩
theorem Mk.ne(h:Mk w B gm bm ga ca g cap ms l ats):gm≠g/\gm≠ga/\gm≠bm/\g≠ga/\g≠bm/\ga≠bm:=by
 obtain⟨es,k,hb,_⟩:=h.map;have h1:=h.own.apart h.blk λcs a e=>by unfold zjm at e;injection e with _ e;exact absurd e (by decide)
 have h2:=h.aown.apart h.blk λcs a e=>by unfold zjm at e;injection e with _ e;exact absurd e (by decide)
 have i:=h.own.apart hb λcs a e=>by cases e
 have b:=h.aown.apart hb λcs a e=>by cases e
 obtain⟨c,f,j⟩:=Xx h.own g rfl;have d:=h.aown.apart j λcs a e=>by injection e with _ e;exact absurd e (by decide)
 refine⟨λe=>h1 (by rw[e];rfl),λe=>h2 (by rw[e];rfl),λe=>?_,λe=>d (by rw[e];rfl),λe=>i (by rw[e];rfl),λe=>b (by rw[e];rfl)⟩;have:=h.blk;rw[e,hb]at this;injection this with this
 unfold zjm at this;cases this
theorem Mk.cells(h:Mk w B gm bm ga ca g cap ms l ats):w.cell? gm=some (.slice g ms.length cap)/\w.cell? ⟨gm,1,none⟩=some (.map (some bm))/\w.cell? ⟨gm,2,none⟩=some (.slice ga ats.length ca)/\w.frozen? ⟨gm,0,none⟩=false:=by
 have hb:=h.blk;unfold zjm at hb;exact⟨Qf w gm 0 _ _ _ hb,Qf w gm 1 _ _ _ hb,Qf w gm 2 _ _ _ hb,by simp[World.frozen?, hb]⟩
theorem Mk.at(h:Mk w B gm bm ga ca g cap ms l ats)(k:Nat)(a:k<ats.length):w.cell? ⟨ga,k,none⟩=some (jA (ats[k]:Int))/\w.frozen? ⟨ga,k,none⟩=false:=by
 have:=h.aown.at k a 0 (by decide);rw[show k*rowI.size+0=k by simp[rowI]]at this;exact this
theorem Mk.fail(h:Mk w B gm bm ga ca g cap ms l ats)(j:Nat)(n:zaC)(e:(ms.map Prod.fst)[j]? = some n):w.cell? ⟨g,j*4+2,none⟩=some (jA (n.fail:Int)):=by
 have a:j<ms.length:=by have:=(Qw.1 e).1;simpa using this
 have:=(h.own.at j a 2 (by decide)).1;refine this.trans ?_;rw[ZM,Qd a]at e;have e:=QD e;rw[<-e];rfl
theorem Mk.toF(h:Mk w B gm bm ga ca g cap ms l ats):MkF w gm g bm cap (ms.map Prod.fst) l where
 nodes:=by rw[Qh];exact h.cells.1
 next:=h.cells.2.1
 fail:=h.fail
 map:=h.map
 lt:=⟨h.lt.1,h.lt.2.1⟩
theorem MpAt.keep{w w':World}{b:Nat}{l:List (zaJ × Nat)}(h:MpAt w b l)(a:w'.heap[b]? = w.heap[b]?):MpAt w' b l:=by
 obtain⟨es,d,hb,c⟩:=h;exact⟨es,d,a.trans hb,c⟩
theorem Mk.below(h:Mk w B gm bm ga ca g cap ms l ats){w':World}(hb:w w'):Mk w' B gm bm ga ca g cap ms l ats where
 blk:=(hb.block gm h.lt.1).trans h.blk
 own:=h.own.below hb
 aown:=h.aown.below hb
 map:=h.map.keep (hb.block bm h.lt.2.2.2)
 low:=h.low
theorem Mk.put(h:Mk w B gm bm ga ca g cap ms l ats){o:Obj}{c:List (zaJ × Nat)}(d:MpAt (ChangeMaps.setBlock w bm o) bm c):Mk (ChangeMaps.setBlock w bm o) B gm bm ga ca g cap ms c ats:=by
 obtain⟨n,n2,n3,p,m,f⟩:=h.ne
 have a:∀j,bm≠j->(ChangeMaps.setBlock w bm o).heap[j]? = w.heap[j]? := λj i=>by
  simp[ChangeMaps.setBlock,Xp i]
 exact {blk:=(a gm (Xv n3)).trans h.blk,own:=h.own.keep λk e=>a k λb=>m (by injection e with e;rw[b];exact e),aown:=h.aown.keep λk e=>a k λb=>f (by injection e with e;rw[b];exact e),map:=d,low:=h.low}
theorem Mk.push(h:Mk w B gm bm ga ca g cap ms l ats){w':World}{v':Value}{b:List zcG}(m:OwnG rowN w' B v' b)(p:0<b.length)(i:∀j,j<w.heap.size->g≠j->w'.heap[j]? = w.heap[j]?):
 ∃c a,v'=.slice (some ⟨c,0,none⟩) b.length a/\Mk (w'.setCell gm v') B gm bm ga ca c a b l ats:=by
 obtain⟨x,n2,n3,q,o,z⟩:=h.ne;obtain⟨v,A,s,t⟩:=h.lt;obtain⟨c,a,rfl,_,_⟩:=m.head p;have d:w'.heap[gm]? = some (zjm g cap ms.length bm ga ats.length ca):=(i gm v (Xv x)).trans h.blk;have f:c≠gm:=λe=>m.apart d (λcs y e=>by unfold zjm at e;injection e with _ e;exact absurd e (by decide)) (by rw[e];rfl)
 have n:∀j,gm≠j->(w'.setCell gm (.slice (some ⟨c,0,none⟩) b.length a)).heap[j]? = w'.heap[j]? := λj u=>Qk w' ⟨gm,0,none⟩ _ j (Xv u)
 refine⟨c,a,rfl,⟨?_,m.keep λk e=>n k λr=>f (by injection e with e;rw[r];exact e),h.aown.keep λk e=>?_,h.map.keep ?_,h.low⟩⟩
 ·unfold zjm at d
  have:=zxR d 0 (.slice (some ⟨c,0,none⟩) b.length a);exact this
 ·injection e with e
  subst e;exact(n _ n2).trans (i _ s q)
 ·exact(n _ n3).trans (i _ t o)
theorem Mk.setAt(h:Mk w B gm bm ga ca g cap ms l ats)(k:Nat)(b:k<ats.length)(x:Nat):Mk (w.setCell ⟨ga,k,none⟩ (jA (x:Int))) B gm bm ga ca g cap ms l (ats.set k x):=by
 obtain⟨n,n2,n3,i,m,c⟩:=h.ne;have a:∀j,ga≠j->(w.setCell ⟨ga,k,none⟩ (jA (x:Int))).heap[j]? = w.heap[j]? := λj d=>Qk w ⟨ga,k,none⟩ _ j (Xv d)
 refine⟨by rw[Xm];exact(a gm (Xv n2)).trans h.blk,h.own.keep λj e=>a j λf=>i (by injection e with e;rw[f];exact e),?_,h.map.keep (a bm c),h.low⟩;have:=(h.aown.stored k b 0 (by decide) (jA (x:Int)) x rfl).1;rw[show k*rowI.size+0=k by simp[rowI]]at this;rw[Xm];exact this
end
theorem zdc(w:World)(B b:Nat)(o:Obj)(a:B<=b):Below B w (ChangeMaps.setBlock w b o) where
 os:=rfl
 tape:=rfl
 output:=rfl
 size:=by simp[ChangeMaps.setBlock]
 block j hj:=by simp[ChangeMaps.setBlock,Xp (show b≠j by omega)]
theorem zvo{base:Nat}{v:Value}{l:List (Nat × UInt8)}{W:World}(h:OwnG rowE W base v l)(hl:l.length<=4096)(e:Nat × UInt8):
 Calls prog 179 #[v,.agg #[jA (e.1:Int),.int .u8 e.2.toNat]] W λr w'=>r=jC (.bool (decide (e∈l)))/\W w':=by
 rcases h.cases with ⟨rfl,rfl⟩|⟨g,c,rfl,_,_⟩
 ·have:=zn5 ((e.1:Int),e.2) W
  unfold keyV at this
  simpa using this
 ·have:=zxT g 0 l.length c (l.map λx=>((x.1:Int),x.2)) ((e.1:Int),e.2) W (by simp) (by omega) λj k i v f=>by
   have d:j<l.length:=by simpa using k
   have b:i<2:=(Qw.1 f).1;have:=(h.at j d i b).1;rw[Zh];refine this.trans (Eq.trans ?_ f);rw[getElem!_pos _ j k,Zm]
   rfl
  unfold keyV at this;rw[show (((l.map λx=>((x.1:Int),x.2)).take l.length).any λy=>decide ((((e.1:Int),e.2):zaJ)=y))=decide (e∈l)from ?_]at this
  ·exact this
  ·rw[QF (by simp),List.any_map]
   by_cases a:e∈l
   ·rw[Qu a,Xy]
    exact⟨e,a,by simp⟩
   ·rw[Qq a,List.any_eq_false]
    intro y n;simp only[Function.comp_apply,QY];intro o;injection o with p m
    exact a (by rw[show e=y from Prod.ext (by omega) m];exact n)
