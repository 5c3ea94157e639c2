/- Lemmas for the last texts. -/
import Derived.Test.YtfhaojhofiocaaaGreatDoorM02
import Derived.Laws.OwnMore
import Derived.Below
import Derived.Laws.StructEq
import Derived.DeepKeys3
import Derived.WideKeyMaps2
import Derived.Shelf.SlicesQ.Contains
import Derived.Shelf.SlLaysF0
import Derived.Shelf.SlSortCmp.InsertionK
import Derived.Lib.AppendIntMem
set_option maxHeartbeats 1000000
set_option maxRecDepth 100000
namespace Go.Proofs.YtfhaojhofiocaaaGreatDoor
open Go.RowKit Go.Proofs.Tryz
structure RowT(α:Type) where
 e:TypeId
 t:TypeId
 size:Nat
 bytes:Nat
 z:Value
 cells:α->List Value
 hsz:∀a,(cells a).length=size
 hpos:0<size
 under:prog.underlying t=some (.slice e)
 info:(prog.info? e).map (λi=>(i.zero,i.size,i.bytes))=some (some z,size,bytes)
 hz:z.cells.size=size
 one:∀a,∀u∈cells a,u.oneCell'=true
 hbytes:bytes<=128
def OwnG{a:Type}(R:RowT a)(w:World)(base:Nat)(v:Value)(l:List a):Prop:=w.ownsRow base R.e R.size v l.length (l.flatMap R.cells)
theorem OwnG.nil{a:Type}(R:RowT a)(w:World)(base:Nat):OwnG R w base (jD 0 0) []:=ZH w base R.e R.size
theorem OwnG.below{a:Type}{R:RowT a}{w w':World}{base:Nat}{v:Value}{l:List a}(h:OwnG R w base v l)(hb:w w'):OwnG R w' base v l:=zaM h hb
theorem OwnG.keep{b:Type}{R:RowT b}{w w':World}{base:Nat}{v:Value}{l:List b}(h:OwnG R w base v l)(c:∀g,v.ownBlock=some g->w'.heap[g]? = w.heap[g]?):OwnG R w' base v l:=by
 refine⟨h.1,?_⟩
 rcases h.2 with e|⟨g,cap,a,h1,h2,f,d⟩
 ·exact .inl e
 ·exact .inr ⟨g,cap,a,h1,h2,(c g (by rw[h1];rfl)).trans f,d⟩
theorem OwnG.low{c:Type}{R:RowT c}{w:World}{base b:Nat}{v:Value}{l:List c}(h:OwnG R w base v l)(hb:b<=base):OwnG R w b v l:=
 ⟨h.1,h.2.imp_right λ⟨g,cap,a,h1,h2,d⟩=>⟨g,cap,a,h1,Ql hb h2,d⟩⟩
theorem OwnG.lt{a:Type}{R:RowT a}{w:World}{base:Nat}{v:Value}{l:List a}(h:OwnG R w base v l):∀k,v.ownBlock=some k->base<=k/\k<w.heap.size:=QE h
theorem OwnG.head{a:Type}{R:RowT a}{w:World}{base:Nat}{v:Value}{l:List a}(h:OwnG R w base v l)(hl:0<l.length):∃g c,v=.slice (some ⟨g,0,none⟩) l.length c/\base<=g/\g<w.heap.size:=by
 rcases h.2 with ⟨h1,h2⟩|⟨g,cap,b,h1,hb,d,_⟩
 ·omega
 ·exact⟨g,cap,h1,hb,(QE h g (by rw[h1];simp[Value.ownBlock])).2⟩
theorem OwnG.cases{a:Type}{R:RowT a}{w:World}{base:Nat}{v:Value}{l:List a}(h:OwnG R w base v l):(v=jD 0 0/\l=[])\/∃g c,v=.slice (some ⟨g,0,none⟩) l.length c/\base<=g/\g<w.heap.size:=by
 rcases h.2 with ⟨h1,h2⟩|⟨g,cap,b,h1,hb,d,_⟩
 ·exact .inl ⟨h1,QA h2⟩
 ·exact .inr ⟨g,cap,h1,hb,(QE h g (by rw[h1];simp[Value.ownBlock])).2⟩
theorem OwnG.at{b:Type}{R:RowT b}{w:World}{base g c:Nat}{l:List b}(h:OwnG R w base (.slice g l.length c) l)(k:Nat)(a:k<l.length)(j:Nat)(e:j<R.size):
 w.cell? ⟨g,k*R.size+j,none⟩=(R.cells l[k])[j]? /\ w.frozen? ⟨g,k*R.size+j,none⟩=false:=by
 have h1:=zcA R.cells R.size R.hsz l k j a e;have hl:=za3 R.cells R.size R.hsz l
 have h2:k*R.size+j<(l.flatMap R.cells).length:=by
  rw[hl];have:(k+1)*R.size<=l.length*R.size:=Xu _ a;rw[Xl]at this;omega
 have d:=Zq (g:=g) h (by simp[Value.ownBlock]) (k*R.size+j) _ (Qe h2);rw[zbd]at d;rw[Qe h2]at h1;exact⟨d.trans h1,World.ownsRow.frozenAt h _⟩
theorem OwnG.form{a:Type}{R:RowT a}{w:World}{base:Nat}{v:Value}{l:List a}(h:OwnG R w base v l):∃A c,v=.slice A l.length c/\Sl w w.heap.size R.size A l.length (l.flatMap R.cells):=by
 rcases h.cases with ⟨h1,h2⟩|⟨g,cap,h1,hb,d⟩
 ·subst h2
  exact⟨none,0,h1,Sl.nil _ _ _ _⟩
 ·refine⟨_,_,h1,za3 R.cells R.size R.hsz l,λe=>⟨g,0,rfl,d,λj b=>?_⟩⟩
  have:=Zq (g:=g) h (by rw[h1];simp[Value.ownBlock]) j _ (Qe b);rw[zbd]at this;rw[Ze];exact this
theorem OwnG.stored{b:Type}{R:RowT b}{w:World}{base g c:Nat}{l:List b}(h:OwnG R w base (.slice g l.length c) l)(k:Nat)(i:k<l.length)(j:Nat)(n:j<R.size)(u:Value)(y:b)(m:R.cells y=(R.cells l[k]).set j u):
 OwnG R (w.setCell ⟨g,k*R.size+j,none⟩ u) base (.slice g l.length c) (l.set k y)/\w.grownBy (w.setCell ⟨g,k*R.size+j,none⟩ u) (some g):=by
 have f:=World.ownsRow.stored h (k*R.size+j) u;refine⟨?_,f.2⟩
 have d:∀(l:List b) (k:Nat) (h:k<l.length),R.cells y=(R.cells l[k]).set j u->(l.flatMap R.cells).set (k*R.size+j) u=(l.set k y).flatMap R.cells:=by
  intro l
  induction l with
  |nil=>intro k h;exact absurd h (by simp)
  |cons a r ih=>
   intro k h d;cases k with
   |zero=>
    have e:R.cells y=(R.cells a).set j u:=d;simp only[QV,Qg,XO,Ze];rw[List.set_append_left _ _ (by rw[R.hsz];exact n),e]
   |succ k=>
    simp only[QV,Qh];rw[ZO _ _ (by rw[R.hsz,Xl];omega),R.hsz,show (k+1)*R.size+j-R.size=k*R.size+j by rw[Xl];omega];rw[ih k (by simpa using h) d]
 unfold OwnG;rw[Xf,<-d l k i m];exact f.1
section
variable {ops:Array Oper} {rest:List Oper} {o:Oper} {a:Act} {Q:Exit->Act->World->Prop} {w:World}
theorem ze0{m:Type}(R:RowT m){K:Act->World->Prop}(s x:Operand)(z:o.op=.call {callee:=.builtin .append,args:=#[s,x],argTypes:=#[R.t,R.t]})
 (base:Nat) (v:Value) (l:List m) (B:a.eval s=v) (f:OwnG R w base v l) (d:base<=w.heap.size)
 (q:List Value) (new:m) (E:q=R.cells new) (r:Nat) (n:w.heap.size=r) (c:Nat) (D:a.eval x=.slice r 1 c)
 (b:l.length<=1048576)
 (h:∀v' w',OwnG R w' base v' (l++[new])->Below base w w'->(∀g,g<w.heap.size->v.ownBlock≠some g->w'.heap[g]? = w.heap[g]?)->w.heap.size<w'.heap.size->K (a.put o.dst v') w'):
 o.wp prog a (w.alloc (.cells q.toArray R.e)) K Q:=by
 subst E;subst n
 obtain⟨y,C,i,j,k⟩:=ZG R.info;have hb:=R.hbytes
 exact zaT s x R.t z base R.e y _ R.size R.bytes R.under C i j k R.hz R.hpos v l.length (l.flatMap R.cells) B f d (R.cells new) 1 c D (by rw[R.hsz,Nat.one_mul])
  (R.one new) (by unfold maxLen;omega) (Ql (Nat.mul_le_mul (Nat.add_le_add_right b 1) hb) (by omega)) λv' w' h1 h2 A u=>h v' w' (by unfold OwnG;rw[Qb,Q7];simpa using h1) h2 A u
theorem zaL{m:Type}(R:RowT m)(i:o.guard=none)(s x:Operand)(u:o.op=.call {callee:=.builtin .append,args:=#[s,x],argTypes:=#[R.t,R.t]})
 (base:Nat) (v:Value) (l:List m) (z:a.eval s=v) (f:OwnG R w base v l) (d:base<=w.heap.size)
 (j:List Value) (new:m) (B:j=R.cells new) (k:Nat) (n:w.heap.size=k) (c:Nat) (A:a.eval x=.slice k 1 c)
 (b:l.length<=1048576)
 (h:∀v' w',OwnG R w' base v' (l++[new])->Below base w w'->(∀g,g<w.heap.size->v.ownBlock≠some g->w'.heap[g]? = w.heap[g]?)->w.heap.size<w'.heap.size->wpList prog ops Q rest (a.put o.dst v') w'):
 wpList prog ops Q (o::rest) a (w.alloc (.cells j.toArray R.e)):=
 Z3 i λ_ r=>ze0 R s x u base v l z f d j new B k n c A b λv' w' h1 h2 y q=>r _ _ (h v' w' h1 h2 y q)
theorem zkF{m:Type}(R:RowT m){K:Act->World->Prop}{E:Prop}(i:o.guard=none)(s x:Operand)(r:o.op=.call {callee:=.builtin .append,args:=#[s,x],argTypes:=#[R.t,R.t]})
 (base:Nat) (v:Value) (l:List m) (u:a.eval s=v) (f:OwnG R w base v l) (d:base<=w.heap.size)
 (j:List Value) (new:m) (z:j=R.cells new) (k:Nat) (n:w.heap.size=k) (c:Nat) (y:a.eval x=.slice k 1 c)
 (b:l.length<=1048576)
 (h:∀v' w',OwnG R w' base v' (l++[new])->Below base w w'->(∀g,g<w.heap.size->v.ownBlock≠some g->w'.heap[g]? = w.heap[g]?)->w.heap.size<w'.heap.size->K (a.put o.dst v') w'):
 if Region.wanted o (yielded ops a.tmps)=true then Oper.wp prog o a (w.alloc (.cells j.toArray R.e)) K Q else E:=by
 have q:Region.wanted o (yielded ops a.tmps)=true:=by simp[Region.wanted,i]
 rw[Qj q];exact ze0 R s x r base v l u f d j new z k n c y b h
end
structure TrieS(ss:List jE):Prop where
 root:ss[0]? = some []
 uniq:ss.Nodup
 pre:∀v b,v++[b]∈ss->v∈ss
 order:∀i j (hi:i<ss.length) (hj:j<ss.length),ss[i].length<ss[j].length->i<j
theorem TrieS.nil_mem{a:List jE}(h:TrieS a):[]∈a:=Z6 h.root
def zfF(a:List jE)(s v:jE):Prop:=v∈a/\v <:+s/\∀u,u∈a->u <:+s->u <:+v
def IsFail(a:List jE)(s v:jE):Prop:=v∈a/\v <:+s/\v≠s/\∀u,u∈a->u <:+s->u≠s->u <:+v
theorem zi6{u s:jE}(h:u <:+s)(hl:s.length<=u.length):u=s:=h.eq_of_length (Nat.le_antisymm h.length_le hl)
theorem zcY{u s:jE}{b c:UInt8}:u++[b] <:+s++[c]↔b=c/\u <:+s:=by
 constructor
 ·rintro⟨t,h⟩
  rw[<-Q4]at h;obtain⟨h1,h2⟩:=List.append_inj' h rfl;exact⟨by simpa using h2,⟨t,h1⟩⟩
 ·rintro⟨rfl,t,h⟩
  exact⟨t,by rw[<-Q4,h]⟩
theorem znc{u s:jE}{c:UInt8}(h:u <:+s++[c])(d:u≠[]):∃a,u=a++[c]/\a <:+s:=by
 obtain⟨a,b,rfl⟩:∃a b,u=a++[b]:=by
  rcases List.eq_nil_or_concat u with e|⟨a,b,h1⟩
  ·exact absurd e d
  ·exact⟨a,b,by rw[h1,List.concat_eq_append]⟩
 obtain⟨rfl,h2⟩:=zcY.1 h;exact⟨a,rfl,h2⟩
def Cand(a:List jE)(s:jE)(b:UInt8)(v:jE):Prop:=v∈a/\v <:+s/\∀u,u∈a->u <:+s->u++[b]∈a->u <:+v
theorem zgK{a:List jE}{s v:jE}(b:UInt8)(h:zfF a s v):Cand a s b v:=⟨h.1,h.2.1,λu c d _=>h.2.2 u c d⟩
theorem zsf{a:List jE}{s v f:jE}{b:UInt8}(h:Cand a s b v)(i:v++[b] ∉ a)(c:IsFail a v f):Cand a s b f:=by
 refine⟨c.1,c.2.1.trans h.2.1,λu d g hb=>?_⟩;have h1:=h.2.2 u d g hb;exact c.2.2.2 u d h1 λe=>i (by rw[<-e];exact hb)
theorem zqv{a:List jE}{s v:jE}{b:UInt8}(g:TrieS a)(h:Cand a s b v)(f:v++[b]∈a):zfF a (s++[b]) (v++[b]):=by
 refine⟨f,zcY.2 ⟨rfl,h.2.1⟩,λu c i=>?_⟩
 by_cases d:u=[]
 ·rw[d];exact List.nil_suffix
 ·obtain⟨e,rfl,h1⟩:=znc i d
  exact zcY.2 ⟨rfl,h.2.2 e (g.pre e b c) h1 c⟩
theorem zr9{a:List jE}{s:jE}{b:UInt8}(d:TrieS a)(h:Cand a s b [])(i:[b] ∉ a):zfF a (s++[b]) []:=by
 refine⟨d.nil_mem,List.nil_suffix,λu c g=>?_⟩
 by_cases e:u=[]
 ·rw[e];exact List.suffix_refl _
 ·obtain⟨f,rfl,h1⟩:=znc g e
  have:=h.2.2 f (d.pre f b c) h1 c;rw[List.suffix_nil]at this;rw[this]at c;exact absurd c i
theorem zmB{a:List jE}{p f v:jE}{b:UInt8}(j:IsFail a p f)(d:zfF a (f++[b]) v)(l:TrieS a)(c:p++[b] ∉ a):
 v∈a/\v <:+p++[b]/\v≠p++[b]/\∀u,u∈a->u <:+p++[b]->u≠p++[b]->u <:+v:=by
 have n:f++[b] <:+p++[b]:=zcY.2 ⟨rfl,j.2.1⟩;refine⟨d.1,d.2.1.trans n,λe=>c (by rw[<-e];exact d.1),λu k h1 h2=>?_⟩
 by_cases i:u=[]
 ·rw[i];exact List.nil_suffix
 ·obtain⟨h,rfl,m⟩:=znc h1 i
  have g:h≠p:=λe=>h2 (by rw[e])
  exact d.2.2 _ k (zcY.2 ⟨rfl,j.2.2.2 h (l.pre h b k) m g⟩)
theorem zuf{a:List jE}{b:UInt8}(d:TrieS a):[]∈a/\[] <:+[b]/\([]:jE)≠[b]/\∀u,u∈a->u <:+[b]->u≠[b]->u <:+[]:=by
 refine⟨d.nil_mem,List.nil_suffix,by simp,λu _ h1 h2=>?_⟩
 by_cases c:u=[]
 ·rw[c];exact List.suffix_refl _
 ·have e:=h1.length_le
  have f:0<u.length:=List.length_pos_iff.2 c;exact absurd (zi6 h1 (by simp only[QH]at e ⊢;omega)) h2
theorem IsFail.more{b:List jE}{s v x:jE}(h:IsFail b s v)(c:s.length<=x.length):IsFail (b++[x]) s v:=
 ⟨ZI _ h.1,h.2.1,h.2.2.1,λu a h1 h2=>by
  rcases QY.1 a with a|a
  ·exact h.2.2.2 u a h1 h2
  ·rw[QF.1 a]at h1 h2
   exact absurd (zi6 h1 c) h2⟩
theorem zuR{f:List jE}(h:TrieS f){p:jE}{b:UInt8}(l:p∈f)(o:p++[b] ∉ f)(hl:∀v,v∈f->v.length<=p.length+1):TrieS (f++[p++[b]]):=by
 have g:0<f.length:=List.length_pos_of_mem l;refine⟨by rw[Zj g];exact h.root,?_,λv c k=>?_,λi j n q d=>?_⟩
 ·rw[List.nodup_append]
  refine⟨h.uniq,by simp,λa r s hb=>?_⟩;rw[QF.1 hb];exact λe=>o (by rw[<-e];exact r)
 ·rcases QY.1 k with k|k
  ·exact ZI _ (h.pre v c k)
  ·have:=QF.1 k
   obtain⟨e,_⟩:=List.append_inj' this rfl;rw[e];exact ZI _ l
 ·rw[Qb,QH]at n q
  by_cases c1:i<f.length
  ·by_cases c2:j<f.length
   ·rw[Zy c1,Zy c2]at d
    exact h.order i j c1 c2 d
   ·omega
  ·have e:(f++[p++[b]])[i]=p++[b]:=by rw[ZW (by omega)];simp
   rw[e]at d
   by_cases c2:j<f.length
   ·rw[Zy c2]at d
    have:=hl _ (QC c2);simp only[Qb,QH]at d;omega
   ·have m:(f++[p++[b]])[j]=p++[b]:=by rw[ZW (by omega)];simp
    rw[m]at d;omega
def zaW(ws:List jE)(s:jE):List Nat:=(List.range ws.length).filter λk=>decide (ws.getD k [] <:+s)
theorem zcM{ws:List jE}{s:jE}{k:Nat}:k∈zaW ws s↔k<ws.length/\ws.getD k [] <:+s:=by
 unfold zaW;rw[Xg,ZQ,QX]
theorem zcG(ws:List jE)(s:jE):(zaW ws s).Pairwise (·<·):=List.Pairwise.filter _ List.pairwise_lt_range
theorem zgl:∀{l m:List Nat},l.Pairwise (·<·)->m.Pairwise (·<·)->(∀k,k∈l↔k∈m)->l=m
 | [],[],_,_,_=>rfl
 | [],b::m,_,_,h=>absurd ((h b).2 (by simp)) (by simp)
 |a::l,[],_,_,h=>absurd ((h a).1 (by simp)) (by simp)
 |a::l,b::m,h1,h2,h=>by
  rw[List.pairwise_cons]at h1 h2
  have e:a=b:=by
   rcases QN.1 ((h a).1 (by simp))with e|d
   ·exact e
   ·rcases QN.1 ((h b).2 (by simp))with e|f
    ·exact e.symm
    ·have:=h2.1 a d;have:=h1.1 b f;omega
  subst e;refine Zm (a::·) (zgl h1.2 h2.2 λk=>⟨λc=>?_,λc=>?_⟩)
  ·rcases QN.1 ((h k).1 (by simp[c]))with e|d
   ·have:=h1.1 k c;omega
   ·exact d
  ·rcases QN.1 ((h k).2 (by simp[c]))with e|d
   ·have:=h2.1 k c;omega
   ·exact d
theorem zlh{ws a:List jE}{s v:jE}(b:∀k,k<ws.length->ws.getD k []∈a)(h:zfF a s v):zaW ws s=zaW ws v:=
 zgl (zcG _ _) (zcG _ _) λk=>by
  rw[zcM,zcM];exact⟨λ⟨h1,h2⟩=>⟨h1,h.2.2 _ (b k h1) h2⟩,λ⟨h1,h2⟩=>⟨h1,h2.trans h.2.1⟩⟩
theorem zkg{ws a:List jE}{s v:jE}(b:∀k,k<ws.length->ws.getD k []∈a)(h:IsFail a s v)(k:Nat):k∈zaW ws s↔k∈zaW ws v\/(k<ws.length/\ws.getD k []=s):=by
 rw[zcM,zcM]
 constructor
 ·rintro⟨h1,h2⟩
  by_cases e:ws.getD k []=s
  ·exact .inr ⟨h1,e⟩
  ·exact .inl ⟨h1,h.2.2.2 _ (b k h1) h2 e⟩
 ·rintro(⟨h1,h2⟩|⟨h1,h2⟩)
  ·exact⟨h1,h2.trans h.2.1⟩
  ·exact⟨h1,by rw[h2];exact List.suffix_refl _⟩
structure zaD where
 b:UInt8
 up:Nat
 fail:Nat
structure Inv(ns:List zaD)(ss:List jE):Prop where
 len:ns.length=ss.length
 trie:TrieS ss
 zero:ns[0]? = some ⟨0,0,0⟩
 node:∀j n,0<j->ns[j]? = some n->n.up<j/\n.fail<j/\∃p f,ss[n.up]? = some p/\ss[n.fail]? = some f/\ss[j]? = some (p++[n.b])/\IsFail ss (p++[n.b]) f
theorem zsz:Inv [⟨0,0,0⟩] [[]] where
 len:=rfl
 trie:=⟨rfl,by simp,λv b h=>by simp at h,λi j e a h=>by
  have c:i=0:=by simpa using e
  have d:j=0:=by simpa using a
  subst c;subst d
  exact absurd h (by simp)⟩
 zero:=rfl
 node j n a h:=by
  have:=(Qy.1 h).1;simp only[QH]at this;omega
theorem Inv.lt{b:List zaD}{a:List jE}(h:Inv b a){j:Nat}{v:jE}(c:a[j]? = some v):j<b.length:=by
 rw[h.len];exact(Qy.1 c).1
theorem Inv.inj{e:List zaD}{a:List jE}(h:Inv e a){i j:Nat}{v:jE}(f:a[i]? = some v)(c:a[j]? = some v):i=j:=by
 obtain⟨h1,b⟩:=Qy.1 f;obtain⟨h2,d⟩:=Qy.1 c;exact(List.getElem_inj h.trie.uniq).1 (b.trans d.symm)
theorem Inv.kid{l:List zaD}{k:List jE}(h:Inv l k){u:Nat}{p:jE}{b:UInt8}(m:k[u]? = some p){j:Nat}:k[j]? = some (p++[b])↔(0<j/\∃n,l[j]? = some n/\n.up=u/\n.b=b):=by
 constructor
 ·intro i
  have a:0<j:=by
   rcases Z4 j with e|e
   ·subst e
    rw[h.trie.root]at i;have:=QG i;exact absurd this.symm (by simp)
   ·exact e
  obtain⟨n,c⟩:∃n,l[j]? = some n:=⟨_,Qe (h.lt i)⟩
  obtain⟨_,_,o,f,d,_,g,_⟩:=h.node j n a c;rw[i]at g;obtain⟨r,q⟩:=List.append_inj' (QG g) rfl;refine⟨a,n,c,h.inj (v:=o) d (by rw[<-r];exact m),?_⟩
  simpa using q.symm
 ·rintro⟨a,n,c,rfl,rfl⟩
  obtain⟨_,_,o,f,d,_,g,_⟩:=h.node j n a c;rw[m]at d;rw[QG d];exact g
theorem Inv.fail_at{c:List zaD}{a:List jE}(h:Inv c a){j:Nat}{n:zaD}(g:0<j)(k:c[j]? = some n){v:jE}(d:a[j]? = some v):n.fail<j/\∃f,a[n.fail]? = some f/\IsFail a v f:=by
 obtain⟨_,h2,p,f,_,i,b,e⟩:=h.node j n g k;rw[d]at b;rw[QG b];exact⟨h2,f,i,e⟩
theorem Inv.add{l:List zaD}{d:List jE}(h:Inv l d){u fl:Nat}{b:UInt8}{p f:jE}(o:d[u]? = some p)(s:d[fl]? = some f)(y:p++[b] ∉ d)(hl:∀v,v∈d->v.length<=p.length+1)
 (a:f∈d/\f <:+p++[b]/\f≠p++[b]/\∀u,u∈d->u <:+p++[b]->u≠p++[b]->u <:+f):Inv (l++[⟨b,u,fl⟩]) (d++[p++[b]]) where
 len:=by rw[Qb,Qb,h.len];rfl
 trie:=zuR h.trie (Z6 o) y hl
 zero:=by rw[Zj (Qy.1 h.zero).1];exact h.zero
 node j n hj hjn:=by
  have up:∀{i v},d[i]? = some v->(d++[p++[b]])[i]? = some v:=λ{i v} e=>by
   rw[Zj (Qy.1 e).1];exact e
  rcases ZJ j l.length with c|c
  ·rw[Zj c]at hjn
   obtain⟨h1,h2,q,g,z,w,t,A⟩:=h.node j n hj hjn;refine⟨h1,h2,q,g,up z,up w,up t,A.more ?_⟩;have:=hl _ (Z6 t);rw[Qb,QH]at this ⊢;rw[Qb,QH];omega
  ·have m:=(Qy.1 hjn).1
   rw[Qb,QH]at m;have e:j=l.length:=by omega
   subst e;rw[Q1 (Qd _),Z8]at hjn;have r:n=⟨b,u,fl⟩:=(QG hjn).symm;subst r;refine⟨h.lt o,h.lt s,p,f,up o,up s,?_,ZI _ a.1,a.2.1,a.2.2.1,λx k h1 h2=>?_⟩
   ·rw[h.len,Q1 (Qd _),Z8];rfl
   ·rcases QY.1 k with k|k
    ·exact a.2.2.2 x k h1 h2
    ·exact absurd (QF.1 k) h2
def zvu(ws:List jE)(n:Nat)(v:jE):Prop:=v.length<=n/\∃w,w∈ws/\v <+:w
structure Lev(ws:List jE)(n:Nat)(ns:List zaD)(ss:List jE):Prop where
 inv:Inv ns ss
 mem:∀v,v∈ss↔zvu ws n v
theorem zvX{ws:List jE}(h:ws≠[])(n:Nat):zvu ws n []:=by
 obtain⟨w,a⟩:=List.exists_mem_of_ne_nil ws h;exact⟨Qn _,w,a,List.nil_prefix⟩
theorem zq8{ws:List jE}(h:ws≠[]):Lev ws 0 [⟨0,0,0⟩] [[]] where
 inv:=zsz
 mem v:=by
  rw[QF]
  constructor
  ·rintro rfl;exact zvX h 0
  ·rintro⟨h1,_⟩;exact QA (by omega)
theorem zvk{ws:List jE}{n:Nat}{v:jE}:zvu ws (n+1) v↔zvu ws n v\/∃w,w∈ws/\n<w.length/\v=w.take (n+1):=by
 constructor
 ·rintro⟨h1,w,a,b⟩
  by_cases c:v.length<=n
  ·exact .inl ⟨c,w,a,b⟩
  ·have hl:=b.length_le
   refine .inr ⟨w,a,by omega,?_⟩;have:=List.prefix_iff_eq_take.1 b;rw[this,show v.length=n+1 by omega]
 ·rintro(⟨h1,w,a,b⟩|⟨w,a,hl,rfl⟩)
  ·exact⟨by omega,w,a,b⟩
  ·exact⟨by rw[QK];omega,w,a,List.take_prefix _ _⟩
theorem Lev.words{ws:List jE}{n:Nat}{d:List zaD}{c:List jE}(h:Lev ws n d c)(e:∀w,w∈ws->w.length<=n):∀k,k<ws.length->ws.getD k []∈c:=λk b=>by
 have a:ws.getD k []∈ws:=by rw[Qr,Qe b];exact QC b
 exact(h.mem _).2 ⟨e _ a,_,a,List.prefix_refl _⟩
structure AtOk(ws:List jE)(n:Nat)(ss:List jE)(at0:List Nat):Prop where
 len:at0.length=ws.length
 str:∀k,k<ws.length->ss[at0.getD k 0]? = some ((ws.getD k []).take n)
theorem zvC{ws:List jE}:AtOk ws 0 [[]] (List.replicate ws.length 0) where
 len:=by simp
 str k hk:=by
  have:(List.replicate ws.length 0).getD k 0=0:=by rw[Qr];simp[hk]
  rw[this,XD];rfl
structure EdgesOf(ws:List jE)(n:Nat)(at0:List Nat)(es:List (Nat × UInt8)):Prop where
 nod:es.Nodup
 mem:∀e,e∈es↔∃k,k<ws.length/\n<(ws.getD k []).length/\e=(at0.getD k 0,(ws.getD k []).getD n 0)
def strE(a:List jE)(e:Nat × UInt8):jE:=a.getD e.1 []++[e.2]
theorem zcq{w:jE}{n:Nat}(h:n<w.length):w.take (n+1)=w.take n++[w.getD n 0]:=by
 rw[Qu h,Qr,Qe h];rfl
theorem zeD{ws:List jE}{n:Nat}{a:List jE}{b:List Nat}{es:List (Nat × UInt8)}(f:AtOk ws n a b)(d:EdgesOf ws n b es){e:Nat × UInt8}(h:e∈es):
 ∃k,k<ws.length/\n<(ws.getD k []).length/\strE a e=(ws.getD k []).take (n+1)/\a[e.1]? = some ((ws.getD k []).take n)/\((ws.getD k []).take n).length=n:=by
 obtain⟨k,h1,h2,rfl⟩:=(d.mem e).1 h;have c:=f.str k h1;refine⟨k,h1,h2,?_,c,by rw[QK];omega⟩;unfold strE;rw[zcq h2,Qr,c]
 rfl
theorem zuI{ws:List jE}{n:Nat}{i:List zaD}{a:List jE}{c:List Nat}{es:List (Nat × UInt8)}(o:Inv i a)(g:AtOk ws n a c)(f:EdgesOf ws n c es){e b:Nat × UInt8}(h:e∈es)(k:b∈es)(m:strE a e=strE a b):e=b:=by
 obtain⟨_,_,_,_,h1,_⟩:=zeD g f h;obtain⟨_,_,_,_,h2,_⟩:=zeD g f k;obtain⟨d,j⟩:=List.append_inj' (show a.getD e.1 []++[e.2]=a.getD b.1 []++[b.2]from m) rfl;rw[Qr,Qr,h1,h2]at d;have q:e.1=b.1:=o.inj h1 (by rw[h2];exact Zm some d.symm);have l:e.2=b.2:=by simpa using j
 exact Prod.ext q l
structure Mid(ws:List jE)(n:Nat)(ss0:List jE)(es:List (Nat × UInt8))(i:Nat)(ns:List zaD)(ss:List jE):Prop where
 inv:Inv ns ss
 str:ss=ss0++(es.take i).map (strE ss0)
theorem Mid.up{ws:List jE}{n:Nat}{a:List jE}{es:List (Nat × UInt8)}{i:Nat}{d:List zaD}{c:List jE}(h:Mid ws n a es i d c){j:Nat}{v:jE}(b:a[j]? = some v):c[j]? = some v:=by
 rw[h.str,Zj (Qy.1 b).1];exact b
theorem Mid.next{ws:List jE}{n:Nat}{q z:List zaD}{a m:List jE}{g:List Nat}{es:List (Nat × UInt8)}{i:Nat}(hl:Lev ws n q a)(t:AtOk ws n a g)(o:EdgesOf ws n g es)(h:Mid ws n a es i z m)(y:i<es.length):
 ∃p,m[es[i].1]? = some p/\strE a es[i]=p++[es[i].2]/\p++[es[i].2] ∉ m/\∀v,v∈m->v.length<=p.length+1:=by
 obtain⟨k,h1,h2,D,u,w⟩:=zeD t o (QC y);have b:strE a es[i]=(ws.getD k []).take n++[es[i].2]:=by unfold strE;rw[Qr,u];rfl
 have x:(strE a es[i]).length=n+1:=by rw[b,Qb,w];rfl
 refine⟨_,h.up u,b,?_,λv d=>?_⟩
 ·rw[<-b,h.str]
  intro l
  rcases QY.1 l with l|l
  ·have:=((hl.mem _).1 l).1
   omega
  ·obtain⟨e,c,s⟩:=QS.1 l
   obtain⟨j,B,f⟩:=Xd c;rw[QK]at B;rw[List.getElem_take]at f;have r:j<es.length:=by omega
   have:es[j]=es[i]:=zuI hl.inv t o (QC r) (QC y) (by rw[f];exact s);have:=(List.getElem_inj o.nod).1 this;omega
 ·rw[w]
  rw[h.str]at d
  rcases QY.1 d with d|d
  ·have:=((hl.mem _).1 d).1
   omega
  ·obtain⟨e,c,rfl⟩:=QS.1 d
   obtain⟨_,_,_,C,A,E⟩:=zeD t o (Z7 c);unfold strE;rw[Qr,A];simp only[Xp,Qb,QH];omega
theorem Mid.step{ws:List jE}{n:Nat}{d:List zaD}{c a:List jE}{es:List (Nat × UInt8)}{i:Nat}(h:Mid ws n c es i d a)(k:i<es.length){p f:jE}{fl:Nat}(g:a[es[i].1]? = some p)(j:strE c es[i]=p++[es[i].2])(l:p++[es[i].2] ∉ a)(hl:∀v,v∈a->v.length<=p.length+1)
 (e:a[fl]? = some f) (b:f∈a/\f <:+p++[es[i].2]/\f≠p++[es[i].2]/\∀u,u∈a->u <:+p++[es[i].2]->u≠p++[es[i].2]->u <:+f):Mid ws n c es (i+1) (d++[⟨es[i].2,es[i].1,fl⟩]) (a++[p++[es[i].2]]) where
 inv:=h.inv.add g e l hl b
 str:=by
  rw[Qu k,Q2,<-Q4,<-h.str];rw[Q8,ZE,j]
theorem Mid.done{ws:List jE}{n:Nat}{c i:List zaD}{a g:List jE}{b:List Nat}{es:List (Nat × UInt8)}(hl:Lev ws n c a)(o:AtOk ws n a b)(m:EdgesOf ws n b es)(h:Mid ws n a es es.length i g):Lev ws (n+1) i g where
 inv:=h.inv
 mem v:=by
  rw[h.str,Q0,QY,hl.mem v,zvk];refine or_congr_right ⟨λs=>?_,?_⟩
  ·obtain⟨e,h1,rfl⟩:=QS.1 s
   obtain⟨k,j,q,t,_,_⟩:=zeD o m h1;exact⟨ws.getD k [],by rw[Qr,Qe j];exact QC j,q,t⟩
  ·rintro⟨w,r,h1,rfl⟩
   obtain⟨k,f,rfl⟩:=Xd r;have d:ws.getD k []=ws[k]:=by rw[Qr,Qe f];rfl
   refine QS.2 ⟨(b.getD k 0,(ws.getD k []).getD n 0),(m.mem _).2 ⟨k,f,by rw[d];exact h1,rfl⟩,?_⟩;unfold strE;rw[Qr (l:=a),o.str k f,<-d,zcq (by rw[d];exact h1)]
   rfl
theorem Mid.go{ws:List jE}{n:Nat}{q:List zaD}{b c:List jE}{a:List Nat}{es:List (Nat × UInt8)}(f:AtOk ws n b a)(m:EdgesOf ws n a es)(h:Mid ws n b es es.length q c){k:Nat}(d:k<ws.length)(g:n<(ws.getD k []).length):
 ∃j:Nat,c[j]? = some ((ws.getD k []).take (n+1))/\c[a.getD k 0]? = some ((ws.getD k []).take n):=by
 have i:(ws.getD k []).take (n+1)∈c:=by
  rw[h.str,Q0];refine Xs _ (QS.2 ⟨(a.getD k 0,(ws.getD k []).getD n 0),(m.mem _).2 ⟨k,d,g,rfl⟩,?_⟩);unfold strE;rw[Qr (l:=b),f.str k d,zcq g]
  rfl
 obtain⟨j,o,e⟩:=Xd i;exact⟨j,by rw[Qe o,e],h.up (f.str k d)⟩
structure FailAt(ss:List jE)(f:jE)(b:UInt8)(a:Nat):Prop where
 cand:∃v,ss[a]? = some v/\Cand ss f b v
theorem zmv{c:List jE}{f:jE}{b:UInt8}{a:Nat}(h:c[a]? = some f):FailAt c f b a:=
 ⟨f,h,zgK b ⟨Z6 h,List.suffix_refl _,λ_ _ d=>d⟩⟩
theorem FailAt.found{d:List zaD}{c:List jE}{f:jE}{b:UInt8}{a j:Nat}(e:Inv d c)(h:FailAt c f b a)(g:0<j/\∃n,d[j]? = some n/\n.up=a/\n.b=b):∃v,c[j]? = some v/\zfF c (f++[b]) v:=by
 obtain⟨v,i,k⟩:=h.cand;have:=(e.kid i).2 g;exact⟨_,this,zqv e.trie k (Z6 this)⟩
theorem FailAt.none{g:List zaD}{c:List jE}{f:jE}{b:UInt8}(a:Inv g c)(h:FailAt c f b 0)(m:∀j,¬(0<j/\∃n,g[j]? = some n/\n.up=0/\n.b=b)):zfF c (f++[b]) []:=by
 obtain⟨v,d,i⟩:=h.cand;rw[a.trie.root]at d;rw[<-QG d]at i;refine zr9 a.trie i λk=>?_
 obtain⟨j,l,e⟩:=Xd k;exact m j ((a.kid a.trie.root).1 (by rw[Qe l,e];rfl))
theorem FailAt.next{d:List zaD}{c:List jE}{f:jE}{b:UInt8}{a:Nat}{x:zaD}(i:Inv d c)(h:FailAt c f b a)(l:0<a)(o:d[a]? = some x)(q:∀j,¬(0<j/\∃n,d[j]? = some n/\n.up=a/\n.b=b)):FailAt c f b x.fail/\x.fail<a:=by
 obtain⟨v,k,t⟩:=h.cand;obtain⟨h1,g,h2,m⟩:=i.fail_at l o k;refine⟨⟨g,h2,zsf t (λr=>?_) m⟩,h1⟩;obtain⟨j,s,e⟩:=Xd r;exact q j ((i.kid k).1 (by rw[Qe s,e]))
abbrev zaP:=Int × UInt8
def keyV(k:zaP):Value:=.agg #[jA k.1,.int .u8 k.2.toNat]
theorem zrq(d:Nat)(x y:Int)(w:World):(Op.equalIn (d+1) 3 (jA x) (jA y)).run prog w=.ok (x==y) w:=by
 simp[Op.equalIn,ZK underlying3]
theorem zvG(d:Nat)(x y:Int)(w:World):(Op.equalIn (d+1) 5 (.int .u8 x) (.int .u8 y)).run prog w=.ok (x==y) w:=by
 simp[Op.equalIn,ZK underlying5]
theorem zsk:prog.plainKey 3=true:=by kernel_rfl
theorem zu9:prog.plainKey 5=true:=by kernel_rfl
theorem ziz (d a:Nat) (t:TypeId) (f:Field) (h:List Field) (b c:Array Value) (x y:Value) (r:Bool) (w:World) (i:(f.name== "_")=false) (j:f.type=t) (k:f.offset=a)
 (g:prog.plainKey t=true) (m:b[a]? = some x) (l:c[a]? = some y) (n:(Op.equalIn d t x y).run prog w=.ok r w):
 (Op.eqFields d b c (f::h)).run prog w=if r=true then (Op.eqFields d b c h).run prog w else .ok false w:=by
 subst j;subst k
 have h1:f.name≠ "_":=λe=>by rw[e]at i;exact absurd i (by decide)
 simp only[Op.eqFields,Qj h1,Xj,run_part_plain w g m,run_part_plain w g l,ZY,n];cases r <;> simp
theorem zh8(a b:zaP)(w:World):(Op.equal 186 (keyV a) (keyV b)).run prog w=.ok (decide (a=b)) w:=by
 have h:=run_equalIn_struct (P:=prog) w 9999 186 #[jA a.1,.int .u8 a.2.toNat] #[jA b.1,.int .u8 b.2.toNat] (by kernel_rfl) (by kernel_rfl);unfold Op.equal keyV;refine h.trans ?_;have c:(prog.fieldsOf 186).toList.map (λf=>(f.name== "_",f.type,f.offset))=[(false,3,0),(false,5,1)]:=by kernel_rfl
 generalize (prog.fieldsOf 186).toList=l at *
 match l,c with
 | [],c=>cases c
 | [_],c=>simp at c
 |_::_::_::_,c=>simp at c
 | [o,j],c=>
  simp only[Q8,ZE,List.cons.injEq,Prod.mk.injEq,and_true]at c;obtain⟨⟨q,r,u⟩,v,t,s⟩:=c;rw[ziz 9999 0 3 o [j] _ _ (jA a.1) (jA b.1) (a.1==b.1) w q r u zsk rfl rfl (zrq 9998 _ _ w)];rw[ziz 9999 1 5 j [] _ _ (.int .u8 a.2.toNat) (.int .u8 b.2.toNat) ((a.2.toNat:Int)==(b.2.toNat:Int)) w v t s zu9 rfl rfl (zvG 9998 _ _ w)];obtain⟨m,n⟩:=a;obtain⟨i,k⟩:=b
  by_cases d:m=i
  ·by_cases g:n=k
   ·subst d;subst g;simp[Op.eqFields]
   ·have:((n.toNat:Int)==(k.toNat:Int))=false:=Qc.2 λe=>g (Zr.1 (by omega))
    simp[d,g,this]
  ·have:(m==i)=false:=Qc.2 d
   simp[d,this]
def MpAt(w:World)(b:Nat)(l:List (zaP × Nat)):Prop:=∃(es:Array MapEntry) (a:Nat),w.heap[b]? = some (.map es a)/\es.toList.map (λe=>(e.key,e.val))=l.map λp=>(keyV p.1,jA (p.2:Int))
def zbH:List (zaP × Nat)->zaP->Option Nat
 | [],_=>none
 |p::l,k=>if k=p.1 then some p.2 else zbH l k
def zjd:List (zaP × Nat)->zaP->Nat->Option (Nat × Value)
 | [],_,_=>none
 |p::l,k,i=>if k=p.1 then some (i,jA (p.2:Int))else zjd l k (i+1)
theorem zex:∀(l:List (zaP × Nat)) (k:zaP) (i:Nat),(zjd l k i).map (·.2)=(zbH l k).map λv=>jA (v:Int)
 | [],_,_=>rfl
 |p::l,k,i=>by
  rw[zjd,zbH]
  by_cases h:k=p.1
  ·rw[Qj h,Qj h];rfl
  ·rw[Qf h,Qf h];exact zex l k (i+1)
theorem ztb:∀(es:List MapEntry) (l:List (zaP × Nat)) (k:zaP) (i:Nat) (w:World),es.map (λe=>(e.key,e.val))=l.map (λp=>(keyV p.1,jA (p.2:Int)))->
 (Instr.findAsking 186 (keyV k) es i).run prog w=.ok (zjd l k i) w
 | [],[],k,i,w,_=>by simp[Instr.findAsking,zjd]
 | [],_::_,_,_,_,h=>by cases h
 |_::_,[],_,_,_,h=>by cases h
 |e::es,p::l,k,i,w,h=>by
  simp only[Q8,List.cons.injEq,Prod.mk.injEq]at h;obtain⟨⟨h1,h2⟩,b⟩:=h;simp only[Instr.findAsking,Xj,h1,zh8,ZY,zjd]
  by_cases a:k=p.1
  ·simp[a,h2]
  ·simp only[Qt a,Bool.false_eq_true,if_false,Qf a]
   exact ztb es l k (i+1) w b
theorem zhm(l:List (zaP × Nat))(es:Array MapEntry)(k:zaP)(w:World)(h:es.toList.map (λe=>(e.key,e.val))=l.map (λp=>(keyV p.1,jA (p.2:Int)))):
 (Instr.findKey 186 (keyV k) es.toList).run prog w=.ok (zjd l k 0) w:=by
 rw[run_findKey_eq w (by kernel_rfl)];exact ztb es.toList l k 0 w h
theorem zwk(d:Nat)(x:Int)(h:-9223372036854775808<=x/\x<9223372036854775808):prog.keyLits (d+1) 3 [.int .i64 x]=some [.int .i64 x]:=by
 have a:(Lit.int .i64 x).wf=true:=by
  have b:IntKind.i64.min=-9223372036854775808:=by decide
  have c:IntKind.i64.max=9223372036854775807:=by decide
  simp only[Lit.wf,b,c,Q3,QX];omega
 simp[Program.keyLits,underlying3,a]
theorem zxW(d:Nat)(x:UInt8):prog.keyLits (d+1) 5 [.int .u8 x.toNat]=some [.int .u8 x.toNat]:=by
 have a:(Lit.int .u8 (x.toNat:Int)).wf=true:=by
  have:=x.toNat_lt;have b:IntKind.u8.min=0:=by decide
  have c:IntKind.u8.max=255:=by decide
  simp only[Lit.wf,b,c,Q3,QX];omega
 simp[Program.keyLits,underlying5,a]
theorem znu(k:zaP)(h:-9223372036854775808<=k.1/\k.1<9223372036854775808):∃l,keyOf prog 186 (keyV k)=some l:=by
 have c:prog.underlying 186=some (.struct (prog.fieldsOf 186)):=by kernel_rfl
 have a:(prog.fieldsOf 186).toList.map (λf=>(f.type,f.offset))=[(3,0),(5,1)]:=by kernel_rfl
 have hb:(prog.fieldsOf 186).all (·.name != "_")=true:=by kernel_rfl
 have e:prog.keyType 186=true:=by kernel_rfl
 have d:prog.cellsOf 186=2:=by kernel_rfl
 have o:prog.cellsOf 3=1:=by kernel_rfl
 have g:prog.cellsOf 5=1:=by kernel_rfl
 have q:∃n,prog.types.size=n+1:=⟨prog.types.size-1,by kernel_rfl⟩
 obtain⟨n,r⟩:=q
 have hl:prog.keyLits (prog.types.size+1) 186 [.int .i64 k.1,.int .u8 k.2.toNat]=some [.int .i64 k.1,.int .u8 k.2.toNat]:=by
  rw[r,Program.keyLits.eq_def];simp only[c];rw[Qj ⟨by rw[d];rfl,hb⟩];generalize (prog.fieldsOf 186).toList=l at *
  match l,a with
  | [],a=>cases a
  | [_],a=>simp at a
  |_::_::_::_,a=>simp at a
  | [t,u],a=>
   simp only[Q8,ZE,List.cons.injEq,Prod.mk.injEq,and_true]at a;obtain⟨⟨i,s⟩,m,j⟩:=a;simp[i,s,m,j,o,g,zwk n k.1 h,zxW n k.2]
 unfold keyOf;rw[c];refine⟨.string (keyBytes [.int .i64 k.1,.int .u8 k.2.toNat]),?_⟩;have b:(keyV k).formed prog 186=true:=by simp[keyV,Value.formed,c,d]
 simp only[e,b,Bool.and_self,if_true];show Option.map _ (prog.keyLits (prog.types.size+1) 186 [.int .i64 k.1,.int .u8 k.2.toNat])=_
 rw[hl]
 rfl
theorem zkB:WideMaps.KeyLaw prog 186:=deep_law (m:=2) (by omega) (by kernel_rfl) (by kernel_rfl) (by kernel_rfl)
theorem zld{b:Nat}{l:List (zaP × Nat)}{w:World}(M:MpAt w b l)(k:zaP)(h:-9223372036854775808<=k.1/\k.1<9223372036854775808):
 (Instr.lookup 141 (.map (some b)) (keyV k) false).run prog w=.ok (jA (((zbH l k).getD 0:Nat):Int)) w:=by
 obtain⟨es,c,hb,j⟩:=M;obtain⟨m,a⟩:=znu k h;have i:(zeroValue 3).run prog w=.ok (jA 0) w:=by kernel_rfl
 have d:=zex l k 0;have h1:=zhm l es k w j;have e:prog.underlying 141=some (.map 186 3):=by kernel_rfl
 have f:=zkB.check w es.isEmpty a;generalize zjd l k 0=r at *;generalize zbH l k=g at *;cases r <;> cases g <;> simp at d
 ·simp[Instr.lookup,ZK e,Xm hb,f,h1,i,Result.andThen]
 ·simp[Instr.lookup,ZK e,Xm hb,f,h1,d,Result.andThen]
theorem zdg{b:Nat}{l:List (zaP × Nat)}{w:World}(M:MpAt w b l)(k:zaP)(h:-9223372036854775808<=k.1/\k.1<9223372036854775808):
 (Instr.lookup 141 (.map (some b)) (keyV k) true).run prog w=.ok (.tuple #[jA (((zbH l k).getD 0:Nat):Int),.bool (zbH l k).isSome]) w:=by
 obtain⟨es,c,hb,j⟩:=M;obtain⟨m,a⟩:=znu k h;have i:(zeroValue 3).run prog w=.ok (jA 0) w:=by kernel_rfl
 have d:=zex l k 0;have h1:=zhm l es k w j;have e:prog.underlying 141=some (.map 186 3):=by kernel_rfl
 have f:=zkB.check w es.isEmpty a;generalize zjd l k 0=r at *;generalize zbH l k=g at *;cases r <;> cases g <;> simp at d
 ·simp[Instr.lookup,ZK e,Xm hb,f,h1,i,Result.andThen]
 ·simp[Instr.lookup,ZK e,Xm hb,f,h1,d,Result.andThen]
theorem zdJ{b:Nat}{l:List (zaP × Nat)}{w:World}(M:MpAt w b l)(k:zaP)(v:Nat)(g:-9223372036854775808<=k.1/\k.1<9223372036854775808)(i:zbH l k=none):
 ∃o:Obj,∀W:World,W.heap[b]? = w.heap[b]? -> (Instr.mapUpdate 141 (.map (some b)) (keyV k) (jA (v:Int))).run prog W=.ok () (ChangeMaps.setBlock W b o)/\MpAt (ChangeMaps.setBlock W b o) b (l++[(k,v)]):=by
 obtain⟨es,a,hb,f⟩:=M;obtain⟨m,d⟩:=znu k g;have e:=zex l k 0;have h:prog.underlying 141=some (.map 186 3):=by kernel_rfl
 rw[i]at e;refine⟨.map (es.push ⟨keyV k,jA (v:Int),a⟩) (a+1),λW c=>?_⟩;rw[hb]at c;have h1:=zhm l es k W f;have j:=zkB.check W false d;generalize zjd l k 0=r at *;cases r <;> simp at e
 refine⟨by simp[Instr.mapUpdate,ZK h,Xm c,j,h1,MapKept.run_setObj_map _ c,Result.andThen,ChangeMaps.setBlock],es.push ⟨keyV k,jA (v:Int),a⟩,a+1,?_,by simp[f]⟩;simp[ChangeMaps.setBlock,(QI.1 c).1]
section
open Go.Shelf Go.Lib
def zib:Go.Shelf.Ren:=⟨λ|6=>134|7=>95|n=>n,λ|0=>0|3=>3|4=>4|22=>184|24=>186|n=>n,λn=>n⟩
theorem zn0:SlLaysQ.n7 prog zib:=by constructor<;>first|kernel_rfl|(intro _;kernel_rfl)|decide|exact⟨f134.name,by decide,func134.trans (Zm some (by kernel_rfl))⟩|exact⟨f95.name,by decide,func95.trans (Zm some (by kernel_rfl))⟩
def encK(k:zaP):List Value:=[jA k.1,.int .u8 k.2.toNat]
theorem eqlK:EqlAt prog 186 (λk=>.agg (encK k).toArray) (λa b=>decide (a=b)):=by
 refine⟨λx y w=>?_,GuardAt.agg _ (by kernel_rfl)⟩;have d:prog.underlying 186=some (.struct (prog.fieldsOf 186)):=by kernel_rfl
 have c:prog.stoodInHeld 186=false:=by kernel_rfl
 have h:=zh8 x y w;unfold Op.equal keyV at h;simp only[encK];rw[run_eql_struct];exact(Zm (λr=>Result.andThen r λb w'=>Result.ok (Value.bool b) w') h).trans rfl
theorem zxY(b d n c:Nat)(f:List zaP)(x:zaP)(w:World)(k:n<=f.length)(g:n<=9223372036854775807)
 (l:∀j,j<f.length->∀i v,(encK f[j]!)[i]? = some v->w.cell? ⟨b,d+j*2+i,none⟩=some v):
 Calls prog 95 #[.slice (some ⟨b,d,none⟩) n c,keyV x] w λe w'=>e=jC (.bool ((f.take n).any λy=>decide (x=y)))/\w w':=by
 have h:=AnyQ.slices_Contains zn0 2 isAgg186 sizeOf186 encK (λ_=>rfl) (λa b=>decide (a=b)) eqlK b d n c f x w k g l;exact h
end
section
open Go.Shelf Go.Lib Go.Sort
def zf2:Go.Shelf.Ren:=⟨λ|6=>96|14=>135|15=>100|20=>167|21=>168|22=>169|23=>170|24=>171|25=>172|26=>173|27=>174|28=>145|29=>124|46=>197|47=>176|48=>177|49=>198|50=>199|57=>215|n=>n,λ|0=>0|3=>3|4=>4|5=>5|9=>9|22=>184|24=>186|25=>189|39=>193|45=>240|46=>241|50=>238|53=>34|55=>93|66=>273|70=>181|76=>294|77=>295|n=>n,λn=>n⟩
theorem zkd:SlLaysF0.n6 prog zf2:=by constructor<;>first|kernel_rfl|(intro _;kernel_rfl)|decide|exact⟨f96.name,by decide,func96.trans (Zm some (by kernel_rfl))⟩|exact⟨f135.name,by decide,func135.trans (Zm some (by kernel_rfl))⟩|exact⟨f167.name,by decide,func167.trans (Zm some (by kernel_rfl))⟩|exact⟨f168.name,by decide,func168.trans (Zm some (by kernel_rfl))⟩|exact⟨f169.name,by decide,func169.trans (Zm some (by kernel_rfl))⟩|exact⟨f170.name,by decide,func170.trans (Zm some (by kernel_rfl))⟩|exact⟨f171.name,by decide,func171.trans (Zm some (by kernel_rfl))⟩|exact⟨f172.name,by decide,func172.trans (Zm some (by kernel_rfl))⟩|exact⟨f173.name,by decide,func173.trans (Zm some (by kernel_rfl))⟩|exact⟨f174.name,by decide,func174.trans (Zm some (by kernel_rfl))⟩|exact⟨f197.name,by decide,func197.trans (Zm some (by kernel_rfl))⟩|exact⟨f198.name,by decide,func198.trans (Zm some (by kernel_rfl))⟩|exact⟨f199.name,by decide,func199.trans (Zm some (by kernel_rfl))⟩|exact⟨f215.name,by decide,func215.trans (Zm some (by kernel_rfl))⟩
abbrev zhE:=Fin 65536 × UInt8
def encS(k:zhE):List Value:=[jA (k.1.val:Int),.int .u8 k.2.toNat]
def cmpS(x y:zhE):Int:=((x.1.val:Int)-y.1.val)*256+x.2.toNat-y.2.toNat
theorem ltS(x y:zhE):ltOf cmpS x y=decide (x.1.val<y.1.val\/x.1.val=y.1.val/\x.2.toNat<y.2.toNat):=by
 have h1:=x.2.toNat_lt;have h2:=y.2.toNat_lt;unfold ltOf cmpS
 apply decide_eq_decide.2
 omega
theorem swoS:SWO (ltOf cmpS) where
 irrefl x:=by rw[ltS];simp
 trans x y z h1 h2:=by rw[ltS]at *;simp only[QX]at *;omega
 ntrans x y z h1 h2:=by rw[ltS]at *;simp only[XE]at *;omega
theorem zrm(x y:zhE)(W:World):Calls prog 97 #[.agg (encS x).toArray,.agg (encS y).toArray] W λe w'=>e=jC (jA (cmpS x y))/\∃q f,w'=grow (W.drewN q) f:=by
 obtain⟨i,h⟩:=x;obtain⟨g,j⟩:=y;unfold encS cmpS;have h1:=i.isLt;have h2:=g.isLt;have o:=h.toNat_lt;have m:=j.toNat_lt;simp only;generalize i.val=a at *;generalize g.val=b at *;generalize h.toNat=c at *;generalize j.toNat=d at *;have r:IntKind.i64.wrap ((a:Int)-b)=(a:Int)-b:=by simp[IntKind.wrap,IntKind.bits,IntKind.signed];omega
 have n:IntKind.i64.wrap (((a:Int)-b)*256)=((a:Int)-b)*256:=by simp[IntKind.wrap,IntKind.bits,IntKind.signed];omega
 have s:IntKind.i64.wrap (((a:Int)-b)*256+c)=((a:Int)-b)*256+c:=by simp[IntKind.wrap,IntKind.bits,IntKind.signed];omega
 have t:IntKind.i64.wrap (((a:Int)-b)*256+c-d)=((a:Int)-b)*256+c-d:=by simp[IntKind.wrap,IntKind.bits,IntKind.signed];omega
 have k:IntKind.i64.wrap (c:Int)=c:=by simp[IntKind.wrap,IntKind.bits,IntKind.signed];omega
 have l:IntKind.i64.wrap (d:Int)=d:=by simp[IntKind.wrap,IntKind.bits,IntKind.signed];omega
 go_in
 go_wp2
 go_ret;exact⟨rfl,0,_,by rw[alloc_eq_grow,alloc_eq_grow,grow_grow];rfl⟩
theorem zl3(v:zaP)(w:World):Calls prog 134 #[jD 0 0,keyV v] w λe w'=>e=jC (jA (-1))/\∃q os,w'=grow (w.drewN q) os:=by
 unfold keyV
 go_in
 go_wp2_with fail
 go_loop [8] (λi=>i=jA 0) (λ_=>0)
 case atStart=>rfl
 case round=>
  subst hrel;go_wp2;go_ret;exact⟨rfl,0,_,by rw[alloc_eq_grow];rfl⟩
theorem znU(v:zaP)(w:World):Calls prog 95 #[jD 0 0,keyV v] w λe w'=>e=jC (.bool false)/\w w':=by
 have a:=λW=>zl3 v W
 unfold keyV at a ⊢
 go_in
 go_wp2_with (go_at_call 134;refine(a _).mono ?_;rintro e w' ⟨rfl,q,os,rfl⟩);go_ret;refine⟨rfl,?_⟩;rw[alloc_eq_grow];exact Below.trans (below_grow w.heap.size w (Qd _) 0 #[.cells #[jA v.1,.int .u8 v.2.toNat] 186]) (below_grow _ _ (by simp[grow]) q os)
end
structure MkF(w:World)(gm g bm cap:Nat)(ns:List zaD)(l:List (zaP × Nat)):Prop where
 nodes:w.cell? gm=some (.slice g ns.length cap)
 next:w.cell? ⟨gm,1,none⟩=some (.map (some bm))
 fail:∀j n,ns[j]? = some n->w.cell? ⟨g,j*4+2,none⟩=some (jA (n.fail:Int))
 map:MpAt w bm l
 lt:gm<w.heap.size/\g<w.heap.size
theorem ziB(a:Nat)(b:UInt8)(w:World):Calls prog 98 #[.pointer a,.agg #[jA 0,.int .u8 b.toNat]] w λe w'=>e=jC (jA 0)/\w w':=by
 go_in
 go_wp2;go_ret;exact⟨rfl,by rw[Go.Sort.alloc_eq_grow];exact Go.Lib.below_grow w.heap.size w (Qd _) 0 _⟩
def NextOk(c:List zaD)(l:List (zaP × Nat)):Prop:=∀(a:Nat) (b:UInt8) (j:Nat),zbH l ((a:Int),b)=some j↔0<j/\∃n,c[j]? = some n/\n.up=a/\n.b=b
def znm(a:List jE)(u:jE)(r:Nat):Prop:=∃v,a[r]? = some v/\zfF a u v
theorem zqD(d:List zaD)(t:List jE)(E:Inv d t)(l:List (zaP × Nat))(C g A cap up:Nat)(hl:∀(a:Nat) (b:UInt8) (j:Nat),a<up->(zbH l ((a:Int),b)=some j↔0<j/\∃n,d[j]? = some n/\n.up=a/\n.b=b))(b:UInt8)(z:zaD)(f:jE)(s:d[up]? = some z)(_:up≠0)(L:FailAt t f b z.fail)(H:z.fail<up)(hb:d.length<9223372036854775808)
 (w:World) (M:MkF w C g A cap d l):
 Calls prog 98 #[.pointer C,.agg #[jA (up:Int),.int .u8 b.toNat]] w λe w'=>(∃r:Nat,e=jC (jA (r:Int))/\znm t (f++[b]) r)/\w w':=by
 have h1:=M.nodes;have h2:=M.next;have h3:=M.fail up z s;have l1:C<w.heap.size:=M.lt.1;have l2:g<w.heap.size:=M.lt.2;have Z:C≠w.heap.size:=by omega
 have l4:g≠w.heap.size:=by omega
 have Q:up<d.length:=(Qy.1 s).1;have D:=hIx L;have K:∀a x,d[a]? = some x->a<d.length:=λa x h=>(Qy.1 h).1
 have B:∀a,a<d.length->∃x,d[a]? = some x:=λa h=>⟨_,Qe h⟩
 have N:∀(a:Nat) (o:Obj) (q:Nat),a<d.length->(Instr.lookup 141 (.map (some A)) (.agg #[jA (a:Int),.int .u8 b.toNat]) true).run prog ((w.alloc o).drewN q)=.ok (.tuple #[jA (((zbH l ((a:Int),b)).getD 0:Nat):Int),.bool (zbH l ((a:Int),b)).isSome]) ((w.alloc o).drewN q):=λa o q P=>by
  refine zdg (k:=((a:Int),b)) ?_ ⟨by omega,by show (a:Int)<_;omega⟩;obtain⟨es,U,J,X⟩:=M.map;refine⟨es,U,?_,X⟩;have:A<w.heap.size:=(QI.1 J).1;show (w.heap.push o)[A]? = _
  rw[Array.getElem?_push_lt this];exact(Array.getElem?_eq_getElem this).symm.trans J
 have T:=hIx M.fail;generalize d.length=n at *;clear L s
 go_in
 go_wp2_with (fail)
 go_quiet (fail)
 go_wp2
 go_loopw [5] (λi wr=>∃a:Nat,a<up/\i=jA (a:Int)/\Hid (FailAt t f b a)/\∃q,wr=(w.alloc (.cells #[jA (up:Int),.int .u8 b.toNat] 186)).drewN q) (λi _=>(intOf i).toNat)
 case atStart=>exact⟨z.fail,H,rfl,D,_,rfl⟩
 case round=>
  obtain⟨a,P,rfl,c,q,rfl⟩:=hrel;have y:=λq=>N a (.cells #[jA (up:Int),.int .u8 b.toNat] 186) q (by omega)
  have u:=hIx (λj=>hl a b j P);clear N;generalize zbH l ((a:Int),b)=r at y u;cases r with
  |some j=>
   simp only[Xp,Option.isSome_some]at y;have G:Hid (znm t (f++[b]) j):=hIx (c.out.found E ((u.out j).1 rfl));clear c u D;go_wp2_with fail
   go_quiet (fail)
   go_wp2;go_ret;exact⟨⟨j,rfl,G.out⟩,by repeat (first|exact Below.alloc (Qi _ _) (Qd _) _|apply below_drewN_q)⟩
  |none=>
   have m:∀j,¬(0<j/\∃x,d[j]? = some x/\x.up=a/\x.b=b):=λj h=>by cases (u.out j).2 h
   simp only[Xq,Option.isSome_none]at y
   by_cases I:a=0
   ·subst I
    have G:Hid (znm t (f++[b]) 0):=hIx ⟨[],E.trie.root,c.out.none E m⟩;have S:∀q,(Instr.lookup 141 (.map (some A)) (.agg #[jA 0,.int .u8 b.toNat]) true).run prog ((w.alloc (.cells #[jA (up:Int),.int .u8 b.toNat] 186)).drewN q)=.ok (.tuple #[jA 0,.bool false]) ((w.alloc (.cells #[jA (up:Int),.int .u8 b.toNat] 186)).drewN q):=y;clear c u D m y;go_wp2_with fail
    go_quiet (fail)
    go_wp2;go_ret;exact⟨⟨0,rfl,G.out⟩,by repeat (first|exact Below.alloc (Qi _ _) (Qd _) _|apply below_drewN_q)⟩
   ·obtain⟨x,O⟩:=B a (by omega)
    have F:=T.out a x O;obtain⟨v,W⟩:=c.out.next E (by omega) O m;have V:=hIx v;clear c u D m v;go_wp2_with fail
    go_quiet (fail)
    go_wp2;exact⟨⟨x.fail,by omega,rfl,V,_,rfl⟩,by simp[intOf] <;> omega⟩
abbrev SlT:=Option Addr × Nat × Nat
def slV(s:SlT):Value:=.slice s.1 s.2.1 s.2.2
abbrev zcK:=zaD × SlT
def zsE(x:zcK):List Value:=[.int .u8 x.1.b.toNat,jA (x.1.up:Int),jA (x.1.fail:Int),slV x.2]
def rowN:RowT zcK where
 e:=140
 t:=105
 size:=4
 bytes:=48
 z:=.agg #[.int .u8 0,jA 0,jA 0,jD 0 0]
 cells:=zsE
 hsz _:=rfl
 hpos:=by decide
 under:=underlying105
 info:=by kernel_rfl
 hz:=rfl
 one x u hu:=by
  simp only[zsE,QN,Zz,XA]at hu
  rcases hu with rfl|rfl|rfl|rfl <;> rfl
 hbytes:=by decide
def rowE:RowT (Nat × UInt8) where
 e:=186
 t:=184
 size:=2
 bytes:=16
 z:=.agg #[jA 0,.int .u8 0]
 cells x:=[jA (x.1:Int),.int .u8 x.2.toNat]
 hsz _:=rfl
 hpos:=by decide
 under:=underlying184
 info:=by kernel_rfl
 hz:=rfl
 one x u hu:=by
  simp only[QN,Zz,XA]at hu
  rcases hu with rfl|rfl <;> rfl
 hbytes:=by decide
def rowI:RowT Nat where
 e:=3
 t:=54
 size:=1
 bytes:=8
 z:=jA 0
 cells x:=[jA (x:Int)]
 hsz _:=rfl
 hpos:=by decide
 under:=underlying54
 info:=by kernel_rfl
 hz:=rfl
 one x u hu:=by
  rw[QF]at hu;rw[hu];rfl
 hbytes:=by decide
theorem zxV{w:World}{g:Nat}{cs:Array Value}{t:TypeId}{a:Nat × Nat}(h:w.heap[g]? = some (.cells cs t a))(j:Nat)(v:Value):(w.setCell ⟨g,j,none⟩ v).heap[g]? = some (.cells (cs.setIfInBounds j v) t a):=by
 simp[World.setCell,Q5,h]
theorem zc0{w:World}{g:Nat}{o:Obj}(h:w.heap[g]? = some o):g<w.heap.size:=(QI.1 h).1
theorem OwnG.apart{d:Type}{R:RowT d}{w:World}{base g:Nat}{v:Value}{l:List d}(h:OwnG R w base v l){o:Obj}(k:w.heap[g]? = some o)(b:∀cs i,o≠.cells cs R.e i):v.ownBlock≠some g:=by
 intro j;obtain⟨c,f,a⟩:=Xo h g j;rw[k]at a;injection a with a
 exact b _ _ a
def zjj(g cap n c b a d:Nat):Obj:=.cells #[.slice g n cap,.map (some c),.slice b a d] 143
structure Mk(w:World)(B gm bm ga ca g cap:Nat)(ms:List zcK)(l:List (zaP × Nat))(ats:List Nat):Prop where
 blk:w.heap[gm]? = some (zjj g cap ms.length bm ga ats.length ca)
 own:OwnG rowN w B (.slice g ms.length cap) ms
 aown:OwnG rowI w B (.slice ga ats.length ca) ats
 map:MpAt w bm l
 low:B<=gm/\B<=bm
section
variable {w:World} {B gm bm ga ca g cap:Nat} {ms:List zcK} {l:List (zaP × Nat)} {ats:List Nat}
theorem Mk.lt(h:Mk w B gm bm ga ca g cap ms l ats):gm<w.heap.size/\g<w.heap.size/\ga<w.heap.size/\bm<w.heap.size:=by
 obtain⟨es,a,hb,_⟩:=h.map;exact⟨zc0 h.blk,(h.own.lt g rfl).2,(h.aown.lt ga rfl).2,zc0 hb⟩
theorem Mk.base(h:Mk w B gm bm ga ca g cap ms l ats):B<=gm/\B<=g/\B<=ga/\B<=bm:=⟨h.low.1,(h.own.lt g rfl).1,(h.aown.lt ga rfl).1,h.low.2⟩
theorem Mk.ne(h:Mk w B gm bm ga ca g cap ms l ats):gm≠g/\gm≠ga/\gm≠bm/\g≠ga/\g≠bm/\ga≠bm:=by
 obtain⟨es,k,hb,_⟩:=h.map;have h1:=h.own.apart h.blk λcs a e=>by unfold zjj at e;injection e with _ e;exact absurd e (by decide)
 have h2:=h.aown.apart h.blk λcs a e=>by unfold zjj at e;injection e with _ e;exact absurd e (by decide)
 have i:=h.own.apart hb λcs a e=>by cases e
 have b:=h.aown.apart hb λcs a e=>by cases e
 obtain⟨c,f,j⟩:=Xo h.own g rfl;have d:=h.aown.apart j λcs a e=>by injection e with _ e;exact absurd e (by decide)
 refine⟨λe=>h1 (by rw[e];rfl),λe=>h2 (by rw[e];rfl),λe=>?_,λe=>d (by rw[e];rfl),λe=>i (by rw[e];rfl),λe=>b (by rw[e];rfl)⟩;have:=h.blk;rw[e,hb]at this;injection this with this
 unfold zjj at this;cases this
theorem Mk.cells(h:Mk w B gm bm ga ca g cap ms l ats):w.cell? gm=some (.slice g ms.length cap)/\w.cell? ⟨gm,1,none⟩=some (.map (some bm))/\w.cell? ⟨gm,2,none⟩=some (.slice ga ats.length ca)/\w.frozen? ⟨gm,0,none⟩=false:=by
 have hb:=h.blk;unfold zjj at hb;exact⟨Qo w gm 0 _ _ _ hb,Qo w gm 1 _ _ _ hb,Qo w gm 2 _ _ _ hb,by simp[World.frozen?, hb]⟩
theorem Mk.at(h:Mk w B gm bm ga ca g cap ms l ats)(k:Nat)(a:k<ats.length):w.cell? ⟨ga,k,none⟩=some (jA (ats[k]:Int))/\w.frozen? ⟨ga,k,none⟩=false:=by
 have:=h.aown.at k a 0 (by decide);rw[show k*rowI.size+0=k by simp[rowI]]at this;exact this
theorem Mk.fail(h:Mk w B gm bm ga ca g cap ms l ats)(j:Nat)(n:zaD)(e:(ms.map Prod.fst)[j]? = some n):w.cell? ⟨g,j*4+2,none⟩=some (jA (n.fail:Int)):=by
 have a:j<ms.length:=by have:=(Qy.1 e).1;simpa using this
 have:=(h.own.at j a 2 (by decide)).1;refine this.trans ?_;rw[ZP,Qe a]at e;have e:=QG e;rw[<-e];rfl
theorem Mk.toF(h:Mk w B gm bm ga ca g cap ms l ats):MkF w gm g bm cap (ms.map Prod.fst) l where
 nodes:=by rw[Qk];exact h.cells.1
 next:=h.cells.2.1
 fail:=h.fail
 map:=h.map
 lt:=⟨h.lt.1,h.lt.2.1⟩
theorem MpAt.keep{w w':World}{b:Nat}{l:List (zaP × Nat)}(h:MpAt w b l)(a:w'.heap[b]? = w.heap[b]?):MpAt w' b l:=by
 obtain⟨es,d,hb,c⟩:=h;exact⟨es,d,a.trans hb,c⟩
theorem Mk.below(h:Mk w B gm bm ga ca g cap ms l ats){w':World}(hb:w w'):Mk w' B gm bm ga ca g cap ms l ats where
 blk:=(hb.block gm h.lt.1).trans h.blk
 own:=h.own.below hb
 aown:=h.aown.below hb
 map:=h.map.keep (hb.block bm h.lt.2.2.2)
 low:=h.low
theorem Mk.put(h:Mk w B gm bm ga ca g cap ms l ats){o:Obj}{c:List (zaP × Nat)}(d:MpAt (ChangeMaps.setBlock w bm o) bm c):Mk (ChangeMaps.setBlock w bm o) B gm bm ga ca g cap ms c ats:=by
 obtain⟨n,n2,n3,q,m,f⟩:=h.ne
 have a:∀j,bm≠j->(ChangeMaps.setBlock w bm o).heap[j]? = w.heap[j]? := λj i=>by
  simp[ChangeMaps.setBlock,Xi i]
 exact {blk:=(a gm (Xk n3)).trans h.blk,own:=h.own.keep λk e=>a k λb=>m (by injection e with e;rw[b];exact e),aown:=h.aown.keep λk e=>a k λb=>f (by injection e with e;rw[b];exact e),map:=d,low:=h.low}
theorem Mk.push(h:Mk w B gm bm ga ca g cap ms l ats){w':World}{v':Value}{b:List zcK}(m:OwnG rowN w' B v' b)(q:0<b.length)(i:∀j,j<w.heap.size->g≠j->w'.heap[j]? = w.heap[j]?):
 ∃c a,v'=.slice (some ⟨c,0,none⟩) b.length a/\Mk (w'.setCell gm v') B gm bm ga ca c a b l ats:=by
 obtain⟨x,n2,n3,r,o,z⟩:=h.ne;obtain⟨v,A,t,l4⟩:=h.lt;obtain⟨c,a,rfl,_,_⟩:=m.head q;have d:w'.heap[gm]? = some (zjj g cap ms.length bm ga ats.length ca):=(i gm v (Xk x)).trans h.blk;have f:c≠gm:=λe=>m.apart d (λcs y e=>by unfold zjj at e;injection e with _ e;exact absurd e (by decide)) (by rw[e];rfl)
 have n:∀j,gm≠j->(w'.setCell gm (.slice (some ⟨c,0,none⟩) b.length a)).heap[j]? = w'.heap[j]? := λj u=>Qm w' ⟨gm,0,none⟩ _ j (Xk u)
 refine⟨c,a,rfl,⟨?_,m.keep λk e=>n k λs=>f (by injection e with e;rw[s];exact e),h.aown.keep λk e=>?_,h.map.keep ?_,h.low⟩⟩
 ·unfold zjj at d
  have:=zxV d 0 (.slice (some ⟨c,0,none⟩) b.length a);exact this
 ·injection e with e
  subst e;exact(n _ n2).trans (i _ t r)
 ·exact(n _ n3).trans (i _ l4 o)
theorem Mk.setAt(h:Mk w B gm bm ga ca g cap ms l ats)(k:Nat)(b:k<ats.length)(x:Nat):Mk (w.setCell ⟨ga,k,none⟩ (jA (x:Int))) B gm bm ga ca g cap ms l (ats.set k x):=by
 obtain⟨n,n2,n3,i,m,c⟩:=h.ne;have a:∀j,ga≠j->(w.setCell ⟨ga,k,none⟩ (jA (x:Int))).heap[j]? = w.heap[j]? := λj d=>Qm w ⟨ga,k,none⟩ _ j (Xk d)
 refine⟨by rw[Xf];exact(a gm (Xk n2)).trans h.blk,h.own.keep λj e=>a j λf=>i (by injection e with e;rw[f];exact e),?_,h.map.keep (a bm c),h.low⟩;have:=(h.aown.stored k b 0 (by decide) (jA (x:Int)) x rfl).1;rw[show k*rowI.size+0=k by simp[rowI]]at this;rw[Xf];exact this
end
theorem zdd(w:World)(B b:Nat)(o:Obj)(a:B<=b):Below B w (ChangeMaps.setBlock w b o) where
 os:=rfl
 tape:=rfl
 output:=rfl
 size:=by simp[ChangeMaps.setBlock]
 block j hj:=by simp[ChangeMaps.setBlock,Xi (show b≠j by omega)]
theorem zvs{base:Nat}{v:Value}{l:List (Nat × UInt8)}{W:World}(h:OwnG rowE W base v l)(hl:l.length<=4096)(e:Nat × UInt8):
 Calls prog 95 #[v,.agg #[jA (e.1:Int),.int .u8 e.2.toNat]] W λr w'=>r=jC (.bool (decide (e∈l)))/\W w':=by
 rcases h.cases with ⟨rfl,rfl⟩|⟨g,c,rfl,_,_⟩
 ·have:=znU ((e.1:Int),e.2) W
  unfold keyV at this
  simpa using this
 ·have:=zxY g 0 l.length c (l.map λx=>((x.1:Int),x.2)) ((e.1:Int),e.2) W (by simp) (by omega) λj k i v f=>by
   have d:j<l.length:=by simpa using k
   have b:i<2:=(Qy.1 f).1;have:=(h.at j d i b).1;rw[Ze];refine this.trans (Eq.trans ?_ f);rw[getElem!_pos _ j k,Zo]
   rfl
  unfold keyV at this;rw[show (((l.map λx=>((x.1:Int),x.2)).take l.length).any λy=>decide ((((e.1:Int),e.2):zaP)=y))=decide (e∈l)from ?_]at this
  ·exact this
  ·rw[QR (by simp),List.any_map]
   by_cases a:e∈l
   ·rw[Qx a,List.any_eq_true]
    exact⟨e,a,by simp⟩
   ·rw[Qt a,List.any_eq_false]
    intro y n;simp only[Function.comp_apply,QX];intro o;injection o with q m
    exact a (by rw[show e=y from Prod.ext (by omega) m];exact n)
