/- Lemmas for the last texts. -/
import Derived.Test.YtnnokglddolglaaGreatDoorM05
import Derived.Laws.OwnMore
import Derived.Below
set_option maxHeartbeats 1600000
set_option maxRecDepth 100000
namespace Go.Proofs.YtnnokglddolglaaGreatDoor
open Go.RowKit Go.Proofs.Tryz
theorem zw5(p a d:List Ins)(x y b c:Ins):((p++[x]++a++[y]).set p.length b++d).set (p++[x]++a).length c=p++(b::(a++c::d)):=by
 have h1:(p++[x]++a++[y]).set p.length b=p++(b::a)++[y]:=by
  rw[QH,QH,ZV _ _ (Qd _),Xh];simp
 have h2:(p++[x]++a).length=(p++(b::a)).length:=by simp
 rw[h1,h2,QH,ZV _ _ (Qd _),Xh];simp
theorem zzS(p a c:List Ins)(x y b:Ins)(h:(p++[x]++a).length<((p++[x]++a++[y]).set p.length b++c).length):((p++[x]++a++[y]).set p.length b++c)[(p++[x]++a).length]=y:=by
 rw[ZA (by simp),List.getElem_set_ne (by simp)];simp
theorem zvT(S:Set4)(K tb:Tree)(hf:CodeC K)(h5:CodeC tb):CodeC (.node 5 S [K,tb]):=by
 intro A c w B v p hB Z hO hn;obtain⟨z,f,ca,cb,rfl,h0,O,U,hi,I⟩:=LK.two Z;obtain⟨A1,c1,rfl,_,_⟩:=U.parts;obtain⟨A2,c2,rfl,_,_⟩:=I.parts;have HA:=hIx (hf.call U);have HB:=hIx (h5.call I);have HY:=hIx λW hb=>zeu hi (W:=W) hb h0
 have HX:=hIx λW hb=>(zeu O (W:=W) hb h0).six
 simp only[nodes,zcC]at hn;obtain⟨A0,c0,rfl,_⟩:=hO.form;have h4:∀o,OwnP (w.alloc o) B (.slice A0 p.length c0) p:=λo=>hO.below ((Qg _ _).alloc (Qd _) o)
 have y:Hid (∀k a b c d A n q W,Keeps (w.alloc (boxX k a b c d A n q)) W->_):=λk a b c d A n q W h=>(zjl h).1
 unfold boxX at y;unfold argX at HA HB ⊢;obtain⟨a,b,c',d⟩:=S;dsimp only[Tree.kind,Tree.set,Tree.kids,List.length_nil,List.length_cons]at y ⊢;clear Z hf h5 U I hi;have hF:=hIx hO;have i1:IntKind.i64.wrap ((p.length:Int)+1)=(p.length:Int)+1:=Qx _ (by omega)
 go_in
 obtain⟨x0,x1,x2,x3,x4,x5⟩:=O.six;clear O;have hQ:z<w.heap.size:=by omega
 go_wp2_with fail;have h9:∀o,B<=(w.alloc o).heap.size:=λo=>by simp;omega
 have HS:=hIx λW Z hb=>And.intro (y.out 5 a b c' d (some ⟨z,f,none⟩) 2 c W Z) (HX.out W hb)
 go_region_held3 (λw'=>w'.cell? ⟨w.heap.size,5,none⟩=some (.slice (some ⟨z,f,none⟩) 2 c)/\w'.cell? ⟨z,f,none⟩=some (.int .i64 K.kind)/\w'.cell? ⟨z,f+1,none⟩=some (.int .u64 K.set.a)/\w'.cell? ⟨z,f+2,none⟩=some (.int .u64 K.set.b)/\
  w'.cell? ⟨z,f+3,none⟩=some (.int .u64 K.set.c)/\w'.cell? ⟨z,f+4,none⟩=some (.int .u64 K.set.d)/\w'.cell? ⟨z,f+5,none⟩=some (.slice A1 K.kids.length c1))
  (first|exact HS.out _ (x.trans V) (g.trans X)|exact HS.out _ x g|go_keep)
  (first
   |(refine zfn rfl (.tmp 48) (.tmp 52) rfl B (.slice A0 p.length c0) p rfl (h4 _).drew (h9 _) _ ⟨2,(p.length:Int)+1,0,.zero⟩ rfl (w.heap.size+1) (by simp) 1 rfl (by omega) ?_;intro v8 w8 hh h7 hg hA;have x:=Keeps.undrew (Keeps.own (h4 _).drew hg);have g:Below B w w8:=((Qg B w).alloc hB _).drew.trans h7)
   |(go_at_call 140;(with_reducible refine(HA.out w8 v8 (p++[⟨2,(p.length:Int)+1,0,.zero⟩]) (Qn hB g.size) g hh (by rw[Qa,QG];omega)).mono ?_);rintro e w1 ⟨v1,H,rfl,Y,C,X,V,hT⟩))
 rw[Qa,QG]at Y;have hR:=zfT Y;have r:=g.trans X;have J:=x.trans V;have hr:=λW Z hb=>And.intro (y.out 5 a b c' d (some ⟨z,f,none⟩) 2 c W Z) ((HY.out W hb).six)
 clear HA HS HX y HY X V h7 hg x0 x1 x2 x3 x4 x5 hh h9;have hP:=r.size;have hq:B<=w1.heap.size:=Qn hB r.size;have hx:z<w1.heap.size:=by omega
 obtain⟨hE,hS,rfl,_⟩:=C.form;have hd:=hIx (zw5 p H);have he:=hIx (zzS p H);have F:=hIx (zrN p H ⟨2,(p.length:Int)+1,0,.zero⟩ ⟨3,0,0,.zero⟩);have D:Hid ((p++[(⟨2,(p.length:Int)+1,0,.zero⟩:Ins)]++H).length=p.length+1+H.length):=hIx (by simp;omega);have m:=hIx λE x' y'=>hd.out E ⟨2,(p.length:Int)+1,0,.zero⟩ ⟨3,0,0,.zero⟩ x' y'
 have l:=hIx λE x'=>he.out E ⟨2,(p.length:Int)+1,0,.zero⟩ ⟨3,0,0,.zero⟩ x'
 clear hd he;generalize hM:p++[(⟨2,(p.length:Int)+1,0,.zero⟩:Ins)]++H=M at m l F D C;have G:Hid ((M++[(⟨3,0,0,.zero⟩:Ins)]).length=p.length+1+H.length+1):=hIx (by rw[Qa,QG,D.out]);generalize hL:M++[(⟨3,0,0,.zero⟩:Ins)]=L at m l F G;have hm:=hIx hr;go_wp2_with (at_builtin;refine zb5 rfl _ _ rfl B _ M rfl C hq _ ⟨3,0,0,.zero⟩ rfl w1.heap.size rfl 1 rfl (by rw[D.out];omega) ?_;intro v2 w2 s hu ht hv;rw[hL]at s;have ha:p.length<L.length:=(by rw[G.out];omega);have hK:(p.length:Int)<(L.length:Int):=(by omega);obtain⟨gq,cq,rfl,hw,hD⟩:=s.head (by omega);have ⟨⟨_,hN⟩,_,hI⟩:=s.ab p.length ha;have j:=s.setAB p.length ha 2 (by decide) (.int .i64 (L.length:Int)) ⟨2,(p.length:Int)+1,(L.length:Int),.zero⟩ (by rw[F.out];rfl);have t:=(J.trans (Keeps.own C ht)).trans (Keeps.only s j.2);have i:=(r.trans hu).setCell hw (.int .i64 (L.length:Int)) (p:=⟨gq,p.length*7+2,none⟩);have ⟨f5,y0,y1,y2,y3,y4,y5⟩:=hm.out _ t i);have hs:B<=(w2.setCell ⟨gq,p.length*7+2,none⟩ (.int .i64 (L.length:Int))).heap.size:=Qn hB i.size;have hz:w1.heap.size<(w2.setCell ⟨gq,p.length*7+2,none⟩ (.int .i64 (L.length:Int))).heap.size:=by simpa using hv
 have Q:Hid ((L.set p.length ⟨2,(p.length:Int)+1,(L.length:Int),.zero⟩).length=p.length+1+H.length+1):=hIx (List.length_set.trans G.out);refine(HB.out _ _ (L.set p.length ⟨2,(p.length:Int)+1,(L.length:Int),.zero⟩) hs i j.1 (by rw[Q.out];omega)).mono ?_;rintro e w4 ⟨v4,E,rfl,T,u,hp,hj,hU⟩;have I:=zfT T;have h6:=i.trans hp;have ho:=t.trans hj;have hc:=hIx λy'=>m.out E ⟨2,(p.length:Int)+1,(L.length:Int),.zero⟩ y'
 have h8:=hIx (l.out E ⟨2,(p.length:Int)+1,(L.length:Int),.zero⟩);have P:Hid ((L.set p.length ⟨2,(p.length:Int)+1,(L.length:Int),.zero⟩++E).length=p.length+1+H.length+1+E.length):=hIx (by rw[Qa,Q.out]);rw[Q.out]at T;clear HB m l F hm f5 y0 y1 y2 y3 y4 y5 j hp hj t i s J r;generalize L.set p.length ⟨2,(p.length:Int)+1,(L.length:Int),.zero⟩++E=N at hc h8 P u;have hJ:M.length<N.length:=by rw[P.out,D.out];omega
 have hH:(M.length:Int)<(N.length:Int):=by omega
 obtain⟨gn,cn,rfl,h3,hy⟩:=u.head (by omega);have ⟨⟨hC,_⟩,hG,_⟩:=u.ab M.length hJ;have j:=u.setAB M.length hJ 1 (by decide) (.int .i64 (N.length:Int)) ⟨3,(N.length:Int),0,.zero⟩ (by rw[h8.out];rfl);go_wp2;go_ret;rw[hc.out]at j;refine⟨_,_,rfl,.alt _ _ _ _ _ _ Y T,?_,h6.setCell h3 _,((Keeps.alloc _ _).trans ho).trans (Keeps.only u j.2),by simp;omega⟩;have h:=j.1;rw[P.out,G.out]at h ⊢;exact h
theorem zeA(t:Tree)(h:Fine t):CodeC t:=by
 match t,h with
 |.node k S e,h=>
  have d:=zrF h
  match k,e,d with
  |_,_,.none=>exact zhs 1 S _ (.inl ⟨.inl rfl,rfl⟩) λ_=>.none _ _
  |_,_,.empty=>exact zri S
  |_,_,.byte=>exact zhs 3 S _ (.inl ⟨.inr rfl,rfl⟩) λ_=>.byte _ _
  |_,_,.cat a b c hb=>exact zvv S a b (zeA a c) (zeA b hb)
  |_,_,.alt a b c hb=>exact zvT S a b (zeA a c) (zeA b hb)
  |_,_,.star a c=>exact ztJ S a (zeA a c)
  |_,_,.begin=>exact zhs 7 S _ (.inr (.inl ⟨rfl,rfl⟩)) λ_=>.begin _ _
  |_,_,.finish=>exact zhs 8 S _ (.inr (.inr ⟨rfl,rfl⟩)) λ_=>.finish _ _
termination_by SizeOf.sizeOf t
mutual
theorem ziB:∀(t:Tree) (a n:Int),(chk t a n).2=0->(chk t a n).1=n+nodes t/\n+nodes t<=80
 |.node k s b,a,n,h=>by
  rw[chk]at h ⊢
  by_cases c1:80<n+1
  ·rw[Qi c1]at h;exact absurd (show (2:Int)=0 from h) (by decide)
  ·rw[Qe c1]at h ⊢
   by_cases c2:20<a
   ·rw[Qi c2]at h;exact absurd (show (11:Int)=0 from h) (by decide)
   ·rw[Qe c2]at h ⊢
    cases c3:badT k s b.length with
    |true=>rw[c3,Qi rfl]at h;exact absurd (show (1:Int)=0 from h) (by decide)
    |false=>
     rw[c3,Qe (by decide)]at h;rw[Qe (by decide)];have:=zjN b _ _ h;rw[nodes];exact⟨by rw[this.1];omega,by have:=this.2 (by omega);omega⟩
theorem zjN:∀(b:List Tree) (a n:Int),(chkL b a n).2=0->(chkL b a n).1=n+zcC b/\(n<=80->n+zcC b<=80)
 | [],_,_,_=>by rw[chkL,zcC];exact⟨by simp,λh=>by simpa using h⟩
 |t::b,a,n,h=>by
  rw[chkL]at h ⊢
  by_cases c:(chk t a n).2≠0
  ·rw[Qi c]at h;exact absurd h c
  ·rw[Qe c]at h ⊢
   have h1:=ziB t a n (Z6.1 c);have h2:=zjN b _ _ h;rw[zcC];rw[h1.1]at h2 ⊢;exact⟨by rw[h2.1];omega,λ_=>by have:=h2.2 h1.2;omega⟩
end
def zjj(t:Tree)(w:World)(e:Ending)(w':World):Prop:=
 ∃v,e=.returned (.tuple #[v,.int .i64 (zbj t)])/\(zbj t≠0->v=.slice none 0 0)/\(zbj t=0->∃l,Code t 0 l/\l.length<=160/\OwnP w' w.heap.size v (l++[⟨6,0,0,.zero⟩]))/\Below w.heap.size w w'
theorem zoU(t:Tree)(A:Option Addr)(c:Nat)(w:World)(h:LT w w.heap.size t (zap t.kind t.set A t.kids.length c)):
 Calls prog 104 #[argX t A c] w (zjj t w):=by
 have f:Hid (∀W,Below w.heap.size w W->Calls prog 139 #[argX t A c] W λe w'=>e=.returned (.int .i64 (zbj t))/\Below W.heap.size W w'):=λW hb=>zke t _ W ((h.below hb).more hb.size)
 have k:Hid (zbj t=0->∀W,Below w.heap.size w W->Calls prog 140 #[.slice none 0 0,argX t A c] W (zhR t [] w.heap.size W)):=λa W hb=>by
  have D:=(ziB t 1 0 a).2;obtain⟨L,J,e,_,K⟩:=h.parts;exact(zeA t (zld t 1 0 a)).call h W _ [] hb.size hb (OwnP.nil _ _) (by simp;omega)
 have n:Hid (∀l,zbj t=0->Code t 0 l->l.length<=160):=λl a hl=>by
  have D:=(ziB t 1 0 a).2;have:=zfT hl;omega
 clear h;unfold argX at f k ⊢
 go_in
 go_wp2_with fail;refine(f.out _ WaL).mono ?_;rintro e u ⟨rfl,i⟩;have d:Below w.heap.size w u:=WaL.trans (i.mono (by simp))
 by_cases a:zbj t=0
 ·have z:(zbj t != 0)=false:=by rw[a];rfl
  obtain⟨⟨x,y,F,I,G,B⟩,_⟩:=zyE i;go_wp2_with fail;refine(k.out a _ d).mono ?_;rintro e w2 ⟨N,l,rfl,j,g,q,_,_⟩;have m:=n.out l a j;have b:=d.trans q;have p:=b.size;obtain⟨H,c2,rfl,_⟩:=g.form;clear x y F I G B;go_wp2_with (at_builtin;refine zb5 rfl (.tmp 11) (.tmp 13) rfl w.heap.size (.slice H ([]++l).length c2) ([]++l) rfl g p _ ⟨6,0,0,.zero⟩ rfl w2.heap.size rfl 1 rfl (by simp;omega) ?_;intro s w3 o r C E);exact Qj (v:=.tuple #[s,.int .i64 0]) (by simp[results,results104,go_sem]) rfl ⟨s,by rw[a],λh=>absurd a h,λ_=>⟨l,j,m,o⟩,b.trans r⟩
 ·have z:(zbj t != 0)=true:=by simpa using a
  go_wp2;exact Qj (v:=.tuple #[.slice none 0 0,.int .i64 (zbj t)]) (by simp[results,results104,go_sem]) rfl ⟨_,rfl,λ_=>rfl,λh=>absurd h a,d⟩
structure RowT(α:Type) where
 e:TypeId
 t:TypeId
 size:Nat
 bytes:Nat
 z:Value
 cells:α->List Value
 hsz:∀a,(cells a).length=size
 hpos:0<size
 under:prog.underlying t=some (.slice e)
 info:(prog.info? e).map (λi=>(i.zero,i.size,i.bytes))=some (some z,size,bytes)
 hz:z.cells.size=size
 one:∀a,∀u∈cells a,u.oneCell'=true
 hbytes:bytes<=128
def OwnG{a:Type}(R:RowT a)(w:World)(base:Nat)(v:Value)(l:List a):Prop:=w.ownsRow base R.e R.size v l.length (l.flatMap R.cells)
theorem OwnG.nil{a:Type}(R:RowT a)(w:World)(base:Nat):OwnG R w base (.slice none 0 0) []:=ZI w base R.e R.size
theorem OwnG.below{a:Type}{R:RowT a}{w w':World}{base:Nat}{v:Value}{l:List a}(h:OwnG R w base v l)(hb:Below w.heap.size w w'):OwnG R w' base v l:=zaP h hb
theorem OwnG.keep{b:Type}{R:RowT b}{w w':World}{base:Nat}{v:Value}{l:List b}(h:OwnG R w base v l)(c:∀g,v.ownBlock=some g->w'.heap[g]? = w.heap[g]?):OwnG R w' base v l:=by
 refine⟨h.1,?_⟩
 rcases h.2 with e|⟨g,cap,a,h1,h2,f,d⟩
 ·exact .inl e
 ·exact .inr ⟨g,cap,a,h1,h2,(c g (by rw[h1];rfl)).trans f,d⟩
theorem OwnG.low{c:Type}{R:RowT c}{w:World}{base b:Nat}{v:Value}{l:List c}(h:OwnG R w base v l)(hb:b<=base):OwnG R w b v l:=
 ⟨h.1,h.2.imp_right λ⟨g,cap,a,h1,h2,d⟩=>⟨g,cap,a,h1,Qn hb h2,d⟩⟩
theorem OwnG.lt{a:Type}{R:RowT a}{w:World}{base:Nat}{v:Value}{l:List a}(h:OwnG R w base v l):∀k,v.ownBlock=some k->base<=k/\k<w.heap.size:=QK h
theorem OwnG.head{a:Type}{R:RowT a}{w:World}{base:Nat}{v:Value}{l:List a}(h:OwnG R w base v l)(hl:0<l.length):∃g c,v=.slice (some ⟨g,0,none⟩) l.length c/\base<=g/\g<w.heap.size:=by
 rcases h.2 with ⟨h1,h2⟩|⟨g,cap,b,h1,hb,d,_⟩
 ·omega
 ·exact⟨g,cap,h1,hb,(QK h g (by rw[h1];simp[Value.ownBlock])).2⟩
theorem OwnG.cases{a:Type}{R:RowT a}{w:World}{base:Nat}{v:Value}{l:List a}(h:OwnG R w base v l):(v=.slice none 0 0/\l=[])\/∃g c,v=.slice (some ⟨g,0,none⟩) l.length c/\base<=g/\g<w.heap.size:=by
 rcases h.2 with ⟨h1,h2⟩|⟨g,cap,b,h1,hb,d,_⟩
 ·exact .inl ⟨h1,QA h2⟩
 ·exact .inr ⟨g,cap,h1,hb,(QK h g (by rw[h1];simp[Value.ownBlock])).2⟩
theorem OwnG.at{b:Type}{R:RowT b}{w:World}{base g c:Nat}{l:List b}(h:OwnG R w base (.slice (some ⟨g,0,none⟩) l.length c) l)(k:Nat)(a:k<l.length)(j:Nat)(e:j<R.size):
 w.cell? ⟨g,k*R.size+j,none⟩=(R.cells l[k])[j]? /\ w.frozen? ⟨g,k*R.size+j,none⟩=false:=by
 have h1:=zbM R.cells R.size R.hsz l k j a e;have hl:=zaS R.cells R.size R.hsz l
 have h2:k*R.size+j<(l.flatMap R.cells).length:=by
  rw[hl];have:(k+1)*R.size<=l.length*R.size:=XM _ a;rw[Xt]at this;omega
 have d:=Zx (g:=g) h (by simp[Value.ownBlock]) (k*R.size+j) _ (Qc h2);rw[zbq]at d;rw[Qc h2]at h1;exact⟨d.trans h1,World.ownsRow.frozenAt h _⟩
theorem OwnG.form{a:Type}{R:RowT a}{w:World}{base:Nat}{v:Value}{l:List a}(h:OwnG R w base v l):∃A c,v=.slice A l.length c/\Sl w w.heap.size R.size A l.length (l.flatMap R.cells):=by
 rcases h.cases with ⟨h1,h2⟩|⟨g,cap,h1,hb,d⟩
 ·subst h2
  exact⟨none,0,h1,Sl.nil _ _ _ _⟩
 ·refine⟨_,_,h1,zaS R.cells R.size R.hsz l,λe=>⟨g,0,rfl,d,λj b=>?_⟩⟩
  have:=Zx (g:=g) h (by rw[h1];simp[Value.ownBlock]) j _ (Qc b);rw[zbq]at this;rw[Zc];exact this
theorem OwnG.stored{b:Type}{R:RowT b}{w:World}{base g c:Nat}{l:List b}(h:OwnG R w base (.slice (some ⟨g,0,none⟩) l.length c) l)(k:Nat)(i:k<l.length)(j:Nat)(n:j<R.size)(u:Value)(y:b)(m:R.cells y=(R.cells l[k]).set j u):
 OwnG R (w.setCell ⟨g,k*R.size+j,none⟩ u) base (.slice (some ⟨g,0,none⟩) l.length c) (l.set k y)/\w.grownBy (w.setCell ⟨g,k*R.size+j,none⟩ u) (some g):=by
 have f:=World.ownsRow.stored h (k*R.size+j) u;refine⟨?_,f.2⟩
 have d:∀(l:List b) (k:Nat) (h:k<l.length),R.cells y=(R.cells l[k]).set j u->(l.flatMap R.cells).set (k*R.size+j) u=(l.set k y).flatMap R.cells:=by
  intro l
  induction l with
  |nil=>intro k h;exact absurd h (by simp)
  |cons a r ih=>
   intro k h d;cases k with
   |zero=>
    have e:R.cells y=(R.cells a).set j u:=d;simp only[QM,Zb,XZ,Zc];rw[List.set_append_left _ _ (by rw[R.hsz];exact n),e]
   |succ k=>
    simp only[QM,Zj];rw[ZV _ _ (by rw[R.hsz,Xt];omega),R.hsz,show (k+1)*R.size+j-R.size=k*R.size+j by rw[Xt];omega];rw[ih k (by simpa using h) d]
 unfold OwnG;rw[Xn,<-d l k i m];exact f.1
section
variable {ops:Array Oper} {rest:List Oper} {o:Oper} {a:Act} {Q:Exit->Act->World->Prop} {w:World}
theorem ze4{m:Type}(R:RowT m){K:Act->World->Prop}(s x:Operand)(y:o.op=.call {callee:=.builtin .append,args:=#[s,x],argTypes:=#[R.t,R.t]})
 (base:Nat) (v:Value) (l:List m) (A:a.eval s=v) (f:OwnG R w base v l) (d:base<=w.heap.size)
 (p:List Value) (new:m) (D:p=R.cells new) (q:Nat) (n:w.heap.size=q) (c:Nat) (C:a.eval x=.slice (some ⟨q,0,none⟩) 1 c)
 (b:l.length<=1048576)
 (h:∀v' w',OwnG R w' base v' (l++[new])->Below base w w'->(∀g,g<w.heap.size->v.ownBlock≠some g->w'.heap[g]? = w.heap[g]?)->w.heap.size<w'.heap.size->K (a.put o.dst v') w'):
 o.wp prog a (w.alloc (.cells p.toArray R.e)) K Q:=by
 subst D;subst n
 obtain⟨u,B,i,j,k⟩:=ZC R.info;have hb:=R.hbytes
 exact za1 s x R.t y base R.e u _ R.size R.bytes R.under B i j k R.hz R.hpos v l.length (l.flatMap R.cells) A f d (R.cells new) 1 c C (by rw[R.hsz,Nat.one_mul])
  (R.one new) (by unfold maxLen;omega) (Qn (Nat.mul_le_mul (Nat.add_le_add_right b 1) hb) (by omega)) λv' w' h1 h2 z r=>h v' w' (by unfold OwnG;rw[Qa,Q4];simpa using h1) h2 z r
theorem zax{m:Type}(R:RowT m)(i:o.guard=none)(s x:Operand)(r:o.op=.call {callee:=.builtin .append,args:=#[s,x],argTypes:=#[R.t,R.t]})
 (base:Nat) (v:Value) (l:List m) (y:a.eval s=v) (f:OwnG R w base v l) (d:base<=w.heap.size)
 (j:List Value) (new:m) (A:j=R.cells new) (k:Nat) (n:w.heap.size=k) (c:Nat) (z:a.eval x=.slice (some ⟨k,0,none⟩) 1 c)
 (b:l.length<=1048576)
 (h:∀v' w',OwnG R w' base v' (l++[new])->Below base w w'->(∀g,g<w.heap.size->v.ownBlock≠some g->w'.heap[g]? = w.heap[g]?)->w.heap.size<w'.heap.size->wpList prog ops Q rest (a.put o.dst v') w'):
 wpList prog ops Q (o::rest) a (w.alloc (.cells j.toArray R.e)):=
 Xs i λ_ q=>ze4 R s x r base v l y f d j new A k n c z b λv' w' h1 h2 u p=>q _ _ (h v' w' h1 h2 u p)
theorem zle{m:Type}(R:RowT m){K:Act->World->Prop}{E:Prop}(i:o.guard=none)(s x:Operand)(q:o.op=.call {callee:=.builtin .append,args:=#[s,x],argTypes:=#[R.t,R.t]})
 (base:Nat) (v:Value) (l:List m) (r:a.eval s=v) (f:OwnG R w base v l) (d:base<=w.heap.size)
 (j:List Value) (new:m) (y:j=R.cells new) (k:Nat) (n:w.heap.size=k) (c:Nat) (u:a.eval x=.slice (some ⟨k,0,none⟩) 1 c)
 (b:l.length<=1048576)
 (h:∀v' w',OwnG R w' base v' (l++[new])->Below base w w'->(∀g,g<w.heap.size->v.ownBlock≠some g->w'.heap[g]? = w.heap[g]?)->w.heap.size<w'.heap.size->K (a.put o.dst v') w'):
 if Region.wanted o (yielded ops a.tmps)=true then Oper.wp prog o a (w.alloc (.cells j.toArray R.e)) K Q else E:=by
 have p:Region.wanted o (yielded ops a.tmps)=true:=by simp[Region.wanted,i]
 rw[Qi p];exact ze4 R s x q base v l r f d j new y k n c u b h
end
structure TrieS(ss:List (List UInt8)):Prop where
 root:ss[0]? = some []
 uniq:ss.Nodup
 pre:∀v b,v++[b]∈ss->v∈ss
 order:∀i j (hi:i<ss.length) (hj:j<ss.length),ss[i].length<ss[j].length->i<j
theorem TrieS.nil_mem{a:List (List UInt8)}(h:TrieS a):[]∈a:=Xf h.root
def zfG(a:List (List UInt8))(s v:List UInt8):Prop:=v∈a/\v <:+s/\∀u,u∈a->u <:+s->u <:+v
def IsFail(a:List (List UInt8))(s v:List UInt8):Prop:=v∈a/\v <:+s/\v≠s/\∀u,u∈a->u <:+s->u≠s->u <:+v
theorem zjk{u s:List UInt8}(h:u <:+s)(hl:s.length<=u.length):u=s:=h.eq_of_length (Nat.le_antisymm h.length_le hl)
theorem zc0{u s:List UInt8}{b c:UInt8}:u++[b] <:+s++[c]↔b=c/\u <:+s:=by
 constructor
 ·rintro⟨t,h⟩
  rw[<-QH]at h;obtain⟨h1,h2⟩:=List.append_inj' h rfl;exact⟨by simpa using h2,⟨t,h1⟩⟩
 ·rintro⟨rfl,t,h⟩
  exact⟨t,by rw[<-QH,h]⟩
theorem znZ{u s:List UInt8}{c:UInt8}(h:u <:+s++[c])(d:u≠[]):∃a,u=a++[c]/\a <:+s:=by
 obtain⟨a,b,rfl⟩:∃a b,u=a++[b]:=by
  rcases List.eq_nil_or_concat u with e|⟨a,b,h1⟩
  ·exact absurd e d
  ·exact⟨a,b,by rw[h1,List.concat_eq_append]⟩
 obtain⟨rfl,h2⟩:=zc0.1 h;exact⟨a,rfl,h2⟩
def Cand(a:List (List UInt8))(s:List UInt8)(b:UInt8)(v:List UInt8):Prop:=v∈a/\v <:+s/\∀u,u∈a->u <:+s->u++[b]∈a->u <:+v
theorem zgS{a:List (List UInt8)}{s v:List UInt8}(b:UInt8)(h:zfG a s v):Cand a s b v:=⟨h.1,h.2.1,λu c d _=>h.2.2 u c d⟩
theorem zs4{a:List (List UInt8)}{s v f:List UInt8}{b:UInt8}(h:Cand a s b v)(i:v++[b] ∉ a)(c:IsFail a v f):Cand a s b f:=by
 refine⟨c.1,c.2.1.trans h.2.1,λu d g hb=>?_⟩;have h1:=h.2.2 u d g hb;exact c.2.2.2 u d h1 λe=>i (by rw[<-e];exact hb)
theorem zrj{a:List (List UInt8)}{s v:List UInt8}{b:UInt8}(g:TrieS a)(h:Cand a s b v)(f:v++[b]∈a):zfG a (s++[b]) (v++[b]):=by
 refine⟨f,zc0.2 ⟨rfl,h.2.1⟩,λu c i=>?_⟩
 by_cases d:u=[]
 ·rw[d];exact List.nil_suffix
 ·obtain⟨e,rfl,h1⟩:=znZ i d
  exact zc0.2 ⟨rfl,h.2.2 e (g.pre e b c) h1 c⟩
theorem zsY{a:List (List UInt8)}{s:List UInt8}{b:UInt8}(d:TrieS a)(h:Cand a s b [])(i:[b] ∉ a):zfG a (s++[b]) []:=by
 refine⟨d.nil_mem,List.nil_suffix,λu c g=>?_⟩
 by_cases e:u=[]
 ·rw[e];exact List.suffix_refl _
 ·obtain⟨f,rfl,h1⟩:=znZ g e
  have:=h.2.2 f (d.pre f b c) h1 c;rw[List.suffix_nil]at this;rw[this]at c;exact absurd c i
theorem znj{a:List (List UInt8)}{p f v:List UInt8}{b:UInt8}(j:IsFail a p f)(d:zfG a (f++[b]) v)(l:TrieS a)(c:p++[b] ∉ a):
 v∈a/\v <:+p++[b]/\v≠p++[b]/\∀u,u∈a->u <:+p++[b]->u≠p++[b]->u <:+v:=by
 have n:f++[b] <:+p++[b]:=zc0.2 ⟨rfl,j.2.1⟩;refine⟨d.1,d.2.1.trans n,λe=>c (by rw[<-e];exact d.1),λu k h1 h2=>?_⟩
 by_cases i:u=[]
 ·rw[i];exact List.nil_suffix
 ·obtain⟨h,rfl,m⟩:=znZ h1 i
  have g:h≠p:=λe=>h2 (by rw[e])
  exact d.2.2 _ k (zc0.2 ⟨rfl,j.2.2.2 h (l.pre h b k) m g⟩)
theorem zuV{a:List (List UInt8)}{b:UInt8}(d:TrieS a):[]∈a/\[] <:+[b]/\([]:List UInt8)≠[b]/\∀u,u∈a->u <:+[b]->u≠[b]->u <:+[]:=by
 refine⟨d.nil_mem,List.nil_suffix,by simp,λu _ h1 h2=>?_⟩
 by_cases c:u=[]
 ·rw[c];exact List.suffix_refl _
 ·have e:=h1.length_le
  have f:0<u.length:=XO.2 c;exact absurd (zjk h1 (by simp only[QG]at e ⊢;omega)) h2
theorem IsFail.more{b:List (List UInt8)}{s v x:List UInt8}(h:IsFail b s v)(c:s.length<=x.length):IsFail (b++[x]) s v:=
 ⟨Zr _ h.1,h.2.1,h.2.2.1,λu a h1 h2=>by
  rcases QN.1 a with a|a
  ·exact h.2.2.2 u a h1 h2
  ·rw[QE.1 a]at h1 h2
   exact absurd (zjk h1 c) h2⟩
theorem zvu{f:List (List UInt8)}(h:TrieS f){p:List UInt8}{b:UInt8}(l:p∈f)(o:p++[b] ∉ f)(hl:∀v,v∈f->v.length<=p.length+1):TrieS (f++[p++[b]]):=by
 have g:0<f.length:=List.length_pos_of_mem l;refine⟨by rw[Zo g];exact h.root,?_,λv c k=>?_,λi j n q d=>?_⟩
 ·rw[List.nodup_append]
  refine⟨h.uniq,by simp,λa r s hb=>?_⟩;rw[QE.1 hb];exact λe=>o (by rw[<-e];exact r)
 ·rcases QN.1 k with k|k
  ·exact Zr _ (h.pre v c k)
  ·have:=QE.1 k
   obtain⟨e,_⟩:=List.append_inj' this rfl;rw[e];exact Zr _ l
 ·rw[Qa,QG]at n q
  by_cases c1:i<f.length
  ·by_cases c2:j<f.length
   ·rw[ZA c1,ZA c2]at d
    exact h.order i j c1 c2 d
   ·omega
  ·have e:(f++[p++[b]])[i]=p++[b]:=by rw[Z3 (by omega)];simp
   rw[e]at d
   by_cases c2:j<f.length
   ·rw[ZA c2]at d
    have:=hl _ (Qy c2);simp only[Qa,QG]at d;omega
   ·have m:(f++[p++[b]])[j]=p++[b]:=by rw[Z3 (by omega)];simp
    rw[m]at d;omega
def zaX(ws:List (List UInt8))(s:List UInt8):List Nat:=(List.range ws.length).filter λk=>decide (ws.getD k [] <:+s)
theorem zcN{ws:List (List UInt8)}{s:List UInt8}{k:Nat}:k∈zaX ws s↔k<ws.length/\ws.getD k [] <:+s:=by
 unfold zaX;rw[ZB,ZX,QY]
theorem zcG(ws:List (List UInt8))(s:List UInt8):(zaX ws s).Pairwise (·<·):=List.Pairwise.filter _ List.pairwise_lt_range
theorem zgt:∀{l m:List Nat},l.Pairwise (·<·)->m.Pairwise (·<·)->(∀k,k∈l↔k∈m)->l=m
 | [],[],_,_,_=>rfl
 | [],b::m,_,_,h=>absurd ((h b).2 (by simp)) (by simp)
 |a::l,[],_,_,h=>absurd ((h a).1 (by simp)) (by simp)
 |a::l,b::m,h1,h2,h=>by
  rw[List.pairwise_cons]at h1 h2
  have e:a=b:=by
   rcases QJ.1 ((h a).1 (by simp))with e|d
   ·exact e
   ·rcases QJ.1 ((h b).2 (by simp))with e|f
    ·exact e.symm
    ·have:=h2.1 a d;have:=h1.1 b f;omega
  subst e;refine Zt (a::·) (zgt h1.2 h2.2 λk=>⟨λc=>?_,λc=>?_⟩)
  ·rcases QJ.1 ((h k).1 (by simp[c]))with e|d
   ·have:=h1.1 k c;omega
   ·exact d
  ·rcases QJ.1 ((h k).2 (by simp[c]))with e|d
   ·have:=h2.1 k c;omega
   ·exact d
theorem zlU{ws a:List (List UInt8)}{s v:List UInt8}(b:∀k,k<ws.length->ws.getD k []∈a)(h:zfG a s v):zaX ws s=zaX ws v:=
 zgt (zcG _ _) (zcG _ _) λk=>by
  rw[zcN,zcN];exact⟨λ⟨h1,h2⟩=>⟨h1,h.2.2 _ (b k h1) h2⟩,λ⟨h1,h2⟩=>⟨h1,h2.trans h.2.1⟩⟩
theorem zkV{ws a:List (List UInt8)}{s v:List UInt8}(b:∀k,k<ws.length->ws.getD k []∈a)(h:IsFail a s v)(k:Nat):k∈zaX ws s↔k∈zaX ws v\/(k<ws.length/\ws.getD k []=s):=by
 rw[zcN,zcN]
 constructor
 ·rintro⟨h1,h2⟩
  by_cases e:ws.getD k []=s
  ·exact .inr ⟨h1,e⟩
  ·exact .inl ⟨h1,h.2.2.2 _ (b k h1) h2 e⟩
 ·rintro(⟨h1,h2⟩|⟨h1,h2⟩)
  ·exact⟨h1,h2.trans h.2.1⟩
  ·exact⟨h1,by rw[h2];exact List.suffix_refl _⟩
structure zaC where
 b:UInt8
 up:Nat
 fail:Nat
structure Inv(ns:List zaC)(ss:List (List UInt8)):Prop where
 len:ns.length=ss.length
 trie:TrieS ss
 zero:ns[0]? = some ⟨0,0,0⟩
 node:∀j n,0<j->ns[j]? = some n->n.up<j/\n.fail<j/\∃p f,ss[n.up]? = some p/\ss[n.fail]? = some f/\ss[j]? = some (p++[n.b])/\IsFail ss (p++[n.b]) f
theorem ztm:Inv [⟨0,0,0⟩] [[]] where
 len:=rfl
 trie:=⟨rfl,by simp,λv b h=>by simp at h,λi j e a h=>by
  have c:i=0:=by simpa using e
  have d:j=0:=by simpa using a
  subst c;subst d
  exact absurd h (by simp)⟩
 zero:=rfl
 node j n a h:=by
  have:=(Qw.1 h).1;simp only[QG]at this;omega
theorem Inv.lt{b:List zaC}{a:List (List UInt8)}(h:Inv b a){j:Nat}{v:List UInt8}(c:a[j]? = some v):j<b.length:=by
 rw[h.len];exact(Qw.1 c).1
theorem Inv.inj{e:List zaC}{a:List (List UInt8)}(h:Inv e a){i j:Nat}{v:List UInt8}(f:a[i]? = some v)(c:a[j]? = some v):i=j:=by
 obtain⟨h1,b⟩:=Qw.1 f;obtain⟨h2,d⟩:=Qw.1 c;exact(List.getElem_inj h.trie.uniq).1 (b.trans d.symm)
theorem Inv.kid{l:List zaC}{k:List (List UInt8)}(h:Inv l k){u:Nat}{p:List UInt8}{b:UInt8}(m:k[u]? = some p){j:Nat}:k[j]? = some (p++[b])↔(0<j/\∃n,l[j]? = some n/\n.up=u/\n.b=b):=by
 constructor
 ·intro i
  have a:0<j:=by
   rcases ZO j with e|e
   ·subst e
    rw[h.trie.root]at i;have:=QD i;exact absurd this.symm (by simp)
   ·exact e
  obtain⟨n,c⟩:∃n,l[j]? = some n:=⟨_,Qc (h.lt i)⟩
  obtain⟨_,_,o,f,d,_,g,_⟩:=h.node j n a c;rw[i]at g;obtain⟨r,q⟩:=List.append_inj' (QD g) rfl;refine⟨a,n,c,h.inj (v:=o) d (by rw[<-r];exact m),?_⟩
  simpa using q.symm
 ·rintro⟨a,n,c,rfl,rfl⟩
  obtain⟨_,_,o,f,d,_,g,_⟩:=h.node j n a c;rw[m]at d;rw[QD d];exact g
theorem Inv.fail_at{c:List zaC}{a:List (List UInt8)}(h:Inv c a){j:Nat}{n:zaC}(g:0<j)(k:c[j]? = some n){v:List UInt8}(d:a[j]? = some v):n.fail<j/\∃f,a[n.fail]? = some f/\IsFail a v f:=by
 obtain⟨_,h2,p,f,_,i,b,e⟩:=h.node j n g k;rw[d]at b;rw[QD b];exact⟨h2,f,i,e⟩
theorem Inv.add{l:List zaC}{d:List (List UInt8)}(h:Inv l d){u fl:Nat}{b:UInt8}{p f:List UInt8}(o:d[u]? = some p)(s:d[fl]? = some f)(y:p++[b] ∉ d)(hl:∀v,v∈d->v.length<=p.length+1)
 (a:f∈d/\f <:+p++[b]/\f≠p++[b]/\∀u,u∈d->u <:+p++[b]->u≠p++[b]->u <:+f):Inv (l++[⟨b,u,fl⟩]) (d++[p++[b]]) where
 len:=by rw[Qa,Qa,h.len];rfl
 trie:=zvu h.trie (Xf o) y hl
 zero:=by rw[Zo (Qw.1 h.zero).1];exact h.zero
 node j n hj hjn:=by
  have up:∀{i v},d[i]? = some v->(d++[p++[b]])[i]? = some v:=λ{i v} e=>by
   rw[Zo (Qw.1 e).1];exact e
  rcases ZN j l.length with c|c
  ·rw[Zo c]at hjn
   obtain⟨h1,h2,q,g,z,w,t,A⟩:=h.node j n hj hjn;refine⟨h1,h2,q,g,up z,up w,up t,A.more ?_⟩;have:=hl _ (Xf t);rw[Qa,QG]at this ⊢;rw[Qa,QG];omega
  ·have m:=(Qw.1 hjn).1
   rw[Qa,QG]at m;have e:j=l.length:=by omega
   subst e;rw[QZ (Qd _),Xh]at hjn;have r:n=⟨b,u,fl⟩:=(QD hjn).symm;subst r;refine⟨h.lt o,h.lt s,p,f,up o,up s,?_,Zr _ a.1,a.2.1,a.2.2.1,λx k h1 h2=>?_⟩
   ·rw[h.len,QZ (Qd _),Xh];rfl
   ·rcases QN.1 k with k|k
    ·exact a.2.2.2 x k h1 h2
    ·exact absurd (QE.1 k) h2
def zwh(ws:List (List UInt8))(n:Nat)(v:List UInt8):Prop:=v.length<=n/\∃w,w∈ws/\v <+:w
structure Lev(ws:List (List UInt8))(n:Nat)(ns:List zaC)(ss:List (List UInt8)):Prop where
 inv:Inv ns ss
 mem:∀v,v∈ss↔zwh ws n v
theorem zwI{ws:List (List UInt8)}(h:ws≠[])(n:Nat):zwh ws n []:=by
 obtain⟨w,a⟩:=List.exists_mem_of_ne_nil ws h;exact⟨Qm _,w,a,List.nil_prefix⟩
theorem zrT{ws:List (List UInt8)}(h:ws≠[]):Lev ws 0 [⟨0,0,0⟩] [[]] where
 inv:=ztm
 mem v:=by
  rw[QE]
  constructor
  ·rintro rfl;exact zwI h 0
  ·rintro⟨h1,_⟩;exact QA (by omega)
theorem zv6{ws:List (List UInt8)}{n:Nat}{v:List UInt8}:zwh ws (n+1) v↔zwh ws n v\/∃w,w∈ws/\n<w.length/\v=w.take (n+1):=by
 constructor
 ·rintro⟨h1,w,a,b⟩
  by_cases c:v.length<=n
  ·exact .inl ⟨c,w,a,b⟩
  ·have hl:=b.length_le
   refine .inr ⟨w,a,by omega,?_⟩;have:=List.prefix_iff_eq_take.1 b;rw[this,show v.length=n+1 by omega]
 ·rintro(⟨h1,w,a,b⟩|⟨w,a,hl,rfl⟩)
  ·exact⟨by omega,w,a,b⟩
  ·exact⟨by rw[Qz];omega,w,a,List.take_prefix _ _⟩
theorem Lev.words{ws:List (List UInt8)}{n:Nat}{d:List zaC}{c:List (List UInt8)}(h:Lev ws n d c)(e:∀w,w∈ws->w.length<=n):∀k,k<ws.length->ws.getD k []∈c:=λk b=>by
 have a:ws.getD k []∈ws:=by rw[Qk,Qc b];exact Qy b
 exact(h.mem _).2 ⟨e _ a,_,a,List.prefix_refl _⟩
structure AtOk(ws:List (List UInt8))(n:Nat)(ss:List (List UInt8))(at0:List Nat):Prop where
 len:at0.length=ws.length
 str:∀k,k<ws.length->ss[at0.getD k 0]? = some ((ws.getD k []).take n)
theorem zwp{ws:List (List UInt8)}:AtOk ws 0 [[]] (List.replicate ws.length 0) where
 len:=by simp
 str k hk:=by
  have:(List.replicate ws.length 0).getD k 0=0:=by rw[Qk];simp[hk]
  rw[this,XR];rfl
structure EdgesOf(ws:List (List UInt8))(n:Nat)(at0:List Nat)(es:List (Nat × UInt8)):Prop where
 nod:es.Nodup
 mem:∀e,e∈es↔∃k,k<ws.length/\n<(ws.getD k []).length/\e=(at0.getD k 0,(ws.getD k []).getD n 0)
def strE(a:List (List UInt8))(e:Nat × UInt8):List UInt8:=a.getD e.1 []++[e.2]
theorem zco{w:List UInt8}{n:Nat}(h:n<w.length):w.take (n+1)=w.take n++[w.getD n 0]:=by
 rw[Qq h,Qk,Qc h];rfl
theorem zeI{ws:List (List UInt8)}{n:Nat}{a:List (List UInt8)}{b:List Nat}{es:List (Nat × UInt8)}(f:AtOk ws n a b)(d:EdgesOf ws n b es){e:Nat × UInt8}(h:e∈es):
 ∃k,k<ws.length/\n<(ws.getD k []).length/\strE a e=(ws.getD k []).take (n+1)/\a[e.1]? = some ((ws.getD k []).take n)/\((ws.getD k []).take n).length=n:=by
 obtain⟨k,h1,h2,rfl⟩:=(d.mem e).1 h;have c:=f.str k h1;refine⟨k,h1,h2,?_,c,by rw[Qz];omega⟩;unfold strE;rw[zco h2,Qk,c]
 rfl
theorem zvm{ws:List (List UInt8)}{n:Nat}{i:List zaC}{a:List (List UInt8)}{c:List Nat}{es:List (Nat × UInt8)}(o:Inv i a)(g:AtOk ws n a c)(f:EdgesOf ws n c es){e b:Nat × UInt8}(h:e∈es)(k:b∈es)(m:strE a e=strE a b):e=b:=by
 obtain⟨_,_,_,_,h1,_⟩:=zeI g f h;obtain⟨_,_,_,_,h2,_⟩:=zeI g f k;obtain⟨d,j⟩:=List.append_inj' (show a.getD e.1 []++[e.2]=a.getD b.1 []++[b.2]from m) rfl;rw[Qk,Qk,h1,h2]at d;have p:e.1=b.1:=o.inj h1 (by rw[h2];exact Zt some d.symm);have l:e.2=b.2:=by simpa using j
 exact Prod.ext p l
structure Mid(ws:List (List UInt8))(n:Nat)(ss0:List (List UInt8))(es:List (Nat × UInt8))(i:Nat)(ns:List zaC)(ss:List (List UInt8)):Prop where
 inv:Inv ns ss
 str:ss=ss0++(es.take i).map (strE ss0)
theorem Mid.up{ws:List (List UInt8)}{n:Nat}{a:List (List UInt8)}{es:List (Nat × UInt8)}{i:Nat}{d:List zaC}{c:List (List UInt8)}(h:Mid ws n a es i d c){j:Nat}{v:List UInt8}(b:a[j]? = some v):c[j]? = some v:=by
 rw[h.str,Zo (Qw.1 b).1];exact b
theorem Mid.next{ws:List (List UInt8)}{n:Nat}{q z:List zaC}{a m:List (List UInt8)}{g:List Nat}{es:List (Nat × UInt8)}{i:Nat}(hl:Lev ws n q a)(t:AtOk ws n a g)(o:EdgesOf ws n g es)(h:Mid ws n a es i z m)(y:i<es.length):
 ∃p,m[es[i].1]? = some p/\strE a es[i]=p++[es[i].2]/\p++[es[i].2] ∉ m/\∀v,v∈m->v.length<=p.length+1:=by
 obtain⟨k,h1,h2,D,u,w⟩:=zeI t o (Qy y);have b:strE a es[i]=(ws.getD k []).take n++[es[i].2]:=by unfold strE;rw[Qk,u];rfl
 have x:(strE a es[i]).length=n+1:=by rw[b,Qa,w];rfl
 refine⟨_,h.up u,b,?_,λv d=>?_⟩
 ·rw[<-b,h.str]
  intro l
  rcases QN.1 l with l|l
  ·have:=((hl.mem _).1 l).1
   omega
  ·obtain⟨e,c,s⟩:=QO.1 l
   obtain⟨j,B,f⟩:=Z4 c;rw[Qz]at B;rw[List.getElem_take]at f;have r:j<es.length:=by omega
   have:es[j]=es[i]:=zvm hl.inv t o (Qy r) (Qy y) (by rw[f];exact s);have:=(List.getElem_inj o.nod).1 this;omega
 ·rw[w]
  rw[h.str]at d
  rcases QN.1 d with d|d
  ·have:=((hl.mem _).1 d).1
   omega
  ·obtain⟨e,c,rfl⟩:=QO.1 d
   obtain⟨_,_,_,C,A,E⟩:=zeI t o (ZK c);unfold strE;rw[Qk,A];simp only[XF,Qa,QG];omega
theorem Mid.step{ws:List (List UInt8)}{n:Nat}{d:List zaC}{c a:List (List UInt8)}{es:List (Nat × UInt8)}{i:Nat}(h:Mid ws n c es i d a)(k:i<es.length){p f:List UInt8}{fl:Nat}(g:a[es[i].1]? = some p)(j:strE c es[i]=p++[es[i].2])(l:p++[es[i].2] ∉ a)(hl:∀v,v∈a->v.length<=p.length+1)
 (e:a[fl]? = some f) (b:f∈a/\f <:+p++[es[i].2]/\f≠p++[es[i].2]/\∀u,u∈a->u <:+p++[es[i].2]->u≠p++[es[i].2]->u <:+f):Mid ws n c es (i+1) (d++[⟨es[i].2,es[i].1,fl⟩]) (a++[p++[es[i].2]]) where
 inv:=h.inv.add g e l hl b
 str:=by
  rw[Qq k,QU,<-QH,<-h.str];rw[QX,ZE,j]
theorem Mid.done{ws:List (List UInt8)}{n:Nat}{c i:List zaC}{a g:List (List UInt8)}{b:List Nat}{es:List (Nat × UInt8)}(hl:Lev ws n c a)(o:AtOk ws n a b)(m:EdgesOf ws n b es)(h:Mid ws n a es es.length i g):Lev ws (n+1) i g where
 inv:=h.inv
 mem v:=by
  rw[h.str,QV,QN,hl.mem v,zv6];refine or_congr_right ⟨λr=>?_,?_⟩
  ·obtain⟨e,h1,rfl⟩:=QO.1 r
   obtain⟨k,j,p,s,_,_⟩:=zeI o m h1;exact⟨ws.getD k [],by rw[Qk,Qc j];exact Qy j,p,s⟩
  ·rintro⟨w,q,h1,rfl⟩
   obtain⟨k,f,rfl⟩:=Z4 q;have d:ws.getD k []=ws[k]:=by rw[Qk,Qc f];rfl
   refine QO.2 ⟨(b.getD k 0,(ws.getD k []).getD n 0),(m.mem _).2 ⟨k,f,by rw[d];exact h1,rfl⟩,?_⟩;unfold strE;rw[Qk (l:=a),o.str k f,<-d,zco (by rw[d];exact h1)]
   rfl
theorem Mid.go{ws:List (List UInt8)}{n:Nat}{p:List zaC}{b c:List (List UInt8)}{a:List Nat}{es:List (Nat × UInt8)}(f:AtOk ws n b a)(m:EdgesOf ws n a es)(h:Mid ws n b es es.length p c){k:Nat}(d:k<ws.length)(g:n<(ws.getD k []).length):
 ∃j:Nat,c[j]? = some ((ws.getD k []).take (n+1))/\c[a.getD k 0]? = some ((ws.getD k []).take n):=by
 have i:(ws.getD k []).take (n+1)∈c:=by
  rw[h.str,QV];refine Z8 _ (QO.2 ⟨(a.getD k 0,(ws.getD k []).getD n 0),(m.mem _).2 ⟨k,d,g,rfl⟩,?_⟩);unfold strE;rw[Qk (l:=b),f.str k d,zco g]
  rfl
 obtain⟨j,o,e⟩:=Z4 i;exact⟨j,by rw[Qc o,e],h.up (f.str k d)⟩
structure FailAt(ss:List (List UInt8))(f:List UInt8)(b:UInt8)(a:Nat):Prop where
 cand:∃v,ss[a]? = some v/\Cand ss f b v
theorem zne{c:List (List UInt8)}{f:List UInt8}{b:UInt8}{a:Nat}(h:c[a]? = some f):FailAt c f b a:=
 ⟨f,h,zgS b ⟨Xf h,List.suffix_refl _,λ_ _ d=>d⟩⟩
theorem FailAt.found{d:List zaC}{c:List (List UInt8)}{f:List UInt8}{b:UInt8}{a j:Nat}(e:Inv d c)(h:FailAt c f b a)(g:0<j/\∃n,d[j]? = some n/\n.up=a/\n.b=b):∃v,c[j]? = some v/\zfG c (f++[b]) v:=by
 obtain⟨v,i,k⟩:=h.cand;have:=(e.kid i).2 g;exact⟨_,this,zrj e.trie k (Xf this)⟩
theorem FailAt.none{g:List zaC}{c:List (List UInt8)}{f:List UInt8}{b:UInt8}(a:Inv g c)(h:FailAt c f b 0)(m:∀j,¬(0<j/\∃n,g[j]? = some n/\n.up=0/\n.b=b)):zfG c (f++[b]) []:=by
 obtain⟨v,d,i⟩:=h.cand;rw[a.trie.root]at d;rw[<-QD d]at i;refine zsY a.trie i λk=>?_
 obtain⟨j,l,e⟩:=Z4 k;exact m j ((a.kid a.trie.root).1 (by rw[Qc l,e];rfl))
theorem FailAt.next{d:List zaC}{c:List (List UInt8)}{f:List UInt8}{b:UInt8}{a:Nat}{x:zaC}(i:Inv d c)(h:FailAt c f b a)(l:0<a)(o:d[a]? = some x)(p:∀j,¬(0<j/\∃n,d[j]? = some n/\n.up=a/\n.b=b)):FailAt c f b x.fail/\x.fail<a:=by
 obtain⟨v,k,s⟩:=h.cand;obtain⟨h1,g,h2,m⟩:=i.fail_at l o k;refine⟨⟨g,h2,zs4 s (λq=>?_) m⟩,h1⟩;obtain⟨j,r,e⟩:=Z4 q;exact p j ((i.kid k).1 (by rw[Qc r,e]))
