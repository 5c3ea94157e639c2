/- Lemmas for the last texts. -/
import Derived.Test.YtnnokglddolglaaGreatDoorM03
import Derived.Deep.Cut
set_option maxHeartbeats 1600000
set_option maxRecDepth 100000
namespace Go.Proofs.YtnnokglddolglaaGreatDoor
open Go.RowKit Go.Proofs.Tryz
mutual
def nodes:Tree->Nat
 |.node _ _ a=>1+zcC a
def zcC:List Tree->Nat
 | []=>0
 |t::a=>nodes t+zcC a
end
theorem zfT{t:Tree}{at_:Nat}{l:List Ins}(h:Code t at_ l):l.length<=2*nodes t:=by
 induction h with
 |none=>simp[nodes,zcC]
 |empty=>simp
 |byte=>simp[nodes,zcC]
 |begin=>simp[nodes,zcC]
 |finish=>simp[nodes,zcC]
 |cat S a b at_ c d _ _ h1 h2=>simp only[nodes,zcC,Qa];omega
 |alt S a b at_ c d _ _ h1 h2=>simp only[nodes,zcC,Qa,Qo];omega
 |star S a at_ c _ h1=>simp only[nodes,zcC,Qa,Qo,QR];omega
def Keeps(w w':World):Prop:=∀(g:Nat) (cs:Array Value) (t:TypeId) (a:Nat × Nat),235≠t->w.heap[g]? = some (Obj.cells cs t a)->w'.heap[g]? = some (Obj.cells cs t a)
theorem Keeps.trans{a b c:World}(h:Keeps a b)(k:Keeps b c):Keeps a c:=λg cs t d e f=>k g cs t d e (h g cs t d e f)
theorem zaq{w:World}{g:Nat}{o:Obj}(h:w.heap[g]? = some o):g<w.heap.size:=by
 rcases ZN g w.heap.size with b|a
 ·exact b
 ·rw[Z1 a]at h;cases h
theorem Keeps.below{w w':World}(hb:Below w.heap.size w w'):Keeps w w':=λg _ _ _ _ a=>(hb.block g (zaq a)).trans a
theorem Keeps.alloc(w:World)(o:Obj):Keeps w (w.alloc o):=Keeps.below ((Qg _ _).alloc (Qd _) o)
theorem Keeps.own{w w':World}{base:Nat}{v:Value}{l:List Ins}(h:OwnP w base v l)(b:∀g,g<w.heap.size->v.ownBlock≠some g->w'.heap[g]? = w.heap[g]?):Keeps w w':=λg _ _ _ c a=>(b g (zaq a) (zbA h a c)).trans a
theorem Keeps.only{w w':World}{base g:Nat}{c n:Nat}{l:List Ins}(h:OwnP w base (.slice (some ⟨g,0,none⟩) n c) l)(b:w.grownBy w' (some g)):Keeps w w':=λk _ _ _ d a=>
 (b.block k (zaq a) (λe=>zbA h a d e.symm)).trans a
def zhR(t:Tree)(p:List Ins)(B:Nat)(w:World)(e:Ending)(w':World):Prop:=
 ∃v' l,e=.returned v'/\Code t p.length l/\OwnP w' B v' (p++l)/\Below B w w'/\Keeps w w'/\w.heap.size<=w'.heap.size
def CodeC(t:Tree):Prop:=∀(A:Option Addr) (c:Nat) (w:World) (B:Nat) (v:Value) (p:List Ins),B<=w.heap.size->LK w B t.kids A->OwnP w B v p->p.length+2*nodes t<=1000->
 Calls prog 140 #[v,argX t A c] w (zhR t p B w)
theorem zhs(k:Int)(S:Set4)(x:Ins)(q:(k=1\/k=3)/\x=⟨1,0,0,S⟩\/k=7/\x=⟨4,0,0,.zero⟩\/k=8/\x=⟨5,0,0,.zero⟩)(n:∀at_,Code (.node k S []) at_ [x]):CodeC (.node k S []):=by
 intro A c w B v p m _ l t;have r:=hIx n;obtain⟨s,c0,rfl,_⟩:=l.form;have e:∀o,OwnP (w.alloc o) B (.slice s p.length c0) p:=λo=>l.below ((Qg _ _).alloc (Qd _) o)
 have y:p.length<=1000:=by omega
 have j:=hIx m;unfold argX;obtain⟨a,b,u,d⟩:=S;dsimp only[Tree.kind,Tree.set,Tree.kids,List.length_nil];clear n t m
 rcases q with ⟨rfl|rfl,rfl⟩|⟨rfl,rfl⟩|⟨rfl,rfl⟩
 all_goals
  go_in
  go_wp2_with (at_builtin;refine zb5 rfl _ _ rfl B _ p rfl (e _) (by simp;exact XX j.out) _ ⟨_,0,0,⟨_,_,_,_⟩⟩ rfl (w.heap.size+1) (by simp) 1 rfl (by omega) ?_;intro v' w' f i g h);go_ret;exact⟨v',_,rfl,r.out _,f,((Qg _ _).alloc j.out _).trans i,(Keeps.alloc _ _).trans (Keeps.own (e _) g),by simp at h;omega⟩
theorem CodeC.call{t:Tree}(ih:CodeC t){w:World}{B:Nat}{A:Option Addr}{c:Nat}(h:LT w B t (zap t.kind t.set A t.kids.length c)):
 ∀(W:World) (v:Value) (p:List Ins),B<=W.heap.size->Below B w W->OwnP W B v p->p.length+2*nodes t<=1000->Calls prog 140 #[v,argX t A c] W (zhR t p B W):=λW v p l hb g k=>by
 obtain⟨i,a,e,_,d⟩:=h.parts;have f:Value.slice A t.kids.length c=.slice i t.kids.length a:=by unfold zap at e;injection e with _ e;injection e with _ e;injection e with _ e;injection e with _ e;injection e with _ e;injection e with e
 injection f with b _ j
 subst b;subst j
 exact ih A c W B v p l (d.below hb) g k
def boxX(k:Int)(a b c d:Int)(A:Option Addr)(n q:Nat):Obj:=.cells #[.int .i64 k,.int .u64 a,.int .u64 b,.int .u64 c,.int .u64 d,.slice A n q] 185
theorem zjl{w W:World}{k a b c d:Int}{A:Option Addr}{n q:Nat}(h:Keeps (w.alloc (boxX k a b c d A n q)) W):W.cell? ⟨w.heap.size,5,none⟩=some (.slice A n q)/\W.cell? ⟨w.heap.size,0,none⟩=some (.int .i64 k):=by
 have h1:=h w.heap.size _ 185 (0,0) (by decide) (Qp w _);exact⟨Qf W w.heap.size 5 _ _ (0,0) h1,Qf W w.heap.size 0 _ _ (0,0) h1⟩
theorem zeu{w W:World}{B b a:Nat}{t:Tree}{A:Option Addr}{c:Nat}(h:CellsAt w b a (zap t.kind t.set A t.kids.length c))(hb:Below B w W)(d:b<B):CellsAt W b a (zap t.kind t.set A t.kids.length c):=
 λj e=>(hb.cell (p:=⟨b,a+j,none⟩) d).trans (h j e)
theorem zri(S:Set4):CodeC (.node 2 S []):=by
 intro A c w B v p h _ f j;obtain⟨g,c0,rfl,_⟩:=f.form;have e:∀o,OwnP (w.alloc o) B (.slice g p.length c0) (p++[]):=λo=>by rw[QI];exact f.below ((Qg _ _).alloc (Qd _) o)
 unfold argX;obtain⟨a,b,i,d⟩:=S;dsimp only[Tree.kind,Tree.set,Tree.kids,List.length_nil]
 go_in
 go_wp2;go_ret;exact⟨_,[],rfl,.empty _ _,e _,(Qg _ _).alloc h _,Keeps.alloc _ _,by simp⟩
theorem zvv(S:Set4)(N O:Tree)(x:CodeC N)(s:CodeC O):CodeC (.node 4 S [N,O]):=by
 intro A c w B v p P L K hn;obtain⟨bb,h0,ca,cb,rfl,r,g,i,y,m⟩:=LK.two L;obtain⟨A1,c1,rfl,_,_⟩:=i.parts;obtain⟨A2,c2,rfl,_,_⟩:=m.parts;have J:=hIx (x.call i);have T:=hIx (s.call m);have HX:=hIx λW hb=>zeu g (W:=W) hb r
 have HY:=hIx λW hb=>zeu y (W:=W) hb r
 simp only[nodes,zcC]at hn;obtain⟨X,c0,rfl,_⟩:=K.form;have F:∀o,OwnP (w.alloc o) B (.slice X p.length c0) p:=λo=>K.below ((Qg _ _).alloc (Qd _) o)
 have j:Hid (∀k a b c d A n q W,Keeps (w.alloc (boxX k a b c d A n q)) W->_):=λk a b c d A n q W h=>zjl h
 unfold boxX at j;unfold argX at J T ⊢;obtain⟨a,b,c',d⟩:=S;dsimp only[Tree.kind,Tree.set,Tree.kids,List.length_nil,List.length_cons]at j ⊢;clear L x s i m
 go_in
 obtain⟨Z,x1,Y,x3,x4,x5⟩:=g.six;clear g y;have h4:bb<w.heap.size:=by omega
 go_wp2_with fail;refine(J.out _ _ p (by simp;omega) ((Qg _ _).alloc P _) (F _) (by omega)).mono ?_;rintro e w1 ⟨v1,U,rfl,D,I,C,l,z⟩;have f:=((Qg B w).alloc P _).trans C;have E:=l;obtain⟨f5,f0⟩:=j.out _ _ _ _ _ _ _ _ _ l;obtain⟨y0,y1,y2,V,y4,y5⟩:=(HY.out _ f).six;have h5:=zfT D;have Q:w.heap.size+1<=w1.heap.size:=by simpa using z
 clear Z x1 Y x3 x4 x5 C l z;go_wp2_with fail;refine(T.out _ _ (p++U) (by omega) f I (by rw[Qa];omega)).mono ?_;rintro e w2 ⟨v2,lb,rfl,u,t,H,G,h3⟩;clear y0 y1 y2 V y4 y5 f0 f5;go_wp2;go_ret;rw[Qa]at u;exact⟨v2,U++lb,rfl,.cat _ _ _ _ _ _ D u,by rw[<-QH];exact t,f.trans H,((Keeps.alloc _ _).trans E).trans G,by omega⟩
theorem OwnP.drew{w:World}{base:Nat}{v:Value}{l:List Ins}(h:OwnP w base v l):OwnP w.drew base v l:=h
theorem OwnP.spot{w:World}{base g c:Nat}{l:List Ins}(h:OwnP w base (.slice (some ⟨g,0,none⟩) l.length c) l)(k:Nat)(a:k<l.length)(j:Nat)(b:j<7):
 w.cell? ⟨g,k*7+j,none⟩=(zbk l[k])[j]? /\ w.frozen? ⟨g,k*7+j,none⟩=false:=by
 refine⟨?_,World.ownsRow.frozenAt h _⟩;have h1:=zbM zbk 7 zcO l k j a b;have hl:=zaS zbk 7 zcO l;have h2:k*7+j<(l.flatMap zbk).length:=by omega
 have:=Zx (g:=g) h (by simp[Value.ownBlock]) (k*7+j) _ (Qc h2);rw[zbq]at this;rw[this,<-Qc h2,h1]
theorem OwnP.ab{w:World}{base g c:Nat}{l:List Ins}(h:OwnP w base (.slice (some ⟨g,0,none⟩) l.length c) l)(k:Nat)(d:k<l.length):
 (w.cell? ⟨g,k*7+1,none⟩=some (.int .i64 l[k].a)/\w.cell? ⟨g,k*7+2,none⟩=some (.int .i64 l[k].b))/\w.frozen? ⟨g,k*7+1,none⟩=false/\w.frozen? ⟨g,k*7+2,none⟩=false:=
 ⟨⟨(h.spot k d 1 (by decide)).1,(h.spot k d 2 (by decide)).1⟩,(h.spot k d 1 (by decide)).2,(h.spot k d 2 (by decide)).2⟩
theorem zto(p a:List Ins)(n:Nat)(k:Int)(b:n=p.length):(p++[(⟨2,(n:Int)+1,0,.zero⟩:Ins)]++a++[(⟨3,(n:Int),0,.zero⟩:Ins)]).set n ⟨2,(n:Int)+1,k,.zero⟩=
 p++((⟨2,(n:Int)+1,k,.zero⟩:Ins)::(a++[⟨3,(n:Int),0,.zero⟩])):=by
 subst b;rw[QH,QH,ZV _ _ (Qd _),Xh]
 rfl
theorem zrN(p a:List Ins)(x y:Ins)(h:p.length<(p++[x]++a++[y]).length):(p++[x]++a++[y])[p.length]=x:=by
 simp
theorem Keeps.undrew{w w':World}(h:Keeps w.drew w'):Keeps w w':=h
theorem ztJ(S:Set4)(t:Tree)(N:CodeC t):CodeC (.node 6 S [t]):=by
 intro A c w B v p hB T X hn;obtain⟨s,g,ca,rfl,Y,u,z⟩:=LK.one T;obtain⟨A1,c1,rfl,_,_⟩:=z.parts;have V:=hIx (N.call z);have HX:=hIx λW hb=>(zeu u (W:=W) hb Y).six
 simp only[nodes,zcC]at hn;obtain⟨A0,c0,rfl,_⟩:=X.form;have H:∀o,OwnP (w.alloc o) B (.slice A0 p.length c0) p:=λo=>X.below ((Qg _ _).alloc (Qd _) o)
 have r:Hid (∀k a b c d A n q W,Keeps (w.alloc (boxX k a b c d A n q)) W->_):=λk a b c d A n q W h=>(zjl h).1
 unfold boxX at r;unfold argX at V ⊢;obtain⟨a,b,c',d⟩:=S;dsimp only[Tree.kind,Tree.set,Tree.kids,List.length_nil,List.length_cons]at r ⊢;clear T N z;have h8:=hIx X;have i1:IntKind.i64.wrap ((p.length:Int)+1)=(p.length:Int)+1:=Qx _ (by omega)
 go_in
 obtain⟨x0,x1,x2,x3,x4,x5⟩:=u.six;clear u;have hf:s<w.heap.size:=by omega
 go_wp2_with fail;have J:∀o,B<=(w.alloc o).heap.size:=λo=>by simp;omega
 have HS:=hIx λW T hb=>And.intro (r.out 6 a b c' d (some ⟨s,g,none⟩) 1 c W T) (HX.out W hb)
 go_region_held3 (λw'=>w'.cell? ⟨w.heap.size,5,none⟩=some (.slice (some ⟨s,g,none⟩) 1 c)/\w'.cell? ⟨s,g,none⟩=some (.int .i64 t.kind)/\w'.cell? ⟨s,g+1,none⟩=some (.int .u64 t.set.a)/\w'.cell? ⟨s,g+2,none⟩=some (.int .u64 t.set.b)/\
  w'.cell? ⟨s,g+3,none⟩=some (.int .u64 t.set.c)/\w'.cell? ⟨s,g+4,none⟩=some (.int .u64 t.set.d)/\w'.cell? ⟨s,g+5,none⟩=some (.slice A1 t.kids.length c1))
  (first|exact HS.out _ (l.trans C) (f.trans E)|exact HS.out _ l f|go_keep)
  (first
   |(refine zfn rfl (.tmp 85) (.tmp 89) rfl B (.slice A0 p.length c0) p rfl (H _).drew (J _) _ ⟨2,(p.length:Int)+1,0,.zero⟩ rfl (w.heap.size+1) (by simp) 1 rfl (by omega) ?_;intro v8 w8 P I O h5;have l:=Keeps.undrew (Keeps.own (H _).drew O);have f:Below B w w8:=((Qg B w).alloc hB _).drew.trans I)
   |(go_at_call 140;(with_reducible refine(V.out w8 v8 (p++[⟨2,(p.length:Int)+1,0,.zero⟩]) (Qn hB f.size) f P (by rw[Qa,QG];omega)).mono ?_);rintro e w1 ⟨v1,i,rfl,F,y,E,C,hi⟩))
 rw[Qa,QG]at F;have hg:=zfT F;have m:=f.trans E;have G:=l.trans C;clear V HS HX r E C I O x0 x1 x2 x3 x4 x5 P J;have he:=m.size;have U:B<=w1.heap.size:=Qn hB m.size;obtain⟨h7,hh,rfl,_⟩:=y.form;have Z:(p++[(⟨2,(p.length:Int)+1,0,.zero⟩:Ins)]++i).length=p.length+1+i.length:=by simp;omega
 have HM:Hid (∀k,((p++[(⟨2,(p.length:Int)+1,0,.zero⟩:Ins)]++i++[(⟨3,(p.length:Int),0,.zero⟩:Ins)]).set p.length ⟨2,(p.length:Int)+1,k,.zero⟩)=p++((⟨2,(p.length:Int)+1,k,.zero⟩:Ins)::(i++[⟨3,(p.length:Int),0,.zero⟩]))):=hIx λk=>zto p i _ k rfl
 have Q:Hid (∀h,(p++[(⟨2,(p.length:Int)+1,0,.zero⟩:Ins)]++i++[(⟨3,(p.length:Int),0,.zero⟩:Ins)])[p.length]'h=⟨2,(p.length:Int)+1,0,.zero⟩):=λh=>zrN p i _ _ h
 have D:Hid ((p++[(⟨2,(p.length:Int)+1,0,.zero⟩:Ins)]++i++[(⟨3,(p.length:Int),0,.zero⟩:Ins)]).length=p.length+1+i.length+1):=hIx (by simp;omega);generalize hL:p++[(⟨2,(p.length:Int)+1,0,.zero⟩:Ins)]++i++[(⟨3,(p.length:Int),0,.zero⟩:Ins)]=L at HM Q D;go_wp2_with (at_builtin;refine zb5 rfl _ _ rfl B _ (p++[⟨2,(p.length:Int)+1,0,.zero⟩]++i) rfl y U _ ⟨3,p.length,0,.zero⟩ rfl w1.heap.size rfl 1 rfl (by rw[Z];omega) ?_;intro v2 w2 j h3 h0 hd;rw[hL]at j;have K:p.length<L.length:=(by rw[D.out];omega);have ha:(p.length:Int)<(L.length:Int):=(by omega);obtain⟨gq,cq,rfl,h4,h6⟩:=j.head (by omega);have ⟨⟨_,hc⟩,_,h9⟩:=j.ab p.length K);go_ret;have x:=j.setAB p.length K 2 (by decide) (.int .i64 (L.length:Int)) ⟨2,(p.length:Int)+1,((p.length+1+i.length+1:Nat):Int),.zero⟩ (by rw[Q.out,D.out];rfl);rw[HM.out]at x;exact⟨_,_,rfl,.star _ _ _ _ F,x.1,(m.trans h3).setCell h4 _,(((Keeps.alloc _ _).trans G).trans (Keeps.own y h0)).trans (Keeps.only j x.2),by simp;omega⟩
theorem OwnNT.alloc{w:World}{v:Value}{l:List Nat}(h:OwnNT w v l)(o:Obj):OwnNT (w.alloc o) v l:=h.keep λg a=>Qt _ _ _ (h.lt g a)
theorem zev{P:List Ins}{s:List UInt8}{i k:Nat}{x:Ins}(h:P[k]? = some x)(m:Nat):Eps P s i k m↔(x.kind=2/\(m=x.a.toNat\/m=x.b.toNat))\/(x.kind=3/\m=x.a.toNat)\/(x.kind=4/\i=0/\m=k+1)\/(x.kind=5/\i=s.length/\m=k+1):=by
 constructor
 ·intro d
  cases d with
  |one y h1 h2=>rw[h]at h1;injection h1 with h1;subst h1;exact .inl ⟨h2,.inl rfl⟩
  |two y h1 h2=>rw[h]at h1;injection h1 with h1;subst h1;exact .inl ⟨h2,.inr rfl⟩
  |jump y h1 h2=>rw[h]at h1;injection h1 with h1;subst h1;exact .inr (.inl ⟨h2,rfl⟩)
  |begin y h1 h2 c=>rw[h]at h1;injection h1 with h1;subst h1;exact .inr (.inr (.inl ⟨h2,c,rfl⟩))
  |finish y h1 h2 c=>rw[h]at h1;injection h1 with h1;subst h1;exact .inr (.inr (.inr ⟨h2,c,rfl⟩))
 ·rintro(⟨h2,rfl|rfl⟩|⟨h2,rfl⟩|⟨h2,c,rfl⟩|⟨h2,c,rfl⟩)
  ·exact .one _ _ h h2
  ·exact .two _ _ h h2
  ·exact .jump _ _ h h2
  ·exact .begin _ _ h h2 c
  ·exact .finish _ _ h h2 c
theorem OwnNT.cap{w:World}{g n c:Nat}{l:List Nat}(h:OwnNT w (.slice (some ⟨g,0,none⟩) n c) l):l.length<=c:=by
 rcases h.2 with ⟨h1,_⟩|⟨d,cap,a,h1,_,_,b,_⟩
 ·cases h1
 ·injection h1 with _ _ h1
  rw[h1];exact b
theorem OwnP.keep{w w':World}{v:Value}{l:List Ins}(h:OwnP w 0 v l)(b:∀g,v.ownBlock=some g->w'.heap[g]? = w.heap[g]?):OwnP w' 0 v l:=by
 refine⟨h.1,?_⟩
 rcases h.2 with d|⟨g,cap,a,h1,h2,e,c⟩
 ·exact .inl d
 ·exact .inr ⟨g,cap,a,h1,h2,(b g (by rw[h1];rfl)).trans e,c⟩
structure Kept(w wr:World)(gt gF:Nat)(vl vl':Value):Prop where
 blocks:∀k,k<w.heap.size->k≠gt->k≠gF->vl.ownBlock≠some k->wr.heap[k]? = w.heap[k]?
 own:∀g,vl'.ownBlock=some g->vl.ownBlock=some g\/w.heap.size<=g
 below:Below 0 w wr
structure AddR(P:List Ins)(s:ByteArray)(i n f:Nat)(F:Nat->Nat)(ls:List Nat)(gt gF:Nat)(pv vl:Value)(w:World)(vt:Value)(wr:World)(todo:List Nat)(G:Nat->Nat)(lg:List Nat)(vl':Value):Prop where
 stk:OwnNT wr vt todo
 thr:ThM wr gt pv s gF P.length vl' G lg
 dfs:DfsI P s.data.toList i n f F ls G lg todo
 small:∀k∈todo,k<P.length
 len:todo.length+unmet P.length G<=1+P.length
 prg:OwnP wr 0 pv P
 new:∀g,vt.ownBlock=some g->w.heap.size<=g/\vl'.ownBlock≠some g
 kept:Kept w wr gt gF vl vl'
structure AddA(P:List Ins)(s:ByteArray)(gt gF:Nat)(pv vl:Value)(w:World)(gq cq:Nat)(W3:World)(td:List Nat)(G:Nat->Nat)(lg:List Nat)(v3:Value):Prop where
 stk:OwnNT W3 (.slice (some ⟨gq,0,none⟩) td.length cq) td
 thr:ThM W3 gt pv s gF P.length v3 G lg
 prg:OwnP W3 0 pv P
 new:w.heap.size<=gq/\v3.ownBlock≠some gq
 kept:Kept w W3 gt gF vl v3
theorem AddR.after{P:List Ins}{s:ByteArray}{i n f:Nat}{F:Nat->Nat}{U:List Nat}{l d:Nat}{H S:Value}{w wr:World}{o Q k:Nat}{K:List Nat}{G:Nat->Nat}{p:List Nat}{m:Value}
 (h:AddR P s i n f F U l d H S w (.slice (some ⟨o,0,none⟩) (K++[k]).length Q) wr (K++[k]) G p m) (c:G k=0) (V:k<P.length) (W:l<w.heap.size) (h0:d<w.heap.size) {u:Value} (hu:u=.int .i64 ((f+1:Nat):Int))
 {q:World} {g cap:Nat} (h1:OwnNT q (.slice (some ⟨g,0,none⟩) (p++[k]).length cap) (p++[k])) (h2:∀j,j<(wr.setCell ⟨d,k,none⟩ u).heap.size->m.ownBlock≠some j->q.heap[j]? = (wr.setCell ⟨d,k,none⟩ u).heap[j]?)
 (b:m.ownBlock=some g\/(wr.setCell ⟨d,k,none⟩ u).heap.size<=g) (h6:Below 0 (wr.setCell ⟨d,k,none⟩ u) q):
 AddA P s l d H S w o Q (q.setCell ⟨l,3,none⟩ (.slice (some ⟨g,0,none⟩) (p++[k]).length cap)) K (upd G k (f+1)) (p++[k]) (.slice (some ⟨g,0,none⟩) (p++[k]).length cap):=by
 subst hu;have Y:(wr.setCell ⟨d,k,none⟩ (.int .i64 ((f+1:Nat):Int))).heap.size=wr.heap.size:=by simp
 rw[Y]at h2 b;have Z:=h.kept.below.size;obtain⟨T,n2⟩:=h.thr.ne;have I:=h.new o rfl;have J:=h.stk.lt o rfl;have C:o≠d:=by omega
 have D:o≠l:=by omega
 have B:g≠d:=λe=>by
  rcases b with b|b
  ·exact h.thr.far (by rw[b,e])
  ·omega
 have A:g≠l:=λe=>by
  rcases b with b|b
  ·exact n2 (by rw[b,e])
  ·omega
 have z:g≠o:=λe=>by
  rcases b with b|b
  ·exact I.2 (by rw[b,e])
  ·omega
 have O:∀j,j≠d->(wr.setCell ⟨d,k,none⟩ (.int .i64 ((f+1:Nat):Int))).heap[j]? = wr.heap[j]? := λj a=>Ql wr ⟨d,k,none⟩ _ j a
 have E:∀j,j≠l->(q.setCell ⟨l,3,none⟩ (.slice (some ⟨g,0,none⟩) (p++[k]).length cap)).heap[j]? = q.heap[j]? := λj a=>Ql q ⟨l,3,none⟩ _ j a
 have x:∀j,j<wr.heap.size->j≠d->j≠l->m.ownBlock≠some j->(q.setCell ⟨l,3,none⟩ (.slice (some ⟨g,0,none⟩) (p++[k]).length cap)).heap[j]? = wr.heap[j]? := λj a r t y=>((E j t).trans (h2 j a y)).trans (O j r)
 have L:∀j,H.ownBlock=some j->j<wr.heap.size/\j≠d/\j≠l/\m.ownBlock≠some j:=λj a=>by
  refine⟨(QK h.prg j a).2,?_,?_,?_⟩
  ·intro e;subst e;exact absurd a (zbA h.prg h.thr.frm (by decide))
  ·intro e;subst e;obtain⟨cF,hb⟩:=h.thr.blk;exact absurd a (zbA h.prg hb (by decide))
  ·intro e
   rcases h.thr.lst.2 with ⟨r,_⟩|⟨g1,_,_,r,_,y,_⟩
   ·rw[r]at e;cases e
   ·rw[r]at e
    injection e with e
    have e:g1=j:=e;subst e;exact absurd a (zbA h.prg y (by decide))
 refine⟨?_,⟨?_,?_,?_,?_,?_⟩,?_,⟨I.1,λe=>z (by injection e)⟩,⟨?_,?_,?_⟩⟩
 ·exact h.stk.pop.keep λj a=>by
   have e:o=j:=by injection a
   subst e;exact x o J C D I.2
 ·exact(h.thr.blk.keep ((h2 l (by omega) n2).trans (O l T))).set _
 ·exact((h.thr.frm.set k (f+1)).keep (h2 d (by omega) h.thr.far)).keep (E d λe=>T e.symm)
 ·exact h1.keep λj a=>E j λe=>by
   have t:g=j:=by injection a
   exact A (t.trans e)
 ·intro e;exact B (by injection e)
 ·have e:=h.thr.len
  have t:=zmZ (v:=f+1) V c (by omega);rw[Qa,QG];omega
 ·exact h.prg.keep λj a=>by
   obtain⟨a1,a2,X,a4⟩:=L j a;exact x j a1 a2 X a4
 ·intro j a r t y
  have e4:m.ownBlock≠some j:=λe=>by
   rcases h.kept.own j e with N|N
   ·exact y N
   ·omega
  exact(x j (by omega) t r e4).trans (h.kept.blocks j a r t y)
 ·intro j a
  have e:g=j:=by injection a
  subst e
  rcases b with b|b
  ·exact h.kept.own g b
  ·right;omega
 ·exact((h.kept.below.setCell (Qm _) _).trans h6).setCell (Qm _) _
def zxn(P:List Ins)(s:ByteArray)(i n f:Nat)(F:Nat->Nat)(j:List Nat)(h e:Nat)(c g:Value)(w:World)(d:Value)(wr:World):Prop:=
 ∃a G k b,AddR P s i n f F j h e c g w d wr a G k b
def AddW(P:List Ins)(s:ByteArray)(i n f:Nat)(F:Nat->Nat)(j:List Nat)(c b:Nat)(g h:Value)(w:World)(e:Ending)(w':World):Prop:=
 ∃G d a,e=.returned (.tuple #[])/\ThM w' c g s b P.length a G d/\AddPost P s.data.toList i n f F j G d/\OwnP w' 0 g P/\Kept w w' c b h a
theorem AddR.next{P:List Ins}{s:ByteArray}{i n f:Nat}{F:Nat->Nat}{J:List Nat}{u l:Nat}{z D:Value}{w wr:World}{q C k:Nat}{o:List Nat}{G:Nat->Nat}{A:List Nat}{y:Value}
 (h:AddR P s i n f F J u l z D w (.slice (some ⟨q,0,none⟩) (o++[k]).length C) wr (o++[k]) G A y) (c:G k=0) (Q:k<P.length)
 {t:World} {I:Value} (a:AddA P s u l z D w q C t o (upd G k (f+1)) (A++[k]) I) (W:l<w.heap.size) (S:u<w.heap.size) {p:World} {vt5:Value} {succ:List Nat} (K:OwnNT p vt5 (o++succ))
 (b:∀j,j<t.heap.size->j≠q->p.heap[j]? = t.heap[j]?) (E:∀g,vt5.ownBlock=some g->g=q\/t.heap.size<=g) (B:Below 0 t p) (Y:∀m,m∈succ↔Eps P s.data.toList i k m) (H:∀m∈succ,m<P.length) (Z:succ.length<=2):
 zxn P s i n f F J u l z D w vt5 p/\lenV vt5+2*zmF p l<lenV (.slice (some ⟨q,0,none⟩) (o.length+1) C)+2*zmF wr l:=by
 have hu:=zmZ (v:=f+1) Q c (by omega);have hz:=a.kept.below.size;have L:=a.new;obtain⟨n1,n2⟩:=a.thr.ne;have hl:=h.len;rw[Qa,QG]at hl;have U:=b l (by omega) (by omega);have kT:=b u (by omega) (by omega);have r:FromN p l P.length (upd G k (f+1)):=a.thr.frm.keep U;refine⟨⟨o++succ,upd G k (f+1),A++[k],I,K,⟨a.thr.blk.keep kT,r,a.thr.lst.keep λj x=>b j (a.thr.lst.lt j x) λe=>L.2 (e ▸ x),a.thr.far,a.thr.len⟩,h.dfs.mark c Y,λm hm=>?_,?_,a.prg.keep λj x=>b j (QK a.prg j x).2 λe=>?_,λg O=>?_,⟨λj h1 h2 X T=>?_,a.kept.own,a.kept.below.trans B⟩⟩,?_⟩
 ·rcases QN.1 hm with h1|h1
  ·exact h.small m (by simp[h1])
  ·exact H m h1
 ·rw[Qa];omega
 ·subst e
  rcases a.stk.2 with ⟨d,_⟩|⟨g1,_,_,d,_,e3,_⟩
  ·cases d
  ·injection d with d
   injection d with d
   injection d with d
   subst d;exact absurd x (zbA a.prg e3 (by decide))
 ·rcases E g O with e|e
  ·subst e;exact L
  ·exact⟨by omega,λV=>by have:=a.thr.lst.lt g V;omega⟩
 ·exact(b j (by omega) (by omega)).trans (a.kept.blocks j h1 h2 X T)
 ·rw[r.unmet,h.thr.frm.unmet]
  obtain⟨A5,c5,N⟩:=K.form;rw[N];simp only[lenV,Qa];omega
theorem zur(P:List Ins)(he:OkP P)(h4:P.length<=400)(s:ByteArray)(i n f:Nat)(hn:n<P.length)(hf:f<=8192)(F:Nat->Nat)(ls:List Nat)(D X:Nat)(pv vl:Value)(w:World)
 (hT:ThM w D pv s X P.length vl F ls) (hP:OwnP w 0 pv P) (l:X<w.heap.size) (d:D<w.heap.size):
 Calls prog 303 #[.pointer (some ⟨D,0,none⟩),.int .i64 (n:Int),.int .i64 (i:Int),.int .i64 (f:Int)] w (AddW P s i n f F ls D X pv vl w):=by
 have hh:=hIx he;obtain⟨gp,cp,rfl,hs⟩:=OwnP.head hP (by omega)
 go_in
 go_wp2
 go_loopw [8] (λv wr=>zxn P s i n f F ls D X (.slice (some ⟨gp,0,none⟩) P.length cp) vl w v wr) (λv wr=>lenV v+2*zmF wr X)
 case atStart=>
  have z:∀o,∀k,k<w.heap.size->(w.alloc o).heap[k]? = w.heap[k]? := λo k q=>Qt _ _ _ q
  refine⟨[n],F,ls,vl,OwnNT.one w n,⟨hT.blk.keep (z _ _ d),hT.frm.keep (z _ _ l),hT.lst.keep λg p=>z _ _ (hT.lst.lt g p),hT.far,hT.len⟩,DfsI.start _ _ _ _ _,λk q=>by rw[QE.1 q];exact hn,?_,hP.keep λg p=>z _ _ (QK hP g p).2,λg p=>?_,⟨λk q _ _ _=>z _ _ q,λg p=>.inl p,(Qg _ _).alloc (Qm _) _⟩⟩
  ·have:=zpd P.length F;simp;omega
  ·have e:w.heap.size=g:=by simpa[Value.ownBlock]using p
   subst e;exact⟨Qd _,λh=>absurd (hT.lst.lt _ h) (by omega)⟩
 case round=>
  obtain⟨h9,G,y,A,B⟩:=hrel
  rcases List.eq_nil_or_concat h9 with rfl|⟨t,k,rfl⟩
  ·obtain⟨A1,c1,rfl⟩:=B.stk.form
   dsimp only[List.length_nil];go_wp2;exact bodyPost_end (v:=.tuple #[]) (by simp[results,results303,go_sem]) rfl ⟨G,y,A,rfl,B.thr,B.dfs.stop,B.prg,B.kept⟩
  ·rw[List.concat_eq_append]at B
   obtain⟨Y,cq,rfl,hp⟩:=B.stk.head (by simp);have q:k<P.length:=B.small k (by simp);have h0:=B.stk.cap;have h7:=B.stk.cell t.length (by simp);have hc:=B.stk.pop;have ho:=B.new Y rfl;obtain⟨t0,t1,⟨cF,t2⟩,t3,t4⟩:=B.thr.blk.cells;obtain⟨q0,q1⟩:=B.thr.frm.cell k q;have hq:t.length+unmet P.length G<=P.length:=by have:=B.len;simp at this;omega
   rw[Qa,QG]at h0 ⊢;rw[Z3 (Qd _)]at h7;simp only[Xh,List.getElem_cons_zero]at h7;have j1:IntKind.i64.wrap (((t.length+1:Nat):Int)-1)=((t.length:Nat):Int):=by rw[Qx _ (by omega)];omega
   have j2:(0:Int)<((t.length+1:Nat):Int):=by omega
   have j3:((t.length:Nat):Int)<((t.length+1:Nat):Int):=by omega
   have j4:((k:Nat):Int)<(P.length:Int):=by omega
   have j5:t.length<=cq:=by omega
   have a:=hIx B;clear B h0
   by_cases c:G k=0
   ·rw[c]at q0
    have q0:wr.cell? ⟨X,k,none⟩=some (.int .i64 0):=q0;have i6:IntKind.i64.wrap ((f:Int)+1)=(f:Int)+1:=Qx _ (by omega);have hx:=hh.out k q;have K:Hid (P[k]? = some P[k]):=hIx (Qc q);have I:Hid (∀W,OwnP W 0 (.slice (some ⟨gp,0,none⟩) P.length cp) P->Ins7 W gp (k*7) P[k]):=λW h=>⟨(h.spot k q 0 (by decide)).1,(h.spot k q 1 (by decide)).1,(h.spot k q 2 (by decide)).1,(h.spot k q 3 (by decide)).1,(h.spot k q 4 (by decide)).1,(h.spot k q 5 (by decide)).1,(h.spot k q 6 (by decide)).1⟩
    generalize P[k]=x at hx K I;obtain⟨kd,xa,xb,⟨sa,sb,sc,sd⟩⟩:=x;have H:ThB (wr.setCell ⟨X,k,none⟩ (.int .i64 ((f:Int)+1))) D (.slice (some ⟨gp,0,none⟩) P.length cp) s X P.length A:=a.out.thr.blk.keep (Ql wr ⟨X,k,none⟩ _ D a.out.thr.ne.1);obtain⟨m0,m1,⟨hr,m2⟩,m3,m4⟩:=H.cells;have N:OwnNT (wr.setCell ⟨X,k,none⟩ (.int .i64 ((f:Int)+1))) A y:=a.out.thr.lst.keep λg p=>Ql wr ⟨X,k,none⟩ _ g λe=>a.out.thr.far (by rw[p];exact Zt some e)
    have ht:y.length<=400:=by have:=a.out.thr.len;omega
    dsimp only at hx
    rcases hx with ⟨rfl,⟨a0,a1⟩,b0,b1⟩|⟨rfl,a0,a1⟩|⟨rfl|rfl|rfl,hi⟩|rfl
    ·obtain⟨na,rfl⟩:=Zv a0
     obtain⟨nb,rfl⟩:=Zv b0;go_wp2_with (at_builtin;first|(refine zas rfl (.tmp 47) (.tmp 49) rfl A y rfl N _ [k] rfl wr.heap.size (by simp) 1 rfl (by simp) (by simp;omega) ?_;intro g3 C L h1 h2 O h4 Q S;have b:=a.out.after c q d l (u:=.int .i64 ((f:Int)+1)) rfl h1 h2 O S;rw[show (y++[k]).length=y.length+1 from Qa]at b;have ⟨_,_,_,p3,p4⟩:=(H.keep (h2 D (by simp;have:=a.out.kept.below.size;omega) a.out.thr.ne.2)).cells;have ⟨o0,o1,⟨_,o2⟩,o3,_⟩:=b.thr.blk.cells;have ⟨x0,x1,x2,x3,x4,x5,x6⟩:=I.out _ b.prg;have E:D<L.heap.size:=(by simp at Q;have:=a.out.kept.below.size;omega))|(refine zas rfl (.tmp 64) (.tmp 69) rfl (.slice (some ⟨Y,0,none⟩) t.length cq) t rfl (b.stk.alloc _) _ [nb,na] rfl (L.heap.size+1) (by simp) 2 rfl (by simp) (by simp;omega) ?_;intro g5 V W5 U e2 r e4 e5 e6;rw[show (t++[nb,na]).length=t.length+2 from Qa]at U))
     exact a.out.next c q b l d U (λj J z=>(e2 j (by simp at J ⊢;omega) (λe=>z (by injection e with e;exact e.symm))).trans (Qt _ _ _ J)) (λg p=>by
      have e7:g5=g:=by injection p
      subst e7
      rcases r with r|r
      ·left;injection r with r;exact r.symm
      ·right;simp at r ⊢;omega) (((Qg _ _).alloc (Qm _) _).trans e6) (λm=>by rw[zev K.out];simp[or_comm]) (λm Z=>by simp at Z;omega) (by simp)
    ·obtain⟨na,rfl⟩:=Zv a0
     go_wp2_with (at_builtin;first|(refine zas rfl (.tmp 47) (.tmp 49) rfl A y rfl N _ [k] rfl wr.heap.size (by simp) 1 rfl (by simp) (by simp;omega) ?_;intro g3 C L h1 h2 O h4 Q S;have b:=a.out.after c q d l (u:=.int .i64 ((f:Int)+1)) rfl h1 h2 O S;rw[show (y++[k]).length=y.length+1 from Qa]at b;have ⟨_,_,_,p3,p4⟩:=(H.keep (h2 D (by simp;have:=a.out.kept.below.size;omega) a.out.thr.ne.2)).cells;have ⟨o0,o1,⟨_,o2⟩,o3,_⟩:=b.thr.blk.cells;have ⟨x0,x1,x2,x3,x4,x5,x6⟩:=I.out _ b.prg;have E:D<L.heap.size:=(by simp at Q;have:=a.out.kept.below.size;omega))|(refine zas rfl (.tmp 75) (.tmp 78) rfl (.slice (some ⟨Y,0,none⟩) t.length cq) t rfl (b.stk.alloc _) _ [na] rfl (L.heap.size+1) (by simp) 1 rfl (by simp) (by simp;omega) ?_;intro g5 V W5 U e2 r e4 e5 e6;rw[show (t++[na]).length=t.length+1 from Qa]at U))
     exact a.out.next c q b l d U (λj J z=>(e2 j (by simp at J ⊢;omega) (λe=>z (by injection e with e;exact e.symm))).trans (Qt _ _ _ J)) (λg p=>by
      have e7:g5=g:=by injection p
      subst e7
      rcases r with r|r
      ·left;injection r with r;exact r.symm
      ·right;simp at r ⊢;omega) (((Qg _ _).alloc (Qm _) _).trans e6) (λm=>by rw[zev K.out];simp) (λm Z=>by simp at Z;omega) (by simp)
    ·go_wp2_with (at_builtin;refine zas rfl (.tmp 47) (.tmp 49) rfl A y rfl N _ [k] rfl wr.heap.size (by simp) 1 rfl (by simp) (by simp;omega) ?_;intro g3 C L h1 h2 O h4 Q S;have b:=a.out.after c q d l (u:=.int .i64 ((f:Int)+1)) rfl h1 h2 O S;rw[show (y++[k]).length=y.length+1 from Qa]at b;have ⟨_,_,_,p3,p4⟩:=(H.keep (h2 D (by simp;have:=a.out.kept.below.size;omega) a.out.thr.ne.2)).cells;have ⟨o0,o1,⟨_,o2⟩,o3,_⟩:=b.thr.blk.cells;have ⟨x0,x1,x2,x3,x4,x5,x6⟩:=I.out _ b.prg;have E:D<L.heap.size:=(by simp at Q;have:=a.out.kept.below.size;omega))
     exact a.out.next c q b l d (vt5:=.slice (some ⟨Y,0,none⟩) t.length cq) (succ:=[]) (by rw[QI];exact b.stk.alloc _) (λj J _=>Qt _ _ _ J) (λg p=>.inl (by injection p with p;exact p.symm)) ((Qg _ _).alloc (Qm _) _) (λm=>by rw[zev K.out];simp) (by simp) (by simp)
    ·have i7:IntKind.i64.wrap ((k:Int)+1)=(k:Int)+1:=Qx _ (by omega)
     by_cases T:i=0
     ·have h8:((i:Int)==0)=true:=by rw[T];rfl
      have CI:=hIx T;clear T;go_wp2_with (at_builtin;first|(refine zas rfl (.tmp 47) (.tmp 49) rfl A y rfl N _ [k] rfl wr.heap.size (by simp) 1 rfl (by simp) (by simp;omega) ?_;intro g3 C L h1 h2 O h4 Q S;have b:=a.out.after c q d l (u:=.int .i64 ((f:Int)+1)) rfl h1 h2 O S;rw[show (y++[k]).length=y.length+1 from Qa]at b;have ⟨_,_,_,p3,p4⟩:=(H.keep (h2 D (by simp;have:=a.out.kept.below.size;omega) a.out.thr.ne.2)).cells;have ⟨o0,o1,⟨_,o2⟩,o3,_⟩:=b.thr.blk.cells;have ⟨x0,x1,x2,x3,x4,x5,x6⟩:=I.out _ b.prg;have E:D<L.heap.size:=(by simp at Q;have:=a.out.kept.below.size;omega))|(refine zas rfl (.tmp 100) (.tmp 103) rfl (.slice (some ⟨Y,0,none⟩) t.length cq) t rfl (b.stk.alloc _) _ [k+1] rfl (L.heap.size+1) (by simp) 1 rfl (by simp) (by simp;omega) ?_;intro g5 V W5 U e2 r e4 e5 e6;rw[show (t++[k+1]).length=t.length+1 from Qa]at U))
      exact a.out.next c q b l d U (λj J z=>(e2 j (by simp at J ⊢;omega) (λe=>z (by injection e with e;exact e.symm))).trans (Qt _ _ _ J)) (λg p=>by
       have e7:g5=g:=by injection p
       subst e7
       rcases r with r|r
       ·left;injection r with r;exact r.symm
       ·right;simp at r ⊢;omega) (((Qg _ _).alloc (Qm _) _).trans e6) (λm=>by rw[zev K.out];simp[CI.out]) (λm Z=>by simp at Z;omega) (by simp)
     ·have h8:((i:Int)==0)=false:=Qb.2 (by omega)
      have CI:=hIx T;clear T;go_wp2_with (at_builtin;refine zas rfl (.tmp 47) (.tmp 49) rfl A y rfl N _ [k] rfl wr.heap.size (by simp) 1 rfl (by simp) (by simp;omega) ?_;intro g3 C L h1 h2 O h4 Q S;have b:=a.out.after c q d l (u:=.int .i64 ((f:Int)+1)) rfl h1 h2 O S;rw[show (y++[k]).length=y.length+1 from Qa]at b;have ⟨_,_,_,p3,p4⟩:=(H.keep (h2 D (by simp;have:=a.out.kept.below.size;omega) a.out.thr.ne.2)).cells;have ⟨o0,o1,⟨_,o2⟩,o3,_⟩:=b.thr.blk.cells;have ⟨x0,x1,x2,x3,x4,x5,x6⟩:=I.out _ b.prg;have E:D<L.heap.size:=(by simp at Q;have:=a.out.kept.below.size;omega));exact a.out.next c q b l d (vt5:=.slice (some ⟨Y,0,none⟩) t.length cq) (succ:=[]) (by rw[QI];exact b.stk.alloc _) (λj J _=>Qt _ _ _ J) (λg p=>.inl (by injection p with p;exact p.symm)) ((Qg _ _).alloc (Qm _) _) (λm=>by rw[zev K.out];simp[CI.out]) (by simp) (by simp)
    ·have i7:IntKind.i64.wrap ((k:Int)+1)=(k:Int)+1:=Qx _ (by omega)
     have ha:s.data.toList.length=s.size:=by simp
     have hd:=hIx ha;clear ha
     by_cases T:i=s.size
     ·have h8:((i:Int)==(s.size:Int))=true:=by rw[T];simp
      have CI:=hIx T;clear T;go_wp2_with (at_builtin;first|(refine zas rfl (.tmp 47) (.tmp 49) rfl A y rfl N _ [k] rfl wr.heap.size (by simp) 1 rfl (by simp) (by simp;omega) ?_;intro g3 C L h1 h2 O h4 Q S;have b:=a.out.after c q d l (u:=.int .i64 ((f:Int)+1)) rfl h1 h2 O S;rw[show (y++[k]).length=y.length+1 from Qa]at b;have ⟨_,_,_,p3,p4⟩:=(H.keep (h2 D (by simp;have:=a.out.kept.below.size;omega) a.out.thr.ne.2)).cells;have ⟨o0,o1,⟨_,o2⟩,o3,_⟩:=b.thr.blk.cells;have ⟨x0,x1,x2,x3,x4,x5,x6⟩:=I.out _ b.prg;have E:D<L.heap.size:=(by simp at Q;have:=a.out.kept.below.size;omega))|(refine zas rfl (.tmp 100) (.tmp 103) rfl (.slice (some ⟨Y,0,none⟩) t.length cq) t rfl (b.stk.alloc _) _ [k+1] rfl (L.heap.size+1) (by simp) 1 rfl (by simp) (by simp;omega) ?_;intro g5 V W5 U e2 r e4 e5 e6;rw[show (t++[k+1]).length=t.length+1 from Qa]at U))
      exact a.out.next c q b l d U (λj J z=>(e2 j (by simp at J ⊢;omega) (λe=>z (by injection e with e;exact e.symm))).trans (Qt _ _ _ J)) (λg p=>by
       have e7:g5=g:=by injection p
       subst e7
       rcases r with r|r
       ·left;injection r with r;exact r.symm
       ·right;simp at r ⊢;omega) (((Qg _ _).alloc (Qm _) _).trans e6) (λm=>by rw[zev K.out,hd.out];simp[CI.out]) (λm Z=>by simp at Z;omega) (by simp)
     ·have h8:((i:Int)==(s.size:Int))=false:=Qb.2 (by omega)
      have CI:=hIx T;clear T;go_wp2_with (at_builtin;refine zas rfl (.tmp 47) (.tmp 49) rfl A y rfl N _ [k] rfl wr.heap.size (by simp) 1 rfl (by simp) (by simp;omega) ?_;intro g3 C L h1 h2 O h4 Q S;have b:=a.out.after c q d l (u:=.int .i64 ((f:Int)+1)) rfl h1 h2 O S;rw[show (y++[k]).length=y.length+1 from Qa]at b;have ⟨_,_,_,p3,p4⟩:=(H.keep (h2 D (by simp;have:=a.out.kept.below.size;omega) a.out.thr.ne.2)).cells;have ⟨o0,o1,⟨_,o2⟩,o3,_⟩:=b.thr.blk.cells;have ⟨x0,x1,x2,x3,x4,x5,x6⟩:=I.out _ b.prg;have E:D<L.heap.size:=(by simp at Q;have:=a.out.kept.below.size;omega));exact a.out.next c q b l d (vt5:=.slice (some ⟨Y,0,none⟩) t.length cq) (succ:=[]) (by rw[QI];exact b.stk.alloc _) (λj J _=>Qt _ _ _ J) (λg p=>.inl (by injection p with p;exact p.symm)) ((Qg _ _).alloc (Qm _) _) (λm=>by rw[zev K.out,hd.out];simp[CI.out]) (by simp) (by simp)
    ·go_wp2_with (at_builtin;refine zas rfl (.tmp 47) (.tmp 49) rfl A y rfl N _ [k] rfl wr.heap.size (by simp) 1 rfl (by simp) (by simp;omega) ?_;intro g3 C L h1 h2 O h4 Q S;have b:=a.out.after c q d l (u:=.int .i64 ((f:Int)+1)) rfl h1 h2 O S;rw[show (y++[k]).length=y.length+1 from Qa]at b;have ⟨_,_,_,p3,p4⟩:=(H.keep (h2 D (by simp;have:=a.out.kept.below.size;omega) a.out.thr.ne.2)).cells;have ⟨o0,o1,⟨_,o2⟩,o3,_⟩:=b.thr.blk.cells;have ⟨x0,x1,x2,x3,x4,x5,x6⟩:=I.out _ b.prg;have E:D<L.heap.size:=(by simp at Q;have:=a.out.kept.below.size;omega))
     exact a.out.next c q b l d (vt5:=.slice (some ⟨Y,0,none⟩) t.length cq) (succ:=[]) (by rw[QI];exact b.stk.alloc _) (λj J _=>Qt _ _ _ J) (λg p=>.inl (by injection p with p;exact p.symm)) ((Qg _ _).alloc (Qm _) _) (λm=>by rw[zev K.out];simp) (by simp) (by simp)
   ·have c1:decide ((0:Int)<((G k:Nat):Int))=true:=by simp;omega
    go_wp2_with fail;have B:=a.out;exact⟨⟨t,G,y,A,hc,B.thr,B.dfs.skip c,λm Z=>B.small m (by simp[Z]),by omega,B.prg,B.new,B.kept⟩,by simp[lenV]⟩
theorem ThM.fresh{w:World}{b:Nat}{c:Value}{s:ByteArray}{a n:Nat}(hb:ThB w b c s a n (.slice none 0 0))(d:FromN w a n (λ_=>0)):ThM w b c s a n (.slice none 0 0) (λ_=>0) []:=
 ⟨hb,d,OwnNT.nil w,by simp[Value.ownBlock],by have:=zpd n (λ_=>0);simpa using this⟩
theorem ThM.keep{w w':World}{b:Nat}{e:Value}{s:ByteArray}{a n:Nat}{c:Value}{G:Nat->Nat}{d:List Nat}(h:ThM w b e s a n c G d)(h1:w'.heap[b]? = w.heap[b]?)(h2:w'.heap[a]? = w.heap[a]?)(f:∀g,c.ownBlock=some g->w'.heap[g]? = w.heap[g]?):ThM w' b e s a n c G d:=
 ⟨h.blk.keep h1,h.frm.keep h2,h.lst.keep f,h.far,h.len⟩
theorem FromN.made{w:World}{g n:Nat}(h:w.ownsRow w.heap.size 3 1 (.slice (some ⟨g,0,none⟩) n n) n (List.replicate n (Value.int .i64 0))\/w.ownsRow 0 3 1 (.slice (some ⟨g,0,none⟩) n n) n (List.replicate n (Value.int .i64 0))):FromN w g n (λ_=>0):=by
 have c:∀base,w.ownsRow base 3 1 (.slice (some ⟨g,0,none⟩) n n) n (List.replicate n (Value.int .i64 0))->FromN w g n (λ_=>0):=λbase h=>by
  rcases h.2 with ⟨h1,_⟩|⟨l,cap,d,h1,_,k,_,_,j,f⟩
  ·cases h1
  ·injection h1 with h1 _ h2
   injection h1 with h1
   injection h1 with h1
   subst h1;subst h2
   unfold FromN;rw[k]
   have e:d.toList=(List.range n).map λ_=>natV 0:=by
    rw[Nat.mul_one]at j f;rw[QC (by rw[Zi];omega)]at f;rw[f]
    apply List.ext_getElem (by simp)
    intro i a b;simp[natV]
   rw[<-e]
 exact h.elim (c _) (c _)
section
variable {ops:Array Oper} {rest:List Oper} {o:Oper} {a:Act} {Q:Exit->Act->World->Prop} {w:World}
theorem zfP(b:o.guard=none)(x y:Operand)(d:o.op=.makeSlice 31 x y)(n g:Nat)(j:w.heap.size=g)(q:a.eval x=.int .i64 (n:Int))(m:a.eval y=.int .i64 (n:Int))(r:n<=1048576)
 (k:∀w',FromN w' g n (λ_=>0)->Below w.heap.size w w'->g<w'.heap.size->wpList prog ops Q rest (a.put o.dst (.slice (some ⟨g,0,none⟩) n n)) w'):
 wpList prog ops Q (o::rest) a w:=by
 subst j;obtain⟨l,p,c,f,h⟩:=ZC zmV;refine wpList_make_full w b x y 31 d 0 3 l (.int .i64 0) 1 underlying31 p c f .i64 .i64 _ _ n q m rfl rfl (by rw[h];omega) (by unfold maxLen;omega) (Qm _) λw' h1 h2=>?_
 rw[Nat.mul_one]at h1;have e:(madeCells (Value.int .i64 0).cells n).toList=List.replicate n (Value.int .i64 0):=toList_madeCells_one (.int .i64 0) n;rw[e]at h1;have i:=FromN.made (.inr h1);exact k w' i (zqL h2) (zaq i)
end
theorem zt2{P:List Ins}{sl:List UInt8}{t f:Nat}{F:Nat->Nat}{c:List Nat}{G:Nat->Nat}{d:List Nat}(g:zp4 P sl t F false f)(b:Thr P sl t F c)(e:∀m,F m<=t)(a:AddPost P sl t 0 t F c G d):
 Comp P sl t G false f/\Thr P sl t G d/\∀m,G m<=t+1:=
 have h1:∀m,F m<=t+1:=λm=>XX (e m)
 ⟨zqf g b h1 a,a.thr b h1 (R.start t),a.le h1⟩
