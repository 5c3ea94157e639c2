/- Lemmas for the last texts. -/
import Derived.Test.YtnnokglddolglaaGreatDoorM19
set_option maxHeartbeats 1600000
set_option maxRecDepth 100000
namespace Go.Proofs.YtnnokglddolglaaGreatDoor
open Go.RowKit Go.Proofs.Tryz
def isN(a:ByteArray)(x:Pair):Bool:=a.toList.isEmpty||(x.1.toList==a.toList)
def ze9(l:List Pair)(a:ByteArray):List Pair:=l.filter (isN a)
def zgr(l:List Pair):List Pair:=l.map λx=>(x.1,x.1)
def zxN(f:zao):Pair:=(bs (zav f.1.data.toList),f.2)
def zbf(a:List zao):List Pair:=a.map zxN
theorem zqW(l:List Pair)(a:ByteArray)(k:Nat)(h:k<l.length):ze9 (l.take (k+1)) a=ze9 (l.take k) a++if isN a l[k]=true then [l[k]]else []:=by
 unfold ze9;rw[Qq h,ZM]
 by_cases c:isN a l[k]=true <;> simp[c]
theorem zu0(l:List Pair)(a:ByteArray)(k:Nat):(ze9 (l.take k) a).length<=k:=Qn (Zl _ _) (ZU _ _)
def RowA(l:List Pair)(w:World)(e:Ending)(w':World):Prop:=∃v,e=.returned v/\OwnA w' w.heap.size v l/\Below w.heap.size w w'
def zyl(w:World)(l:List Pair)(a:ByteArray)(v i:Value)(wr:World):Prop:=
 ∃k:Nat,k<=l.length/\i=.int .i64 k/\OwnA wr w.heap.size v (ze9 (l.take k) a)/\Below w.heap.size w wr
def zxK(w:World)(f:List Pair)(v i:Value)(wr:World):Prop:=
 ∃k:Nat,k<=f.length/\i=.int .i64 k/\OwnA wr w.heap.size v (f.take k)/\Below w.heap.size w wr
section
variable {ops:Array Oper} {o:Oper} {a:Act} {Q:Exit->Act->World->Prop} {w:World}
theorem zkU{K:Act->World->Prop}{E:Prop}(f:o.guard=none)(s x:Operand)(y:o.op=.call {callee:=.builtin .append,args:=#[s,x],argTypes:=#[76,76]})
 (base:Nat) (v:Value) (l:List Pair) (B:a.eval s=v) (d:OwnA w base v l) (b:base<=w.heap.size)
 (n:List Value) (new:Pair) (F:n=za9 new) (p:Nat) (m:w.heap.size=p) (c:Nat) (D:a.eval x=.slice (some ⟨p,0,none⟩) 1 c)
 (e:l.length<=4194304)
 (h:∀v' w',OwnA w' base v' (l++[new])->Below base w w'->(∀g,g<w.heap.size->v.ownBlock≠some g->w'.heap[g]? = w.heap[g]?)->w.heap.size<w'.heap.size->K (a.put o.dst v') w'):
 if Region.wanted o (yielded ops a.tmps)=true then Oper.wp prog o a (w.alloc (.cells n.toArray 163)) K Q else E:=by
 subst F;subst m
 obtain⟨r,C,i,j,k⟩:=ZC zlm;have t:Region.wanted o (yielded ops a.tmps)=true:=by simp[Region.wanted,f]
 rw[Qi t]
 exact za1 s x 76 y base 163 r _ 2 32 underlying76 C i j k rfl (by decide) v l.length (l.flatMap za9) B d b (za9 new) 1 c D rfl
  (λu z=>zgk [new] u (by simpa using z)) (by unfold maxLen;omega) (by omega) λv' w' h1 h2 A q=>h v' w' (by unfold OwnA;rw[Qa,Q4];simpa using h1) h2 A q
end
theorem za3{w w':World}{g:Nat}{x:Option Value}(h:w'.heap[g]? = w.heap[g]?)(i:Nat)(a:w.cell? ⟨g,i,none⟩=x):w'.cell? ⟨g,i,none⟩=x:=by rw[<-a];simp only[World.cell?, h]
theorem zyh(w:World)(x:Pair):OwnA (w.alloc (.cells #[.string x.1,.string x.2] 163)) w.heap.size (.slice (some ⟨w.heap.size,0,none⟩) 1 1) [x]:=
 Xw w #[.string x.1,.string x.2] 1 (Qd _) (by decide) rfl
theorem zuW{B:Nat}{W w':World}(hb:Below B W.drew w'):Below B W w':=⟨hb.os,hb.tape,hb.output,hb.size,hb.block⟩
theorem zk3(l:List Pair)(A:Option Addr)(c:Nat)(a:ByteArray)(w:World)(h:Sl w w.heap.size 2 A l.length (l.flatMap za9))(hl:l.length<=4194304):
 Calls prog 159 #[.slice A l.length c,.string a] w (RowA (ze9 l a) w):=by
 go_in
 go_wp2
 go_loopw [5,10] (λv i wr=>zyl w l a v i wr) (λ_ i _=>l.length-(intOf i).toNat)
 case atStart=>exact⟨0,Qm _,rfl,OwnA.nil _ _,Qg _ _⟩
 case round=>
  obtain⟨k,N,rfl,r,hb⟩:=hrel
  by_cases s:k<l.length
  ·have G:decide ((k:Int)<(l.length:Int))=true:=by simp;omega
   have O:IntKind.i64.wrap ((k:Int)+1)=(k:Int)+1:=Qx _ (by omega);obtain⟨b,I,rfl,J,L,P⟩:=zpU (h.below hb) k s;have x:=hIx (zqW l a k s);have K:=zu0 l a k;have d:Below wr.heap.size wr (wr.alloc (.cells #[.string l[k].1,.string l[k].2] 163)):=WaL;have n:=r.below d;have u:w.heap.size<=(wr.alloc (.cells #[.string l[k].1,.string l[k].2] 163)).heap.size:=Qn hb.size d.size;have m:=hb.trans (d.mono hb.size);cases e:isN a l[k]with
   |true=>
    have f:Hid (ze9 (l.take (k+1)) a=ze9 (l.take k) a++[l[k]]):=by unfold Hid;rw[x.out,Qi e]
    unfold isN at e;generalize l[k]=X at *;obtain⟨B,n2⟩:=X;dsimp only at *;generalize ze9 (l.take k) a=j at *;obtain⟨E,C,rfl,_⟩:=r.form;have g:=hIx n;have o:=hIx m;have t:=hIx u;clear r d n m hb x u;cases D:a.toList.isEmpty with
    |true=>
     clear e;go_wp2_with (at_builtin;refine za4 rfl (.tmp 22) (.tmp 24) rfl w.heap.size (.slice E j.length C) j rfl (by exact g.out) (by exact t.out) _ (B,n2) rfl (wr.heap.size+1) (by rw[Qr]) 1 rfl (by omega) ?_;intro F H p q y z);exact⟨⟨k+1,by omega,rfl,by rw[f.out];exact p,o.out.trans q⟩,by dsimp only[intOf];omega⟩
    |false=>
     rw[D,Bool.false_or]at e;go_wp2_with (at_builtin;refine za4 rfl (.tmp 22) (.tmp 24) rfl w.heap.size (.slice E j.length C) j rfl (by exact g.out) (by exact t.out) _ (B,n2) rfl (wr.heap.size+1) (by rw[Qr]) 1 rfl (by omega) ?_;intro F H p q y z);exact⟨⟨k+1,by omega,rfl,by rw[f.out];exact p,o.out.trans q⟩,by dsimp only[intOf];omega⟩
   |false=>
    have f:Hid (ze9 (l.take (k+1)) a=ze9 (l.take k) a):=by unfold Hid;rw[x.out,Qe (by rw[e];decide),QI]
    unfold isN at e;rw[Xv]at e;obtain⟨D,e⟩:=e;generalize l[k]=X at *;obtain⟨B,n2⟩:=X;dsimp only at *;have g:=hIx n;have o:=hIx m;clear r d n m hb x;go_wp2;exact⟨⟨k+1,by omega,rfl,by rw[f.out];exact g.out,o.out⟩,by dsimp only[intOf];omega⟩
  ·obtain rfl:k=l.length:=by omega
   have G:decide ((l.length:Int)<(l.length:Int))=false:=by simp
   rw[QV]at r;go_wp2;go_ret;exact⟨_,rfl,r,hb⟩
theorem zo4(l:List Pair)(A:Option Addr)(c:Nat)(w:World)(h:Sl w w.heap.size 2 A l.length (l.flatMap za9))(hl:l.length<=4194304):
 Calls prog 160 #[.slice A l.length c] w (RowA (zgr l) w):=by
 have e:(zgr l).length=l.length:=by unfold zgr;rw[Qh]
 have a:=hIx e;clear e
 go_in
 go_wp2
 go_loopw [3,8] (λv i wr=>zxK w (zgr l) v i wr) (λ_ i _=>l.length-(intOf i).toNat)
 case atStart=>exact⟨0,Qm _,rfl,OwnA.nil _ _,Qg _ _⟩
 case round=>
  obtain⟨k,x,rfl,j,hb⟩:=hrel;rw[a.out]at x
  by_cases f:k<l.length
  ·have B:decide ((k:Int)<(l.length:Int))=true:=by simp;omega
   have K:IntKind.i64.wrap ((k:Int)+1)=(k:Int)+1:=Qx _ (by omega);obtain⟨b,D,rfl,F,I,N⟩:=zpU (h.below hb) k f
   have y:Hid ((zgr l).take (k+1)=(zgr l).take k++[(l[k].1,l[k].1)]):=by
    unfold Hid;rw[Qq (by rw[a.out];exact f)];simp[zgr]
   have G:((zgr l).take k).length<=k:=ZU _ _;have d:Below wr.heap.size wr (wr.alloc (.cells #[.string l[k].1,.string l[k].2] 163)):=WaL;have o:=j.below d;have m:w.heap.size<=(wr.alloc (.cells #[.string l[k].1,.string l[k].2] 163)).heap.size:=Qn hb.size d.size;have n:=hb.trans (d.mono hb.size);generalize l[k]=X at *;obtain⟨u,n2⟩:=X;dsimp only at *;generalize (zgr l).take k=g at *;obtain⟨H,E,rfl,_⟩:=j.form;have r:=hIx o;have t:=hIx n;have q:=hIx m;clear j d o n hb m;go_wp2_with (at_builtin;refine za4 rfl (.tmp 12) (.tmp 18) rfl w.heap.size (.slice H g.length E) g rfl (by exact r.out) (by exact q.out) _ (u,u) rfl (wr.heap.size+1) (by rw[Qr]) 1 rfl (by omega) ?_;intro J L p s z C);exact⟨⟨k+1,by rw[a.out];omega,rfl,by rw[y.out];exact p,t.out.trans s⟩,by dsimp only[intOf];omega⟩
  ·obtain rfl:k=l.length:=by omega
   have B:decide ((l.length:Int)<(l.length:Int))=false:=by simp
   rw[<-a.out,QV]at j;go_wp2;go_ret;exact⟨_,rfl,j,hb⟩
theorem zjJ(m t:ByteArray)(d:List zao)(A:Option Addr)(c:Nat)(w:World)(h:Sl w w.heap.size 2 A d.length (d.flatMap zaL))(hs:∀f∈d,f.1.size<=maxLen)(hl:d.length<=4194304):
 Calls prog 161 #[.agg #[.string m,.string t,.slice A d.length c]] w (RowA (zbf d) w):=by
 have q:(zbf d).length=d.length:=by unfold zbf;rw[Qh]
 have l:=hIx q;have T:=hIx hs;have z:Below w.heap.size w (w.alloc (.cells #[.string m,.string t,.slice A d.length c] 27)):=WaL;have L:=hIx z;clear q hs z
 go_in
 go_wp2
 go_loopw [3,9] (λv i wr=>zxK w (zbf d) v i wr) (λ_ i _=>d.length-(intOf i).toNat)
 case atStart=>exact⟨0,Qm _,rfl,OwnA.nil _ _,L.out⟩
 case round=>
  obtain⟨k,hk,rfl,u,hb⟩:=hrel;rw[l.out]at hk
  by_cases n:k<d.length
  ·have d1:decide ((k:Int)<(d.length:Int))=true:=by simp;omega
   have i7:IntKind.i64.wrap ((k:Int)+1)=(k:Int)+1:=Qx _ (by omega);obtain⟨b,h3,rfl,h4,x0,x1⟩:=zpj (h.below hb) k n;have y:=T.out d[k] (Qy n)
   have HG:Hid ((zbf d).take (k+1)=(zbf d).take k++[(bs (zav d[k].1.data.toList),d[k].2)]):=by
    unfold Hid;rw[Qq (by rw[l.out];exact n)];simp[zbf,zxN]
   have Z:((zbf d).take k).length<=4194304:=Qn (ZU _ _) (by omega);generalize d[k]=X at *;obtain⟨j,n2⟩:=X;dsimp only at *;generalize (zbf d).take k=p at *;have E:Hid (∀W,Calls prog 64 #[.string j] W (zbN (bs (zav j.data.toList)) W)):=λW=>zbg j W y
   generalize bs (zav j.data.toList)=L1 at *;have hz:=hb.size;obtain⟨Ao,co,rfl,_⟩:=u.form;have HO:=hIx u;have U:=hIx hb;clear u hb y;go_wp2_with fail;have V:=Qp wr (.cells #[.string j,.string n2] 133);have F:Below wr.heap.size wr (wr.alloc (.cells #[.string j,.string n2] 133)):=WaL;have C:wr.heap.size<(wr.alloc (.cells #[.string j,.string n2] 133)).heap.size:=by simp
   generalize wr.alloc (.cells #[.string j,.string n2] 133)=J at *;have O:=Qf _ wr.heap.size 0 _ _ _ V;have Q:=Qf _ wr.heap.size 1 _ _ _ V;simp only[Z7,Xe,XQ]at O Q;have G:Hid (∀W,Below J.heap.size J W->W.cell? ⟨wr.heap.size,0,none⟩=some (.string j)/\W.cell? ⟨wr.heap.size,1,none⟩=some (.string n2)):=λW hb=>⟨zaa hb O,zaa hb Q⟩
   have S:=hIx F;have r:Hid ((Value.slice Ao p.length co).ownBlock≠some wr.heap.size):=λe=>by have:=(HO.out.lt _ e).2;omega
   clear V F x0 x1
   go_region_held3 (λw'=>w'.cell? ⟨wr.heap.size,0,none⟩=some (.string j)/\w'.cell? ⟨wr.heap.size,1,none⟩=some (.string n2))
    (first|exact H|exact G.out _ (a.alloc a.size _)|exact G.out _ a|go_keep)
    (first
     |(go_at_call 64;(with_reducible refine(E.out _).mono ?_);rintro e K ⟨rfl,I⟩;have a:Below J.heap.size J K:=zuW I;have g:Below wr.heap.size wr K:=S.out.trans (a.mono (Q5 C));have B:=HO.out.below g;have Y:w.heap.size<=K.heap.size:=Qn hz g.size)
     |(refine zkU rfl (.tmp 13) (.tmp 20) rfl w.heap.size (.slice Ao p.length co) p rfl (by exact B) (by exact Y) _ (L1,n2) rfl K.heap.size rfl 1 rfl Z ?_;intro v5 P N x s h0;have o:=s wr.heap.size (Qv C a.size) r.out;have H:P.cell? ⟨wr.heap.size,0,none⟩=some (.string j)/\P.cell? ⟨wr.heap.size,1,none⟩=some (.string n2):=⟨za3 o 0 (G.out _ a).1,za3 o 1 (G.out _ a).2⟩))
   have D:Below w.heap.size w P:=U.out.trans ((g.mono hz).trans x);clear G E B I a H o s O Q x g;go_wp2;exact⟨⟨k+1,by rw[l.out];omega,rfl,by rw[HG.out];exact N,D⟩,by dsimp only[intOf];omega⟩
  ·obtain rfl:k=d.length:=by omega
   have d1:decide ((d.length:Int)<(d.length:Int))=false:=by simp
   rw[<-l.out,QV]at u;go_wp2;go_ret;exact⟨_,rfl,u,hb⟩
theorem zde(s:ByteArray)(w:World):Calls prog 121 #[.string s] w (RowA [(ByteArray.mk #[],s)] w):=by
 go_in
 go_wp2;go_ret;exact⟨_,rfl,zyh w (ByteArray.mk #[],s),WaL⟩
structure Since(B:Nat)(w W:World):Prop where
 size:w.heap.size<=W.heap.size
 keep:∀k,B<=k->k<w.heap.size->W.heap[k]? = w.heap[k]?
theorem Since.refl(B:Nat)(w:World):Since B w w:=⟨Qd _,λ_ _ _=>rfl⟩
theorem Since.trans{B:Nat}{w W V:World}(h:Since B w W)(g:Since B W V):Since B w V:=
 ⟨Qn h.size g.size,λk h1 h2=>(g.keep k h1 (Qv h2 h.size)).trans (h.keep k h1 h2)⟩
theorem Since.low{B C:Nat}{w W:World}(h:Since B w W)(hb:B<=C):Since C w W:=⟨h.size,λk h1 h2=>h.keep k (Qn hb h1) h2⟩
theorem Since.of{B:Nat}{w W:World}(h:Below w.heap.size w W):Since B w W:=⟨h.size,λk _ h2=>h.block k h2⟩
def TestAt(B:Nat)(f:ByteArray->Bool)(v:Value)(w:World):Prop:=
 ∃a b,v=.func (.func a) #[] b/\(∀args w,(callFunc a args).run prog w=.ok (.enter a args) w)/\∀W,Since B w W->LibOk W->∀s:ByteArray,s.size<=8192->Calls prog a (#[.string s]++b) W λe W'=>e=.returned (.bool (f s))/\Below W.heap.size W W'
def MadeT(f:ByteArray->Bool)(w:World)(e:Ending)(w':World):Prop:=
 ∃b a,e=.returned (.tuple #[.func (.func b) #[] a,.int .i64 0])/\TestAt w.heap.size f (.func (.func b) #[] a) w'/\Below w.heap.size w w'
theorem TestAt.since{B:Nat}{f:ByteArray->Bool}{v:Value}{w W:World}(h:TestAt B f v w)(g:Since B w W):TestAt B f v W:=by
 obtain⟨c,a,e,d⟩:=h;exact⟨c,a,e,d.1,λW' b=>d.2 W' (g.trans b)⟩
theorem TestAt.low{B C:Nat}{f:ByteArray->Bool}{v:Value}{w:World}(h:TestAt C f v w)(hb:B<=C):TestAt B f v w:=by
 obtain⟨c,a,e,d⟩:=h;exact⟨c,a,e,d.1,λW' b=>d.2 W' (b.low hb)⟩
theorem zAB{t:Tree}{l:List Ins}(b:Code t 0 l)(a:Fine t)(s:List UInt8):zji (l++[(⟨6,0,0,.zero⟩:Ins)]) s s.length↔∃i j,M s t i j:=by
 have hl:(l++[(⟨6,0,0,.zero⟩:Ins)]).length-1=l.length:=by simp
 unfold zji;rw[hl]
 constructor
 ·rintro⟨i,j,c,h⟩
  exact⟨i,j,(zpw b a _ rfl i j (by have:=R.le h;omega)).1 h⟩
 ·rintro⟨i,j,h⟩
  have:=h.le;exact⟨i,j,by omega,(zpw b a _ rfl i j (by omega)).2 h⟩
theorem zuZ(P:List Ins)(d:OkP P)(i:∀n (h:n<P.length),P[n].kind=6↔n=P.length-1)(j:∀n (h:n<P.length),P[n].set.Wf)(m:0<P.length)(x:P.length<=400)(s:ByteArray)(C:s.size<=8192)(u:Value)(w:World)(q:OwnP w 0 u P):
 Calls prog 246 #[u,.string s] w λe w'=>∃z r,e=.returned (.tuple #[.bool z,.int .i64 r])/\(z=true↔zji P s.data.toList s.size)/\Below w.heap.size w w':=by
 obtain⟨o,t,rfl,B⟩:=OwnP.head q m
 have k:Hid (Calls prog 280 #[.slice (some ⟨o,0,none⟩) P.length t,.string s] w λe w'=>e=.returned (.int .i64 0)/\Below w.heap.size w w'):=by
  have:=zsr P (some ⟨o,0,none⟩) t s w q.sl d m x;rw[Qe (by omega)]at this;exact this
 have l:Hid (∀W,Below w.heap.size w W->Calls prog 281 #[.slice (some ⟨o,0,none⟩) P.length t,.string s,.bool true] W (zoW P s W)):=λW hb=>zvw P d i j m x s C _ W (q.below hb)
 clear d i j
 go_in
 go_wp2_with fail;refine k.out.mono ?_;rintro e D ⟨rfl,g⟩;go_wp2_with fail;refine(l.out _ g).mono ?_;rintro e w2 ⟨found,f,F,rfl,y,p⟩;have E:∀(a b:Int) (c:Bool) W,(Instr.field 351 (.agg #[.int .i64 a,.int .i64 b,.bool c]) 1).run prog W=.ok (.bool c) W:=λ_ _ _ _=>by kernel_rfl
 have hb:=g.trans (p.mono g.size);have A:=hIx y;clear y;go_wp2;exact Qj (v:=.tuple #[.bool found,.int .i64 0]) (by simp[results,results246,go_sem]) rfl ⟨found,0,rfl,A.out,hb⟩
theorem zwl(P:List Ins)(c:OkP P)(a:∀n (h:n<P.length),P[n].kind=6↔n=P.length-1)(b:∀n (h:n<P.length),P[n].set.Wf)(l:0<P.length)(o:P.length<=400)(s:ByteArray)(q:s.size<=8192)(f:Value)(g:Nat)(w:World)(u:w.cell? ⟨g,0,none⟩=some f)(k:OwnP w 0 f P):
 Calls prog 245 #[.string s,.pointer (some ⟨g,0,none⟩)] w λe w'=>∃d,e=.returned (.bool d)/\(d=true↔zji P s.data.toList s.size)/\Below w.heap.size w w':=by
 have p:=hIx (zuZ P c a b l o s q f w k);clear c a b k
 go_in
 go_wp2_with fail;refine p.out.mono ?_;rintro e t ⟨d,r,rfl,j,i⟩;have m:=hIx j;clear j;go_wp2;go_ret;exact⟨d,rfl,m.out,i⟩
open Classical in
noncomputable def tstR(a v:ByteArray):Bool:=decide (∃i j,M v.data.toList (zda a.data.toList).1 i j)
theorem zoz(s:ByteArray)(w:World)(hs:s.size<=1048576)(C:(zda s.data.toList).2.2=0):Calls prog 201 #[.string s] w (MadeT (tstR s) w):=by
 have Y:=zl0 s w (by unfold maxLen;omega);have HT:Hid (∀v:ByteArray,tstR s v=true↔∃i j,M v.data.toList (zda s.data.toList).1 i j):=hIx λv=>by unfold tstR;simp
 have hc:=@zgX s.data.toList C;generalize zda s.data.toList=P at *;obtain⟨t,n,c⟩:=P;dsimp only at *;subst C;have HP:=hIx Y;clear Y;generalize tstR s=f at *
 go_in
 go_wp2_with (go_at_call 103;apply Hid.out);refine WhM HP ?_;rintro e T ⟨A,V,rfl,hN,m⟩;have k:=LX.lt (λ_ hb=>hb.2) _ _ hN;have y:=LT.wf _ _ k;have H:Hid (∀o,Calls prog 104 #[argX t A V] (T.alloc o) (zjj t (T.alloc o))):=λo=>zoU t A V _ ((k.below ((Qg _ _).alloc (Qd _) o)).more (by simp))
 unfold argX at H ⊢;clear k hN;have B:=hIx y;have K:=hIx hc;clear y hc;dsimp only;go_wp2_with fail;refine(H.out _).mono ?_;rintro e w2 ⟨v,rfl,_,hl,D⟩;obtain⟨l,q,r,F⟩:=hl K.out;have Z:=zld t 1 0 K.out;have b:Below w.heap.size w w2:=m.trans ((zaJ D (Qd _)).mono m.size);have a:OwnP w2 0 v (l++[(⟨6,0,0,.zero⟩:Ins)]):=⟨F.1,F.2.imp_right λ⟨g,cap,L,h1,_,h3⟩=>⟨g,cap,L,h1,Qm _,h3⟩⟩
 have u:Hid (∀v:ByteArray,zji (l++[(⟨6,0,0,.zero⟩:Ins)]) v.data.toList v.size↔∃i j,M v.data.toList t i j):=λv=>zAB q Z v.data.toList
 obtain⟨d,S,rfl,h0⟩:=OwnP.head a (by simp)
 have I:Hid (∀W,Below w2.heap.size w2 W->Calls prog 105 #[.slice (some ⟨d,0,none⟩) (l++[(⟨6,0,0,.zero⟩:Ins)]).length S] W λe w'=>e=.returned (.int .i64 0)/\Below W.heap.size W w'):=λW hb=>by
  have:=a.below hb;exact zgM _ _ _ W this.sl (znW q) (by simp) (by rw[Qa,QG];omega)
 have U:w.heap.size<=d/\d<w2.heap.size:=by
  have h1:=QK F d rfl;have h2:=m.size;rw[Qr]at h1;omega
 have G:Hid (∀W g,W.cell? ⟨g,0,none⟩=some (.slice (some ⟨d,0,none⟩) (l++[(⟨6,0,0,.zero⟩:Ins)]).length S)->Since w.heap.size w2 W->∀x:ByteArray,x.size<=8192->Calls prog 245 #[.string x,.pointer (some ⟨g,0,none⟩)] W λe w'=>e=.returned (.bool (f x))/\Below W.heap.size W w'):=λW g hg hb x O=>
  (zwl _ (znW q) (zuS q) (zyc q B.out) (by simp) (by rw[Qa,QG];omega) x O _ g W hg (a.keep λJ z=>hb.keep J (by have e9:d=J:=QD z;omega) (QK a J z).2)).mono λe w' ⟨is,e1,e2,Q⟩=>⟨by
   rw[e1];have h1:=(HT.out x).symm;have h2:=e2.trans ((u.out x).trans h1);cases is <;> cases h4:f x <;> simp_all,Q⟩
 clear hl q r F a Z D H B K u HT;generalize (l++[(⟨6,0,0,.zero⟩:Ins)]).length=nl at *;go_wp2_with fail;refine(I.out _ WaL).mono ?_;rintro e w3 ⟨rfl,p⟩;have h:w3.cell? ⟨w2.heap.size,0,none⟩=some (.slice (some ⟨d,0,none⟩) nl S):=Qf _ _ 0 _ _ _ ((p.block w2.heap.size (by simp)).trans (Qp w2 _));have E:Below w2.heap.size w2 w3:=zaJ p (Qd _);have N:=b.trans (E.mono b.size);have hz:w2.heap.size<w3.heap.size:=Qv (by simp) p.size;go_wp2;exact Qj (v:=.tuple #[.func (.func 245) #[] #[.pointer (some ⟨w2.heap.size,0,none⟩)],.int .i64 0]) (by simp[results,results201,go_sem]) rfl ⟨_,_,rfl,⟨_,_,rfl,λ_ _=>rfl,λW X _ x O=>G.out W _ (za3 (X.keep _ b.size hz) 0 h) ((Since.of E).trans X) x O⟩,N⟩
theorem zAm{wr:World}{B n:Nat}{A:Option Addr}{d:List Value}{k m:Nat->Value}(h:Sl wr B 2 A n d){j:Nat}(p:j<n)(o:∀j,j<n->d[j*2]? = some (k j)/\d[j*2+1]? = some (m j)):
 ∃b a,A=some ⟨b,a,none⟩/\wr.cell? ⟨b,a+j*2,none⟩=some (k j)/\wr.cell? ⟨b,a+j*2+1,none⟩=some (m j):=by
 have hl:=h.len;obtain⟨b,a,e,_,q⟩:=h.src (by omega);have f:=o j p
 have c:∀i v,d[i]? = some v->wr.cell? ⟨b,a+i,none⟩=some v:=λi v l=>by
  have g:i<d.length:=(Qw.1 l).1;rw[q i g,<-l,Qc g]
 exact⟨b,a,e,by have:=c _ _ f.1;rw[show a+j*2=a+j*2 from rfl]at this;exact this,by have:=c _ _ f.2;rw[<-Zh]at this;exact this⟩
theorem zuC(g:Nat)(t:Array Value)(F:∀args w,(callFunc g args).run prog w=.ok (.enter g args) w)(A:Option Addr)(n c:Nat)(q:List Value)(x y:Nat->Value)(p:Nat->Bool)(w:World)
 (h:Sl w w.heap.size 2 A n q) (s:n<=9223372036854775807) (v:∀j,j<n->q[j*2]? = some (x j)/\q[j*2+1]? = some (y j))
 (r:∀W j,j<n->Below w.heap.size w W->Calls prog g (#[.agg #[x j,y j]]++t) W (zal (p j) W)):
 Calls prog 284 #[.slice A n c,.func (.func g) #[] t] w λe w'=>e=.returned (.int .i64 (hitI p n))/\Below w.heap.size w w':=by
 have D:=hIx r;have E:=hIx v;clear r v
 go_in
 go_wp2
 go_loopw [5,8] (λ_ i wr=>∃j:Nat,j<=n/\i=.int .i64 j/\Below w.heap.size w wr/\Hid (∀i,i<j->p i=false)) (λ_ i _=>n-(intOf i).toNat)
 case atStart=>exact⟨0,Qm _,rfl,Qg _ _,λi u=>absurd u (by omega)⟩
 case round=>
  obtain⟨j,G,rfl,hb,a⟩:=hrel
  by_cases d:j<n
  ·obtain⟨b,C,rfl,z,B⟩:=zAm (h.below hb) d E.out
   have o:=D.out wr j d hb;cases l:p j with
   |true=>
    rw[l]at o;have f:=hIx (zkn p n j d l a);clear l;go_wp2_with (go_at_fn g;refine o.mono ?_;rintro e w' ⟨rfl,k⟩);go_ret;exact⟨zac f.out.symm,hb.trans (k.mono hb.size)⟩
   |false=>
    rw[l]at o
    have m:Hid (∀i,i<j+1->p i=false):=λi u=>by
     by_cases e:i=j
     ·rw[e];exact l
     ·exact a i (by omega)
    clear l a;go_wp2_with (go_at_fn g;refine o.mono ?_;rintro e w' ⟨rfl,k⟩)
    go_roundw
    case rel=>exact⟨j+1,by omega,by go_num,hb.trans (k.mono hb.size),m⟩
    case measure=>simp[intOf] <;> omega
  ·obtain rfl:j=n:=by omega
   have f:=hIx (zdT p j a);go_wp2;go_ret;exact⟨zac f.out.symm,hb⟩
theorem zqp(g:Nat)(d:Array Value)(m:∀args w,(callFunc g args).run prog w=.ok (.enter g args) w)(A:Option Addr)(n c:Nat)(b:List Value)(f i:Nat->Value)(p:Nat->Bool)(w:World)
 (h:Sl w w.heap.size 2 A n b) (a:n<=9223372036854775807) (l:∀j,j<n->b[j*2]? = some (f j)/\b[j*2+1]? = some (i j))
 (k:∀W j,j<n->Below w.heap.size w W->Calls prog g (#[.agg #[f j,i j]]++d) W (zal (p j) W)):
 Calls prog 251 #[.slice A n c,.func (.func g) #[] d] w (zal (anyN p n) w):=by
 have q:=hIx (zuC g d m A n c b f i p w h a l k);have o:=hIx (zgl p n);clear k l h
 go_in
 go_wp2_with fail;refine q.out.mono ?_;rintro e r ⟨rfl,hb⟩;go_wp2;go_ret;exact⟨zaI o.out,hb⟩
theorem zyP(a x:Nat)(b:Int)(w:World)(m:a<4294967296)(l:x<4294967296):
 Calls prog 253 #[.agg #[.int .u32 (a:Int),.int .i64 b],.int .u32 (x:Int)] w λe w'=>e=.returned (.bool (znc a b x))/\Below w.heap.size w w':=by
 obtain⟨h,c⟩:∃h,w.alloc (.cells #[.int .u32 (a:Int),.int .i64 b] 248)=h:=⟨_,rfl⟩
 have g:NetAt w.heap.size (a:Int) b h:=by rw[<-c];exact Qp w _
 have f:Below w.heap.size w h:=by rw[<-c];exact WaL
 have d:a ^^^ x<4294967296:=Nat.xor_lt_two_pow (n:=32) m l;have o:=u32_xor_nat a x m l;have p:=u32_and_nat (a ^^^ x) (ze3 b) d (zk5 b)
 have q:Hid ((((a ^^^ x)&&& ze3 b:Nat):Int)=0↔znc a b x=true):=by
  unfold Hid znc ze3;rw[decide_eq_true_iff,<-zwa _ _ d (ziF b)];exact Int.natCast_eq_zero
 generalize (a ^^^ x)&&& ze3 b=z at *;generalize a ^^^ x=y at *;have ⟨t,s⟩:=g.cells;have j:=hIx c;have i:=hIx f;clear g c f m l d
 have k:Hid (((z:Int)==0)=znc a b x):=by
  unfold Hid;rw[Bool.eq_iff_iff,Zk];exact q.out
 clear q;generalize znc a b x=r at *
 go_in
 go_upto_region 1 with fail
 rw[j.out]
 go_quiet ((go_at_call 185;exact Za (zdE _ _)))
 go_wp2;go_ret;exact⟨by rw[k.out];rfl,below_drewN i.out nq⟩
theorem zti{l:List UInt8}{a:Nat}{b:Int}(h:netP l=.ok (a,b)):a<4294967296:=by
 unfold netP at h
 split at h
 ·cases h
 ·split at h
  ·cases h
  ·split at h
   ·cases h
   ·rename_i d c
    split at h
    ·cases h
    ·injection h with h
     injection h with h1 h2
     subst h1;exact zp1 _ _ _ (by decide) c
theorem zlc:∀(c:List (List UInt8)) (x:zea),x∈zbT c->∃a:Nat,x.1=(a:Int)/\a<4294967296
 | [],x,h=>by rw[zbT]at h;cases h
 |p::r,x,h=>by
  rw[zbT]at h
  split at h
  ·rename_i q d
   rcases QJ.1 h with rfl|h
   ·obtain⟨a,b⟩:=q
    exact⟨a,rfl,zti d⟩
   ·exact zlc r x h
  ·exact zlc r x h
theorem zkE:∀(l:List zea) (k:Nat) (h:k<l.length),(l.flatMap zcc)[k*2]? = some (.int .u32 l[k].1)/\(l.flatMap zcc)[k*2+1]? = some (.int .i64 l[k].2)
 | [],k,h=>absurd h (by simp)
 |x::r,0,_=>by
  rw[QM];exact⟨rfl,rfl⟩
 |x::r,k+1,h=>by
  have:=zkE r k (by simpa using h);rw[QM];have a:(k+1)*2=2+k*2:=by omega
  have b:(k+1)*2+1=2+(k*2+1):=by omega
  rw[a,QZ (by simp[zcc]),QZ (by simp[zcc];omega)];simp only[zcc,Qo,QR,List.getElem_cons_succ];refine⟨?_,?_⟩
  ·rw[<-this.1];congr 1;omega
  ·rw[<-this.2];congr 1;omega
def inX(a:Nat)(x:zea):Bool:=znc x.1.toNat x.2 a
def tstA(c v:ByteArray):Bool:=match netP v.data.toList with
 |.ok (a,b)=>b==32&&(zbT (splL 44 c.data.toList)).any (inX a)
 |.error _=>false
theorem ztS(n:zea)(l:∃k:Nat,n.1=(k:Int)/\k<4294967296)(a:Nat)(h:a<4294967296)(g:Nat)(w:World)(i:w.cell? ⟨g,0,none⟩=some (.int .u32 (a:Int))):
 Calls prog 252 #[.agg #[.int .u32 n.1,.int .i64 n.2],.pointer (some ⟨g,0,none⟩)] w (zal (inX a n) w):=by
 have p:g<w.heap.size:=QT w _ i;obtain⟨q,n2⟩:=n;obtain⟨k,rfl,d⟩:=l;have j:=λo=>hIx (zyP k a n2 (w.alloc o) d h)
 have f:Hid (inX a ((k:Int),n2)=znc k n2 a):=rfl;unfold zal;rw[f.out];dsimp only;generalize znc k n2 a=b at *;clear f d h
 go_in
 go_wp2_with fail;refine(j _).out.mono ?_;rintro e m ⟨rfl,c⟩;have hb:=zaJ c (Qd _);go_wp2;go_ret;exact⟨rfl,hb⟩
def dNet:zea:=(0,0)
theorem zqv(l:List zea)(hl:∀x∈l,∃k:Nat,x.1=(k:Int)/\k<4294967296)(a:Nat)(i:a<4294967296)(A:Option Addr)(c g:Nat)(w:World)(h:Sl w w.heap.size 2 A l.length (l.flatMap zcc))(f:l.length<=9223372036854775807)(d:w.cell? ⟨g,0,none⟩=some (.int .u32 (a:Int))):
 Calls prog 251 #[.slice A l.length c,.func (.func 252) #[] #[.pointer (some ⟨g,0,none⟩)]] w (zal (l.any (inX a)) w):=by
 have e:=zcp (inX a) l dNet;rw[<-e];refine zqp 252 #[.pointer (some ⟨g,0,none⟩)] (λ_ _=>rfl) A l.length c (l.flatMap zcc) (λj=>.int .u32 (l.getD j dNet).1) (λj=>.int .i64 (l.getD j dNet).2) (λj=>inX a (l.getD j dNet)) w h f (λj b=>?_) λW j b hb=>?_
 ·have:=zkE l j b
  rw[Qk,Qc b];exact this
 ·refine ztS _ (hl _ ?_) a i g W (zaa hb d)
  rw[Qk,Qc b];exact Qy b
theorem zvj(i v:ByteArray)(K:v.size<=8192)(A:Option Addr)(c g:Nat)(w:World)(j:LibOk w)(I:(zbT (splL 44 i.data.toList)).length<=1000)(h:Sl w w.heap.size 2 A (zbT (splL 44 i.data.toList)).length ((zbT (splL 44 i.data.toList)).flatMap zcc))(C:w.cell? ⟨g,0,none⟩=some (.slice A (zbT (splL 44 i.data.toList)).length c)):
 Calls prog 250 #[.string v,.pointer (some ⟨g,0,none⟩)] w λe w'=>e=.returned (.bool (tstA i v))/\Below w.heap.size w w':=by
 have n:=zlc (splL 44 i.data.toList)
 have o:Hid (tstA i v=match netP v.data.toList with
  |.ok (a,b)=>b==32&&(zbT (splL 44 i.data.toList)).any (inX a)
  |.error _=>false):=rfl
 have m:=zjI v w j (by omega);unfold zeH at m;have B:g<w.heap.size:=QT w _ C;generalize zbT (splL 44 i.data.toList)=l at *;cases d:netP v.data.toList with
 |error x=>
  rw[d]at m o;unfold netV at m;dsimp only at m o
  have J:(x==0)=false:=by
   unfold netP at d
   split at d
   ·injection d with d;rw[<-d];rfl
   ·split at d
    ·injection d with d;rw[<-d];rfl
    ·split at d
     ·injection d with d;rw[<-d];rfl
     ·split at d
      ·injection d with d;rw[<-d];rfl
      ·cases d
  have t:=hIx m;clear m n h j d
  go_in
  go_wp2_with fail;refine t.out.mono ?_;rintro e s ⟨rfl,f⟩;have hb:=f.alloc f.size (.cells #[.int .u32 0,.int .i64 0] 248);go_wp2;go_ret;exact⟨by rw[o.out];rfl,hb⟩
 |ok ab=>
  obtain⟨a,b⟩:=ab;have H:=zti d;rw[d]at m o;unfold netV at m;dsimp only at m o;have t:=hIx m;clear m j d;cases p:(b==32)with
  |false=>
   rw[p]at o;clear n h
   go_in
   go_wp2_with fail;refine t.out.mono ?_;rintro e s ⟨rfl,f⟩;have hb:=f.alloc f.size (.cells #[.int .u32 (a:Int),.int .i64 b] 248);go_wp2;go_ret;exact⟨by rw[o.out];rfl,hb⟩
  |true=>
   rw[p,Bool.true_and]at o;have D:Hid (∀W k,Below w.heap.size w W->W.cell? ⟨k,0,none⟩=some (.int .u32 (a:Int))->Calls prog 251 #[.slice A l.length c,.func (.func 252) #[] #[.pointer (some ⟨k,0,none⟩)]] W (zal (l.any (inX a)) W)):=λW k hb F=>zqv l n a H A c k W ((h.below hb).more hb.size) (by omega) F
   generalize l.any (inX a)=r at *;clear n h
   go_in
   go_wp2_with fail;refine t.out.mono ?_;rintro e s ⟨rfl,f⟩;have G:=zaa f C;have E:g<s.heap.size:=Qv B f.size;have hb:=f.alloc f.size (.cells #[.int .u32 (a:Int),.int .i64 b] 248);have q:=Qp s (.cells #[.int .u32 (a:Int),.int .i64 b] 248);have c0:=Qf _ s.heap.size 0 _ _ _ q;have z:=hIx (D.out _ s.heap.size hb c0);clear q c0 D;go_wp2_with (go_at_call 251;apply Hid.out);refine WhM z ?_;rintro e w2 ⟨rfl,y⟩;have u:=hb.trans (y.mono hb.size);go_wp2;go_ret;exact⟨by rw[o.out];rfl,u⟩
def outG(S:Set4)(v:ByteArray)(j:Nat):Bool:=!hasB S (v.data.toList.getD j 0)
def tstG(a v:ByteArray):Bool:=anyN (outG (zcr a.data.toList).1 v) v.size
theorem zwG(S:Set4)(H:S.Wf)(v:ByteArray)(X:v.size<=8192)(g:Nat)(w:World)(A:FourW w g S):
 Calls prog 254 #[.string v,.pointer (some ⟨g,0,none⟩)] w λe w'=>e=.returned (.bool (anyN (outG S v) v.size))/\Below w.heap.size w w':=by
 have f:=λx W=>zsp S x W H
 have F:Hid (∀W,Below w.heap.size w W->W.cell? ⟨g,0,none⟩=some (.int .u64 S.a)/\W.cell? ⟨g,1,none⟩=some (.int .u64 S.b)/\W.cell? ⟨g,2,none⟩=some (.int .u64 S.c)/\W.cell? ⟨g,3,none⟩=some (.int .u64 S.d)):=λW hb=>by
  have h:FourW W g S:=(hb.block g (zaq A)).trans A;exact⟨Qf _ _ 0 _ _ _ h,Qf _ _ 1 _ _ _ h,Qf _ _ 2 _ _ _ h,Qf _ _ 3 _ _ _ h⟩
 have r:Hid (∀(j:Nat) (B:j<v.size),v.data.toList.getD j 0=v[j]):=λj B=>by
  rw[Qk,Qc (by simpa using B)];rfl
 have s:Hid (∀j,outG S v j=!hasB S (v.data.toList.getD j 0)):=λj=>rfl
 generalize outG S v=p at *;obtain⟨G,J,I,C⟩:=S;unfold setV at f;dsimp only at f F;have y:=hIx f;clear f H A
 go_in
 go_wp2
 go_loopw [4,7] (λ_ i wr=>∃j:Nat,j<=v.size/\i=.int .i64 j/\Below w.heap.size w wr/\Hid (∀i,i<j->p i=false)) (λ_ i _=>v.size-(intOf i).toNat)
 case atStart=>exact⟨0,Qm _,rfl,Qg _ _,λi E=>absurd E (by omega)⟩
 case round=>
  obtain⟨j,B,rfl,hb,n⟩:=hrel
  by_cases q:j<v.size
  ·have Q:(j:Int)<(v.size:Int):=by omega
   have t:=r.out j q;have o:=s.out j;rw[t]at o;generalize U:v[j]=x at *;have ⟨O,Y,T,P⟩:=F.out wr hb;have D:=hIx n;have k:=hIx o;have L:=hIx hb;clear o n t;go_upto_region 4 with fail
   go_region_held3 (λw'=>w'.cell? ⟨g,0,none⟩=some (.int .u64 G)/\w'.cell? ⟨g,1,none⟩=some (.int .u64 J)/\w'.cell? ⟨g,2,none⟩=some (.int .u64 I)/\w'.cell? ⟨g,3,none⟩=some (.int .u64 C))
    (first|go_keep|(refine⟨zaa l ?_,zaa l ?_,zaa l ?_,zaa l ?_⟩ <;> assumption))
    (first|(go_at_call 255;refine(y.out _ _).mono ?_;rintro e V ⟨rfl,l⟩))
   have m:=hb.trans ((undrew l).mono hb.size);cases z:hasB ⟨G,J,I,C⟩ x with
   |false=>
    rw[z]at k;have N:Hid (anyN p v.size=true):=(zli _ _).2 ⟨j,q,k.out⟩;clear z k;go_wp2;go_ret;exact⟨by rw[N.out];rfl,m⟩
   |true=>
    rw[z]at k
    have u:Hid (∀i,i<j+1->p i=false):=λi E=>by
     by_cases e:i=j
     ·rw[e];exact k.out
     ·exact D.out.out i (by omega)
    clear z k D;go_wp2_with fail
    go_roundw
    case rel=>exact⟨j+1,by omega,by go_num,m,u⟩
    case measure=>simp[intOf] <;> omega
  ·obtain rfl:j=v.size:=by omega
   have K:Hid (anyN p v.size=false):=(zez _ _).2 n;go_wp2;go_ret;exact⟨by rw[K.out];rfl,hb⟩
theorem zxi(v:ByteArray)(w:World):Calls prog 206 #[.string v] w λe w'=>e=.returned (.bool true)/\Below w.heap.size w w':=by
 go_in
 go_wp2;go_ret;exact⟨rfl,Qg _ _⟩
theorem zhB(p:UInt8->Bool):∀l:List UInt8,(l.dropWhile p).dropWhile p=l.dropWhile p
 | []=>rfl
 |a::l=>by
  rw[Xy]
  by_cases h:p a=true
  ·rw[Qi h];exact zhB p l
  ·rw[Qe h,Xy,Qe h]
theorem zdh(p:UInt8->Bool):∀l:List UInt8,∃k,k<=l.length/\l.dropWhile p=l.drop k
 | []=>⟨0,Qd _,rfl⟩
 |a::l=>by
  rw[Xy]
  by_cases h:p a=true
  ·rw[Qi h]
   obtain⟨k,b,e⟩:=zdh p l;exact⟨k+1,by simp;omega,by rw[e];rfl⟩
  ·rw[Qe h];exact⟨0,Qm _,rfl⟩
theorem zqh(l:List UInt8):∃k,k<=l.length/\zc7 l=l.take k:=by
 obtain⟨k,a,e⟩:=zdh zgw l.reverse;refine⟨l.length-k,by omega,?_⟩;unfold zc7;rw[e,List.drop_reverse,List.reverse_reverse]
theorem zqu(l:List UInt8):∃a b,l=a++zaF l++b:=by
 unfold zaF;obtain⟨i,_,e⟩:=zdh zgw l;obtain⟨k,_,c⟩:=zqh (l.dropWhile zgw);refine⟨l.take i,(l.drop i).drop k,?_⟩;rw[c,e,QH,Zm,Zm]
theorem zoO(l:List UInt8):(zaF l).length<=l.length:=by
 obtain⟨a,b,e⟩:=zqu l;have:=Zt List.length e;simp only[Qa]at this;omega
theorem PhrAt.low{B C:Nat}{ws:List ByteArray}{b a:Nat}{w:World}(h:PhrAt C ws b a w)(hb:B<=C):PhrAt B ws b a w:=by
 obtain⟨h1,h2,k,g,cap,f,e,d,A,c,j,i⟩:=h;exact⟨Qn hb h1,Qn hb h2,k,g,cap,f,e,d,A,c,Qn hb j,i⟩
def tstP(ws:List ByteArray)(v:ByteArray):Bool:=decide (0<(zba (lstS ws) (zav v.data.toList) (zav v.data.toList).length).length)
theorem ziJ(v:ByteArray):(lowB v).size=v.size:=by
 unfold lowB;rw[zaj];unfold zav;simp
theorem zoI(ws:List ByteArray)(s:zjz ws)(v:ByteArray)(t:v.size<=8192)(B j i:Nat)(w:World)(h:PhrAt B ws j i w):
 Calls prog 247 #[.string v,.pointer (some ⟨j,0,none⟩),.pointer (some ⟨i,0,none⟩)] w λe w'=>e=.returned (.bool (tstP ws v))/\Below w.heap.size w w':=by
 obtain⟨_,_,z,g,cap,x,u,k,A,c,_,h1,h2,l⟩:=h;have p:Hid (Calls prog 64 #[.string v] w.drew (zbN (lowB v) w.drew)):=hIx (zbg v w.drew (by unfold maxLen;omega))
 have q:Hid (∀W,Below w.heap.size w W->Calls prog 248 #[.slice (some ⟨g,0,none⟩) k.length cap,.int .i64 (ws.length:Int),.string (lowB v)] W λe w'=>e=.returned (.tuple #[.bool (tstP ws v),.int .i64 0])/\Below W.heap.size W w'):=hIx λW o=>
  ztH s (lowB v) (by rw[ziJ];exact t) (l.below o)
 generalize tstP ws v=r at *;generalize lowB v=y at *;generalize ws.length=n at *;clear l
 go_in
 go_wp2_with fail
 go_region_held3 (λw'=>w'.cell? ⟨j,0,none⟩=some (.slice (some ⟨g,0,none⟩) k.length cap)/\w'.cell? ⟨i,0,none⟩=some (.slice A n c))
  (first|exact⟨h1,h2⟩|exact⟨zaa a h1,zaa a h2⟩|exact⟨zaa b h1,zaa b h2⟩|go_keep|fail "keep")
  (first
   |(go_at_call 64;(with_reducible refine(p.out).mono ?_);rintro e w2 ⟨rfl,f⟩;have a:Below w.heap.size w w2:=undrew f)
   |(go_at_call 248;(with_reducible refine(q.out _ a).mono ?_);rintro e m ⟨rfl,d⟩;have b:Below w.heap.size w m:=a.trans (d.mono a.size))|fail "arm")
 go_wp2;go_ret;exact⟨rfl,b⟩
theorem zsZ(a:ByteArray)(w:World)(b:LibOk w)(o:a.size<=1048576):
 Calls prog 157 #[.int .i64 2,.string a] w λe w'=>(OkW (phrW a)->zxv (phrW a) w e w')/\(¬OkW (phrW a)->zzZ w e w'):=by
 have hb:Below w.heap.size w ((w.alloc (.cells #[.int .i64 2] 3)).alloc (.cells #[.string a] 9)):=WaL.alloc (by simp) _;have g:=zod a ((w.alloc (.cells #[.int .i64 2] 3)).alloc (.cells #[.string a] 9)) (b.below hb) o;generalize phrW a=ws at *
 by_cases c:OkW ws
 ·have l:=hIx (g.mono λe w' h=>h.1 c)
  clear g b
  go_in
  go_wp2_with (go_at_call 202;apply Hid.out);refine WhM l ?_;rintro e m ⟨f,k,i,rfl,j⟩;unfold phrF;have d:=hb.trans (f.mono hb.size);go_wp2
  go_ret2
  exact⟨λ_=>⟨d,k,i,rfl,j.low hb.size⟩,λh=>absurd c h⟩
 ·have l:=hIx (g.mono λe w' h=>h.2 c)
  clear g b
  go_in
  go_wp2_with (go_at_call 202;apply Hid.out);refine WhM l ?_;rintro e m ⟨f,k,i,r,n,rfl⟩;unfold phrF;have d:=hb.trans (f.mono hb.size);go_wp2
  go_ret2
  exact⟨λh=>absurd h c,λ_=>⟨d,k,i,r,n,rfl⟩⟩
def tstT(op:Int)(a v:ByteArray):Bool:=if op=4 then Lib.contains v.data.toList a.data.toList else if op=5 then Lib.hasPrefix v.data.toList a.data.toList else if op=6 then Lib.hasSuffix v.data.toList a.data.toList else v.toList==a.toList
theorem znk(op:Int)(c:op=3\/op=4\/op=5\/op=6)(a v:ByteArray)(l:v.size<=8192)(g f:Nat)(w:World)(b:LibOk w)(h1:w.cell? ⟨g,0,none⟩=some (.int .i64 op))(h2:w.cell? ⟨f,0,none⟩=some (.string a)):
 Calls prog 207 #[.string v,.pointer (some ⟨g,0,none⟩),.pointer (some ⟨f,0,none⟩)] w λe w'=>e=.returned (.bool (tstT op a v))/\Below w.heap.size w w':=by
 obtain⟨m,j⟩:=b;have h:=hIx (strings_Contains v a m w (by omega) j);have k:=hIx (strings_HasPrefix v a w);have i:=hIx (strings_HasSuffix v a w (by omega));unfold tstT
 rcases c with rfl|rfl|rfl|rfl
 all_goals
  go_in
  go_wp2_with (first|(go_at_call 208;refine h.out.mono ?_;rintro e d ⟨rfl,rfl⟩)|(go_at_call 209;refine k.out.mono ?_;rintro e d ⟨rfl,rfl⟩)|(go_at_call 210;refine i.out.mono ?_;rintro e d ⟨rfl,rfl⟩));go_ret;exact⟨rfl,Qg _ _⟩
