/- Lemmas for the last texts. -/
import Derived.Test.YtfhaojhofiocaaaGreatDoorM08
import Derived.Test.YtfhaojhofiocaaaGreatDoorM13
set_option maxHeartbeats 1600000
set_option maxRecDepth 100000
namespace Go.Proofs.YtfhaojhofiocaaaGreatDoor
open Go.RowKit Go.Proofs.Tryz
noncomputable def argC(op:Int)(s:ByteArray):Int:=
 if op=1 then (zc8 s.data.toList).2.2 else if op=2 then (mkC (zbv s):Nat)else if op=7\/op=8\/op=9 then (if (numL 10 9 s.data.toList).isSome=true then 0 else 4)
 else if op=10 then zjb s.data.toList else if op=11 then (zct s.data.toList).2 else if op=12 then (if s.data.toList=[]then 0 else 1)else if 200<s.size then 2 else 0
def zbS(op:Int)(s:ByteArray)(w:World)(e:Ending)(w':World):Prop:=e=jC (jA (argC op s))/\w w'
theorem zgO{s:jE}(h:(zc8 s).2.2=0):zbm (zc8 s).1=0:=by
 unfold zc8 at h ⊢
 split at h
 ·exact absurd h (by decide)
 ·split at h
  ·rename_i h1;exact absurd h h1
  ·split at h
   ·rename_i h1;exact absurd h h1
   ·rename_i a h1 h2
    rw[Qf a,Qf h1,Qf h2]
    simpa using h2
theorem zzw(s:ByteArray)(w:World)(I:s.size<=1048576):Calls prog 36 #[jA 1,.string s] w (zbS 1 s w):=by
 have B:=zlm s w (by unfold maxLen;omega);have y:Hid (argC 1 s=(zc8 s.data.toList).2.2):=hIx (by unfold argC;rw[Qj rfl]);have j:=hIx (@zgO s.data.toList);unfold zbS;rw[y.out];generalize zc8 s.data.toList=P at *;obtain⟨t,n,c⟩:=P;dsimp only at *;have D:=hIx B;clear B y
 by_cases x:c=0
 ·subst x
  have H:=j.out rfl
  go_in
  go_wp2_with (go_at_call 45;apply Hid.out);refine WhM D ?_;rintro e g ⟨A,h,rfl,m,a⟩;have d:=LX.lt (λ_ hb=>hb.2) _ _ m;have u:Hid (∀o,Calls prog 46 #[argX t A h] (g.alloc o) (zi5 t (g.alloc o))):=λo=>zoa t A h _ ((d.below ((Qi _ _).alloc (Qd _) o)).more (by simp))
  unfold argX at u ⊢;clear d m;dsimp only;go_wp2_with fail;refine(u.out _).mono ?_;rintro e w2 ⟨v,rfl,_,hl,b⟩;obtain⟨l,E,r,z⟩:=hl H;obtain⟨G,c2,rfl,C⟩:=z.form;have i:=hIx (zgE _ G c2 w2 C (zm8 E) (by simp) (by rw[Qb,QH];omega));have f:=zaN b (Qd _);generalize (l++[(⟨6,0,0,.zero⟩:Ins)]).length=J at *;clear b C z hl;go_wp2_with fail;refine i.out.mono ?_;rintro e w3 ⟨rfl,q⟩;have k:=(a.trans (f.mono a.size)).trans (q.mono (Ql a.size f.size));go_wp2;go_ret;exact⟨rfl,k⟩
 ·have F:(c==0)=false:=Qc.2 x
  go_in
  go_wp2_with (go_at_call 45;apply Hid.out);refine WhM D ?_;rintro e g ⟨A,h,rfl,m,a⟩;unfold argX;dsimp only;go_wp2;go_ret;exact⟨rfl,a.alloc a.size _⟩
theorem zw9(s:ByteArray)(w:World)(y:s.size<=1048576)(f:LibOk w):Calls prog 36 #[jA 2,.string s] w (zbS 2 s w):=by
 obtain⟨t,i⟩:=f;have b:=strings_Split s ⟨#[124]⟩ t w (by omega) i (by decide);have d:=zj2 s;rw[<-d]at b;have n:Hid (argC 2 s=(mkC (zbv s):Nat)):=hIx (by unfold argC;rw[Qf (by decide),Qj rfl]);unfold zbS;rw[n.out]
 change Calls _ _ _ _ λe w'=>e=jC (.slice w.heap.size (zbv s).length (zbv s).length)/\w'=w.alloc (.cells ((zbv s).map Value.string).toArray 9)at b
 generalize zbv s=a at *;have k:=hIx b
 have c:OwnG zeq (w.alloc (.cells (a.map Value.string).toArray 9)) w.heap.size (.slice w.heap.size a.length a.length) a:=by
  have:=Xw (base:=w.heap.size) (e:=9) (size:=1) w (a.map Value.string).toArray a.length (Qd _) (by have:=Lib.countB_le ⟨#[124]⟩ (by decide) s.size s (Qd _);unfold maxLen;omega) (by simp);unfold OwnG;rw[zdI];exact this
 have h:Sl (w.alloc (.cells (a.map Value.string).toArray 9)) (w.alloc (.cells (a.map Value.string).toArray 9)).heap.size 1 (some ⟨w.heap.size,0,none⟩) a.length (a.map Value.string):=by
  obtain⟨x,c5,o,m⟩:=c.form;injection o with r _ _
  subst r;rw[zdI]at m;exact m
 have q:=hIx (zrl (some ⟨w.heap.size,0,none⟩) a.length a.length a _ rfl h);have g:w (w.alloc (.cells (a.map Value.string).toArray 9)):=WaL;clear b d c h n
 go_in
 go_wp2_with (go_at_call 49;apply Hid.out);refine WhM k ?_;rintro e u ⟨rfl,rfl⟩;go_wp2_with (go_at_call 48;apply Hid.out);refine WhM q ?_;rintro e w2 ⟨l,v,rfl⟩;have j:=g.trans (l.mono g.size);go_wp2;go_ret;exact⟨rfl,j⟩
theorem zxn(op:Int)(a:op=7\/op=8\/op=9)(s:ByteArray)(w:World)(g:s.size<=1048576):Calls prog 36 #[jA op,.string s] w (zbS op s w):=by
 have b:=hIx (zge s w (by unfold maxLen;omega));have c:Hid (argC op s=if (numL 10 9 s.data.toList).isSome=true then 0 else 4):=hIx (by unfold argC;rw[Qf (by omega),Qf (by omega),Qj a]);unfold zbS;rw[c.out];clear c;cases d:numL 10 9 s.data.toList with
 |none=>
  rw[d]at b
  rcases a with rfl|rfl|rfl
  all_goals
   go_in
   go_wp2_with (go_at_call 50;refine b.out.mono ?_;rintro e f ⟨rfl,rfl⟩;unfold zcg);go_ret;exact⟨rfl,Qi _ _⟩
 |some k=>
  rw[d]at b
  rcases a with rfl|rfl|rfl
  all_goals
   go_in
   go_wp2_with (go_at_call 50;refine b.out.mono ?_;rintro e f ⟨rfl,rfl⟩;unfold zcg);go_ret;exact⟨rfl,Qi _ _⟩
theorem zxc(s:ByteArray)(w:World)(g:s.size<=1048576)(a:LibOk w):Calls prog 36 #[jA 10,.string s] w (zbS 10 s w):=by
 have b:=hIx (zl1 s w (by omega) a);have d:Hid (argC 10 s=zjb s.data.toList):=hIx (by unfold argC;rw[Qf (by decide),Qf (by decide),Qf (by decide),Qj rfl]);unfold zbS;rw[d.out];unfold zdy at b;generalize zjb s.data.toList=c at *;clear d a
 go_in
 go_wp2_with (go_at_call 51;apply Hid.out);refine WhM b ?_;rintro e f ⟨v,rfl,_,_,hb⟩;go_wp2;go_ret;exact⟨rfl,hb⟩
theorem zrH(s:ByteArray)(w:World)(g:s.size<=1048576)(a:LibOk w):Calls prog 36 #[jA 11,.string s] w (zbS 11 s w):=by
 have b:=hIx (zlY s w a (by omega));have d:Hid (argC 11 s=(zct s.data.toList).2):=hIx (by unfold argC;rw[Qf (by decide),Qf (by decide),Qf (by decide),Qf (by decide),Qj rfl]);unfold zbS;rw[d.out];unfold zis at b;generalize zct s.data.toList=c at *;obtain⟨F,c⟩:=c;clear d a
 go_in
 go_wp2_with (go_at_call 52;apply Hid.out);refine WhM b ?_;rintro e f ⟨rfl,hb⟩;unfold setA;go_wp2;go_ret;exact⟨rfl,hb⟩
theorem zvf(s:ByteArray)(w:World):Calls prog 36 #[jA 12,.string s] w (zbS 12 s w):=by
 have b:Hid (argC 12 s=if s.data.toList=[]then 0 else 1):=hIx (by unfold argC;rw[Qf (by decide),Qf (by decide),Qf (by decide),Qf (by decide),Qf (by decide),Qj rfl]);unfold zbS;rw[b.out];clear b
 by_cases h:s.data.toList=[]
 ·have q:s.toList.isEmpty=true:=by rw[Xc,h];rfl
  have d:(s.toList==[])=true:=by rw[Xc,h];rfl
  rw[Qj h]
  go_in
  go_wp2;go_ret;exact⟨rfl,Qi _ _⟩
 ·have q:s.toList.isEmpty=false:=by rw[Xc];cases c:s.data.toList with|nil=>exact absurd c h|cons a r=>rfl
  have d:(s.toList==[])=false:=by rw[Xc];exact Qc.2 h
  rw[Qf h]
  go_in
  go_wp2;go_ret;exact⟨rfl,Qi _ _⟩
theorem zvT(op:Int)(a:op=3\/op=4\/op=5\/op=6)(s:ByteArray)(w:World):Calls prog 36 #[jA op,.string s] w (zbS op s w):=by
 have b:Hid (argC op s=if 200<s.size then 2 else 0):=hIx (by unfold argC;rw[Qf (by omega),Qf (by omega),Qf (by omega),Qf (by omega),Qf (by omega),Qf (by omega)]);unfold zbS;rw[b.out];clear b
 by_cases h:200<s.size
 have d:decide ((200:Int)<(s.size:Int))=true:=by simp;omega
 rw[Qj h]
 rotate_left
 have d:decide ((200:Int)<(s.size:Int))=false:=by simp;omega
 rw[Qf h]
 all_goals
  rcases a with rfl|rfl|rfl|rfl
  all_goals
   go_in
   go_wp2;go_ret;exact⟨rfl,Qi _ _⟩
theorem zxd(op:Int)(h1:1<=op)(h2:op<=12)(s:ByteArray)(w:World)(b:s.size<=1048576)(a:LibOk w):Calls prog 36 #[jA op,.string s] w (zbS op s w):=by
 rcases(by omega:op=1\/op=2\/(op=7\/op=8\/op=9)\/op=10\/op=11\/op=12\/(op=3\/op=4\/op=5\/op=6))with rfl|rfl|h|rfl|rfl|rfl|h
 ·exact zzw s w b
 ·exact zw9 s w b a
 ·exact zxn op h s w b
 ·exact zxc s w b a
 ·exact zrH s w b a
 ·exact zvf s w
 ·exact zvT op h s w
abbrev zas:=ByteArray × ByteArray
def zaJ(x:zas):List Value:=[.string x.1,.string x.2]
theorem zjB(l:List zas):(l.flatMap zaJ).length=l.length*2:=by
 induction l with
 |nil=>rfl
 |cons x l ih=>rw[QV,Qb,ih];simp only[zaJ,Qq,QP];omega
theorem zjr(l:List zas):∀u∈l.flatMap zaJ,u.oneCell'=true:=λu a=>by
 obtain⟨x,_,h⟩:=List.mem_flatMap.1 a;simp only[zaJ,QN,Zz,XA]at h
 rcases h with rfl|rfl <;> rfl
theorem zmn:∀(l:List zas) (k:Nat) (h:k<l.length),(l.flatMap zaJ)[k*2]? = some (.string l[k].1)/\(l.flatMap zaJ)[k*2+1]? = some (.string l[k].2)
 | [],k,h=>absurd h (by simp)
 |x::l,0,_=>⟨rfl,rfl⟩
 |x::l,k+1,h=>by
  have:=zmn l k (by simpa using h);rw[QV,show (k+1)*2=2+k*2 by omega,Q1 (by simp[zaJ]),show 2+k*2+1=2+(k*2+1)by omega,Q1 (by simp[zaJ])]
  simpa[zaJ]using this
def OwnV(w:World)(base:Nat)(v:Value)(l:List zas):Prop:=w.ownsRow base 162 2 v l.length (l.flatMap zaJ)
theorem OwnV.nil(w:World)(base:Nat):OwnV w base (jD 0 0) []:=ZH w base 162 2
theorem OwnV.below{w w':World}{base:Nat}{v:Value}{l:List zas}(h:OwnV w base v l)(hb:w w'):OwnV w' base v l:=zaM h hb
theorem OwnV.keep{w w':World}{base:Nat}{v:Value}{l:List zas}(h:OwnV w base v l)(b:∀g,v.ownBlock=some g->w'.heap[g]? = w.heap[g]?):OwnV w' base v l:=by
 refine⟨h.1,?_⟩
 rcases h.2 with d|⟨g,cap,a,h1,h2,e,c⟩
 ·exact .inl d
 ·exact .inr ⟨g,cap,a,h1,h2,(b g (by rw[h1];rfl)).trans e,c⟩
theorem OwnV.low{w:World}{base b:Nat}{v:Value}{l:List zas}(h:OwnV w base v l)(hb:b<=base):OwnV w b v l:=
 ⟨h.1,h.2.imp_right λ⟨g,cap,a,h1,h2,c⟩=>⟨g,cap,a,h1,Ql hb h2,c⟩⟩
theorem OwnV.form{w:World}{base:Nat}{v:Value}{l:List zas}(h:OwnV w base v l):∃A c,v=.slice A l.length c/\Sl w w.heap.size 2 A l.length (l.flatMap zaJ):=by
 rcases h.2 with ⟨h1,h2⟩|⟨g,cap,a,h1,hb,e,_⟩
 ·have:l=[]:=QA h2
  subst this;exact⟨none,0,h1,Sl.nil _ _ _ _⟩
 ·refine⟨_,_,h1,zjB l,λd=>⟨g,0,rfl,?_,λj b=>?_⟩⟩
  ·exact(QE h g (by rw[h1];simp[Value.ownBlock])).2
  ·have:=Zq (g:=g) h (by rw[h1];simp[Value.ownBlock]) j _ (Qe b)
   rw[zbd]at this;rw[Ze];exact this
theorem zoz{w:World}{B n:Nat}{A:Option Addr}{l:List zas}(h:Sl w B 2 A n (l.flatMap zaJ))(k:Nat)(f:k<l.length):
 ∃b a,A=some ⟨b,a,none⟩/\b<B/\w.cell? ⟨b,a+k*2,none⟩=some (.string l[k].1)/\w.cell? ⟨b,a+k*2+1,none⟩=some (.string l[k].2):=by
 have hl:=zjB l;obtain⟨b,a,e,hb,d⟩:=h.src (by omega);obtain⟨c,h1⟩:=zmn l k f;refine⟨b,a,e,hb,?_,?_⟩
 ·rw[d (k*2) (by omega)]
  rw[Qe (by omega)]at c;exact c
 ·rw[Zf,d (k*2+1) (by omega)]
  rw[Qe (by omega)]at h1;exact h1
theorem zoU:(prog.info? 162).map (λi=>(i.zero,i.size,i.bytes))=some (some (.agg #[.string ByteArray.empty,.string ByteArray.empty]),2,32):=by kernel_rfl
section
variable {ops:Array Oper} {rest:List Oper} {o:Oper} {a:Act} {Q:Exit->Act->World->Prop} {w:World}
theorem ziS(f:o.guard=none)(s x:Operand)(z:o.op=.call {callee:=.builtin .append,args:=#[s,x],argTypes:=#[49,49]})
 (base:Nat) (v:Value) (l:List zas) (C:a.eval s=v) (d:OwnV w base v l) (b:base<=w.heap.size)
 (n:List Value) (new:zas) (F:n=zaJ new) (q:Nat) (m:w.heap.size=q) (c:Nat) (E:a.eval x=.slice q 1 c)
 (e:l.length<=4194304)
 (h:∀v' w',OwnV w' base v' (l++[new])->Below base w w'->(∀g,g<w.heap.size->v.ownBlock≠some g->w'.heap[g]? = w.heap[g]?)->w.heap.size<w'.heap.size->wpList prog ops Q rest (a.put o.dst v') w'):
 wpList prog ops Q (o::rest) a (w.alloc (.cells n.toArray 162)):=by
 subst F;subst m
 obtain⟨y,D,i,j,k⟩:=ZG zoU
 refine Z3 f λ_ t=>zaT s x 49 z base 162 y _ 2 32 underlying49 D i j k rfl (by decide) v l.length (l.flatMap zaJ) C d b (zaJ new) 1 c E rfl
  (λu A=>zjr [new] u (by simpa using A)) (by unfold maxLen;omega) (by omega) λv' w' h1 h2 B r=>t _ _ (h v' w' (by unfold OwnV;rw[Qb,Q7];simpa using h1) h2 B r)
end
def isN(a:ByteArray)(x:Pair):Bool:=a.toList.isEmpty||(x.1.toList==a.toList)
def zfa(l:List Pair)(a:ByteArray):List Pair:=l.filter (isN a)
def zgj(l:List Pair):List Pair:=l.map λx=>(x.1,x.1)
def zw2(f:zas):Pair:=(bs (zaB f.1.data.toList),f.2)
def zbf(a:List zas):List Pair:=a.map zw2
theorem zqa(l:List Pair)(a:ByteArray)(k:Nat)(h:k<l.length):zfa (l.take (k+1)) a=zfa (l.take k) a++if isN a l[k]=true then [l[k]]else []:=by
 unfold zfa;rw[Qu h,ZR]
 by_cases c:isN a l[k]=true <;> simp[c]
theorem zuj(l:List Pair)(a:ByteArray)(k:Nat):(zfa (l.take k) a).length<=k:=Ql (Zh _ _) (ZN _ _)
def RowA(l:List Pair)(w:World)(e:Ending)(w':World):Prop:=∃v,e=jC v/\OwnA w' w.heap.size v l/\w w'
def zxG(w:World)(l:List Pair)(a:ByteArray)(v i:Value)(wr:World):Prop:=
 ∃k:Nat,k<=l.length/\i=jA k/\OwnA wr w.heap.size v (zfa (l.take k) a)/\w wr
def zwZ(w:World)(f:List Pair)(v i:Value)(wr:World):Prop:=
 ∃k:Nat,k<=f.length/\i=jA k/\OwnA wr w.heap.size v (f.take k)/\w wr
section
variable {ops:Array Oper} {o:Oper} {a:Act} {Q:Exit->Act->World->Prop} {w:World}
theorem zkf{K:Act->World->Prop}{E:Prop}(f:o.guard=none)(s x:Operand)(z:o.op=.call {callee:=.builtin .append,args:=#[s,x],argTypes:=#[206,206]})
 (base:Nat) (v:Value) (l:List Pair) (C:a.eval s=v) (d:OwnA w base v l) (b:base<=w.heap.size)
 (n:List Value) (new:Pair) (G:n=za6 new) (q:Nat) (m:w.heap.size=q) (c:Nat) (F:a.eval x=.slice q 1 c)
 (e:l.length<=4194304)
 (h:∀v' w',OwnA w' base v' (l++[new])->Below base w w'->(∀g,g<w.heap.size->v.ownBlock≠some g->w'.heap[g]? = w.heap[g]?)->w.heap.size<w'.heap.size->K (a.put o.dst v') w'):
 if Region.wanted o (yielded ops a.tmps)=true then Oper.wp prog o a (w.alloc (.cells n.toArray 279)) K Q else E:=by
 subst G;subst m
 obtain⟨t,D,i,j,k⟩:=ZG zkN;have y:Region.wanted o (yielded ops a.tmps)=true:=by simp[Region.wanted,f]
 rw[Qj y]
 exact zaT s x 206 z base 279 t _ 2 32 underlying206 D i j k rfl (by decide) v l.length (l.flatMap za6) C d b (za6 new) 1 c F rfl
  (λu A=>zgc [new] u (by simpa using A)) (by unfold maxLen;omega) (by omega) λv' w' h1 h2 B r=>h v' w' (by unfold OwnA;rw[Qb,Q7];simpa using h1) h2 B r
end
theorem za0{w w':World}{g:Nat}{x:Option Value}(h:w'.heap[g]? = w.heap[g]?)(i:Nat)(a:w.cell? ⟨g,i,none⟩=x):w'.cell? ⟨g,i,none⟩=x:=by rw[<-a];simp only[World.cell?, h]
theorem zxC(w:World)(x:Pair):OwnA (w.alloc (.cells #[.string x.1,.string x.2] 279)) w.heap.size (.slice w.heap.size 1 1) [x]:=
 Xw w #[.string x.1,.string x.2] 1 (Qd _) (by decide) rfl
theorem zug{B:Nat}{W w':World}(hb:Below B W.drew w'):Below B W w':=⟨hb.os,hb.tape,hb.output,hb.size,hb.block⟩
theorem zkp(l:List Pair)(A:Option Addr)(c:Nat)(a:ByteArray)(w:World)(h:Sl w w.heap.size 2 A l.length (l.flatMap za6))(hl:l.length<=4194304):
 Calls prog 223 #[.slice A l.length c,.string a] w (RowA (zfa l a) w):=by
 go_in
 go_wp2
 go_loopw [5,10] (λv i wr=>zxG w l a v i wr) (λ_ i _=>l.length-(intOf i).toNat)
 case atStart=>exact⟨0,Qn _,rfl,OwnA.nil _ _,Qi _ _⟩
 case round=>
  obtain⟨k,O,rfl,s,hb⟩:=hrel
  by_cases t:k<l.length
  ·have H:decide ((k:Int)<(l.length:Int))=true:=by simp;omega
   have P:IntKind.i64.wrap ((k:Int)+1)=(k:Int)+1:=Qz _ (by omega);obtain⟨b,J,rfl,K,N,Q⟩:=zpa (h.below hb) k t;have y:=hIx (zqa l a k t);have L:=zuj l a k;have d:wr (wr.alloc (.cells #[.string l[k].1,.string l[k].2] 279)):=WaL;have n:=s.below d;have x:w.heap.size<=(wr.alloc (.cells #[.string l[k].1,.string l[k].2] 279)).heap.size:=Ql hb.size d.size;have m:=hb.trans (d.mono hb.size);cases e:isN a l[k]with
   |true=>
    have f:Hid (zfa (l.take (k+1)) a=zfa (l.take k) a++[l[k]]):=by unfold Hid;rw[y.out,Qj e]
    unfold isN at e;generalize l[k]=X at *;obtain⟨C,n2⟩:=X;dsimp only at *;generalize zfa (l.take k) a=j at *;obtain⟨F,D,rfl,_⟩:=s.form;have g:=hIx n;have o:=hIx m;have u:=hIx x;clear s d n m hb y x;cases E:a.toList.isEmpty with
    |true=>
     clear e;go_wp2_with (at_builtin;refine za2 rfl (.tmp 22) (.tmp 24) rfl w.heap.size (.slice F j.length D) j rfl (by exact g.out) (by exact u.out) _ (C,n2) rfl (wr.heap.size+1) (by rw[Qp]) 1 rfl (by omega) ?_;intro G I q r z B);exact⟨⟨k+1,by omega,rfl,by rw[f.out];exact q,o.out.trans r⟩,by dsimp only[intOf];omega⟩
    |false=>
     rw[E,Bool.false_or]at e;go_wp2_with (at_builtin;refine za2 rfl (.tmp 22) (.tmp 24) rfl w.heap.size (.slice F j.length D) j rfl (by exact g.out) (by exact u.out) _ (C,n2) rfl (wr.heap.size+1) (by rw[Qp]) 1 rfl (by omega) ?_;intro G I q r z B);exact⟨⟨k+1,by omega,rfl,by rw[f.out];exact q,o.out.trans r⟩,by dsimp only[intOf];omega⟩
   |false=>
    have f:Hid (zfa (l.take (k+1)) a=zfa (l.take k) a):=by unfold Hid;rw[y.out,Qf (by rw[e];decide),QO]
    unfold isN at e;rw[Xx]at e;obtain⟨E,e⟩:=e;generalize l[k]=X at *;obtain⟨C,n2⟩:=X;dsimp only at *;have g:=hIx n;have o:=hIx m;clear s d n m hb y;go_wp2;exact⟨⟨k+1,by omega,rfl,by rw[f.out];exact g.out,o.out⟩,by dsimp only[intOf];omega⟩
  ·obtain rfl:k=l.length:=by omega
   have H:decide ((l.length:Int)<(l.length:Int))=false:=by simp
   rw[Q0]at s;go_wp2;go_ret;exact⟨_,rfl,s,hb⟩
theorem zoi(l:List Pair)(A:Option Addr)(c:Nat)(w:World)(h:Sl w w.heap.size 2 A l.length (l.flatMap za6))(hl:l.length<=4194304):
 Calls prog 224 #[.slice A l.length c] w (RowA (zgj l) w):=by
 have e:(zgj l).length=l.length:=by unfold zgj;rw[Qk]
 have a:=hIx e;clear e
 go_in
 go_wp2
 go_loopw [3,8] (λv i wr=>zwZ w (zgj l) v i wr) (λ_ i _=>l.length-(intOf i).toNat)
 case atStart=>exact⟨0,Qn _,rfl,OwnA.nil _ _,Qi _ _⟩
 case round=>
  obtain⟨k,y,rfl,j,hb⟩:=hrel;rw[a.out]at y
  by_cases f:k<l.length
  ·have C:decide ((k:Int)<(l.length:Int))=true:=by simp;omega
   have L:IntKind.i64.wrap ((k:Int)+1)=(k:Int)+1:=Qz _ (by omega);obtain⟨b,E,rfl,G,J,O⟩:=zpa (h.below hb) k f
   have z:Hid ((zgj l).take (k+1)=(zgj l).take k++[(l[k].1,l[k].1)]):=by
    unfold Hid;rw[Qu (by rw[a.out];exact f)];simp[zgj]
   have H:((zgj l).take k).length<=k:=ZN _ _;have d:wr (wr.alloc (.cells #[.string l[k].1,.string l[k].2] 279)):=WaL;have o:=j.below d;have m:w.heap.size<=(wr.alloc (.cells #[.string l[k].1,.string l[k].2] 279)).heap.size:=Ql hb.size d.size;have n:=hb.trans (d.mono hb.size);generalize l[k]=X at *;obtain⟨x,n2⟩:=X;dsimp only at *;generalize (zgj l).take k=g at *;obtain⟨I,F,rfl,_⟩:=j.form;have s:=hIx o;have u:=hIx n;have r:=hIx m;clear j d o n hb m;go_wp2_with (at_builtin;refine za2 rfl (.tmp 12) (.tmp 18) rfl w.heap.size (.slice I g.length F) g rfl (by exact s.out) (by exact r.out) _ (x,x) rfl (wr.heap.size+1) (by rw[Qp]) 1 rfl (by omega) ?_;intro K N q t B D);exact⟨⟨k+1,by rw[a.out];omega,rfl,by rw[z.out];exact q,u.out.trans t⟩,by dsimp only[intOf];omega⟩
  ·obtain rfl:k=l.length:=by omega
   have C:decide ((l.length:Int)<(l.length:Int))=false:=by simp
   rw[<-a.out,Q0]at j;go_wp2;go_ret;exact⟨_,rfl,j,hb⟩
theorem zjp(m t:ByteArray)(d:List zas)(A:Option Addr)(c:Nat)(w:World)(h:Sl w w.heap.size 2 A d.length (d.flatMap zaJ))(hs:∀f∈d,f.1.size<=maxLen)(hl:d.length<=4194304):
 Calls prog 225 #[.agg #[.string m,.string t,.slice A d.length c]] w (RowA (zbf d) w):=by
 have r:(zbf d).length=d.length:=by unfold zbf;rw[Qk]
 have l:=hIx r;have U:=hIx hs;have B:w (w.alloc (.cells #[.string m,.string t,.slice A d.length c] 51)):=WaL;have N:=hIx B;clear r hs B
 go_in
 go_wp2
 go_loopw [3,9] (λv i wr=>zwZ w (zbf d) v i wr) (λ_ i _=>d.length-(intOf i).toNat)
 case atStart=>exact⟨0,Qn _,rfl,OwnA.nil _ _,N.out⟩
 case round=>
  obtain⟨k,hk,rfl,x,hb⟩:=hrel;rw[l.out]at hk
  by_cases n:k<d.length
  ·have d1:decide ((k:Int)<(d.length:Int))=true:=by simp;omega
   have i7:IntKind.i64.wrap ((k:Int)+1)=(k:Int)+1:=Qz _ (by omega);obtain⟨b,h4,rfl,h5,x0,x1⟩:=zoz (h.below hb) k n;have z:=U.out d[k] (QC n)
   have HG:Hid ((zbf d).take (k+1)=(zbf d).take k++[(bs (zaB d[k].1.data.toList),d[k].2)]):=by
    unfold Hid;rw[Qu (by rw[l.out];exact n)];simp[zbf,zw2]
   have h0:((zbf d).take k).length<=4194304:=Ql (ZN _ _) (by omega);generalize d[k]=X at *;obtain⟨j,n2⟩:=X;dsimp only at *;generalize (zbf d).take k=q at *;have F:Hid (∀W,Calls prog 116 #[.string j] W (zbJ (bs (zaB j.data.toList)) W)):=λW=>zbg j W z
   generalize bs (zaB j.data.toList)=L1 at *;have hz:=hb.size;obtain⟨Ao,co,rfl,_⟩:=x.form;have HO:=hIx x;have V:=hIx hb;clear x hb z;go_wp2_with fail;have Y:=Qv wr (.cells #[.string j,.string n2] 162);have G:wr (wr.alloc (.cells #[.string j,.string n2] 162)):=WaL;have D:wr.heap.size<(wr.alloc (.cells #[.string j,.string n2] 162)).heap.size:=by simp
   generalize wr.alloc (.cells #[.string j,.string n2] 162)=K at *;have P:=Qo _ wr.heap.size 0 _ _ _ Y;have S:=Qo _ wr.heap.size 1 _ _ _ Y;simp only[Z1,Z5,XB]at P S;have H:Hid (∀W,K W->W.cell? ⟨wr.heap.size,0,none⟩=some (.string j)/\W.cell? ⟨wr.heap.size,1,none⟩=some (.string n2)):=λW hb=>⟨zaa hb P,zaa hb S⟩
   have T:=hIx G;have s:Hid ((Value.slice Ao q.length co).ownBlock≠some wr.heap.size):=λe=>by have:=(HO.out.lt _ e).2;omega
   clear Y G x0 x1
   go_region_held3 (λw'=>w'.cell? ⟨wr.heap.size,0,none⟩=some (.string j)/\w'.cell? ⟨wr.heap.size,1,none⟩=some (.string n2))
    (first|exact I|exact H.out _ (a.alloc a.size _)|exact H.out _ a|go_keep)
    (first
     |(go_at_call 116;(with_reducible refine(F.out _).mono ?_);rintro e L ⟨rfl,J⟩;have a:K L:=zug J;have g:wr L:=T.out.trans (a.mono (QZ D));have C:=HO.out.below g;have Z:w.heap.size<=L.heap.size:=Ql hz g.size)
     |(refine zkf rfl (.tmp 13) (.tmp 20) rfl w.heap.size (.slice Ao q.length co) q rfl (by exact C) (by exact Z) _ (L1,n2) rfl L.heap.size rfl 1 rfl h0 ?_;intro v5 Q O y u h3;have o:=u wr.heap.size (Qw D a.size) s.out;have I:Q.cell? ⟨wr.heap.size,0,none⟩=some (.string j)/\Q.cell? ⟨wr.heap.size,1,none⟩=some (.string n2):=⟨za0 o 0 (H.out _ a).1,za0 o 1 (H.out _ a).2⟩))
   have E:w Q:=V.out.trans ((g.mono hz).trans y);clear H F C J a I o u P S y g;go_wp2;exact⟨⟨k+1,by rw[l.out];omega,rfl,by rw[HG.out];exact O,E⟩,by dsimp only[intOf];omega⟩
  ·obtain rfl:k=d.length:=by omega
   have d1:decide ((d.length:Int)<(d.length:Int))=false:=by simp
   rw[<-l.out,Q0]at x;go_wp2;go_ret;exact⟨_,rfl,x,hb⟩
theorem zdc(s:ByteArray)(w:World):Calls prog 211 #[.string s] w (RowA [(ByteArray.mk #[],s)] w):=by
 go_in
 go_wp2;go_ret;exact⟨_,rfl,zxC w (ByteArray.mk #[],s),WaL⟩
structure Since(B:Nat)(w W:World):Prop where
 size:w.heap.size<=W.heap.size
 keep:∀k,B<=k->k<w.heap.size->W.heap[k]? = w.heap[k]?
theorem Since.refl(B:Nat)(w:World):Since B w w:=⟨Qd _,λ_ _ _=>rfl⟩
theorem Since.trans{B:Nat}{w W V:World}(h:Since B w W)(g:Since B W V):Since B w V:=
 ⟨Ql h.size g.size,λk h1 h2=>(g.keep k h1 (Qw h2 h.size)).trans (h.keep k h1 h2)⟩
theorem Since.low{B C:Nat}{w W:World}(h:Since B w W)(hb:B<=C):Since C w W:=⟨h.size,λk h1 h2=>h.keep k (Ql hb h1) h2⟩
theorem Since.of{B:Nat}{w W:World}(h:w W):Since B w W:=⟨h.size,λk _ h2=>h.block k h2⟩
def TestAt(B:Nat)(f:ByteArray->Bool)(v:Value)(w:World):Prop:=
 ∃a b,v=.func (.func a) #[] b/\(∀args w,(callFunc a args).run prog w=.ok (.enter a args) w)/\∀W,Since B w W->LibOk W->∀s:ByteArray,s.size<=8192->Calls prog a (#[.string s]++b) W λe W'=>e=jC (.bool (f s))/\W W'
def MadeT(f:ByteArray->Bool)(w:World)(e:Ending)(w':World):Prop:=
 ∃b a,e=jC (.tuple #[.func (.func b) #[] a,jA 0])/\TestAt w.heap.size f (.func (.func b) #[] a) w'/\w w'
theorem TestAt.since{B:Nat}{f:ByteArray->Bool}{v:Value}{w W:World}(h:TestAt B f v w)(g:Since B w W):TestAt B f v W:=by
 obtain⟨c,a,e,d⟩:=h;exact⟨c,a,e,d.1,λW' b=>d.2 W' (g.trans b)⟩
theorem TestAt.low{B C:Nat}{f:ByteArray->Bool}{v:Value}{w:World}(h:TestAt C f v w)(hb:B<=C):TestAt B f v w:=by
 obtain⟨c,a,e,d⟩:=h;exact⟨c,a,e,d.1,λW' b=>d.2 W' (b.low hb)⟩
theorem zAn{t:Tree}{l:List Ins}(b:Code t 0 l)(a:Fine t)(s:jE):zi4 (l++[(⟨6,0,0,.zero⟩:Ins)]) s s.length↔∃i j,M s t i j:=by
 have hl:(l++[(⟨6,0,0,.zero⟩:Ins)]).length-1=l.length:=by simp
 unfold zi4;rw[hl]
 constructor
 ·rintro⟨i,j,c,h⟩
  exact⟨i,j,(zoK b a _ rfl i j (by have:=R.le h;omega)).1 h⟩
 ·rintro⟨i,j,h⟩
  have:=h.le;exact⟨i,j,by omega,(zoK b a _ rfl i j (by omega)).2 h⟩
theorem zui(P:List Ins)(d:OkP P)(i:∀n (h:n<P.length),P[n].kind=6↔n=P.length-1)(j:∀n (h:n<P.length),P[n].set.Wf)(m:0<P.length)(y:P.length<=400)(s:ByteArray)(D:s.size<=8192)(x:Value)(w:World)(t:OwnP w 0 x P):
 Calls prog 264 #[x,.string s] w λe w'=>∃A r,e=jC (.tuple #[.bool A,jA r])/\(A=true↔zi4 P s.data.toList s.size)/\w w':=by
 obtain⟨o,u,rfl,C⟩:=OwnP.head t m
 have k:Hid (Calls prog 281 #[.slice o P.length u,.string s] w λe w'=>e=jC (jA 0)/\w w'):=by
  have:=zrB P (some ⟨o,0,none⟩) u s w t.sl d m y;rw[Qf (by omega)]at this;exact this
 have l:Hid (∀W,w W->Calls prog 282 #[.slice o P.length u,.string s,.bool true] W (zod P s W)):=λW hb=>zuT P d i j m y s D _ W (t.below hb)
 clear d i j
 go_in
 go_wp2_with fail;refine k.out.mono ?_;rintro e E ⟨rfl,g⟩;go_wp2_with fail;refine(l.out _ g).mono ?_;rintro e w2 ⟨found,f,G,rfl,z,q⟩;have F:∀(a b:Int) (c:Bool) W,(Instr.field 356 (.agg #[jA a,jA b,.bool c]) 1).run prog W=.ok (.bool c) W:=λ_ _ _ _=>by kernel_rfl
 have hb:=g.trans (q.mono g.size);have B:=hIx z;clear z;go_wp2;exact QD (v:=.tuple #[.bool found,jA 0]) (by simp[results,results264,go_sem]) rfl ⟨found,0,rfl,B.out,hb⟩
theorem zvy(P:List Ins)(c:OkP P)(a:∀n (h:n<P.length),P[n].kind=6↔n=P.length-1)(b:∀n (h:n<P.length),P[n].set.Wf)(l:0<P.length)(o:P.length<=400)(s:ByteArray)(t:s.size<=8192)(f:Value)(g:Nat)(w:World)(v:w.cell? g=some f)(k:OwnP w 0 f P):
 Calls prog 263 #[.string s,.pointer g] w λe w'=>∃d,e=jC (.bool d)/\(d=true↔zi4 P s.data.toList s.size)/\w w':=by
 have q:=hIx (zui P c a b l o s t f w k);clear c a b k
 go_in
 go_wp2_with fail;refine q.out.mono ?_;rintro e u ⟨d,r,rfl,j,i⟩;have m:=hIx j;clear j;go_wp2;go_ret;exact⟨d,rfl,m.out,i⟩
open Classical in
noncomputable def tstR(a v:ByteArray):Bool:=decide (∃i j,M v.data.toList (zc8 a.data.toList).1 i j)
theorem znR(s:ByteArray)(w:World)(hs:s.size<=1048576)(D:(zc8 s.data.toList).2.2=0):Calls prog 240 #[.string s] w (MadeT (tstR s) w):=by
 have Z:=zlm s w (by unfold maxLen;omega);have HT:Hid (∀v:ByteArray,tstR s v=true↔∃i j,M v.data.toList (zc8 s.data.toList).1 i j):=hIx λv=>by unfold tstR;simp
 have hc:=@zgO s.data.toList D;generalize zc8 s.data.toList=P at *;obtain⟨t,n,c⟩:=P;dsimp only at *;subst D;have HP:=hIx Z;clear Z;generalize tstR s=f at *
 go_in
 go_wp2_with (go_at_call 45;apply Hid.out);refine WhM HP ?_;rintro e U ⟨A,X,rfl,hN,m⟩;have k:=LX.lt (λ_ hb=>hb.2) _ _ hN;have z:=LT.wf _ _ k;have I:Hid (∀o,Calls prog 46 #[argX t A X] (U.alloc o) (zi5 t (U.alloc o))):=λo=>zoa t A X _ ((k.below ((Qi _ _).alloc (Qd _) o)).more (by simp))
 unfold argX at I ⊢;clear k hN;have C:=hIx z;have L:=hIx hc;clear z hc;dsimp only;go_wp2_with fail;refine(I.out _).mono ?_;rintro e w2 ⟨v,rfl,_,hl,E⟩;obtain⟨l,r,u,G⟩:=hl L.out;have hf:=zkE t 1 0 L.out;have b:w w2:=m.trans ((zaN E (Qd _)).mono m.size);have a:OwnP w2 0 v (l++[(⟨6,0,0,.zero⟩:Ins)]):=⟨G.1,G.2.imp_right λ⟨g,cap,N,h1,_,h3⟩=>⟨g,cap,N,h1,Qn _,h3⟩⟩
 have y:Hid (∀v:ByteArray,zi4 (l++[(⟨6,0,0,.zero⟩:Ins)]) v.data.toList v.size↔∃i j,M v.data.toList t i j):=λv=>zAn r hf v.data.toList
 obtain⟨d,T,rfl,h0⟩:=OwnP.head a (by simp)
 have J:Hid (∀W,w2 W->Calls prog 47 #[.slice d (l++[(⟨6,0,0,.zero⟩:Ins)]).length T] W λe w'=>e=jC (jA 0)/\W w'):=λW hb=>by
  have:=a.below hb;exact zgE _ _ _ W this.sl (zm8 r) (by simp) (by rw[Qb,QH];omega)
 have V:w.heap.size<=d/\d<w2.heap.size:=by
  have h1:=QE G d rfl;have h2:=m.size;rw[Qp]at h1;omega
 have H:Hid (∀W g,W.cell? ⟨g,0,none⟩=some (.slice d (l++[(⟨6,0,0,.zero⟩:Ins)]).length T)->Since w.heap.size w2 W->∀x:ByteArray,x.size<=8192->Calls prog 263 #[.string x,.pointer (some ⟨g,0,none⟩)] W λe w'=>e=jC (.bool (f x))/\W w'):=λW g hg hb x Q=>
  (zvy _ (zm8 r) (zuc r) (zxw r C.out) (by simp) (by rw[Qb,QH];omega) x Q _ g W hg (a.keep λK B=>hb.keep K (by have e9:d=K:=QG B;omega) (QE a K B).2)).mono λe w' ⟨is,e1,e2,S⟩=>⟨by
   rw[e1];have h1:=(HT.out x).symm;have h2:=e2.trans ((y.out x).trans h1);cases is <;> cases h4:f x <;> simp_all,S⟩
 clear hl r u G a hf E I C L y HT;generalize (l++[(⟨6,0,0,.zero⟩:Ins)]).length=nl at *;go_wp2_with fail;refine(J.out _ WaL).mono ?_;rintro e w3 ⟨rfl,q⟩;have h:w3.cell? w2.heap.size=some (.slice d nl T):=Qo _ _ 0 _ _ _ ((q.block w2.heap.size (by simp)).trans (Qv w2 _));have F:w2 w3:=zaN q (Qd _);have O:=b.trans (F.mono b.size);have hz:w2.heap.size<w3.heap.size:=Qw (by simp) q.size;go_wp2;exact QD (v:=.tuple #[.func (.func 263) #[] #[.pointer w2.heap.size],jA 0]) (by simp[results,results240,go_sem]) rfl ⟨_,_,rfl,⟨_,_,rfl,λ_ _=>rfl,λW Y _ x Q=>H.out W _ (za0 (Y.keep _ b.size hz) 0 h) ((Since.of F).trans Y) x Q⟩,O⟩
theorem zz4{wr:World}{B n:Nat}{A:Option Addr}{d:List Value}{k m:Nat->Value}(h:Sl wr B 2 A n d){j:Nat}(q:j<n)(o:∀j,j<n->d[j*2]? = some (k j)/\d[j*2+1]? = some (m j)):
 ∃b a,A=some ⟨b,a,none⟩/\wr.cell? ⟨b,a+j*2,none⟩=some (k j)/\wr.cell? ⟨b,a+j*2+1,none⟩=some (m j):=by
 have hl:=h.len;obtain⟨b,a,e,_,r⟩:=h.src (by omega);have f:=o j q
 have c:∀i v,d[i]? = some v->wr.cell? ⟨b,a+i,none⟩=some v:=λi v l=>by
  have g:i<d.length:=(Qy.1 l).1;rw[r i g,<-l,Qe g]
 exact⟨b,a,e,by have:=c _ _ f.1;rw[show a+j*2=a+j*2 from rfl]at this;exact this,by have:=c _ _ f.2;rw[<-Zf]at this;exact this⟩
theorem ztU(g:Nat)(t:Array Value)(F:∀args w,(callFunc g args).run prog w=.ok (.enter g args) w)(A:Option Addr)(n c:Nat)(q:List Value)(x y:Nat->Value)(p:Nat->Bool)(w:World)
 (h:Sl w w.heap.size 2 A n q) (s:n<=9223372036854775807) (v:∀j,j<n->q[j*2]? = some (x j)/\q[j*2+1]? = some (y j))
 (r:∀W j,j<n->w W->Calls prog g (#[.agg #[x j,y j]]++t) W (zaC (p j) W)):
 Calls prog 285 #[.slice A n c,.func (.func g) #[] t] w λe w'=>e=jC (jA (hitI p n))/\w w':=by
 have D:=hIx r;have E:=hIx v;clear r v
 go_in
 go_wp2
 go_loopw [5,8] (λ_ i wr=>∃j:Nat,j<=n/\i=jA j/\w wr/\Hid (∀i,i<j->p i=false)) (λ_ i _=>n-(intOf i).toNat)
 case atStart=>exact⟨0,Qn _,rfl,Qi _ _,λi u=>absurd u (by omega)⟩
 case round=>
  obtain⟨j,G,rfl,hb,a⟩:=hrel
  by_cases d:j<n
  ·obtain⟨b,C,rfl,z,B⟩:=zz4 (h.below hb) d E.out
   have o:=D.out wr j d hb;cases l:p j with
   |true=>
    rw[l]at o;have f:=hIx (zmb p n j d l a);clear l;go_wp2_with (go_at_fn g;refine o.mono ?_;rintro e w' ⟨rfl,k⟩);go_ret;exact⟨zae f.out.symm,hb.trans (k.mono hb.size)⟩
   |false=>
    rw[l]at o
    have m:Hid (∀i,i<j+1->p i=false):=λi u=>by
     by_cases e:i=j
     ·rw[e];exact l
     ·exact a i (by omega)
    clear l a;go_wp2_with (go_at_fn g;refine o.mono ?_;rintro e w' ⟨rfl,k⟩)
    go_roundw
    case rel=>exact⟨j+1,by omega,by go_num,hb.trans (k.mono hb.size),m⟩
    case measure=>simp[intOf] <;> omega
  ·obtain rfl:j=n:=by omega
   have f:=hIx (zeH p j a);go_wp2;go_ret;exact⟨zae f.out.symm,hb⟩
theorem zpE(g:Nat)(d:Array Value)(m:∀args w,(callFunc g args).run prog w=.ok (.enter g args) w)(A:Option Addr)(n c:Nat)(b:List Value)(f i:Nat->Value)(p:Nat->Bool)(w:World)
 (h:Sl w w.heap.size 2 A n b) (a:n<=9223372036854775807) (l:∀j,j<n->b[j*2]? = some (f j)/\b[j*2+1]? = some (i j))
 (k:∀W j,j<n->w W->Calls prog g (#[.agg #[f j,i j]]++d) W (zaC (p j) W)):
 Calls prog 269 #[.slice A n c,.func (.func g) #[] d] w (zaC (anyN p n) w):=by
 have q:=hIx (ztU g d m A n c b f i p w h a l k);have o:=hIx (zhM p n);clear k l h
 go_in
 go_wp2_with fail;refine q.out.mono ?_;rintro e r ⟨rfl,hb⟩;go_wp2;go_ret;exact⟨zaQ o.out,hb⟩
theorem zyg(a x:Nat)(b:Int)(w:World)(m:a<4294967296)(l:x<4294967296):
 Calls prog 271 #[.agg #[.int .u32 (a:Int),jA b],.int .u32 (x:Int)] w λe w'=>e=jC (.bool (zmt a b x))/\w w':=by
 obtain⟨h,c⟩:∃h,w.alloc (.cells #[.int .u32 (a:Int),jA b] 151)=h:=⟨_,rfl⟩
 have g:NetAt w.heap.size (a:Int) b h:=by rw[<-c];exact Qv w _
 have f:w h:=by rw[<-c];exact WaL
 have d:a ^^^ x<4294967296:=Nat.xor_lt_two_pow (n:=32) m l;have o:=u32_xor_nat a x m l;have q:=u32_and_nat (a ^^^ x) (zeZ b) d (zks b)
 have s:Hid ((((a ^^^ x)&&& zeZ b:Nat):Int)=0↔zmt a b x=true):=by
  unfold Hid zmt zeZ;rw[decide_eq_true_iff,<-zvo _ _ d (ziq b)];exact Int.natCast_eq_zero
 generalize (a ^^^ x)&&& zeZ b=z at *;generalize a ^^^ x=y at *;have t:=g.cells;have j:=hIx c;have i:=hIx f;clear g c f m l d
 have k:Hid (((z:Int)==0)=zmt a b x):=by
  unfold Hid;rw[Bool.eq_iff_iff,Zn];exact s.out
 clear s;generalize zmt a b x=r at *
 go_in
 go_upto_region 1 with fail
 rw[j.out]
 go_quiet ((go_at_call 104;exact Za (zdB _ _)))
 go_wp2;go_ret;exact⟨by rw[k.out];rfl,below_drewN i.out nq⟩
theorem zst{l:jE}{a:Nat}{b:Int}(h:netP l=.ok (a,b)):a<4294967296:=by
 unfold netP at h
 split at h
 ·cases h
 ·split at h
  ·cases h
  ·split at h
   ·cases h
   ·rename_i d c
    split at h
    ·cases h
    ·injection h with h
     injection h with h1 h2
     subst h1;exact zpf _ _ _ (by decide) c
theorem zkD:∀(c:List jE) (x:zd5),x∈zbT c->∃a:Nat,x.1=(a:Int)/\a<4294967296
 | [],x,h=>by rw[zbT]at h;cases h
 |p::r,x,h=>by
  rw[zbT]at h
  split at h
  ·rename_i q d
   rcases QN.1 h with rfl|h
   ·obtain⟨a,b⟩:=q
    exact⟨a,rfl,zst d⟩
   ·exact zkD r x h
  ·exact zkD r x h
theorem zj3:∀(l:List zd5) (k:Nat) (h:k<l.length),(l.flatMap zce)[k*2]? = some (.int .u32 l[k].1)/\(l.flatMap zce)[k*2+1]? = some (jA l[k].2)
 | [],k,h=>absurd h (by simp)
 |x::r,0,_=>by
  rw[QV];exact⟨rfl,rfl⟩
 |x::r,k+1,h=>by
  have:=zj3 r k (by simpa using h);rw[QV];have a:(k+1)*2=2+k*2:=by omega
  have b:(k+1)*2+1=2+(k*2+1):=by omega
  rw[a,Q1 (by simp[zce]),Q1 (by simp[zce];omega)];simp only[zce,Qq,QP,List.getElem_cons_succ];refine⟨?_,?_⟩
  ·rw[<-this.1];congr 1;omega
  ·rw[<-this.2];congr 1;omega
def inX(a:Nat)(x:zd5):Bool:=zmt x.1.toNat x.2 a
def tstA(c v:ByteArray):Bool:=match netP v.data.toList with
 |.ok (a,b)=>b==32&&(zbT (splL 44 c.data.toList)).any (inX a)
 |.error _=>false
theorem zs8(n:zd5)(l:∃k:Nat,n.1=(k:Int)/\k<4294967296)(a:Nat)(h:a<4294967296)(g:Nat)(w:World)(i:w.cell? g=some (.int .u32 (a:Int))):
 Calls prog 270 #[.agg #[.int .u32 n.1,jA n.2],.pointer g] w (zaC (inX a n) w):=by
 have q:g<w.heap.size:=QT w _ i;obtain⟨r,n2⟩:=n;obtain⟨k,rfl,d⟩:=l;have j:=λo=>hIx (zyg k a n2 (w.alloc o) d h)
 have f:Hid (inX a ((k:Int),n2)=zmt k n2 a):=rfl;unfold zaC;rw[f.out];dsimp only;generalize zmt k n2 a=b at *;clear f d h
 go_in
 go_wp2_with fail;refine(j _).out.mono ?_;rintro e m ⟨rfl,c⟩;have hb:=zaN c (Qd _);go_wp2;go_ret;exact⟨rfl,hb⟩
def dNet:zd5:=(0,0)
theorem zpJ(l:List zd5)(hl:∀x∈l,∃k:Nat,x.1=(k:Int)/\k<4294967296)(a:Nat)(i:a<4294967296)(A:Option Addr)(c g:Nat)(w:World)(h:Sl w w.heap.size 2 A l.length (l.flatMap zce))(f:l.length<=9223372036854775807)(d:w.cell? g=some (.int .u32 (a:Int))):
 Calls prog 269 #[.slice A l.length c,.func (.func 270) #[] #[.pointer g]] w (zaC (l.any (inX a)) w):=by
 have e:=zd2 (inX a) l dNet;rw[<-e];refine zpE 270 #[.pointer g] (λ_ _=>rfl) A l.length c (l.flatMap zce) (λj=>.int .u32 (l.getD j dNet).1) (λj=>jA (l.getD j dNet).2) (λj=>inX a (l.getD j dNet)) w h f (λj b=>?_) λW j b hb=>?_
 ·have:=zj3 l j b
  rw[Qr,Qe b];exact this
 ·refine zs8 _ (hl _ ?_) a i g W (zaa hb d)
  rw[Qr,Qe b];exact QC b
theorem zuF(i v:ByteArray)(L:v.size<=8192)(A:Option Addr)(c g:Nat)(w:World)(j:LibOk w)(J:(zbT (splL 44 i.data.toList)).length<=1000)(h:Sl w w.heap.size 2 A (zbT (splL 44 i.data.toList)).length ((zbT (splL 44 i.data.toList)).flatMap zce))(D:w.cell? g=some (.slice A (zbT (splL 44 i.data.toList)).length c)):
 Calls prog 268 #[.string v,.pointer g] w λe w'=>e=jC (.bool (tstA i v))/\w w':=by
 have n:=zkD (splL 44 i.data.toList)
 have o:Hid (tstA i v=match netP v.data.toList with
  |.ok (a,b)=>b==32&&(zbT (splL 44 i.data.toList)).any (inX a)
  |.error _=>false):=rfl
 have m:=zjo v w j (by omega);unfold zeC at m;have C:g<w.heap.size:=QT w _ D;generalize zbT (splL 44 i.data.toList)=l at *;cases d:netP v.data.toList with
 |error x=>
  rw[d]at m o;unfold netV at m;dsimp only at m o
  have K:(x==0)=false:=by
   unfold netP at d
   split at d
   ·injection d with d;rw[<-d];rfl
   ·split at d
    ·injection d with d;rw[<-d];rfl
    ·split at d
     ·injection d with d;rw[<-d];rfl
     ·split at d
      ·injection d with d;rw[<-d];rfl
      ·cases d
  have u:=hIx m;clear m n h j d
  go_in
  go_wp2_with fail;refine u.out.mono ?_;rintro e t ⟨rfl,f⟩;have hb:=f.alloc f.size (.cells #[.int .u32 0,jA 0] 151);go_wp2;go_ret;exact⟨by rw[o.out];rfl,hb⟩
 |ok ab=>
  obtain⟨a,b⟩:=ab;have I:=zst d;rw[d]at m o;unfold netV at m;dsimp only at m o;have u:=hIx m;clear m j d;cases q:(b==32)with
  |false=>
   rw[q]at o;clear n h
   go_in
   go_wp2_with fail;refine u.out.mono ?_;rintro e t ⟨rfl,f⟩;have hb:=f.alloc f.size (.cells #[.int .u32 (a:Int),jA b] 151);go_wp2;go_ret;exact⟨by rw[o.out];rfl,hb⟩
  |true=>
   rw[q,Bool.true_and]at o;have E:Hid (∀W k,w W->W.cell? ⟨k,0,none⟩=some (.int .u32 (a:Int))->Calls prog 269 #[.slice A l.length c,.func (.func 270) #[] #[.pointer (some ⟨k,0,none⟩)]] W (zaC (l.any (inX a)) W)):=λW k hb G=>zpJ l n a I A c k W ((h.below hb).more hb.size) (by omega) G
   generalize l.any (inX a)=r at *;clear n h
   go_in
   go_wp2_with fail;refine u.out.mono ?_;rintro e t ⟨rfl,f⟩;have H:=zaa f D;have F:g<t.heap.size:=Qw C f.size;have hb:=f.alloc f.size (.cells #[.int .u32 (a:Int),jA b] 151);have s:=Qv t (.cells #[.int .u32 (a:Int),jA b] 151);have c0:=Qo _ t.heap.size 0 _ _ _ s;have B:=hIx (E.out _ t.heap.size hb c0);clear s c0 E;go_wp2_with (go_at_call 269;apply Hid.out);refine WhM B ?_;rintro e w2 ⟨rfl,z⟩;have y:=hb.trans (z.mono hb.size);go_wp2;go_ret;exact⟨by rw[o.out];rfl,y⟩
def outG(S:Set4)(v:ByteArray)(j:Nat):Bool:=!hasB S (v.data.toList.getD j 0)
def tstG(a v:ByteArray):Bool:=anyN (outG (zct a.data.toList).1 v) v.size
theorem zvW(S:Set4)(H:S.Wf)(v:ByteArray)(X:v.size<=8192)(g:Nat)(w:World)(A:FourW w g S):
 Calls prog 272 #[.string v,.pointer g] w λe w'=>e=jC (.bool (anyN (outG S v) v.size))/\w w':=by
 have f:=λx W=>zrz S x W H
 have F:Hid (∀W,w W->W.cell? g=some (jB S.a)/\W.cell? ⟨g,1,none⟩=some (jB S.b)/\W.cell? ⟨g,2,none⟩=some (jB S.c)/\W.cell? ⟨g,3,none⟩=some (jB S.d)):=λW hb=>by
  have h:FourW W g S:=(hb.block g (zaG A)).trans A;exact⟨Qo _ _ 0 _ _ _ h,Qo _ _ 1 _ _ _ h,Qo _ _ 2 _ _ _ h,Qo _ _ 3 _ _ _ h⟩
 have r:Hid (∀(j:Nat) (B:j<v.size),v.data.toList.getD j 0=v[j]):=λj B=>by
  rw[Qr,Qe (by simpa using B)];rfl
 have s:Hid (∀j,outG S v j=!hasB S (v.data.toList.getD j 0)):=λj=>rfl
 generalize outG S v=p at *;obtain⟨G,J,I,C⟩:=S;unfold setV at f;dsimp only at f F;have y:=hIx f;clear f H A
 go_in
 go_wp2
 go_loopw [4,7] (λ_ i wr=>∃j:Nat,j<=v.size/\i=jA j/\w wr/\Hid (∀i,i<j->p i=false)) (λ_ i _=>v.size-(intOf i).toNat)
 case atStart=>exact⟨0,Qn _,rfl,Qi _ _,λi E=>absurd E (by omega)⟩
 case round=>
  obtain⟨j,B,rfl,hb,n⟩:=hrel
  by_cases q:j<v.size
  ·have Q:(j:Int)<(v.size:Int):=by omega
   have t:=r.out j q;have o:=s.out j;rw[t]at o;generalize U:v[j]=x at *;have ⟨O,Y,T,P⟩:=F.out wr hb;have D:=hIx n;have k:=hIx o;have L:=hIx hb;clear o n t;go_upto_region 4 with fail
   go_region_held3 (λw'=>w'.cell? g=some (jB G)/\w'.cell? ⟨g,1,none⟩=some (jB J)/\w'.cell? ⟨g,2,none⟩=some (jB I)/\w'.cell? ⟨g,3,none⟩=some (jB C))
    (first|go_keep|(refine⟨zaa l ?_,zaa l ?_,zaa l ?_,zaa l ?_⟩ <;> assumption))
    (first|(go_at_call 273;refine(y.out _ _).mono ?_;rintro e V ⟨rfl,l⟩))
   have m:=hb.trans ((undrew l).mono hb.size);cases z:hasB ⟨G,J,I,C⟩ x with
   |false=>
    rw[z]at k;have N:Hid (anyN p v.size=true):=(zkK _ _).2 ⟨j,q,k.out⟩;clear z k;go_wp2;go_ret;exact⟨by rw[N.out];rfl,m⟩
   |true=>
    rw[z]at k
    have u:Hid (∀i,i<j+1->p i=false):=λi E=>by
     by_cases e:i=j
     ·rw[e];exact k.out
     ·exact D.out.out i (by omega)
    clear z k D;go_wp2_with fail
    go_roundw
    case rel=>exact⟨j+1,by omega,by go_num,m,u⟩
    case measure=>simp[intOf] <;> omega
  ·obtain rfl:j=v.size:=by omega
   have K:Hid (anyN p v.size=false):=(zet _ _).2 n;go_wp2;go_ret;exact⟨by rw[K.out];rfl,hb⟩
theorem zwu(v:ByteArray)(w:World):Calls prog 245 #[.string v] w λe w'=>e=jC (.bool true)/\w w':=by
 go_in
 go_wp2;go_ret;exact⟨rfl,Qi _ _⟩
theorem zhq(p:UInt8->Bool):∀l:jE,(l.dropWhile p).dropWhile p=l.dropWhile p
 | []=>rfl
 |a::l=>by
  rw[Xy]
  by_cases h:p a=true
  ·rw[Qj h];exact zhq p l
  ·rw[Qf h,Xy,Qf h]
theorem zde(p:UInt8->Bool):∀l:jE,∃k,k<=l.length/\l.dropWhile p=l.drop k
 | []=>⟨0,Qd _,rfl⟩
 |a::l=>by
  rw[Xy]
  by_cases h:p a=true
  ·rw[Qj h]
   obtain⟨k,b,e⟩:=zde p l;exact⟨k+1,by simp;omega,by rw[e];rfl⟩
  ·rw[Qf h];exact⟨0,Qn _,rfl⟩
theorem zpu(l:jE):∃k,k<=l.length/\zc4 l=l.take k:=by
 obtain⟨k,a,e⟩:=zde zgo l.reverse;refine⟨l.length-k,by omega,?_⟩;unfold zc4;rw[e,List.drop_reverse,List.reverse_reverse]
theorem zpI(l:jE):∃a b,l=a++zaI l++b:=by
 unfold zaI;obtain⟨i,_,e⟩:=zde zgo l;obtain⟨k,_,c⟩:=zpu (l.dropWhile zgo);refine⟨l.take i,(l.drop i).drop k,?_⟩;rw[c,e,Q4,Zt,Zt]
theorem zn4(l:jE):(zaI l).length<=l.length:=by
 obtain⟨a,b,e⟩:=zpI l;have:=Zm List.length e;simp only[Qb]at this;omega
theorem PhrAt.low{B C:Nat}{ws:List ByteArray}{a gb:Nat}{w:World}(h:PhrAt C ws a gb w)(hb:B<=C):PhrAt B ws a gb w:=by
 obtain⟨h1,h2,j,g,cap,e,d,b,A,c,i,f⟩:=h;exact⟨Ql hb h1,Ql hb h2,j,g,cap,e,d,b,A,c,Ql hb i,f⟩
def tstP(ws:List ByteArray)(v:ByteArray):Bool:=decide (0<(za7 (lstS ws) (zaB v.data.toList) (zaB v.data.toList).length).length)
theorem ziu(v:ByteArray):(lowB v).size=v.size:=by
 unfold lowB;rw[zah];unfold zaB;simp
theorem znZ(ws:List ByteArray)(s:zjh ws)(v:ByteArray)(t:v.size<=8192)(B i gb:Nat)(w:World)(h:PhrAt B ws i gb w):
 Calls prog 265 #[.string v,.pointer i,.pointer gb] w λe w'=>e=jC (.bool (tstP ws v))/\w w':=by
 obtain⟨_,_,y,g,cap,x,u,j,A,c,_,h1,h2,k⟩:=h;have o:Hid (Calls prog 116 #[.string v] w.drew (zbJ (lowB v) w.drew)):=hIx (zbg v w.drew (by unfold maxLen;omega))
 have q:Hid (∀W,w W->Calls prog 266 #[.slice g j.length cap,jA (ws.length:Int),.string (lowB v)] W λe w'=>e=jC (.tuple #[.bool (tstP ws v),jA 0])/\W w'):=hIx λW m=>
  zsS s (lowB v) (by rw[ziu];exact t) (k.below m)
 generalize tstP ws v=r at *;generalize lowB v=lv at *;generalize ws.length=n at *;clear k
 go_in
 go_wp2_with fail
 go_region_held3 (λw'=>w'.cell? i=some (.slice g j.length cap)/\w'.cell? gb=some (.slice A n c))
  (first|exact⟨h1,h2⟩|exact⟨zaa a h1,zaa a h2⟩|exact⟨zaa b h1,zaa b h2⟩|go_keep|fail "keep")
  (first
   |(go_at_call 116;(with_reducible refine(o.out).mono ?_);rintro e w2 ⟨rfl,f⟩;have a:w w2:=undrew f)
   |(go_at_call 266;(with_reducible refine(q.out _ a).mono ?_);rintro e l ⟨rfl,d⟩;have b:w l:=a.trans (d.mono a.size))|fail "arm")
 go_wp2;go_ret;exact⟨rfl,b⟩
theorem zsb(a:ByteArray)(w:World)(b:LibOk w)(n:a.size<=1048576):
 Calls prog 221 #[jA 2,.string a] w λe w'=>(OkW (phrW a)->zwK (phrW a) w e w')/\(¬OkW (phrW a)->zzD w e w'):=by
 have hb:w ((w.alloc (.cells #[jA 2] 3)).alloc (.cells #[.string a] 9)):=WaL.alloc (by simp) _;have g:=znt a ((w.alloc (.cells #[jA 2] 3)).alloc (.cells #[.string a] 9)) (b.below hb) n;generalize phrW a=ws at *
 by_cases c:OkW ws
 ·have k:=hIx (g.mono λe w' h=>h.1 c)
  clear g b
  go_in
  go_wp2_with (go_at_call 241;apply Hid.out);refine WhM k ?_;rintro e l ⟨f,j,gb,rfl,i⟩;unfold phrF;have d:=hb.trans (f.mono hb.size);go_wp2
  go_ret2
  exact⟨λ_=>⟨d,j,gb,rfl,i.low hb.size⟩,λh=>absurd c h⟩
 ·have k:=hIx (g.mono λe w' h=>h.2 c)
  clear g b
  go_in
  go_wp2_with (go_at_call 241;apply Hid.out);refine WhM k ?_;rintro e l ⟨f,j,gb,r,m,rfl⟩;unfold phrF;have d:=hb.trans (f.mono hb.size);go_wp2
  go_ret2
  exact⟨λh=>absurd h c,λ_=>⟨d,j,gb,r,m,rfl⟩⟩
def tstT(op:Int)(a v:ByteArray):Bool:=if op=4 then Lib.contains v.data.toList a.data.toList else if op=5 then Lib.hasPrefix v.data.toList a.data.toList else if op=6 then Lib.hasSuffix v.data.toList a.data.toList else v.toList==a.toList
theorem zmC(op:Int)(c:op=3\/op=4\/op=5\/op=6)(a v:ByteArray)(l:v.size<=8192)(g f:Nat)(w:World)(b:LibOk w)(h1:w.cell? g=some (jA op))(h2:w.cell? f=some (.string a)):
 Calls prog 246 #[.string v,.pointer g,.pointer f] w λe w'=>e=jC (.bool (tstT op a v))/\w w':=by
 obtain⟨m,j⟩:=b;have h:=hIx (strings_Contains v a m w (by omega) j);have k:=hIx (strings_HasPrefix v a w);have i:=hIx (strings_HasSuffix v a w (by omega));unfold tstT
 rcases c with rfl|rfl|rfl|rfl
 all_goals
  go_in
  go_wp2_with (first|(go_at_call 247;refine h.out.mono ?_;rintro e d ⟨rfl,rfl⟩)|(go_at_call 248;refine k.out.mono ?_;rintro e d ⟨rfl,rfl⟩)|(go_at_call 249;refine i.out.mono ?_;rintro e d ⟨rfl,rfl⟩));go_ret;exact⟨rfl,Qi _ _⟩
attribute [go_sem] results242 results221
def cmpN(op k n:Int):Bool:=if op=7 then decide (n<k)else if op=8 then decide (k<n)else k==n
def tstN(op n:Int)(v:jE):Bool:=match numL 10 9 v with|none=>false|some k=>cmpN op k n
theorem zm6(v:ByteArray)(h g:Nat)(op n:Int)(w:World)(f:op=7\/op=8\/op=9)(h1:w.cell? h=some (jA op))(h2:w.cell? g=some (jA n))(j:v.size<=maxLen):
 Calls prog 267 #[.string v,.pointer h,.pointer g] w λe w'=>e=jC (.bool (tstN op n v.data.toList))/\w'=w:=by
 have a:=zge v w j;unfold tstN;cases b:numL 10 9 v.data.toList with
 |none=>
  rw[b]at a;unfold zcg at a;dsimp only at a ⊢;have d:=hIx a;clear a b
  go_in
  go_wp2_with fail;refine d.out.mono ?_;rintro e i ⟨rfl,c⟩;rw[c];go_wp2;go_ret;exact⟨rfl,rfl⟩
 |some k=>
  rw[b]at a;unfold zcg at a;dsimp only at a ⊢;have d:=hIx a;clear a b;unfold cmpN
  rcases f with rfl|rfl|rfl
  all_goals
   go_in
   go_wp2_with fail;refine d.out.mono ?_;rintro e i ⟨rfl,c⟩;rw[c];go_wp2;go_ret;exact⟨rfl,rfl⟩
def numF(b a:Nat):Value:=.func (.func 267) #[] #[.pointer b,.pointer a]
def decN(o:Option Int):Int:=match o with|none=>0|some n=>n
def decE(o:Option Int):Int:=match o with|none=>4|some _=>0
theorem zlV(o:Option Int):zcg o=.tuple #[jA (decN o),jA (decE o)]:=by cases o <;> rfl
def zxM(op:Int)(o:Option Int)(w:World)(e:Ending)(w':World):Prop:=
 ∃b a,e=jC (.tuple #[numF b a,jA (decE o)])/\w'.cell? ⟨b,0,none⟩=some (jA op)/\w'.cell? ⟨a,0,none⟩=some (jA (decN o))/\w w'/\w.heap.size<=b/\w.heap.size<=a
theorem znM(op:Int)(a:ByteArray)(w:World)(d:a.size<=maxLen):
 Calls prog 242 #[jA op,.string a] w (zxM op (numL 10 9 a.data.toList) w):=by
 have b:=zge a (w.alloc (.cells #[jA op] 3)) d;rw[zlV]at b;generalize numL 10 9 a.data.toList=o at *;have f:=hIx b;clear b;have hb:w ((w.alloc (.cells #[jA op] 3)).alloc (.cells #[jA (decN o)] 3)):=WaL.alloc (by simp) _
 have c1:((w.alloc (.cells #[jA op] 3)).alloc (.cells #[jA (decN o)] 3)).cell? w.heap.size=some (jA op):=
  Qo _ _ 0 _ _ _ ((Qs _ _ _ (by simp)).trans (Qv w _))
 have c2:((w.alloc (.cells #[jA op] 3)).alloc (.cells #[jA (decN o)] 3)).cell? (w.heap.size+1:)=some (jA (decN o)):=by
  have:=Qv (w.alloc (.cells #[jA op] 3)) (.cells #[jA (decN o)] 3);rw[Qp]at this;exact Qo _ _ 0 _ _ _ this
 have g:Hid (zxM op o w (jC (.tuple #[.func (.func 267) #[] #[.pointer w.heap.size,.pointer (w.heap.size+1:)],jA (decE o)])) ((w.alloc (.cells #[jA op] 3)).alloc (.cells #[jA (decN o)] 3))):=
  ⟨w.heap.size,w.heap.size+1,rfl,c1,c2,hb,Qd _,Zd _⟩
 clear c1 c2 hb
 go_in
 go_wp2_with fail;refine f.out.mono ?_;rintro e h ⟨rfl,c⟩;rw[c];go_wp2;exact zad g.out
theorem zr3(op:Int)(a:ByteArray)(w:World)(d:op=7\/op=8\/op=9)(i:a.size<=maxLen):
 Calls prog 221 #[jA op,.string a] w (zxM op (numL 10 9 a.data.toList) w):=by
 have hb:w ((w.alloc (.cells #[jA op] 3)).alloc (.cells #[.string a] 9)):=WaL.alloc (by simp) _;have j:=hIx (znM op a ((w.alloc (.cells #[jA op] 3)).alloc (.cells #[.string a] 9)) i);generalize numL 10 9 a.data.toList=o at *
 rcases d with rfl|rfl|rfl
 all_goals
  go_in
  go_wp2_with fail;refine j.out.mono ?_;rintro e l ⟨h,f,rfl,h1,h2,b,g,k⟩;unfold numF;have c:=hb.trans (b.mono hb.size);go_wp2;exact zad ⟨h,f,rfl,h1,h2,c,Ql hb.size g,Ql hb.size k⟩
