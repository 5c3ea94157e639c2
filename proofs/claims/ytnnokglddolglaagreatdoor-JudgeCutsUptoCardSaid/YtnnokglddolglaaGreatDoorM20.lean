/- Lemmas for the last texts. -/
import Derived.Test.YtnnokglddolglaaGreatDoorM19
set_option maxHeartbeats 1600000
set_option maxRecDepth 100000
namespace Go.Proofs.YtnnokglddolglaaGreatDoor
open Go.RowKit Go.Proofs.Tryz
noncomputable def argC(op:Int)(s:ByteArray):Int:=
 if op=1 then (zc4 s.data.toList).2.2 else if op=2 then (mkC (zby s):Nat)else if op=7\/op=8\/op=9 then (if (numL 10 9 s.data.toList).isSome=true then 0 else 4)
 else if op=10 then zi9 s.data.toList else if op=11 then (zcp s.data.toList).2 else if op=12 then (if s.data.toList=[]then 0 else 1)else if 200<s.size then 2 else 0
def zbO(op:Int)(s:ByteArray)(w:World)(e:Ending)(w':World):Prop:=e=jC (jA (argC op s))/\w w'
theorem zgH{s:jE}(h:(zc4 s).2.2=0):zbh (zc4 s).1=0:=by
 unfold zc4 at h ⊢
 split at h
 ·exact absurd h (by decide)
 ·split at h
  ·rename_i h1;exact absurd h h1
  ·split at h
   ·rename_i h1;exact absurd h h1
   ·rename_i a h1 h2
    rw[Qe a,Qe h1,Qe h2]
    simpa using h2
theorem zzl(s:ByteArray)(w:World)(H:s.size<=1048576):Calls prog 74 #[jA 1,.string s] w (zbO 1 s w):=by
 have z:=zlw s w (by unfold maxLen;omega);have x:Hid (argC 1 s=(zc4 s.data.toList).2.2):=hIx (by unfold argC;rw[Qg rfl]);have j:=hIx (@zgH s.data.toList);unfold zbO;rw[x.out];generalize zc4 s.data.toList=P at *;obtain⟨t,n,c⟩:=P;dsimp only at *;have C:=hIx z;clear z x
 by_cases u:c=0
 ·subst u
  have G:=j.out rfl
  go_in
  go_wp2_with (go_at_call 103;apply Hid.out);refine WhM C ?_;rintro e g ⟨A,h,rfl,m,a⟩;have d:=LX.lt (λ_ hb=>hb.2) _ _ m;have r:Hid (∀o,Calls prog 104 #[argX t A h] (g.alloc o) (zi3 t (g.alloc o))):=λo=>zop t A h _ ((d.below ((Qj _ _).alloc (Qc _) o)).more (by simp))
  unfold argX at r ⊢;clear d m;dsimp only;go_wp2_with fail;refine(r.out _).mono ?_;rintro e w2 ⟨v,rfl,_,hl,b⟩;obtain⟨l,D,q,y⟩:=hl G;obtain⟨F,c2,rfl,B⟩:=y.form;have i:=hIx (zgw _ F c2 w2 B (znl D) (by simp) (by rw[Qa,QC];omega));have f:=zaI b (Qc _);generalize (l++[(⟨6,0,0,.zero⟩:Ins)]).length=I at *;clear b B y hl;go_wp2_with fail;refine i.out.mono ?_;rintro e w3 ⟨rfl,p⟩;have k:=(a.trans (f.mono a.size)).trans (p.mono (Ql a.size f.size));go_wp2;go_ret;exact⟨rfl,k⟩
 ·have E:(c==0)=false:=Qb.2 u
  go_in
  go_wp2_with (go_at_call 103;apply Hid.out);refine WhM C ?_;rintro e g ⟨A,h,rfl,m,a⟩;unfold argX;dsimp only;go_wp2;go_ret;exact⟨rfl,a.alloc a.size _⟩
theorem zw7(s:ByteArray)(w:World)(x:s.size<=1048576)(f:LibOk w):Calls prog 74 #[jA 2,.string s] w (zbO 2 s w):=by
 obtain⟨r,i⟩:=f;have b:=strings_Split s ⟨#[124]⟩ r w (by omega) i (by decide);have d:=zke s;rw[<-d]at b;have n:Hid (argC 2 s=(mkC (zby s):Nat)):=hIx (by unfold argC;rw[Qe (by decide),Qg rfl]);unfold zbO;rw[n.out]
 change Calls _ _ _ _ λe w'=>e=jC (.slice w.heap.size (zby s).length (zby s).length)/\w'=w.alloc (.cells ((zby s).map Value.string).toArray 9)at b
 generalize zby s=a at *;have k:=hIx b
 have c:OwnG zei (w.alloc (.cells (a.map Value.string).toArray 9)) w.heap.size (.slice w.heap.size a.length a.length) a:=by
  have:=XG (base:=w.heap.size) (e:=9) (size:=1) w (a.map Value.string).toArray a.length (Qc _) (by have:=Lib.countB_le ⟨#[124]⟩ (by decide) s.size s (Qc _);unfold maxLen;omega) (by simp);unfold OwnG;rw[zdH];exact this
 have h:Sl (w.alloc (.cells (a.map Value.string).toArray 9)) (w.alloc (.cells (a.map Value.string).toArray 9)).heap.size 1 (some ⟨w.heap.size,0,none⟩) a.length (a.map Value.string):=by
  obtain⟨u,c5,o,m⟩:=c.form;injection o with q _ _
  subst q;rw[zdH]at m;exact m
 have p:=hIx (zrr (some ⟨w.heap.size,0,none⟩) a.length a.length a _ rfl h);have g:w (w.alloc (.cells (a.map Value.string).toArray 9)):=WaL;clear b d c h n
 go_in
 go_wp2_with (go_at_call 77;apply Hid.out);refine WhM k ?_;rintro e t ⟨rfl,rfl⟩;go_wp2_with (go_at_call 106;apply Hid.out);refine WhM p ?_;rintro e w2 ⟨l,v,rfl⟩;have j:=g.trans (l.mono g.size);go_wp2;go_ret;exact⟨rfl,j⟩
theorem zxl(op:Int)(a:op=7\/op=8\/op=9)(s:ByteArray)(w:World)(g:s.size<=1048576):Calls prog 74 #[jA op,.string s] w (zbO op s w):=by
 have b:=hIx (zf6 s w (by unfold maxLen;omega));have c:Hid (argC op s=if (numL 10 9 s.data.toList).isSome=true then 0 else 4):=hIx (by unfold argC;rw[Qe (by omega),Qe (by omega),Qg a]);unfold zbO;rw[c.out];clear c;cases d:numL 10 9 s.data.toList with
 |none=>
  rw[d]at b
  rcases a with rfl|rfl|rfl
  all_goals
   go_in
   go_wp2_with (go_at_call 65;refine b.out.mono ?_;rintro e f ⟨rfl,rfl⟩;unfold zcb);go_ret;exact⟨rfl,Qj _ _⟩
 |some k=>
  rw[d]at b
  rcases a with rfl|rfl|rfl
  all_goals
   go_in
   go_wp2_with (go_at_call 65;refine b.out.mono ?_;rintro e f ⟨rfl,rfl⟩;unfold zcb);go_ret;exact⟨rfl,Qj _ _⟩
theorem zxa(s:ByteArray)(w:World)(g:s.size<=1048576)(a:LibOk w):Calls prog 74 #[jA 10,.string s] w (zbO 10 s w):=by
 have b:=hIx (zl4 s w (by omega) a);have d:Hid (argC 10 s=zi9 s.data.toList):=hIx (by unfold argC;rw[Qe (by decide),Qe (by decide),Qe (by decide),Qg rfl]);unfold zbO;rw[d.out];unfold zdv at b;generalize zi9 s.data.toList=c at *;clear d a
 go_in
 go_wp2_with (go_at_call 107;apply Hid.out);refine WhM b ?_;rintro e f ⟨v,rfl,_,_,hb⟩;go_wp2;go_ret;exact⟨rfl,hb⟩
theorem zrP(s:ByteArray)(w:World)(g:s.size<=1048576)(a:LibOk w):Calls prog 74 #[jA 11,.string s] w (zbO 11 s w):=by
 have b:=hIx (zl1 s w a (by omega));have d:Hid (argC 11 s=(zcp s.data.toList).2):=hIx (by unfold argC;rw[Qe (by decide),Qe (by decide),Qe (by decide),Qe (by decide),Qg rfl]);unfold zbO;rw[d.out];unfold zis at b;generalize zcp s.data.toList=c at *;obtain⟨F,c⟩:=c;clear d a
 go_in
 go_wp2_with (go_at_call 108;apply Hid.out);refine WhM b ?_;rintro e f ⟨rfl,hb⟩;unfold setA;go_wp2;go_ret;exact⟨rfl,hb⟩
theorem zu8(s:ByteArray)(w:World):Calls prog 74 #[jA 12,.string s] w (zbO 12 s w):=by
 have b:Hid (argC 12 s=if s.data.toList=[]then 0 else 1):=hIx (by unfold argC;rw[Qe (by decide),Qe (by decide),Qe (by decide),Qe (by decide),Qe (by decide),Qg rfl]);unfold zbO;rw[b.out];clear b
 by_cases h:s.data.toList=[]
 ·have q:s.toList.isEmpty=true:=by rw[Xj,h];rfl
  have d:(s.toList==[])=true:=by rw[Xj,h];rfl
  rw[Qg h]
  go_in
  go_wp2;go_ret;exact⟨rfl,Qj _ _⟩
 ·have q:s.toList.isEmpty=false:=by rw[Xj];cases c:s.data.toList with|nil=>exact absurd c h|cons a r=>rfl
  have d:(s.toList==[])=false:=by rw[Xj];exact Qb.2 h
  rw[Qe h]
  go_in
  go_wp2;go_ret;exact⟨rfl,Qj _ _⟩
theorem zvQ(op:Int)(a:op=3\/op=4\/op=5\/op=6)(s:ByteArray)(w:World):Calls prog 74 #[jA op,.string s] w (zbO op s w):=by
 have b:Hid (argC op s=if 200<s.size then 2 else 0):=hIx (by unfold argC;rw[Qe (by omega),Qe (by omega),Qe (by omega),Qe (by omega),Qe (by omega),Qe (by omega)]);unfold zbO;rw[b.out];clear b
 by_cases h:200<s.size
 have d:decide ((200:Int)<(s.size:Int))=true:=by simp;omega
 rw[Qg h]
 rotate_left
 have d:decide ((200:Int)<(s.size:Int))=false:=by simp;omega
 rw[Qe h]
 all_goals
  rcases a with rfl|rfl|rfl|rfl
  all_goals
   go_in
   go_wp2;go_ret;exact⟨rfl,Qj _ _⟩
theorem zxb(op:Int)(h1:1<=op)(h2:op<=12)(s:ByteArray)(w:World)(b:s.size<=1048576)(a:LibOk w):Calls prog 74 #[jA op,.string s] w (zbO op s w):=by
 rcases(by omega:op=1\/op=2\/(op=7\/op=8\/op=9)\/op=10\/op=11\/op=12\/(op=3\/op=4\/op=5\/op=6))with rfl|rfl|h|rfl|rfl|rfl|h
 ·exact zzl s w b
 ·exact zw7 s w b a
 ·exact zxl op h s w b
 ·exact zxa s w b a
 ·exact zrP s w b a
 ·exact zu8 s w
 ·exact zvQ op h s w
abbrev zal:=ByteArray × ByteArray
def zaA(x:zal):List Value:=[.string x.1,.string x.2]
theorem zjG(l:List zal):(l.flatMap zaA).length=l.length*2:=by
 induction l with
 |nil=>rfl
 |cons x l ih=>rw[QH,Qa,ih];simp only[zaA,Qn,QS];omega
theorem zjx(l:List zal):∀u∈l.flatMap zaA,u.oneCell'=true:=λu a=>by
 obtain⟨x,_,h⟩:=List.mem_flatMap.1 a;simp only[zaA,QI,ZY,or_false]at h
 rcases h with rfl|rfl <;> rfl
theorem zms:∀(l:List zal) (k:Nat) (h:k<l.length),(l.flatMap zaA)[k*2]? = some (.string l[k].1)/\(l.flatMap zaA)[k*2+1]? = some (.string l[k].2)
 | [],k,h=>absurd h (by simp)
 |x::l,0,_=>⟨rfl,rfl⟩
 |x::l,k+1,h=>by
  have:=zms l k (by simpa using h);rw[QH,show (k+1)*2=2+k*2 by omega,Q0 (by simp[zaA]),show 2+k*2+1=2+(k*2+1)by omega,Q0 (by simp[zaA])]
  simpa[zaA]using this
def OwnV(w:World)(base:Nat)(v:Value)(l:List zal):Prop:=w.ownsRow base 133 2 v l.length (l.flatMap zaA)
theorem OwnV.nil(w:World)(base:Nat):OwnV w base (jD 0 0) []:=ZU w base 133 2
theorem OwnV.below{w w':World}{base:Nat}{v:Value}{l:List zal}(h:OwnV w base v l)(hb:w w'):OwnV w' base v l:=zaU h hb
theorem OwnV.keep{w w':World}{base:Nat}{v:Value}{l:List zal}(h:OwnV w base v l)(b:∀g,v.ownBlock=some g->w'.heap[g]? = w.heap[g]?):OwnV w' base v l:=by
 refine⟨h.1,?_⟩
 rcases h.2 with d|⟨g,cap,a,h1,h2,e,c⟩
 ·exact .inl d
 ·exact .inr ⟨g,cap,a,h1,h2,(b g (by rw[h1];rfl)).trans e,c⟩
theorem OwnV.low{w:World}{base b:Nat}{v:Value}{l:List zal}(h:OwnV w base v l)(hb:b<=base):OwnV w b v l:=
 ⟨h.1,h.2.imp_right λ⟨g,cap,a,h1,h2,c⟩=>⟨g,cap,a,h1,Ql hb h2,c⟩⟩
theorem OwnV.form{w:World}{base:Nat}{v:Value}{l:List zal}(h:OwnV w base v l):∃A c,v=.slice A l.length c/\Sl w w.heap.size 2 A l.length (l.flatMap zaA):=by
 rcases h.2 with ⟨h1,h2⟩|⟨g,cap,a,h1,hb,e,_⟩
 ·have:l=[]:=QA h2
  subst this;exact⟨none,0,h1,Sl.nil _ _ _ _⟩
 ·refine⟨_,_,h1,zjG l,λd=>⟨g,0,rfl,?_,λj b=>?_⟩⟩
  ·exact(QK h g (by rw[h1];simp[Value.ownBlock])).2
  ·have:=Zq (g:=g) h (by rw[h1];simp[Value.ownBlock]) j _ (Qd b)
   rw[zba]at this;rw[Zh];exact this
theorem zjR{w:World}{B n:Nat}{A:Option Addr}{l:List zal}(h:Sl w B 2 A n (l.flatMap zaA))(k:Nat)(d:k<l.length):
 ∃b off,A=some ⟨b,off,none⟩/\b<B/\w.cell? ⟨b,off+k*2,none⟩=some (.string l[k].1)/\w.cell? ⟨b,off+k*2+1,none⟩=some (.string l[k].2):=by
 have hl:=zjG l;obtain⟨b,off,e,hb,c⟩:=h.src (by omega);obtain⟨a,h1⟩:=zms l k d;refine⟨b,off,e,hb,?_,?_⟩
 ·rw[c (k*2) (by omega)]
  rw[Qd (by omega)]at a;exact a
 ·rw[Zk,c (k*2+1) (by omega)]
  rw[Qd (by omega)]at h1;exact h1
theorem zo8:(prog.info? 133).map (λi=>(i.zero,i.size,i.bytes))=some (some (.agg #[.string ByteArray.empty,.string ByteArray.empty]),2,32):=by kernel_rfl
section
variable {ops:Array Oper} {rest:List Oper} {o:Oper} {a:Act} {Q:Exit->Act->World->Prop} {w:World}
theorem ziS(f:o.guard=none)(s x:Operand)(y:o.op=.call {callee:=.builtin .append,args:=#[s,x],argTypes:=#[25,25]})
 (base:Nat) (v:Value) (l:List zal) (B:a.eval s=v) (d:OwnV w base v l) (b:base<=w.heap.size)
 (n:List Value) (new:zal) (E:n=zaA new) (p:Nat) (m:w.heap.size=p) (c:Nat) (D:a.eval x=.slice p 1 c)
 (e:l.length<=4194304)
 (h:∀v' w',OwnV w' base v' (l++[new])->Below base w w'->(∀g,g<w.heap.size->v.ownBlock≠some g->w'.heap[g]? = w.heap[g]?)->w.heap.size<w'.heap.size->wpList prog ops Q rest (a.put o.dst v') w'):
 wpList prog ops Q (o::rest) a (w.alloc (.cells n.toArray 133)):=by
 subst E;subst m
 obtain⟨t,C,i,j,k⟩:=ZG zo8
 refine Xe f λ_ r=>zaV s x 25 y base 133 t _ 2 32 underlying25 C i j k rfl (by decide) v l.length (l.flatMap zaA) B d b (zaA new) 1 c D rfl
  (λu z=>zjx [new] u (by simpa using z)) (by unfold maxLen;omega) (by omega) λv' w' h1 h2 A q=>r _ _ (h v' w' (by unfold OwnV;rw[Qa,Q6];simpa using h1) h2 A q)
end
def isN(a:ByteArray)(x:Pair):Bool:=a.toList.isEmpty||(x.1.toList==a.toList)
def zeU(l:List Pair)(a:ByteArray):List Pair:=l.filter (isN a)
def zgd(l:List Pair):List Pair:=l.map λx=>(x.1,x.1)
def zw2(f:zal):Pair:=(bs (zay f.1.data.toList),f.2)
def zbc(a:List zal):List Pair:=a.map zw2
theorem zqo(l:List Pair)(a:ByteArray)(k:Nat)(h:k<l.length):zeU (l.take (k+1)) a=zeU (l.take k) a++if isN a l[k]=true then [l[k]]else []:=by
 unfold zeU;rw[Qs h,ZW]
 by_cases c:isN a l[k]=true <;> simp[c]
theorem zue(l:List Pair)(a:ByteArray)(k:Nat):(zeU (l.take k) a).length<=k:=Ql (Zn _ _) (ZS _ _)
def RowA(l:List Pair)(w:World)(e:Ending)(w':World):Prop:=∃v,e=jC v/\OwnA w' w.heap.size v l/\w w'
def zxC(w:World)(l:List Pair)(a:ByteArray)(v i:Value)(wr:World):Prop:=
 ∃k:Nat,k<=l.length/\i=jA k/\OwnA wr w.heap.size v (zeU (l.take k) a)/\w wr
def zwZ(w:World)(f:List Pair)(v i:Value)(wr:World):Prop:=
 ∃k:Nat,k<=f.length/\i=jA k/\OwnA wr w.heap.size v (f.take k)/\w wr
section
variable {ops:Array Oper} {o:Oper} {a:Act} {Q:Exit->Act->World->Prop} {w:World}
theorem zku{K:Act->World->Prop}{E:Prop}(f:o.guard=none)(s x:Operand)(y:o.op=.call {callee:=.builtin .append,args:=#[s,x],argTypes:=#[76,76]})
 (base:Nat) (v:Value) (l:List Pair) (B:a.eval s=v) (d:OwnA w base v l) (b:base<=w.heap.size)
 (n:List Value) (new:Pair) (F:n=za5 new) (p:Nat) (m:w.heap.size=p) (c:Nat) (D:a.eval x=.slice p 1 c)
 (e:l.length<=4194304)
 (h:∀v' w',OwnA w' base v' (l++[new])->Below base w w'->(∀g,g<w.heap.size->v.ownBlock≠some g->w'.heap[g]? = w.heap[g]?)->w.heap.size<w'.heap.size->K (a.put o.dst v') w'):
 if Region.wanted o (yielded ops a.tmps)=true then Oper.wp prog o a (w.alloc (.cells n.toArray 163)) K Q else E:=by
 subst F;subst m
 obtain⟨r,C,i,j,k⟩:=ZG zkV;have t:Region.wanted o (yielded ops a.tmps)=true:=by simp[Region.wanted,f]
 rw[Qg t]
 exact zaV s x 76 y base 163 r _ 2 32 underlying76 C i j k rfl (by decide) v l.length (l.flatMap za5) B d b (za5 new) 1 c D rfl
  (λu z=>zf4 [new] u (by simpa using z)) (by unfold maxLen;omega) (by omega) λv' w' h1 h2 A q=>h v' w' (by unfold OwnA;rw[Qa,Q6];simpa using h1) h2 A q
end
theorem zaX{w w':World}{g:Nat}{x:Option Value}(h:w'.heap[g]? = w.heap[g]?)(i:Nat)(a:w.cell? ⟨g,i,none⟩=x):w'.cell? ⟨g,i,none⟩=x:=by rw[<-a];simp only[World.cell?, h]
theorem zxy(w:World)(x:Pair):OwnA (w.alloc (.cells #[.string x.1,.string x.2] 163)) w.heap.size (.slice w.heap.size 1 1) [x]:=
 XG w #[.string x.1,.string x.2] 1 (Qc _) (by decide) rfl
theorem zub{B:Nat}{W w':World}(hb:Below B W.drew w'):Below B W w':=⟨hb.os,hb.tape,hb.output,hb.size,hb.block⟩
theorem zkC(l:List Pair)(A:Option Addr)(c:Nat)(a:ByteArray)(w:World)(h:Sl w w.heap.size 2 A l.length (l.flatMap za5))(hl:l.length<=4194304):
 Calls prog 159 #[.slice A l.length c,.string a] w (RowA (zeU l a) w):=by
 go_in
 go_wp2
 go_loopw [5,10] (λv i wr=>zxC w l a v i wr) (λ_ i _=>l.length-(intOf i).toNat)
 case atStart=>exact⟨0,Qm _,rfl,OwnA.nil _ _,Qj _ _⟩
 case round=>
  obtain⟨k,L,rfl,r,hb⟩:=hrel
  by_cases s:k<l.length
  ·have G:decide ((k:Int)<(l.length:Int))=true:=by simp;omega
   have N:IntKind.i64.wrap ((k:Int)+1)=(k:Int)+1:=Qx _ (by omega);obtain⟨b,off,rfl,I,K,O⟩:=zpl (h.below hb) k s;have x:=hIx (zqo l a k s);have J:=zue l a k;have d:wr (wr.alloc (.cells #[.string l[k].1,.string l[k].2] 163)):=WaL;have n:=r.below d;have u:w.heap.size<=(wr.alloc (.cells #[.string l[k].1,.string l[k].2] 163)).heap.size:=Ql hb.size d.size;have m:=hb.trans (d.mono hb.size);cases e:isN a l[k]with
   |true=>
    have f:Hid (zeU (l.take (k+1)) a=zeU (l.take k) a++[l[k]]):=by unfold Hid;rw[x.out,Qg e]
    unfold isN at e;generalize l[k]=X at *;obtain⟨B,n2⟩:=X;dsimp only at *;generalize zeU (l.take k) a=j at *;obtain⟨E,C,rfl,_⟩:=r.form;have g:=hIx n;have o:=hIx m;have t:=hIx u;clear r d n m hb x u;cases D:a.toList.isEmpty with
    |true=>
     clear e;go_wp2_with (at_builtin;refine zaZ rfl (.tmp 22) (.tmp 24) rfl w.heap.size (.slice E j.length C) j rfl (by exact g.out) (by exact t.out) _ (B,n2) rfl (wr.heap.size+1) (by rw[Qp]) 1 rfl (by omega) ?_;intro F H p q y z);exact⟨⟨k+1,by omega,rfl,by rw[f.out];exact p,o.out.trans q⟩,by dsimp only[intOf];omega⟩
    |false=>
     rw[D,Bool.false_or]at e;go_wp2_with (at_builtin;refine zaZ rfl (.tmp 22) (.tmp 24) rfl w.heap.size (.slice E j.length C) j rfl (by exact g.out) (by exact t.out) _ (B,n2) rfl (wr.heap.size+1) (by rw[Qp]) 1 rfl (by omega) ?_;intro F H p q y z);exact⟨⟨k+1,by omega,rfl,by rw[f.out];exact p,o.out.trans q⟩,by dsimp only[intOf];omega⟩
   |false=>
    have f:Hid (zeU (l.take (k+1)) a=zeU (l.take k) a):=by unfold Hid;rw[x.out,Qe (by rw[e];decide),QE]
    unfold isN at e;rw[XH]at e;obtain⟨D,e⟩:=e;generalize l[k]=X at *;obtain⟨B,n2⟩:=X;dsimp only at *;have g:=hIx n;have o:=hIx m;clear r d n m hb x;go_wp2;exact⟨⟨k+1,by omega,rfl,by rw[f.out];exact g.out,o.out⟩,by dsimp only[intOf];omega⟩
  ·obtain rfl:k=l.length:=by omega
   have G:decide ((l.length:Int)<(l.length:Int))=false:=by simp
   rw[QZ]at r;go_wp2;go_ret;exact⟨_,rfl,r,hb⟩
theorem zoy(l:List Pair)(A:Option Addr)(c:Nat)(w:World)(h:Sl w w.heap.size 2 A l.length (l.flatMap za5))(hl:l.length<=4194304):
 Calls prog 160 #[.slice A l.length c] w (RowA (zgd l) w):=by
 have e:(zgd l).length=l.length:=by unfold zgd;rw[Qh]
 have a:=hIx e;clear e
 go_in
 go_wp2
 go_loopw [3,8] (λv i wr=>zwZ w (zgd l) v i wr) (λ_ i _=>l.length-(intOf i).toNat)
 case atStart=>exact⟨0,Qm _,rfl,OwnA.nil _ _,Qj _ _⟩
 case round=>
  obtain⟨k,x,rfl,j,hb⟩:=hrel;rw[a.out]at x
  by_cases f:k<l.length
  ·have B:decide ((k:Int)<(l.length:Int))=true:=by simp;omega
   have J:IntKind.i64.wrap ((k:Int)+1)=(k:Int)+1:=Qx _ (by omega);obtain⟨b,off,rfl,E,H,L⟩:=zpl (h.below hb) k f
   have y:Hid ((zgd l).take (k+1)=(zgd l).take k++[(l[k].1,l[k].1)]):=by
    unfold Hid;rw[Qs (by rw[a.out];exact f)];simp[zgd]
   have F:((zgd l).take k).length<=k:=ZS _ _;have d:wr (wr.alloc (.cells #[.string l[k].1,.string l[k].2] 163)):=WaL;have o:=j.below d;have m:w.heap.size<=(wr.alloc (.cells #[.string l[k].1,.string l[k].2] 163)).heap.size:=Ql hb.size d.size;have n:=hb.trans (d.mono hb.size);generalize l[k]=X at *;obtain⟨u,n2⟩:=X;dsimp only at *;generalize (zgd l).take k=g at *;obtain⟨G,D,rfl,_⟩:=j.form;have r:=hIx o;have t:=hIx n;have q:=hIx m;clear j d o n hb m;go_wp2_with (at_builtin;refine zaZ rfl (.tmp 12) (.tmp 18) rfl w.heap.size (.slice G g.length D) g rfl (by exact r.out) (by exact q.out) _ (u,u) rfl (wr.heap.size+1) (by rw[Qp]) 1 rfl (by omega) ?_;intro I K p s z C);exact⟨⟨k+1,by rw[a.out];omega,rfl,by rw[y.out];exact p,t.out.trans s⟩,by dsimp only[intOf];omega⟩
  ·obtain rfl:k=l.length:=by omega
   have B:decide ((l.length:Int)<(l.length:Int))=false:=by simp
   rw[<-a.out,QZ]at j;go_wp2;go_ret;exact⟨_,rfl,j,hb⟩
theorem zjt(m t:ByteArray)(d:List zal)(A:Option Addr)(c:Nat)(w:World)(h:Sl w w.heap.size 2 A d.length (d.flatMap zaA))(hs:∀f∈d,f.1.size<=maxLen)(hl:d.length<=4194304):
 Calls prog 161 #[.agg #[.string m,.string t,.slice A d.length c]] w (RowA (zbc d) w):=by
 have q:(zbc d).length=d.length:=by unfold zbc;rw[Qh]
 have l:=hIx q;have T:=hIx hs;have z:w (w.alloc (.cells #[.string m,.string t,.slice A d.length c] 27)):=WaL;have L:=hIx z;clear q hs z
 go_in
 go_wp2
 go_loopw [3,9] (λv i wr=>zwZ w (zbc d) v i wr) (λ_ i _=>d.length-(intOf i).toNat)
 case atStart=>exact⟨0,Qm _,rfl,OwnA.nil _ _,L.out⟩
 case round=>
  obtain⟨k,hk,rfl,u,hb⟩:=hrel;rw[l.out]at hk
  by_cases n:k<d.length
  ·have d1:decide ((k:Int)<(d.length:Int))=true:=by simp;omega
   have i7:IntKind.i64.wrap ((k:Int)+1)=(k:Int)+1:=Qx _ (by omega);obtain⟨b,off,rfl,h3,x0,x1⟩:=zjR (h.below hb) k n;have y:=T.out d[k] (Qz n)
   have HG:Hid ((zbc d).take (k+1)=(zbc d).take k++[(bs (zay d[k].1.data.toList),d[k].2)]):=by
    unfold Hid;rw[Qs (by rw[l.out];exact n)];simp[zbc,zw2]
   have Z:((zbc d).take k).length<=4194304:=Ql (ZS _ _) (by omega);generalize d[k]=X at *;obtain⟨j,n2⟩:=X;dsimp only at *;generalize (zbc d).take k=p at *;have E:Hid (∀W,Calls prog 64 #[.string j] W (zbJ (bs (zay j.data.toList)) W)):=λW=>zbd j W y
   generalize bs (zay j.data.toList)=L1 at *;have hz:=hb.size;obtain⟨Ao,co,rfl,_⟩:=u.form;have HO:=hIx u;have U:=hIx hb;clear u hb y;go_wp2_with fail;have V:=Qt wr (.cells #[.string j,.string n2] 133);have F:wr (wr.alloc (.cells #[.string j,.string n2] 133)):=WaL;have C:wr.heap.size<(wr.alloc (.cells #[.string j,.string n2] 133)).heap.size:=by simp
   generalize wr.alloc (.cells #[.string j,.string n2] 133)=J at *;have O:=Qf _ wr.heap.size 0 _ _ _ V;have Q:=Qf _ wr.heap.size 1 _ _ _ V;simp only[ZT,Z9,XL]at O Q;have G:Hid (∀W,J W->W.cell? ⟨wr.heap.size,0,none⟩=some (.string j)/\W.cell? ⟨wr.heap.size,1,none⟩=some (.string n2)):=λW hb=>⟨zaa hb O,zaa hb Q⟩
   have S:=hIx F;have r:Hid ((Value.slice Ao p.length co).ownBlock≠some wr.heap.size):=λe=>by have:=(HO.out.lt _ e).2;omega
   clear V F x0 x1
   go_region_held3 (λw'=>w'.cell? ⟨wr.heap.size,0,none⟩=some (.string j)/\w'.cell? ⟨wr.heap.size,1,none⟩=some (.string n2))
    (first|exact H|exact G.out _ (a.alloc a.size _)|exact G.out _ a|go_keep)
    (first
     |(go_at_call 64;(with_reducible refine(E.out _).mono ?_);rintro e K ⟨rfl,I⟩;have a:J K:=zub I;have g:wr K:=S.out.trans (a.mono (QX C));have B:=HO.out.below g;have Y:w.heap.size<=K.heap.size:=Ql hz g.size)
     |(refine zku rfl (.tmp 13) (.tmp 20) rfl w.heap.size (.slice Ao p.length co) p rfl (by exact B) (by exact Y) _ (L1,n2) rfl K.heap.size rfl 1 rfl Z ?_;intro v5 P N x s h0;have o:=s wr.heap.size (Qv C a.size) r.out;have H:P.cell? ⟨wr.heap.size,0,none⟩=some (.string j)/\P.cell? ⟨wr.heap.size,1,none⟩=some (.string n2):=⟨zaX o 0 (G.out _ a).1,zaX o 1 (G.out _ a).2⟩))
   have D:w P:=U.out.trans ((g.mono hz).trans x);clear G E B I a H o s O Q x g;go_wp2;exact⟨⟨k+1,by rw[l.out];omega,rfl,by rw[HG.out];exact N,D⟩,by dsimp only[intOf];omega⟩
  ·obtain rfl:k=d.length:=by omega
   have d1:decide ((d.length:Int)<(d.length:Int))=false:=by simp
   rw[<-l.out,QZ]at u;go_wp2;go_ret;exact⟨_,rfl,u,hb⟩
theorem zda(s:ByteArray)(w:World):Calls prog 121 #[.string s] w (RowA [(ByteArray.mk #[],s)] w):=by
 go_in
 go_wp2;go_ret;exact⟨_,rfl,zxy w (ByteArray.mk #[],s),WaL⟩
structure Since(B:Nat)(w W:World):Prop where
 size:w.heap.size<=W.heap.size
 keep:∀k,B<=k->k<w.heap.size->W.heap[k]? = w.heap[k]?
theorem Since.refl(B:Nat)(w:World):Since B w w:=⟨Qc _,λ_ _ _=>rfl⟩
theorem Since.trans{B:Nat}{w W V:World}(h:Since B w W)(g:Since B W V):Since B w V:=
 ⟨Ql h.size g.size,λk h1 h2=>(g.keep k h1 (Qv h2 h.size)).trans (h.keep k h1 h2)⟩
theorem Since.low{B C:Nat}{w W:World}(h:Since B w W)(hb:B<=C):Since C w W:=⟨h.size,λk h1 h2=>h.keep k (Ql hb h1) h2⟩
theorem Since.of{B:Nat}{w W:World}(h:w W):Since B w W:=⟨h.size,λk _ h2=>h.block k h2⟩
def TestAt(B:Nat)(f:ByteArray->Bool)(v:Value)(w:World):Prop:=
 ∃a b,v=.func (.func a) #[] b/\(∀args w,(callFunc a args).run prog w=.ok (.enter a args) w)/\∀W,Since B w W->LibOk W->∀s:ByteArray,s.size<=8192->Calls prog a (#[.string s]++b) W λe W'=>e=jC (.bool (f s))/\W W'
def MadeT(f:ByteArray->Bool)(w:World)(e:Ending)(w':World):Prop:=
 ∃b a,e=jC (.tuple #[.func (.func b) #[] a,jA 0])/\TestAt w.heap.size f (.func (.func b) #[] a) w'/\w w'
theorem TestAt.since{B:Nat}{f:ByteArray->Bool}{v:Value}{w W:World}(h:TestAt B f v w)(g:Since B w W):TestAt B f v W:=by
 obtain⟨c,a,e,d⟩:=h;exact⟨c,a,e,d.1,λW' b=>d.2 W' (g.trans b)⟩
theorem TestAt.low{B C:Nat}{f:ByteArray->Bool}{v:Value}{w:World}(h:TestAt C f v w)(hb:B<=C):TestAt B f v w:=by
 obtain⟨c,a,e,d⟩:=h;exact⟨c,a,e,d.1,λW' b=>d.2 W' (b.low hb)⟩
theorem zz8{t:Tree}{l:List Ins}(b:Code t 0 l)(a:Fine t)(s:jE):zi2 (l++[(⟨6,0,0,.zero⟩:Ins)]) s s.length↔∃i j,M s t i j:=by
 have hl:(l++[(⟨6,0,0,.zero⟩:Ins)]).length-1=l.length:=by simp
 unfold zi2;rw[hl]
 constructor
 ·rintro⟨i,j,c,h⟩
  exact⟨i,j,(zoY b a _ rfl i j (by have:=R.le h;omega)).1 h⟩
 ·rintro⟨i,j,h⟩
  have:=h.le;exact⟨i,j,by omega,(zoY b a _ rfl i j (by omega)).2 h⟩
theorem zud(P:List Ins)(d:OkP P)(i:∀n (h:n<P.length),P[n].kind=6↔n=P.length-1)(j:∀n (h:n<P.length),P[n].set.Wf)(m:0<P.length)(x:P.length<=400)(s:ByteArray)(C:s.size<=8192)(u:Value)(w:World)(q:OwnP w 0 u P):
 Calls prog 246 #[u,.string s] w λe w'=>∃z r,e=jC (.tuple #[.bool z,jA r])/\(z=true↔zi2 P s.data.toList s.size)/\w w':=by
 obtain⟨o,t,rfl,B⟩:=OwnP.head q m
 have k:Hid (Calls prog 280 #[.slice o P.length t,.string s] w λe w'=>e=jC (jA 0)/\w w'):=by
  have:=zrJ P (some ⟨o,0,none⟩) t s w q.sl d m x;rw[Qe (by omega)]at this;exact this
 have l:Hid (∀W,w W->Calls prog 281 #[.slice o P.length t,.string s,.bool true] W (zos P s W)):=λW hb=>zuL P d i j m x s C _ W (q.below hb)
 clear d i j
 go_in
 go_wp2_with fail;refine k.out.mono ?_;rintro e D ⟨rfl,g⟩;go_wp2_with fail;refine(l.out _ g).mono ?_;rintro e w2 ⟨found,f,F,rfl,y,p⟩;have E:∀(a b:Int) (c:Bool) W,(Instr.field 351 (.agg #[jA a,jA b,.bool c]) 1).run prog W=.ok (.bool c) W:=λ_ _ _ _=>by kernel_rfl
 have hb:=g.trans (p.mono g.size);have A:=hIx y;clear y;go_wp2;exact Qi (v:=.tuple #[.bool found,jA 0]) (by simp[results,results246,go_sem]) rfl ⟨found,0,rfl,A.out,hb⟩
theorem zvu(P:List Ins)(c:OkP P)(a:∀n (h:n<P.length),P[n].kind=6↔n=P.length-1)(b:∀n (h:n<P.length),P[n].set.Wf)(l:0<P.length)(o:P.length<=400)(s:ByteArray)(q:s.size<=8192)(f:Value)(g:Nat)(w:World)(u:w.cell? g=some f)(k:OwnP w 0 f P):
 Calls prog 245 #[.string s,.pointer g] w λe w'=>∃d,e=jC (.bool d)/\(d=true↔zi2 P s.data.toList s.size)/\w w':=by
 have p:=hIx (zud P c a b l o s q f w k);clear c a b k
 go_in
 go_wp2_with fail;refine p.out.mono ?_;rintro e t ⟨d,r,rfl,j,i⟩;have m:=hIx j;clear j;go_wp2;go_ret;exact⟨d,rfl,m.out,i⟩
open Classical in
noncomputable def tstR(a v:ByteArray):Bool:=decide (∃i j,M v.data.toList (zc4 a.data.toList).1 i j)
theorem zn4(s:ByteArray)(w:World)(hs:s.size<=1048576)(C:(zc4 s.data.toList).2.2=0):Calls prog 201 #[.string s] w (MadeT (tstR s) w):=by
 have Y:=zlw s w (by unfold maxLen;omega);have HT:Hid (∀v:ByteArray,tstR s v=true↔∃i j,M v.data.toList (zc4 s.data.toList).1 i j):=hIx λv=>by unfold tstR;simp
 have hc:=@zgH s.data.toList C;generalize zc4 s.data.toList=P at *;obtain⟨t,n,c⟩:=P;dsimp only at *;subst C;have HP:=hIx Y;clear Y;generalize tstR s=f at *
 go_in
 go_wp2_with (go_at_call 103;apply Hid.out);refine WhM HP ?_;rintro e T ⟨A,V,rfl,hN,m⟩;have k:=LX.lt (λ_ hb=>hb.2) _ _ hN;have y:=LT.wf _ _ k;have H:Hid (∀o,Calls prog 104 #[argX t A V] (T.alloc o) (zi3 t (T.alloc o))):=λo=>zop t A V _ ((k.below ((Qj _ _).alloc (Qc _) o)).more (by simp))
 unfold argX at H ⊢;clear k hN;have B:=hIx y;have K:=hIx hc;clear y hc;dsimp only;go_wp2_with fail;refine(H.out _).mono ?_;rintro e w2 ⟨v,rfl,_,hl,D⟩;obtain⟨l,q,r,F⟩:=hl K.out;have Z:=zkO t 1 0 K.out;have b:w w2:=m.trans ((zaI D (Qc _)).mono m.size);have a:OwnP w2 0 v (l++[(⟨6,0,0,.zero⟩:Ins)]):=⟨F.1,F.2.imp_right λ⟨g,cap,L,h1,_,h3⟩=>⟨g,cap,L,h1,Qm _,h3⟩⟩
 have u:Hid (∀v:ByteArray,zi2 (l++[(⟨6,0,0,.zero⟩:Ins)]) v.data.toList v.size↔∃i j,M v.data.toList t i j):=λv=>zz8 q Z v.data.toList
 obtain⟨d,S,rfl,h0⟩:=OwnP.head a (by simp)
 have I:Hid (∀W,w2 W->Calls prog 105 #[.slice d (l++[(⟨6,0,0,.zero⟩:Ins)]).length S] W λe w'=>e=jC (jA 0)/\W w'):=λW hb=>by
  have:=a.below hb;exact zgw _ _ _ W this.sl (znl q) (by simp) (by rw[Qa,QC];omega)
 have U:w.heap.size<=d/\d<w2.heap.size:=by
  have h1:=QK F d rfl;have h2:=m.size;rw[Qp]at h1;omega
 have G:Hid (∀W g,W.cell? ⟨g,0,none⟩=some (.slice d (l++[(⟨6,0,0,.zero⟩:Ins)]).length S)->Since w.heap.size w2 W->∀x:ByteArray,x.size<=8192->Calls prog 245 #[.string x,.pointer (some ⟨g,0,none⟩)] W λe w'=>e=jC (.bool (f x))/\W w'):=λW g hg hb x O=>
  (zvu _ (znl q) (zt7 q) (zxu q B.out) (by simp) (by rw[Qa,QC];omega) x O _ g W hg (a.keep λJ z=>hb.keep J (by have e9:d=J:=QD z;omega) (QK a J z).2)).mono λe w' ⟨is,e1,e2,Q⟩=>⟨by
   rw[e1];have h1:=(HT.out x).symm;have h2:=e2.trans ((u.out x).trans h1);cases is <;> cases h4:f x <;> simp_all,Q⟩
 clear hl q r F a Z D H B K u HT;generalize (l++[(⟨6,0,0,.zero⟩:Ins)]).length=nl at *;go_wp2_with fail;refine(I.out _ WaL).mono ?_;rintro e w3 ⟨rfl,p⟩;have h:w3.cell? w2.heap.size=some (.slice d nl S):=Qf _ _ 0 _ _ _ ((p.block w2.heap.size (by simp)).trans (Qt w2 _));have E:w2 w3:=zaI p (Qc _);have N:=b.trans (E.mono b.size);have hz:w2.heap.size<w3.heap.size:=Qv (by simp) p.size;go_wp2;exact Qi (v:=.tuple #[.func (.func 245) #[] #[.pointer w2.heap.size],jA 0]) (by simp[results,results201,go_sem]) rfl ⟨_,_,rfl,⟨_,_,rfl,λ_ _=>rfl,λW X _ x O=>G.out W _ (zaX (X.keep _ b.size hz) 0 h) ((Since.of E).trans X) x O⟩,N⟩
theorem zzT{wr:World}{B n:Nat}{A:Option Addr}{xs:List Value}{f k:Nat->Value}(h:Sl wr B 2 A n xs){j:Nat}(m:j<n)(l:∀j,j<n->xs[j*2]? = some (f j)/\xs[j*2+1]? = some (k j)):
 ∃b off,A=some ⟨b,off,none⟩/\wr.cell? ⟨b,off+j*2,none⟩=some (f j)/\wr.cell? ⟨b,off+j*2+1,none⟩=some (k j):=by
 have hl:=h.len;obtain⟨b,off,e,_,o⟩:=h.src (by omega);have c:=l j m
 have a:∀i v,xs[i]? = some v->wr.cell? ⟨b,off+i,none⟩=some v:=λi v g=>by
  have d:i<xs.length:=(Qw.1 g).1;rw[o i d,<-g,Qd d]
 exact⟨b,off,e,by have:=a _ _ c.1;rw[show off+j*2=off+j*2 from rfl]at this;exact this,by have:=a _ _ c.2;rw[<-Zk]at this;exact this⟩
theorem ztR(g:Nat)(s:Array Value)(D:∀args w,(callFunc g args).run prog w=.ok (.enter g args) w)(A:Option Addr)(n c:Nat)(xs:List Value)(v x:Nat->Value)(p:Nat->Bool)(w:World)
 (h:Sl w w.heap.size 2 A n xs) (r:n<=9223372036854775807) (u:∀j,j<n->xs[j*2]? = some (v j)/\xs[j*2+1]? = some (x j))
 (q:∀W j,j<n->w W->Calls prog g (#[.agg #[v j,x j]]++s) W (zav (p j) W)):
 Calls prog 284 #[.slice A n c,.func (.func g) #[] s] w λe w'=>e=jC (jA (hitI p n))/\w w':=by
 have B:=hIx q;have C:=hIx u;clear q u
 go_in
 go_wp2
 go_loopw [5,8] (λ_ i wr=>∃j:Nat,j<=n/\i=jA j/\w wr/\Hid (∀i,i<j->p i=false)) (λ_ i _=>n-(intOf i).toNat)
 case atStart=>exact⟨0,Qm _,rfl,Qj _ _,λi t=>absurd t (by omega)⟩
 case round=>
  obtain⟨j,E,rfl,hb,a⟩:=hrel
  by_cases d:j<n
  ·obtain⟨b,off,rfl,y,z⟩:=zzT (h.below hb) d C.out
   have o:=B.out wr j d hb;cases l:p j with
   |true=>
    rw[l]at o;have f:=hIx (zme p n j d l a);clear l;go_wp2_with (go_at_fn g;refine o.mono ?_;rintro e w' ⟨rfl,k⟩);go_ret;exact⟨zac f.out.symm,hb.trans (k.mono hb.size)⟩
   |false=>
    rw[l]at o
    have m:Hid (∀i,i<j+1->p i=false):=λi t=>by
     by_cases e:i=j
     ·rw[e];exact l
     ·exact a i (by omega)
    clear l a;go_wp2_with (go_at_fn g;refine o.mono ?_;rintro e w' ⟨rfl,k⟩)
    go_roundw
    case rel=>exact⟨j+1,by omega,by go_num,hb.trans (k.mono hb.size),m⟩
    case measure=>simp[intOf] <;> omega
  ·obtain rfl:j=n:=by omega
   have f:=hIx (zew p j a);go_wp2;go_ret;exact⟨zac f.out.symm,hb⟩
theorem zpU(g:Nat)(b:Array Value)(l:∀args w,(callFunc g args).run prog w=.ok (.enter g args) w)(A:Option Addr)(n c:Nat)(xs:List Value)(d f:Nat->Value)(p:Nat->Bool)(w:World)
 (h:Sl w w.heap.size 2 A n xs) (a:n<=9223372036854775807) (k:∀j,j<n->xs[j*2]? = some (d j)/\xs[j*2+1]? = some (f j))
 (i:∀W j,j<n->w W->Calls prog g (#[.agg #[d j,f j]]++b) W (zav (p j) W)):
 Calls prog 251 #[.slice A n c,.func (.func g) #[] b] w (zav (anyN p n) w):=by
 have o:=hIx (ztR g b l A n c xs d f p w h a k i);have m:=hIx (zhK p n);clear i k h
 go_in
 go_wp2_with fail;refine o.out.mono ?_;rintro e q ⟨rfl,hb⟩;go_wp2;go_ret;exact⟨zaK m.out,hb⟩
theorem zyc(a x:Nat)(b:Int)(w:World)(m:a<4294967296)(l:x<4294967296):
 Calls prog 253 #[.agg #[.int .u32 (a:Int),jA b],.int .u32 (x:Int)] w λe w'=>e=jC (.bool (zmz a b x))/\w w':=by
 obtain⟨h,c⟩:∃h,w.alloc (.cells #[.int .u32 (a:Int),jA b] 248)=h:=⟨_,rfl⟩
 have g:NetAt w.heap.size (a:Int) b h:=by rw[<-c];exact Qt w _
 have f:w h:=by rw[<-c];exact WaL
 have d:a ^^^ x<4294967296:=Nat.xor_lt_two_pow (n:=32) m l;have o:=u32_xor_nat a x m l;have p:=u32_and_nat (a ^^^ x) (zeM b) d (zkE b)
 have q:Hid ((((a ^^^ x)&&& zeM b:Nat):Int)=0↔zmz a b x=true):=by
  unfold Hid zmz zeM;rw[decide_eq_true_iff,<-zvj _ _ d (ziq b)];exact Int.natCast_eq_zero
 generalize (a ^^^ x)&&& zeM b=z at *;generalize a ^^^ x=y at *;have ⟨t,s⟩:=g.cells;have j:=hIx c;have i:=hIx f;clear g c f m l d
 have k:Hid (((z:Int)==0)=zmz a b x):=by
  unfold Hid;rw[Bool.eq_iff_iff,Zo];exact q.out
 clear q;generalize zmz a b x=r at *
 go_in
 go_upto_region 1 with fail
 rw[j.out]
 go_quiet ((go_at_call 185;exact Q9 (zdz _ _)))
 go_wp2;go_ret;exact⟨by rw[k.out];rfl,below_drewN i.out nq⟩
