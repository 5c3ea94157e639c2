/- Lemmas for the last texts. -/
import Derived.Test.YtnnokglddolglaaGreatDoorM21
import Derived.Lib.ItoaLen
set_option maxHeartbeats 6400000
set_option maxRecDepth 100000
namespace Go.Proofs.YtnnokglddolglaaGreatDoor
open Go.RowKit Go.Proofs.Tryz
structure zco where
 id:Int
 ph:Int
 vs:Value
 ps:Value
 nt:Bool
 op:Int
 arg:ByteArray
 av:Value
 ch:Bool
def RBox(g:Nat)(r:zco)(d m:Int)(t:Value)(w:World):Prop:=
 w.heap[g]? = some (.cells #[jA r.id,jA r.ph,r.vs,r.ps,.bool r.nt,jA r.op,.string r.arg,r.av,.bool r.ch,.int .u32 d,.int .i32 m,.int .u32 0,t] 97 (0,0))
section
variable {g:Nat} {r:zco} {d m:Int} {t:Value} {w w':World}
theorem RBox.keep(h:RBox g r d m t w)(a:w'.heap[g]? = w.heap[g]?):RBox g r d m t w':=a.trans h
theorem RBox.lt(h:RBox g r d m t w):g<w.heap.size:=zaz h
theorem RBox.once(h:RBox g r d m t w):(w.cell? ⟨g,9,none⟩=some (.int .u32 d)/\w.cell? ⟨g,10,none⟩=some (.int .i32 m))/\w.frozen? ⟨g,9,none⟩=false/\w.frozen? ⟨g,10,none⟩=false:=
 ⟨⟨Qf w g 9 _ _ _ h,Qf w g 10 _ _ _ h⟩,Z4 w g 9 _ _ h,Z4 w g 10 _ _ h⟩
theorem RBox.test(h:RBox g r d m t w):w.cell? ⟨g,12,none⟩=some t/\w.frozen? ⟨g,12,none⟩=false:=⟨Qf w g 12 _ _ _ h,Z4 w g 12 _ _ h⟩
theorem RBox.rule(h:RBox g r d m t w):w.cell? ⟨g,3,none⟩=some r.ps/\w.cell? ⟨g,4,none⟩=some (.bool r.nt)/\w.cell? ⟨g,5,none⟩=some (jA r.op)/\w.cell? ⟨g,6,none⟩=some (.string r.arg):=
 ⟨Qf w g 3 _ _ _ h,Qf w g 4 _ _ _ h,Qf w g 5 _ _ _ h,Qf w g 6 _ _ _ h⟩
theorem RBox.setD(h:RBox g r d m t w)(k:Int):RBox g r k m t (w.setCell ⟨g,9,none⟩ (.int .u32 k)):=Q3 w g 9 _ _ _ h
theorem RBox.setM(h:RBox g r d m t w)(k:Int):RBox g r d k t (w.setCell ⟨g,10,none⟩ (.int .i32 k)):=Q3 w g 10 _ _ _ h
theorem RBox.setT(h:RBox g r d m t w)(u:Value):RBox g r d m u (w.setCell ⟨g,12,none⟩ u):=Q3 w g 12 _ _ _ h
end
theorem zuO{w:World}{a:Addr}{x:Value}(f:Fn)(p c:Array Value)(h:w.cell? a=some x)(b:w.frozen? a=false):(store a (.func f p c)).run prog w=.ok () (w.setCell a (.func f p c)):=
 (run_store prog w a _ .plain rfl).trans (by simp[h,b])
def zpC(g:Nat)(f:ByteArray->Bool)(w:World)(w':World):Prop:=
 ∃t W,TestAt w.heap.size f t W/\w W/\w'=W.setCell ⟨g,12,none⟩ t
theorem zvK(g s:Nat)(r:zco)(d m:Int)(w:World)(h:RBox g r d m .nilFunc w)(B:w.cell? s=some (.pointer g))(l:LibOk w)(h1:1<=r.op)(h2:r.op<=12)(I:r.arg.size<=1048576)(z:argC r.op r.arg=0):
 Calls prog 156 #[.pointer s] w λe w'=>e=jC (.tuple #[])/\zpC g (tstO r.op r.arg) w w':=by
 have y:Hid (∀W,w W->Calls prog 157 #[jA r.op,.string r.arg] W (MadeT (tstO r.op r.arg) W)):=λW hb=>zvs r.arg W r.op h1 h2 (l.below hb) I z
 generalize tstO r.op r.arg=f at *;obtain⟨L,J,D,x⟩:=h.rule;obtain⟨A,H⟩:=h.test;have K:=h.lt;clear z
 go_in
 have v:Hid (Calls prog 157 #[jA r.op,.string r.arg] w.drew (MadeT f w.drew)):=y.out _ (Qj _ _).drew;have j:Hid (∀W b a,TestAt w.heap.size f (.func (.func b) #[] a) W->w W->zpC g f w (W.setCell ⟨g,12,none⟩ (.func (.func b) #[] a))):=λW b a q hb=>⟨_,W,q,hb,rfl⟩
 clear y
 go_region_held3 (λw'=>w'.cell? s=some (.pointer g)/\w'.cell? ⟨g,5,none⟩=some (jA r.op)/\w'.cell? ⟨g,6,none⟩=some (.string r.arg))
  (first|exact⟨B,D,x⟩|exact⟨k,t,u⟩|exact⟨o,p,n⟩|go_keep|fail "keep")
  (first|(go_at_call 157;(with_reducible refine(v.out).mono ?_);rintro e w2 ⟨b,a,rfl,q,i⟩;have c:w w2:=undrew i;have k:=zaa c B;have t:=zaa c D;have u:=zaa c x;have E:=zaa c A;have C:=zaB c A H;have F:=zuO (.func b) #[] a E C;have o:=(QT w2 ⟨g,12,none⟩ ⟨s,0,none⟩ (.func (.func b) #[] a) (by simp)).trans k;have p:=(QT w2 ⟨g,12,none⟩ ⟨g,5,none⟩ (.func (.func b) #[] a) (by simp)).trans t;have n:=(QT w2 ⟨g,12,none⟩ ⟨g,6,none⟩ (.func (.func b) #[] a) (by simp)).trans u;have G:=hIx (j.out w2 b a q c);clear q i)|fail "arm")
 all_goals
  clear k t u E C F o p n
  go_end0
  exact⟨rfl,G.out⟩
structure Oth(B g:Nat)(w w':World):Prop where
 below:Below B w w'
 keep:∀k,k<w.heap.size->k≠g->w'.heap[k]? = w.heap[k]?
theorem Oth.of{B g:Nat}{w w':World}(hb:w w')(a:B<=w.heap.size):Oth B g w w':=⟨hb.mono a,λk h _=>hb.block k h⟩
theorem Oth.set{B g:Nat}(b:B<=g)(w:World)(j:Nat)(v:Value):Oth B g w (w.setCell ⟨g,j,none⟩ v):=
 ⟨(Qj _ _).setCell (p:=⟨g,j,none⟩) b v,λk _ a=>Qk w ⟨g,j,none⟩ v k a⟩
theorem Oth.trans{B g:Nat}{w W V:World}(h:Oth B g w W)(k:Oth B g W V):Oth B g w V:=
 ⟨h.below.trans k.below,λj b a=>(k.keep j (Qv b h.below.size) a).trans (h.keep j b a)⟩
theorem Oth.drew{B g:Nat}{w:World}(a:B<=w.heap.size):Oth B g w w.drew:=Oth.of (Qj _ _).drew a
def Ready(F:Nat->Prop)(g:Nat)(r:zco)(f:ByteArray->Bool)(w:World):Prop:=∃t a b,RBox g r 1 0 t w/\TestAt b f t a/\Since b a w/\∀k,F k->¬(b<=k/\k<a.heap.size)
section
variable {F:Nat->Prop} {g:Nat} {r:zco} {f:ByteArray->Bool} {w W:World}
theorem Ready.box(h:Ready F g r f w):∃t,RBox g r 1 0 t w:=by obtain⟨t,_,_,h,_⟩:=h;exact⟨t,h⟩
theorem Ready.lt(h:Ready F g r f w):g<w.heap.size:=by obtain⟨t,h⟩:=h.box;exact h.lt
theorem Ready.keep(h:Ready F g r f w)(n:w.heap.size<=W.heap.size)(l:W.heap[g]? = w.heap[g]?)(d:∀k,k<w.heap.size->¬F k->W.heap[k]? = w.heap[k]?):Ready F g r f W:=by
 obtain⟨t,j,m,i,e,a,b⟩:=h;exact⟨t,j,m,i.keep l,e,⟨Ql a.size n,λk h1 h2=>(d k (Qv h2 a.size) λc=>b k c ⟨h1,h2⟩).trans (a.keep k h1 h2)⟩,b⟩
theorem Ready.next(h:Ready F g r f w)(hb:w W):Ready F g r f W:=h.keep hb.size (hb.block g h.lt) λk a _=>hb.block k a
theorem Ready.more{a:Nat->Prop}(h:Ready F g r f w)(d:∀k,a k->F k\/w.heap.size<=k):Ready a g r f w:=by
 obtain⟨t,j,l,i,e,b,m⟩:=h;refine⟨t,j,l,i,e,b,λk c hb=>?_⟩
 rcases d k c with h1|h1
 ·exact m k h1 hb
 ·have:=b.size;omega
end
def zhe(B:Nat)(F:Nat->Prop)(g:Nat)(r:zco)(f:ByteArray->Bool)(s:ByteArray)(w:World)(e:Ending)(w':World):Prop:=
 e=jC (.bool (f s))/\Ready F g r f w'/\Oth B g w w'
theorem zrn{B g:Nat}{F:Nat->Prop}{r:zco}{f:ByteArray->Bool}{d W:World}(j:B<=g)(u:∀k,F k->k<d.heap.size)(h:RBox g r 0 0 .nilFunc d)(o:zpC g f (d.setCell ⟨g,10,none⟩ (.int .i32 1)) W):
 ∃b a,RBox g r 1 0 (.func (.func b) #[] a) ((W.drew.setCell ⟨g,9,none⟩ (.int .u32 1)).setCell ⟨g,10,none⟩ (.int .i32 0))/\TestAt d.heap.size f (.func (.func b) #[] a) ((W.drew.setCell ⟨g,9,none⟩ (.int .u32 1)).setCell ⟨g,10,none⟩ (.int .i32 0))/\Ready F g r f ((W.drew.setCell ⟨g,9,none⟩ (.int .u32 1)).setCell ⟨g,10,none⟩ (.int .i32 0))/\Oth B g d ((W.drew.setCell ⟨g,9,none⟩ (.int .u32 1)).setCell ⟨g,10,none⟩ (.int .i32 0)):=by
 obtain⟨t,c,⟨b,a,rfl,s⟩,hb,rfl⟩:=o;have p:=h.lt;have i:RBox g r 0 1 .nilFunc c:=(h.setM 1).keep (hb.block g (by rw[Z8];exact p));have w:=i.lt;have v:Oth B g d c:=(Oth.set j d 10 (.int .i32 1)).trans (Oth.of hb (by rw[Z8];omega))
 have l:Oth B g c (((c.setCell ⟨g,12,none⟩ (.func (.func b) #[] a)).drew.setCell ⟨g,9,none⟩ (.int .u32 1)).setCell ⟨g,10,none⟩ (.int .i32 0)):=
  (((Oth.set j c 12 _).trans (Oth.drew (by rw[Z8];omega))).trans (Oth.set j _ 9 _)).trans (Oth.set j _ 10 _)
 have m:RBox g r 1 0 (.func (.func b) #[] a) (((c.setCell ⟨g,12,none⟩ (.func (.func b) #[] a)).drew.setCell ⟨g,9,none⟩ (.int .u32 1)).setCell ⟨g,10,none⟩ (.int .i32 0)):=by
  have h1:RBox g r 0 1 (.func (.func b) #[] a) (c.setCell ⟨g,12,none⟩ (.func (.func b) #[] a)).drew:=i.setT _;exact(h1.setD 1).setM 0
 have e:TestAt (d.setCell ⟨g,10,none⟩ (.int .i32 1)).heap.size f (.func (.func b) #[] a) c:=⟨b,a,rfl,s⟩
 rw[Z8]at e;have n:Since d.heap.size c (((c.setCell ⟨g,12,none⟩ (.func (.func b) #[] a)).drew.setCell ⟨g,9,none⟩ (.int .u32 1)).setCell ⟨g,10,none⟩ (.int .i32 0)):=⟨l.below.size,λk h1 h2=>l.keep k h2 (by omega)⟩
 exact⟨b,a,m,e.since n,⟨_,c,_,m,e,n,λk q hb=>by have:=u k q;omega⟩,v.trans l⟩
theorem zoj(B:Nat)(F:Nat->Prop)(g:Nat)(r:zco)(s:ByteArray)(w:World)(hB:B<=g)(hF:∀k,F k->k<w.heap.size)(h:RBox g r 0 0 .nilFunc w)(X:∀W,Oth B g w W->LibOk W)(h1:1<=r.op)(h2:r.op<=12)(ha:r.arg.size<=1048576)(h0:argC r.op r.arg=0)(hs:s.size<=8192):
 Calls prog 117 #[.pointer g,.string s] w (zhe B F g r (tstO r.op r.arg) s w):=by
 have hg:=h.lt;obtain⟨j,q⟩:∃j,w.alloc (.cells #[.pointer g] 83)=j:=⟨_,rfl⟩
 have p:w j:=by rw[<-q];exact WaL
 have o0:Oth B g w j:=Oth.of p (by omega);have l:RBox g r 0 0 .nilFunc j:=h.keep (p.block g hg);have v:j.heap[w.heap.size]? = some (.cells #[.pointer g] 83 (0,0)):=by rw[<-q];exact Qt w _
 have L:(j.setCell ⟨g,10,none⟩ (.int .i32 1)).cell? w.heap.size=some (.pointer g):=
  Qf _ _ 0 _ _ _ ((Qk j ⟨g,10,none⟩ (.int .i32 1) w.heap.size (by show w.heap.size≠g;omega)).trans v)
 have y:=zvK g w.heap.size r 0 1 (j.setCell ⟨g,10,none⟩ (.int .i32 1)) (l.setM 1) L (X _ (o0.trans (Oth.set hB j 10 _))) h1 h2 ha h0;generalize tstO r.op r.arg=f at *;obtain⟨⟨c9,D⟩,f9,N⟩:=l.once
 have x:Calls prog 156 #[.pointer w.heap.size] (j.setCell ⟨g,10,none⟩ (.int .i32 1)) (Ran g 9 (zpC g f (j.setCell ⟨g,10,none⟩ (.int .i32 1)))):=y.mono λe w' ⟨G,C⟩=>by
  obtain⟨t,Wm,hT,hb,Q⟩:=C;have Z:RBox g r 0 1 .nilFunc Wm:=(l.setM 1).keep (hb.block g (by rw[Z8];exact l.lt));have S:RBox g r 0 1 t w':=by rw[Q];exact Z.setT t
  obtain⟨⟨a,b⟩,c,d⟩:=S.once;exact⟨G,a,c,b,d,t,Wm,hT,hb,Q⟩
 have J:=hIx (zu6 g 9 ⟨w.heap.size,0,none⟩ (zpC g f (j.setCell ⟨g,10,none⟩ (.int .i32 1))) j c9 D f9 N x);have H:Hid (∀W,zpC g f (j.setCell ⟨g,10,none⟩ (.int .i32 1)) W->∃u n,RBox g r 1 0 (.func (.func u) #[] n) ((W.drew.setCell ⟨g,9,none⟩ (.int .u32 1)).setCell ⟨g,10,none⟩ (.int .i32 0))/\TestAt j.heap.size f (.func (.func u) #[] n) ((W.drew.setCell ⟨g,9,none⟩ (.int .u32 1)).setCell ⟨g,10,none⟩ (.int .i32 0))/\Ready F g r f ((W.drew.setCell ⟨g,9,none⟩ (.int .u32 1)).setCell ⟨g,10,none⟩ (.int .i32 0))/\Oth B g j ((W.drew.setCell ⟨g,9,none⟩ (.int .u32 1)).setCell ⟨g,10,none⟩ (.int .i32 0))):=λW C=>zrn hB (λk hk=>Qv (hF k hk) p.size) l C
 have A:=hIx v;have HL:=hIx X;have HO:=hIx o0;have hz:w.heap.size<j.heap.size:=zaz v;have h3:=hIx q;clear y x v L c9 D f9 N l p X o0 h0 q
 go_in
 go_upto_region 1 with fail
 rw[h3.out];have p0:=Qf j w.heap.size 0 _ _ _ A.out;simp only[ZT,Z9]at p0;have h5:∀(fn:Fn) (first cap:Array Value) (w:World),(Instr.makeFunc fn first cap).run prog w=.ok (.func fn first cap) w:=λ_ _ _ _=>rfl
 go_wp2_with (go_at_call 155;apply Hid.out);refine WhM J ?_;rintro e K ⟨rfl,W,C,E⟩;obtain⟨u,n,o,O,i,P⟩:=H.out W C;rw[<-E]at o O i P;have V:=HO.out.trans P;have z:=HL.out K V;have p1:K.cell? w.heap.size=some (.pointer g):=Qf K w.heap.size 0 _ _ _ ((P.keep _ hz (by omega)).trans A.out);obtain⟨q1,_⟩:=o.test;obtain⟨h4,U,e',eg,m⟩:=O;injection e' with G _ Q
 injection G with G
 subst G;subst Q
 have hc:=m K (Since.refl _ _) z s hs;have T:=hIx i;have Y:=hIx V;have h6:g<K.heap.size:=o.lt;clear i m C E o P V J H A HL HO p0;go_wp2_with (go_at_fn u;refine hc.mono ?_;rintro e w2 ⟨rfl,I⟩);go_ret;exact⟨rfl,T.out.next I,Y.out.trans (Oth.of I (by omega))⟩
theorem zn3(B:Nat)(F:Nat->Prop)(g:Nat)(r:zco)(f:ByteArray->Bool)(s:ByteArray)(w:World)(S:B<=g)(h:Ready F g r f w)(i:LibOk w)(I:s.size<=8192):
 Calls prog 117 #[.pointer g,.string s] w (zhe B F g r f s w):=by
 have N:g<w.heap.size:=h.lt;obtain⟨j,d⟩:∃j,w.alloc (.cells #[.pointer g] 83)=j:=⟨_,rfl⟩
 have c:w j:=by rw[<-d];exact WaL
 have l:j.heap[w.heap.size]? = some (.cells #[.pointer g] 83 (0,0)):=by rw[<-d];exact Qt w _
 have o:=h.next c;have a:=o;obtain⟨t,H,O,p,n,k,_⟩:=o;have G:=n.since k;obtain⟨v,C,rfl,Q,b⟩:=G;clear n k;obtain⟨⟨z,_⟩,_⟩:=p.once;obtain⟨P,_⟩:=p.test;have K:=b j (Since.refl _ _) (i.below c) s I;have y:=hIx (zw4 ⟨g,9,none⟩ 1 (by decide) (.func (.func 156) #[] #[.pointer w.heap.size]) j z);have x:=hIx a;have q:=hIx c;have J:=Qf j w.heap.size 0 _ _ _ l;simp only[ZT,Z9]at J;have u:=hIx d;have E:∀(A:Fn) (first cap:Array Value) (w:World),(Instr.makeFunc A first cap).run prog w=.ok (.func A first cap) w:=λ_ _ _ _=>rfl
 have D:g<j.heap.size:=p.lt;clear a b p c l h d z i
 go_in
 go_upto_region 1 with fail
 rw[u.out];go_wp2_with (go_at_call 155;apply Hid.out);refine WhM y ?_;rintro e L ⟨rfl,rfl⟩;go_wp2_with (go_at_fn v;refine K.mono ?_;rintro e w2 ⟨rfl,m⟩);go_ret;exact⟨rfl,x.out.next m,(Oth.of q.out (by omega)).trans (Oth.of m (by omega))⟩
theorem znW(s:ByteArray)(w:World)(a:LibOk w)(d:s.size<=4194304):Calls prog 158 #[.string s] w λe w'=>e=jC (.string (bs (Lib.cut s.data.toList [63]).1))/\w w':=by
 obtain⟨m,b⟩:=a;have c:=hIx (strings_Cut s ⟨#[63]⟩ m w (by omega) b)
 go_in
 go_wp2_with fail;refine c.out.mono ?_;rintro e w2 ⟨rfl,nq,rfl⟩;go_wp2;go_ret;exact⟨rfl,below_drewN (Qj _ _) nq⟩
theorem zmm(s:ByteArray)(w:World)(a:LibOk w)(d:s.size<=4194304):Calls prog 49 #[.string s] w λe w'=>e=jC (.string (bs (Lib.cut s.data.toList [63]).2.1))/\w w':=by
 obtain⟨m,b⟩:=a;have c:=hIx (strings_Cut s ⟨#[63]⟩ m w (by omega) b)
 go_in
 go_wp2_with fail;refine c.out.mono ?_;rintro e w2 ⟨rfl,nq,rfl⟩;go_wp2;go_ret;exact⟨rfl,below_drewN (Qj _ _) nq⟩
section
open Go.Sort
theorem zoM(n:Int)(w:World)(a:-9223372036854775808<=n)(h1:n<=9223372036854775807)(h:TabOk w):
 Calls prog 58 #[jA n] w λe w'=>e=jC (.string (bs (Lib.itoa n)))/\w w':=
 (strconv_Itoa n a h1 w (h w (Qj _ _))).mono λe w' ⟨h1,b,os,h2⟩=>by
  subst h2;refine⟨?_,zhP w b os⟩;rw[h1]
  rfl
def oneV(x:ByteArray):List Pair:=[(ByteArray.mk #[],x)]
def valP(K:Int)(a m t b:ByteArray)(e:List zal)(f:Nat)(g:Int)(c d:List Pair):List Pair:=
 if K=1 then oneV m else if K=2 then oneV t else if K=3 then oneV (bs (Lib.cut t.data.toList [63]).1)else if K=4 then oneV (bs (Lib.cut t.data.toList [63]).2.1)else if K=5 then oneV b
 else if K=6 then zeU c a else if K=7 then zgd c else if K=8 then zeU (zbc e) a else if K=9 then zgd (zbc e)else if K=10 then zeU d a
 else if K=11 then oneV (bs (netT f 32))else if K=12 then oneV (bs (Lib.itoa g))else []
theorem zyn(a:Nat):zqu a 32=true:=by
 unfold zqu;have:topN 32=0:=by decide
 rw[this,Nat.pow_zero,Nat.mod_one]
 decide
structure ValIn(m t b:ByteArray)(fs:List zal)(A:Option Addr)(list:List Pair)(Al:Option Addr)(cook:List Pair)(Ac:Option Addr)(w:World):Prop where
 f:Sl w w.heap.size 2 A fs.length (fs.flatMap zaA)
 l:Sl w w.heap.size 2 Al list.length (list.flatMap za5)
 c:Sl w w.heap.size 2 Ac cook.length (cook.flatMap za5)
 lib:LibOk w
 tab:TabOk w
theorem ValIn.below{m t b:ByteArray}{i:List zal}{A:Option Addr}{d:List Pair}{e:Option Addr}{a:List Pair}{g:Option Addr}{w W:World}(h:ValIn m t b i A d e a g w)(hb:w W):ValIn m t b i A d e a g W:=
 ⟨(h.f.below hb).more hb.size,(h.l.below hb).more hb.size,(h.c.below hb).more hb.size,h.lib.below hb,h.tab.below hb⟩
structure znw(t:ByteArray)(fs:List zal)(list cook:List Pair)(cl:Nat)(sc:Int):Prop where
 zt:t.size<=4194304
 zf:fs.length<=4194304
 each:∀f∈fs,f.1.size<=maxLen
 zl:list.length<=4194304
 zk:cook.length<=4194304
 zc:cl<4294967296
 zs:-9223372036854775808<=sc/\sc<=9223372036854775807
theorem zpG(K M:Int)(a m t b:ByteArray)(o:List zal)(A:Option Addr)(c:Nat)(q:Nat)(z:Int)(g:List Pair)(Al:Option Addr)(c1:Nat)(j:List Pair)(Ac:Option Addr)(c2:Nat)(w:World)
 (hc:ValIn m t b o A g Al j Ac w) (hz:znw t o g j q z):
 Calls prog 118 #[.agg #[jA K,jA M,.string a],.agg #[.string m,.string t,.slice A o.length c,.string b],.int .u32 (q:Int),jA z,.slice Al g.length c1,.slice Ac j.length c2] w (RowA (valP K a m t b o q z g j) w):=by
 obtain⟨i,J⟩:∃i,(w.alloc (.cells #[jA K,jA M,.string a] 55)).alloc (.cells #[.string m,.string t,.slice A o.length c,.string b] 29)=i:=⟨_,rfl⟩
 have C:w i:=by rw[<-J];exact WaL.alloc (by simp) _
 have ha:i.heap[w.heap.size]? = some (.cells #[jA K,jA M,.string a] 55 (0,0)):=by
  rw[<-J];exact(Qr _ _ _ (by simp)).trans (Qt w _)
 have O:i.heap[w.heap.size+1]? = some (.cells #[.string m,.string t,.slice A o.length c,.string b] 29 (0,0)):=by
  rw[<-J];have:=Qt (w.alloc (.cells #[jA K,jA M,.string a] 55)) (.cells #[.string m,.string t,.slice A o.length c,.string b] 29);rw[Qp]at this;exact this
 have a0:i.cell? w.heap.size=some (jA K):=Qf i _ 0 _ _ _ ha;have a2:i.cell? ⟨w.heap.size,2,none⟩=some (.string a):=Qf i _ 2 _ _ _ ha;have d0:i.cell? (w.heap.size+1:)=some (.string m):=Qf i _ 0 _ _ _ O;have d1:i.cell? ⟨w.heap.size+1,1,none⟩=some (.string t):=Qf i _ 1 _ _ _ O;have d2:i.cell? ⟨w.heap.size+1,2,none⟩=some (.slice A o.length c):=Qf i _ 2 _ _ _ O;have d3:i.cell? ⟨w.heap.size+1,3,none⟩=some (.string b):=Qf i _ 3 _ _ _ O;have hI:=hc.below C;have hd:=hIx J;have hf:=hIx C;have X:Hid (∀W,i W->ValIn m t b o A g Al j Ac W):=λW h=>hI.below h
 have HS:Hid (∀W,i W->W.cell? ⟨w.heap.size,2,none⟩=some (.string a)/\W.cell? (w.heap.size+1:)=some (.string m)/\W.cell? ⟨w.heap.size+1,1,none⟩=some (.string t)/\W.cell? ⟨w.heap.size+1,2,none⟩=some (.slice A o.length c)):=λW h=>⟨zaa h a2,zaa h d0,zaa h d1,zaa h d2⟩
 have y:=hIx hz;have Q:Hid (i i):=Qj _ _
 have k:Hid (∀(l:List Pair) (v:Value) (W:World) (B:Nat),l=valP K a m t b o q z g j->OwnA W B v l->i.heap.size<=B->i W->RowA (valP K a m t b o q z g j) w (jC v) W):=λl v W B h1 h2 h3 h4=>by
  subst h1;exact⟨v,rfl,h2.low (Ql C.size h3),C.trans (h4.mono C.size)⟩
 have h9:Hid (valP K a m t b o q z g j=_):=rfl;unfold Hid at h9;clear hc hz J C ha O hI h9
 go_in
 go_upto_region 1 with fail
 rw[hd.out]
 by_cases s:K=1
 ·subst s
  go_wp2_with (go_at_call 121;(with_reducible refine(zda m _).mono ?_);rintro e Z ⟨T,rfl,n,d⟩);go_ret;exact k.out _ _ _ _ rfl n (Qc _) d
 by_cases u:K=2
 ·subst u
  clear s;go_wp2_with (go_at_call 121;(with_reducible refine(zda t _).mono ?_);rintro e Z ⟨T,rfl,n,d⟩);go_ret;exact k.out _ _ _ _ rfl n (Qc _) d
 by_cases D:K=3
 ·subst D
  clear s u;have p:=hIx (znW t i (X.out _ Q.out).lib y.out.zt);have F:Hid (oneV (bs (Lib.cut t.data.toList [63]).1)=valP 3 a m t b o q z g j):=rfl;generalize bs (Lib.cut t.data.toList [63]).1=P at p F
  go_wp2_with (first
   |(go_at_call 158;(with_reducible refine p.out.mono ?_);rintro e Z ⟨rfl,d⟩)
   |(go_at_call 121;(with_reducible refine(zda P _).mono ?_);rintro e w2 ⟨T,rfl,n,r⟩))
  go_ret;exact k.out _ _ _ _ F.out n d.size (d.trans (r.mono d.size))
 by_cases G:K=4
 ·subst G
  clear s u D;have p:=hIx (zmm t i (X.out _ Q.out).lib y.out.zt);have F:Hid (oneV (bs (Lib.cut t.data.toList [63]).2.1)=valP 4 a m t b o q z g j):=rfl;generalize bs (Lib.cut t.data.toList [63]).2.1=P at p F
  go_wp2_with (first
   |(go_at_call 49;(with_reducible refine p.out.mono ?_);rintro e Z ⟨rfl,d⟩)
   |(go_at_call 121;(with_reducible refine(zda P _).mono ?_);rintro e w2 ⟨T,rfl,n,r⟩))
  go_ret;exact k.out _ _ _ _ F.out n d.size (d.trans (r.mono d.size))
 by_cases L:K=5
 ·subst L
  clear s u D G;go_wp2_with (go_at_call 121;(with_reducible refine(zda b _).mono ?_);rintro e Z ⟨T,rfl,n,d⟩);go_ret;exact k.out _ _ _ _ rfl n (Qc _) d
 by_cases S:K=6
 ·subst S
  clear s u D G L;have p:=hIx (zkC g Al c1 a i (X.out _ Q.out).l y.out.zl);go_wp2_with (go_at_call 159;(with_reducible refine p.out.mono ?_);rintro e Z ⟨T,rfl,n,d⟩);go_ret;exact k.out _ _ _ _ rfl n (Qc _) d
 by_cases U:K=7
 ·subst U
  clear s u D G L S;have p:=hIx (zoy g Al c1 i (X.out _ Q.out).l y.out.zl);go_wp2_with (go_at_call 160;(with_reducible refine p.out.mono ?_);rintro e Z ⟨T,rfl,n,d⟩);go_ret;exact k.out _ _ _ _ rfl n (Qc _) d
 by_cases k8:K=8
 ·subst k8
  clear s u D G L S U;have p:Hid (∀W,i W->_):=λW h=>zjt m t o A c W (X.out W h).f y.out.each y.out.zf
  have I:(zbc o).length<=4194304:=by unfold zbc;rw[Qh];exact y.out.zf
  have h8:=hIx I;clear I;go_wp2_with fail
  go_region_held3 (λw'=>w'.cell? ⟨w.heap.size,2,none⟩=some (.string a)/\w'.cell? (w.heap.size+1:)=some (.string m)/\w'.cell? ⟨w.heap.size+1,1,none⟩=some (.string t)/\w'.cell? ⟨w.heap.size+1,2,none⟩=some (.slice A o.length c))
   (first|exact HS.out _ h5|exact HS.out _ x|exact HS.out _ Q.out|go_keep)
   (first
    |(go_at_call 161;(with_reducible refine(p.out _ (Q.out.drew)).mono ?_);rintro e w8 ⟨v8,rfl,Y,H⟩;have x:i w8:=zub H;obtain⟨A8,c8,rfl,V⟩:=Y.form)
    |(go_at_call 159;(with_reducible refine(zkC (zbc o) A8 c8 a w8 V h8.out).mono ?_);rintro e w9 ⟨v9,rfl,h6,h7⟩;have h5:i w9:=x.trans (h7.mono x.size)))
  clear Y V;go_wp2;go_ret;exact k.out _ _ _ _ rfl h6 x.size h5
 by_cases k9:K=9
 ·subst k9
  clear s u D G L S U k8;have p:=hIx (zjt m t o A c i (X.out _ Q.out).f y.out.each y.out.zf);have I:(zbc o).length<=4194304:=by unfold zbc;rw[Qh];exact y.out.zf
  have h8:=hIx I;clear I;go_wp2_with (go_at_call 161;(with_reducible refine p.out.mono ?_);rintro e w8 ⟨v8,rfl,Y,H⟩;obtain⟨A8,c8,rfl,V⟩:=Y.form);refine(zoy (zbc o) A8 c8 w8 V h8.out).mono ?_;rintro e w9 ⟨v9,rfl,h6,h7⟩;go_wp2;go_ret;exact k.out _ _ _ _ rfl h6 H.size (H.trans (h7.mono H.size))
 by_cases E:K=10
 ·subst E
  clear s u D G L S U k8 k9;have p:=hIx (zkC j Ac c2 a i (X.out _ Q.out).c y.out.zk);go_wp2_with (go_at_call 159;(with_reducible refine p.out.mono ?_);rintro e Z ⟨T,rfl,n,d⟩);go_ret;exact k.out _ _ _ _ rfl n (Qc _) d
 by_cases N:K=11
 ·subst N
  clear s u D G L S U k8 k9 E
  have p:Hid (Calls prog 162 #[.agg #[.int .u32 (q:Int),jA 32]] i λe w'=>e=jC (.tuple #[.string (bs (netT q 32)),jA 0])/\i w'):=by
   have h:=zq3 q 32 i y.out.zc (X.out _ Q.out).tab;unfold zgs at h;rw[zyn,Qg rfl]at h;exact h
  have F:Hid (oneV (bs (netT q 32))=valP 11 a m t b o q z g j):=rfl;generalize bs (netT q 32)=P at p F
  go_wp2_with (first
   |(go_at_call 162;(with_reducible refine p.out.mono ?_);rintro e Z ⟨rfl,d⟩)
   |(go_at_call 121;(with_reducible refine(zda P _).mono ?_);rintro e w2 ⟨T,rfl,n,r⟩))
  go_ret;exact k.out _ _ _ _ F.out n d.size (d.trans (r.mono d.size))
 by_cases h0:K=12
 ·subst h0
  clear s u D G L S U k8 k9 E N;have p:=hIx (zoM z i y.out.zs.1 y.out.zs.2 (X.out _ Q.out).tab);have F:Hid (oneV (bs (Lib.itoa z))=valP 12 a m t b o q z g j):=rfl;generalize bs (Lib.itoa z)=P at p F
  go_wp2_with (first
   |(go_at_call 58;(with_reducible refine p.out.mono ?_);rintro e Z ⟨rfl,d⟩)
   |(go_at_call 121;(with_reducible refine(zda P _).mono ?_);rintro e w2 ⟨T,rfl,n,r⟩))
  go_ret;exact k.out _ _ _ _ F.out n d.size (d.trans (r.mono d.size))
 have F:Hid ([]=valP K a m t b o q z g j):=by unfold Hid valP;rw[Qe s,Qe u,Qe D,Qe G,Qe L,Qe S,Qe U,Qe k8,Qe k9,Qe E,Qe N,Qe h0]
 have q1:=Qb.2 s;have q2:=Qb.2 u;have q3:=Qb.2 D;have q4:=Qb.2 G;have q5:=Qb.2 L;have q6:=Qb.2 S;have q7:=Qb.2 U;have q8:=Qb.2 k8;have q9:=Qb.2 k9;have hh:=Qb.2 E;have hg:=Qb.2 N;have he:=Qb.2 h0;clear s u D G L S U k8 k9 E N h0;go_wp2;go_ret;exact k.out [] _ _ _ F.out (OwnA.nil _ _) (Qc _) Q.out
end
theorem srcV{wr:World}{B n:Nat}{A:Option Addr}{xs:List Value}{f k l:Nat->Value}(h:Sl wr B 3 A n xs){j:Nat}(o:j<n)(m:∀j,j<n->xs[j*3]? = some (f j)/\xs[j*3+1]? = some (k j)/\xs[j*3+2]? = some (l j)):
 ∃b off,A=some ⟨b,off,none⟩/\wr.cell? ⟨b,off+j*3,none⟩=some (f j)/\wr.cell? ⟨b,off+j*3+1,none⟩=some (k j)/\wr.cell? ⟨b,off+j*3+2,none⟩=some (l j):=by
 have hl:=h.len;obtain⟨b,off,e,_,p⟩:=h.src (by omega);have c:=m j o
 have a:∀i v,xs[i]? = some v->wr.cell? ⟨b,off+i,none⟩=some v:=λi v g=>by
  have d:i<xs.length:=(Qw.1 g).1;rw[p i d,<-g,Qd d]
 exact⟨b,off,e,by have:=a _ _ c.1;rw[show off+j*3=off+j*3 from rfl]at this;exact this,by have:=a _ _ c.2.1;rw[<-Zk]at this;exact this,by have:=a _ _ c.2.2;rw[<-Zk]at this;exact this⟩
theorem zrp(g:Nat)(s:Array Value)(F:∀args w,(callFunc g args).run prog w=.ok (.enter g args) w)(A:Option Addr)(n c:Nat)(xs:List Value)(v x y:Nat->Value)(p:Nat->Bool)(w:World)
 (h:Sl w w.heap.size 3 A n xs) (r:n<=9223372036854775807) (u:∀j,j<n->xs[j*3]? = some (v j)/\xs[j*3+1]? = some (x j)/\xs[j*3+2]? = some (y j))
 (q:∀W j,j<n->w W->Calls prog g (#[.agg #[v j,x j,y j]]++s) W (zav (p j) W)):
 Calls prog 163 #[.slice A n c,.func (.func g) #[] s] w λe w'=>e=jC (jA (hitI p n))/\w w':=by
 have D:=hIx q;have E:=hIx u;clear q u
 go_in
 go_wp2
 go_loopw [5,8] (λ_ i wr=>∃j:Nat,j<=n/\i=jA j/\w wr/\Hid (∀i,i<j->p i=false)) (λ_ i _=>n-(intOf i).toNat)
 case atStart=>exact⟨0,Qm _,rfl,Qj _ _,λi t=>absurd t (by omega)⟩
 case round=>
  obtain⟨j,G,rfl,hb,a⟩:=hrel
  by_cases d:j<n
  ·obtain⟨b,off,rfl,z,B,C⟩:=srcV (h.below hb) d E.out
   have o:=D.out wr j d hb;cases l:p j with
   |true=>
    rw[l]at o;have f:=hIx (zme p n j d l a);clear l;go_wp2_with (go_at_fn g;refine o.mono ?_;rintro e w' ⟨rfl,k⟩);go_ret;exact⟨zac f.out.symm,hb.trans (k.mono hb.size)⟩
   |false=>
    rw[l]at o
    have m:Hid (∀i,i<j+1->p i=false):=λi t=>by
     by_cases e:i=j
     ·rw[e];exact l
     ·exact a i (by omega)
    clear l a;go_wp2_with (go_at_fn g;refine o.mono ?_;rintro e w' ⟨rfl,k⟩)
    go_roundw
    case rel=>exact⟨j+1,by omega,by go_num,hb.trans (k.mono hb.size),m⟩
    case measure=>simp[intOf] <;> omega
  ·obtain rfl:j=n:=by omega
   have f:=hIx (zew p j a);go_wp2;go_ret;exact⟨zac f.out.symm,hb⟩
theorem zqU(g:Nat)(b:Array Value)(m:∀args w,(callFunc g args).run prog w=.ok (.enter g args) w)(A:Option Addr)(n c:Nat)(xs:List Value)(d f i:Nat->Value)(p:Nat->Bool)(w:World)
 (h:Sl w w.heap.size 3 A n xs) (a:n<=9223372036854775807) (l:∀j,j<n->xs[j*3]? = some (d j)/\xs[j*3+1]? = some (f j)/\xs[j*3+2]? = some (i j))
 (k:∀W j,j<n->w W->Calls prog g (#[.agg #[d j,f j,i j]]++b) W (zav (p j) W)):
 Calls prog 119 #[.slice A n c,.func (.func g) #[] b] w (zav (anyN p n) w):=by
 have q:=hIx (zrp g b m A n c xs d f i p w h a l k);have o:=hIx (zhK p n);clear k l h
 go_in
 go_wp2_with fail;refine q.out.mono ?_;rintro e r ⟨rfl,hb⟩;go_wp2;go_ret;exact⟨zaK o.out,hb⟩
structure VarV where
 k:Int
 m:Int
 n:ByteArray
def zdR(v:VarV):List Value:=[jA v.k,jA v.m,.string v.n]
def exB(v:VarV)(x:Pair)(a:VarV):Bool:=(a.m==2)&&(a.k==v.k)&&(a.n.toList.isEmpty||(a.n.toList==x.1.toList))
def exP(l:List VarV)(v:VarV)(x:Pair):Bool:=l.any (exB v x)
def zdN(l:List VarV)(v:VarV)(a:List Pair):List Pair:=a.filter λx=>!exP l v x
def zfU(l:List VarV)(v:VarV)(a:List Pair):List Pair:=
 if v.m=2 then []else if v.m=1 then oneV (bs (Lib.itoa (zdN l v a).length))else zdN l v a
def allP(a:VarV->List Pair)(l s:List VarV):List Pair:=s.flatMap λv=>zfU l v (a v)
theorem zpL(l:List VarV)(v:VarV)(a:List Pair)(k:Nat)(h:k<a.length):zdN l v (a.take (k+1))=zdN l v (a.take k)++if exP l v a[k]=true then []else [a[k]]:=by
 unfold zdN;rw[Qs h,ZW]
 by_cases c:exP l v a[k]=true <;> simp[c]
theorem zvX(l:List VarV)(v:VarV)(a:List Pair)(k:Nat):(zdN l v (a.take k)).length<=k:=Ql (Zn _ _) (ZS _ _)
theorem zra(a:VarV->List Pair)(l s:List VarV)(k:Nat)(h:k<s.length):allP a l (s.take (k+1))=allP a l (s.take k)++zfU l s[k] (a s[k]):=by
 unfold allP;rw[Qs h,Q6];simp
theorem zxV(a:VarV->List Pair)(l s:List VarV)(k:Nat):(allP a l (s.take k)).length<=(allP a l s).length:=by
 have:allP a l s=allP a l (s.take k)++allP a l (s.drop k):=by
  unfold allP;rw[<-Q6,Zp]
 rw[this,Qa];omega
theorem zp1(l:List VarV):(l.flatMap zdR).length=l.length*3:=by
 induction l with
 |nil=>rfl
 |cons a r ih=>rw[QH,Qa,ih,Qn];show 3+_=_;omega
theorem zie:∀(l:List VarV) (k:Nat) (h:k<l.length),(l.flatMap zdR)[k*3]? = some (jA l[k].k)/\(l.flatMap zdR)[k*3+1]? = some (jA l[k].m)/\(l.flatMap zdR)[k*3+2]? = some (.string l[k].n)
 | [],_,h=>absurd h (by simp)
 |a::r,0,_=>⟨rfl,rfl,rfl⟩
 |a::r,k+1,h=>by
  have:=zie r k (by simpa using h);rw[QH];have b:(zdR a).length=3:=rfl;refine⟨?_,?_,?_⟩
  ·rw[Q0 (by rw[b];omega),b,show (k+1)*3-3=k*3 by omega];exact this.1
  ·rw[Q0 (by rw[b];omega),b,show (k+1)*3+1-3=k*3+1 by omega];exact this.2.1
  ·rw[Q0 (by rw[b];omega),b,show (k+1)*3+2-3=k*3+2 by omega];exact this.2.2
theorem zyJ{w:World}{B n:Nat}{A:Option Addr}{l:List VarV}(h:Sl w B 3 A n (l.flatMap zdR))(k:Nat)(c:k<l.length):
 ∃b off,A=some ⟨b,off,none⟩/\b<B/\w.cell? ⟨b,off+k*3,none⟩=some (jA l[k].k)/\w.cell? ⟨b,off+k*3+1,none⟩=some (jA l[k].m)/\w.cell? ⟨b,off+k*3+2,none⟩=some (.string l[k].n):=by
 have hl:=zp1 l;obtain⟨b,off,e,hb,a⟩:=h.src (by omega);obtain⟨d,h1,h2⟩:=zie l k c;refine⟨b,off,e,hb,?_,?_,?_⟩
 ·rw[a (k*3) (by omega),<-d,Qd]
 ·rw[Zk,a (k*3+1) (by omega),<-h1,Qd]
 ·rw[Zk,a (k*3+2) (by omega),<-h2,Qd]
theorem ztz(a v:VarV)(x:Pair)(f e:Nat)(w:World)(l:w.cell? f=some (jA v.k))(r:w.cell? e=some (.string x.1)):
 Calls prog 120 #[.agg #[jA a.k,jA a.m,.string a.n],.pointer f,.pointer e] w (zav (exB v x a) w):=by
 have y:f<w.heap.size:=QQ w _ l;have o:e<w.heap.size:=QQ w _ r;have hb:w (w.alloc (.cells #[jA a.k,jA a.m,.string a.n] 55)):=WaL;have b:Hid (exB v x a=((a.m==2)&&(a.k==v.k)&&(a.n.toList.isEmpty||(a.n.toList==x.1.toList)))):=rfl;obtain⟨j,p,i⟩:=a;obtain⟨q,t,n2⟩:=v;obtain⟨s,u⟩:=x;dsimp only at *;cases c:(p==2)with
 |false=>
  rw[c]at b
  go_in
  go_wp2;go_ret;exact⟨by rw[b.out];rfl,hb⟩
 |true=>
  cases d:(j==q)with
  |false=>
   rw[c,d]at b
   go_in
   go_wp2;go_ret;exact⟨by rw[b.out];rfl,hb⟩
  |true=>
   cases g:i.toList.isEmpty with
   |true=>
    rw[c,d,g]at b
    go_in
    go_wp2;go_ret;exact⟨by rw[b.out];rfl,hb⟩
   |false=>
    cases h:(i.toList==s.toList)with
    |true=>
     rw[c,d,g,h]at b
     go_in
     go_wp2;go_ret;exact⟨by rw[b.out];rfl,hb⟩
    |false=>
     rw[c,d,g,h]at b
     go_in
     go_wp2;go_ret;exact⟨by rw[b.out];rfl,hb⟩
def dVar:VarV:=⟨0,0,ByteArray.mk #[]⟩
theorem zxB(l:List VarV)(v:VarV)(x:Pair)(A:Option Addr)(c b a:Nat)(w:World)(h:Sl w w.heap.size 3 A l.length (l.flatMap zdR))(hl:l.length<=9223372036854775807)(g:w.cell? b=some (jA v.k))(f:w.cell? a=some (.string x.1)):
 Calls prog 119 #[.slice A l.length c,.func (.func 120) #[] #[.pointer b,.pointer a]] w (zav (exP l v x) w):=by
 have e:=zdY (exB v x) l dVar;unfold exP;rw[<-e];refine zqU 120 #[.pointer b,.pointer a] (λ_ _=>rfl) A l.length c (l.flatMap zdR) (λj=>jA (l.getD j dVar).k) (λj=>jA (l.getD j dVar).m) (λj=>.string (l.getD j dVar).n) (λj=>exB v x (l.getD j dVar)) w h hl (λj d=>?_) λW j d hb=>?_
 ·have:=zie l j d
  rw[Qo,Qd d];exact this
 ·exact ztz _ v x b a W (zaa hb g) (zaa hb f)
