/- Lemmas for the last texts. -/
import Derived.Test.YtnnokglddolglaaGreatDoorM06
import Derived.Test.YtnnokglddolglaaGreatDoorM16
import Derived.Lib.ItoaNum
import Derived.Lib.Bytealg
import Derived.Laws.BitsAllLaws
import Derived.Laws.BitsLemmas
set_option maxHeartbeats 1600000
set_option maxRecDepth 100000
namespace Go.Proofs.YtnnokglddolglaaGreatDoor
open Go.RowKit Go.Proofs.Tryz
def LibOk(w:World):Prop:=∃m:Int,w.cell? ⟨0,0,none⟩=some (.int .i64 m)
theorem LibOk.pos{w:World}(h:LibOk w):0<w.heap.size:=by
 obtain⟨m,a⟩:=h;exact QT w ⟨0,0,none⟩ a
theorem LibOk.below{w w':World}(h:LibOk w)(hb:Below w.heap.size w w'):LibOk w':=by
 have a:=h.pos;obtain⟨m,b⟩:=h;exact⟨m,(hb.cell (p:=⟨0,0,none⟩) a).trans b⟩
def letB(b:UInt8):Bool:=decide (97<=(b|||32).toNat)&&decide ((b|||32).toNat<=122)||decide (48<=b.toNat)&&decide (b.toNat<=57)
theorem zew(b:UInt8):((b.toNat:Int)).toNat.toUInt8=b:=by simp
def zey:RowT ByteArray where
 e:=9
 t:=125
 size:=1
 bytes:=16
 z:=.string ByteArray.empty
 cells x:=[.string x]
 hsz _:=rfl
 hpos:=by decide
 under:=underlying125
 info:=by kernel_rfl
 hz:=rfl
 one x u hu:=by
  rw[QE]at hu;rw[hu];rfl
 hbytes:=by decide
theorem zdM(l:List ByteArray):l.flatMap zey.cells=l.map Value.string:=by
 induction l with
 |nil=>rfl
 |cons a r ih=>rw[QM,ih];rfl
def lowB(p:ByteArray):ByteArray:=bs (zav p.data.toList)
def mixL(a:List ByteArray)(k:Nat):List ByteArray:=(a.take k).map lowB++a.drop k
theorem zpX(a:List ByteArray)(k:Nat):(mixL a k).length=a.length:=by
 unfold mixL;rw[Qa,Qh,Qz,QF];omega
theorem zmO(a:List ByteArray)(k:Nat)(c:k<a.length):(mixL a k)[k]? = some a[k]/\(mixL a k).set k (lowB a[k])=mixL a (k+1):=by
 have hl:((a.take k).map lowB).length=k:=by rw[Qh,Qz];omega
 have b:a.drop k=a[k]::a.drop (k+1):=Zf c;refine⟨?_,?_⟩
 ·unfold mixL
  rw[QZ (by omega),hl,Xh,b];rfl
 ·unfold mixL
  rw[ZV _ _ (by omega),hl,Xh,b,Zb,Qq c,QU];simp
theorem zvq(a:List ByteArray):mixL a a.length=a.map lowB:=by
 unfold mixL;rw[QC (Qd _),QP (Qd _),QI]
def zbC(a:ByteArray):List ByteArray:=Lib.splitB ⟨#[124]⟩ 0 (Lib.countB a ⟨#[124]⟩) a
def phrW(a:ByteArray):List ByteArray:=(zbC a).map lowB
def phrF(a b:Nat):Value:=.func (.func 247) #[] #[.pointer (some ⟨a,0,none⟩),.pointer (some ⟨b,0,none⟩)]
def PhrAt(B:Nat)(ws:List ByteArray)(b d:Nat)(w:World):Prop:=
 B<=b/\B<=d/\∃e g cap h f a A c,B<=e/\w.cell? ⟨b,0,none⟩=some (.slice (some ⟨g,0,none⟩) a.length cap)/\w.cell? ⟨d,0,none⟩=some (.slice A ws.length c)/\TreeIs w e ws g cap h f a
def zxv(ws:List ByteArray)(w:World)(e:Ending)(w':World):Prop:=
 Below w.heap.size w w'/\∃a b,e=.returned (.tuple #[phrF a b,.int .i64 0])/\PhrAt w.heap.size ws a b w'
def zzZ(w:World)(e:Ending)(w':World):Prop:=
 Below w.heap.size w w'/\∃a b,∃r:Nat,0<r/\e=.returned (.tuple #[phrF a b,.int .i64 (r:Int)])
theorem zz6{a:List ByteArray}{w:World}{base g:Nat}{k:Nat}(h:OwnG zey w base (.slice (some ⟨g,0,none⟩) a.length a.length) (mixL a k))(b:k<a.length):w.cell? ⟨g,k,none⟩=some (.string a[k])/\w.frozen? ⟨g,k,none⟩=false:=by
 have hl:=zpX a k;rw[<-hl]at h;have:=h.at k (by omega) 0 (by decide);rw[show k*zey.size+0=k by simp[zey]]at this;obtain⟨h1,_⟩:=zmO a k b;rw[Qc (by omega)]at h1;rw[QD h1]at this;exact this
theorem zyQ{a:List ByteArray}{w:World}{base g:Nat}{k:Nat}(h:OwnG zey w base (.slice (some ⟨g,0,none⟩) a.length a.length) (mixL a k))(c:k<a.length):OwnG zey (w.setCell ⟨g,k,none⟩ (.string (lowB a[k]))) base (.slice (some ⟨g,0,none⟩) a.length a.length) (mixL a (k+1)):=by
 have hl:=zpX a k;have b:=h;rw[<-hl]at b;have:=(b.stored k (by omega) 0 (by decide) (.string (lowB a[k])) (lowB a[k]) rfl).1;rw[show k*zey.size+0=k by simp[zey],(zmO a k c).2,hl]at this;exact this
def RelL(a:List ByteArray)(w:World)(v:Value)(wr:World):Prop:=
 ∃k:Nat,k<=a.length/\v=.int .i64 (k:Int)/\OwnG zey wr w.heap.size (.slice (some ⟨w.heap.size,0,none⟩) a.length a.length) (mixL a k)/\wr.cell? ⟨w.heap.size+1,0,none⟩=some (.slice (some ⟨w.heap.size,0,none⟩) a.length a.length)/\Below w.heap.size w wr
theorem zkD(a:ByteArray):(zbC a).length=Lib.countB a ⟨#[124]⟩+1:=Xi ⟨#[124]⟩ (by decide) 0 _ a rfl
theorem zkL(c:UInt8):∀(l:List UInt8),∀x∈splL c l,x.length<=l.length
 | [],x,a=>by
  unfold splL at a;rw[QE]at a;rw[a];exact Qd _
 |b::l,x,a=>by
  have ih:=zkL c l;unfold splL at a;rw[Qo]
  split at a
  ·rcases QJ.1 a with rfl|a
   ·exact Qm _
   ·exact XX (ih x a)
  ·split at a
   ·rw[QE]at a
    rw[a];simp
   ·rename_i y r d
    rcases QJ.1 a with rfl|a
    ·rw[Qo]
     have:=ih y (by rw[d];simp);omega
    ·exact XX (ih x (by rw[d];simp[a]))
theorem zmh(a:ByteArray):∀p∈zbC a,p.size<=a.size:=λp b=>by
 have c:p.data.toList∈splL 124 a.data.toList:=by
  rw[<-zb2];exact QO.2 ⟨p,b,rfl⟩
 have:=zkL 124 _ _ c
 simpa using this
theorem zod(a:ByteArray)(w:World)(B:LibOk w)(ha:a.size<=1048576):
 Calls prog 202 #[.string a] w λe w'=>(OkW (phrW a)->zxv (phrW a) w e w')/\(¬OkW (phrW a)->zzZ w e w'):=by
 obtain⟨m0,L⟩:=B;have n:=strings_Split a ⟨#[124]⟩ m0 w (by omega) L (by decide);have y:=zkD a;have P:=zmh a;rw[<-y]at n;have T:Hid (phrW a=(zbC a).map lowB):=rfl
 change Calls _ _ _ _ λe w'=>e=.returned (.slice (some ⟨w.heap.size,0,none⟩) (zbC a).length (zbC a).length)/\w'=w.alloc (.cells ((zbC a).map Value.string).toArray 9)at n
 generalize phrW a=ws at *;generalize zbC a=b at *;have N:=hIx n
 have H:b.length<=1048577:=by
  have:=Lib.countB_le ⟨#[124]⟩ (by decide) a.size a (Qd _);omega
 have D:OwnG zey (w.alloc (.cells (b.map Value.string).toArray 9)) w.heap.size (.slice (some ⟨w.heap.size,0,none⟩) b.length b.length) b:=by
  have:=Xw (base:=w.heap.size) (e:=9) (size:=1) w (b.map Value.string).toArray b.length (Qd _) (by unfold maxLen;omega) (by simp);unfold OwnG;rw[zdM];exact this
 clear n y
 go_in
 go_wp2_with (go_at_call 77;refine N.out.mono ?_;rintro e w1 ⟨rfl,rfl⟩);have K:(w.alloc (.cells (b.map Value.string).toArray 9)).heap.size=w.heap.size+1:=by simp
 go_loopw [12] (λv wr=>RelL b w v wr) (λv _=>b.length-(intOf v).toNat)
 case atStart=>
  refine⟨0,Qm _,rfl,?_,?_,WaL.alloc (by simp) _⟩
  ·have:mixL b 0=b:=by unfold mixL;simp
   rw[this];exact D.below WaL
  ·have:=Qp (w.alloc (.cells (b.map Value.string).toArray 9)) (.cells #[.slice (some ⟨w.heap.size,0,none⟩) b.length b.length] 125)
   rw[K]at this;exact Qf _ _ 0 _ _ _ this
 case round=>
  obtain⟨k,hk,rfl,p,i,hb⟩:=hrel
  by_cases s:k<b.length
  ·obtain⟨A,I⟩:=zz6 p s
   have HO:=hIx p;have t:=hIx hb;have h3:=hIx i;have Q:=QT wr _ i;have h0:=P b[k] (Qy s);have G:Hid (Calls prog 64 #[.string b[k]] wr.drew (zbN (lowB b[k]) wr.drew)):=hIx (zbg b[k] wr.drew (by unfold maxLen;omega))
   have F:Hid (∀w2,Below wr.heap.size wr w2->RelL b w (.int .i64 ((k:Int)+1)) (w2.setCell ⟨w.heap.size,k,none⟩ (.string (lowB b[k])))):=hIx λw2 d=>
    ⟨k+1,by omega,rfl,zyQ (p.below d) s,(World.cell?_setCell_far _ _ _ _ (by show w.heap.size≠w.heap.size+1;omega)).trans (zaa d i),(hb.trans (d.mono hb.size)).setCell (Qd _) _⟩
   generalize b[k]=x at *;clear p hb;go_wp2_with fail
   go_region_with (first|(go_at_call 64;(with_reducible refine(G.out).mono ?_);rintro e w2 ⟨rfl,q⟩;have d:Below wr.heap.size wr w2:=undrew q;have C:=zaa d A;have E:=zaB d A I;have z:=zaa d i))
   all_goals
    have O:=F.out w2 d;clear C E z d q;go_wp2;exact⟨O,by simp[intOf] <;> omega⟩
  ·have e:k=b.length:=by omega
   rw[e,zvq,<-T.out]at p;clear e;have j:ws.length=b.length:=by rw[T.out,Qh]
   have l:Sl wr wr.heap.size 1 (some ⟨w.heap.size,0,none⟩) b.length (ws.map Value.string):=by
    have h2:=p;rw[<-j]at h2;obtain⟨A5,c5,V,S⟩:=h2.form;injection V with Z _ _
    subst Z;rw[zdM,j]at S;exact S
   have Q:=QT wr _ i;have t:=hIx hb
   by_cases m:OkW ws
   ·have J:=hIx (zvf (c:=b.length) m j l)
    clear p l hb;go_wp2_with (go_at_call 106;refine J.out.mono ?_;rintro e w3 ⟨o,g,cap,X,W,U,rfl,Y⟩);have u:=zaa o i;have f:=t.out.trans (o.mono t.out.size)
    go_ret2
    refine⟨λ_=>⟨f.alloc f.size _,w3.heap.size,w.heap.size+1,rfl,f.size,Zg _,wr.heap.size,g,cap,X,W,U,some ⟨w.heap.size,0,none⟩,b.length,t.out.size,Qf _ _ 0 _ _ _ (Qp w3 _),?_,Y.below WaL⟩,λh=>absurd m h⟩;rw[j];exact zaa WaL u
   ·have J:=hIx (zx8 (c:=b.length) m j l)
    clear p l hb;go_wp2_with (go_at_call 106;refine J.out.mono ?_;rintro e w3 ⟨o,r,hr,rfl⟩);have f:=t.out.trans (o.mono t.out.size)
    go_ret2
    exact⟨λh=>absurd h m,λ_=>⟨f.alloc f.size _,w3.heap.size,w.heap.size+1,r,hr,rfl⟩⟩
theorem zil:∀(k u:Nat),u<10 ^ (k+1)->1<=(Lib.decDigits u).length/\(Lib.decDigits u).length<=k+1
 |0,u,h=>by rw[Lib.decDigits,dif_pos (by simpa using h)];simp
 |k+1,u,h=>by
  rw[Lib.decDigits]
  split
  ·simp
  ·have h2:u / 10<10 ^ (k+1):=by
    rw[Nat.div_lt_iff_lt_mul (by decide)];rw[Nat.pow_succ]at h;omega
   have:=zil k (u / 10) h2;rw[Qa,QG];omega
abbrev Pair:=ByteArray × ByteArray
def za9(x:Pair):List Value:=[.string x.1,.string x.2]
theorem zgq(l:List Pair):(l.flatMap za9).length=l.length*2:=by
 induction l with
 |nil=>rfl
 |cons x l ih=>rw[QM,Qa,ih];simp only[za9,Qo,QR];omega
theorem zgk(l:List Pair):∀u∈l.flatMap za9,u.oneCell'=true:=λu a=>by
 obtain⟨x,_,h⟩:=List.mem_flatMap.1 a;simp only[za9,QJ,ZR,X0]at h
 rcases h with rfl|rfl <;> rfl
theorem zmL:∀(l:List Pair) (k:Nat) (h:k<l.length),(l.flatMap za9)[k*2]? = some (.string l[k].1)/\(l.flatMap za9)[k*2+1]? = some (.string l[k].2)
 | [],k,h=>absurd h (by simp)
 |x::l,0,_=>⟨rfl,rfl⟩
 |x::l,k+1,h=>by
  have:=zmL l k (by simpa using h);rw[QM,show (k+1)*2=2+k*2 by omega,QZ (by simp[za9]),show 2+k*2+1=2+(k*2+1)by omega,QZ (by simp[za9])]
  simpa[za9]using this
def OwnA(w:World)(base:Nat)(v:Value)(l:List Pair):Prop:=w.ownsRow base 163 2 v l.length (l.flatMap za9)
theorem OwnA.nil(w:World)(base:Nat):OwnA w base (.slice none 0 0) []:=ZI w base 163 2
theorem OwnA.below{w w':World}{base:Nat}{v:Value}{l:List Pair}(h:OwnA w base v l)(hb:Below w.heap.size w w'):OwnA w' base v l:=zaP h hb
theorem OwnA.keep{w w':World}{base:Nat}{v:Value}{l:List Pair}(h:OwnA w base v l)(b:∀g,v.ownBlock=some g->w'.heap[g]? = w.heap[g]?):OwnA w' base v l:=by
 refine⟨h.1,?_⟩
 rcases h.2 with d|⟨g,cap,a,h1,h2,e,c⟩
 ·exact .inl d
 ·exact .inr ⟨g,cap,a,h1,h2,(b g (by rw[h1];rfl)).trans e,c⟩
theorem OwnA.low{w:World}{base b:Nat}{v:Value}{l:List Pair}(h:OwnA w base v l)(hb:b<=base):OwnA w b v l:=
 ⟨h.1,h.2.imp_right λ⟨g,cap,a,h1,h2,c⟩=>⟨g,cap,a,h1,Qn hb h2,c⟩⟩
theorem OwnA.form{w:World}{base:Nat}{v:Value}{l:List Pair}(h:OwnA w base v l):∃A c,v=.slice A l.length c/\Sl w w.heap.size 2 A l.length (l.flatMap za9):=by
 rcases h.2 with ⟨h1,h2⟩|⟨g,cap,a,h1,hb,e,_⟩
 ·have:l=[]:=QA h2
  subst this;exact⟨none,0,h1,Sl.nil _ _ _ _⟩
 ·refine⟨_,_,h1,zgq l,λd=>⟨g,0,rfl,?_,λj b=>?_⟩⟩
  ·exact(QK h g (by rw[h1];simp[Value.ownBlock])).2
  ·have:=Zx (g:=g) h (by rw[h1];simp[Value.ownBlock]) j _ (Qc b)
   rw[zbq]at this;rw[Zc];exact this
theorem zpU{w:World}{B n:Nat}{A:Option Addr}{l:List Pair}(h:Sl w B 2 A n (l.flatMap za9))(k:Nat)(f:k<l.length):
 ∃b a,A=some ⟨b,a,none⟩/\b<B/\w.cell? ⟨b,a+k*2,none⟩=some (.string l[k].1)/\w.cell? ⟨b,a+k*2+1,none⟩=some (.string l[k].2):=by
 have hl:=zgq l;obtain⟨b,a,e,hb,d⟩:=h.src (by omega);obtain⟨c,h1⟩:=zmL l k f;refine⟨b,a,e,hb,?_,?_⟩
 ·rw[d (k*2) (by omega)]
  rw[Qc (by omega)]at c;exact c
 ·rw[Zh,d (k*2+1) (by omega)]
  rw[Qc (by omega)]at h1;exact h1
theorem zlm:(prog.info? 163).map (λi=>(i.zero,i.size,i.bytes))=some (some (.agg #[.string ByteArray.empty,.string ByteArray.empty]),2,32):=by kernel_rfl
section
variable {ops:Array Oper} {rest:List Oper} {o:Oper} {a:Act} {Q:Exit->Act->World->Prop} {w:World}
theorem za4(f:o.guard=none)(s x:Operand)(y:o.op=.call {callee:=.builtin .append,args:=#[s,x],argTypes:=#[76,76]})
 (base:Nat) (v:Value) (l:List Pair) (B:a.eval s=v) (d:OwnA w base v l) (b:base<=w.heap.size)
 (n:List Value) (new:Pair) (E:n=za9 new) (p:Nat) (m:w.heap.size=p) (c:Nat) (D:a.eval x=.slice (some ⟨p,0,none⟩) 1 c)
 (e:l.length<=4194304)
 (h:∀v' w',OwnA w' base v' (l++[new])->Below base w w'->(∀g,g<w.heap.size->v.ownBlock≠some g->w'.heap[g]? = w.heap[g]?)->w.heap.size<w'.heap.size->wpList prog ops Q rest (a.put o.dst v') w'):
 wpList prog ops Q (o::rest) a (w.alloc (.cells n.toArray 163)):=by
 subst E;subst m
 obtain⟨t,C,i,j,k⟩:=ZC zlm
 refine Xs f λ_ r=>za1 s x 76 y base 163 t _ 2 32 underlying76 C i j k rfl (by decide) v l.length (l.flatMap za9) B d b (za9 new) 1 c D rfl
  (λu z=>zgk [new] u (by simpa using z)) (by unfold maxLen;omega) (by omega) λv' w' h1 h2 A q=>r _ _ (h v' w' (by unfold OwnA;rw[Qa,Q4];simpa using h1) h2 A q)
theorem zcA(r:o.guard=none)(s x:Operand)(G:o.op=.call {callee:=.builtin .append,args:=#[s,x],argTypes:=#[76,76]})
 (base f:Nat) (v u:Value) (l m:List Pair) (H:a.eval s=v) (J:a.eval x=u) (b:OwnA w base v l) (d:OwnA w f u m) (c:base<=w.heap.size)
 (p:l.length+m.length<=4398046511104)
 (h:∀v' w',OwnA w' base v' (l++m)->Below base w w'->(∀g,g<w.heap.size->v.ownBlock≠some g->w'.heap[g]? = w.heap[g]?)->w.heap.size<=w'.heap.size->wpList prog ops Q rest (a.put o.dst v') w'):
 wpList prog ops Q (o::rest) a w:=by
 obtain⟨F,I,y,B,C⟩:=ZC zlm;refine Xs r λK E=>?_
 rcases d.2 with ⟨q,L⟩|⟨g,cap,O,q,S,V,_⟩
 ·have U:m=[]:=QA L
  subst U;subst q
  have T:=run_append_owned_none (P:=prog) (w:=w) base 76 o.type 163 F 2 underlying76 I v l.length (l.flatMap za9) b;unfold Oper.wp execOp;simp only[G,resolve,invoke,builtin,Xz,Sem.run_pure,Xg,List.map_toArray,QX,ZE,H,J,T];exact E _ _ (h v w (by rw[QI];exact b) (Qg _ _) (λ_ _ _=>rfl) (Qd _))
 ·have i:∀j z,(m.flatMap za9)[j]? = some z->w.cell? (Addr.add ⟨g,0,none⟩ j)=some z:=λj z N=>Zx (g:=g) d (by rw[q];simp[Value.ownBlock]) j z N
  refine wp_append_own (P:=prog) w s x 76 G base 163 F _ 2 32 underlying76 I y B C rfl (by decide) v l.length (l.flatMap za9) H b ⟨g,0,none⟩ m.length cap (m.flatMap za9) (J.trans q) (zgq m) i (zgk m)
   (by unfold maxLen;omega) (by omega) c ?_
  intro v' w' D n _;exact E _ _ (h v' w' (by unfold OwnA;rw[Qa,Q4];exact D) ((Qg _ _).grown n c (λk A=>(QK b k A).1)) (λk A t=>n.block k A (λe=>t e.symm)) n.size)
end
def qs:List UInt8:=[10,13,9,32,92]
def es:List UInt8:=[110,114,116,115,92,45]
theorem zaY(t:ByteArray)(b:UInt8)(W:World):Calls prog 122 #[.string t,.int .u8 b.toNat] W λe w'=>e=.returned (.int .i64 (Lib.indexByte t.data.toList b))/\w'=W:=by
 have:=strings_IndexByte t b.toNat W;rw[zew]at this;exact this
theorem zz4(a b:Int)(e:0<=a)(f:a<=15)(hb:0<=b)(d:b<=15):bits .or .i64 (a*16) b=a*16+b:=by
 obtain⟨a,rfl⟩:=Zv e;obtain⟨b,rfl⟩:=Zv hb;have c:((List.range 16).all λx=>(List.range 16).all λy=>decide (bits .or .i64 ((x:Int)*16) (y:Int)=(x:Int)*16+(y:Int)))=true:=by decide+kernel
 have h1:=Zn.1 c a (ZX.2 (by omega));exact Zq (Zn.1 h1 b (ZX.2 (by omega)))
def zkq(c:Int)(o:Option (List UInt8)):Value:=match o with
 |some l=>.tuple #[.string (bs l),.int .i64 0]
 |none=>.tuple #[.string (bs []),.int .i64 c]
def ze5(v:Value)(w:World)(e:Ending)(w':World):Prop:=e=.returned v/\Below w.heap.size w w'
theorem below_drewN{B:Nat}{a w:World}(h:Below B a w)(n:Nat):Below B a (w.drewN n):=⟨h.os,h.tape,h.output,h.size,h.block⟩
theorem OwnB.drewN{w:World}{base:Nat}{v:Value}{l:List UInt8}(h:OwnB w base v l)(n:Nat):OwnB (w.drewN n) base v l:=h
def zkJ(step:UInt8->List UInt8->List UInt8 × Nat):Nat->List UInt8->List UInt8
 |0,_=>[]
 |_+1,[]=>[]
 |f+1,b::r=>(step b r).1++zkJ step f (r.drop (step b r).2)
def scan(step:UInt8->List UInt8->List UInt8 × Nat)(l:List UInt8):List UInt8:=zkJ step l.length l
theorem znO(step:UInt8->List UInt8->List UInt8 × Nat):∀(f g:Nat) (l:List UInt8),l.length<=f->l.length<=g->zkJ step f l=zkJ step g l:=by
 intro f
 induction f with
 |zero=>
  intro g l a _;have:l=[]:=QA (by omega);subst this;cases g <;> rfl
 |succ f ih=>
  intro g l a c;cases l with
  |nil=>cases g <;> rfl
  |cons b r=>
   cases g with
   |zero=>simp at c
   |succ g=>
    simp only[Qo]at a c;unfold zkJ;rw[ih g (r.drop (step b r).2) (by rw[QF];omega) (by rw[QF];omega)]
theorem zpr(step:UInt8->List UInt8->List UInt8 × Nat):scan step []=[]:=rfl
theorem zem(step:UInt8->List UInt8->List UInt8 × Nat)(b:UInt8)(r:List UInt8):scan step (b::r)=(step b r).1++scan step (r.drop (step b r).2):=by
 unfold scan;rw[Qo,zkJ];rw[znO step r.length (r.drop (step b r).2).length (r.drop (step b r).2) (by rw[QF];omega) (Qd _)]
theorem zyf(step:UInt8->List UInt8->List UInt8 × Nat)(c:List UInt8->Prop)(t:List UInt8)
 (h:∀b r,c (b::r)->step b (r++t)=step b r/\(step b r).2<=r.length/\(r.drop (step b r).2=[]\/c (r.drop (step b r).2))):
 ∀(n:Nat) (s:List UInt8),s.length<=n->(s=[]\/c s)->scan step (s++t)=scan step s++scan step t:=by
 intro n
 induction n with
 |zero=>
  intro s hl _;have:s=[]:=QA (by omega);subst this;rfl
 |succ n ih=>
  intro s hl a;cases s with
  |nil=>rfl
  |cons b r=>
   rcases a with d|d
   ·cases d
   ·obtain⟨h1,h2,e⟩:=h b r d
    simp only[Qo]at hl;rw[ZS,zem,h1,zem,QH,ZL h2];rw[ih (r.drop (step b r).2) (by rw[QF];omega) e]
def zc6(l:List UInt8):Int:=
 match l with
 |a::b::_=>if zat a<0\/zat b<0 then -1 else zat a*16+zat b
 |_=>-1
theorem zki(a b:UInt8)(r:List UInt8):zc6 (a::b::r)=if zat a<0\/zat b<0 then -1 else zat a*16+zat b:=rfl
theorem zfm(b:UInt8):-1<=zat b/\zat b<=15:=
 Zq (zcs (p:=λb=>decide (-1<=zat b/\zat b<=15)) (by decide+kernel) b)
theorem zc1(l:List UInt8):-1<=zc6 l/\zc6 l<=255/\(0<=zc6 l->2<=l.length):=by
 match l with
 | []=>exact⟨by decide,by decide,λh=>absurd h (by decide)⟩
 | [a]=>exact⟨by simp[zc6],by simp[zc6],λh=>absurd h (by simp[zc6])⟩
 |a::b::r=>
  have h1:=zfm a;have h2:=zfm b;rw[zki];simp only[Qo]
  split <;> exact⟨by omega,by omega,λ_=>by omega⟩
def zb8(b:UInt8)(r:List UInt8):List UInt8 × Nat:=
 if b=43 then ([32],0)else if b=37/\0<=zc6 r then ([UInt8.ofNat (zc6 r).toNat],2)else ([b],0)
def zcg(l:List UInt8):List UInt8:=scan zb8 l
theorem zqB(b:UInt8)(r:List UInt8):(zb8 b r).2<=r.length/\(zb8 b r).1.length=1:=by
 unfold zb8;have h:=(zc1 r).2.2
 split
 ·exact⟨Qm _,rfl⟩
 ·split
  ·rename_i h2;exact⟨h h2.2,rfl⟩
  ·exact⟨Qm _,rfl⟩
def ziM:Nat->List UInt8->Option (List UInt8)
 |0,_=>some []
 |f+1,l=>if l.length=0 then some []else if zc6 l<0 then none else (ziM f (l.drop 2)).map (UInt8.ofNat (zc6 l).toNat::·)
def zbQ(l:List UInt8):Option (List UInt8):=ziM l.length l
theorem zrr:∀(f g:Nat) (l:List UInt8),l.length<=f->l.length<=g->ziM f l=ziM g l:=by
 intro f
 induction f with
 |zero=>
  intro g l b _;cases g with
  |zero=>rfl
  |succ g=>unfold ziM;rw[Qi (by omega)]
 |succ f ih=>
  intro g l b c;cases g with
  |zero=>unfold ziM;rw[Qi (by omega)]
  |succ g=>
   unfold ziM
   by_cases a:l.length=0
   ·rw[Qi a,Qi a]
   ·rw[Qe a,Qe a,ih g _ (by rw[QF];omega) (by rw[QF];omega)]
theorem zgC:zbQ []=some []:=rfl
theorem zjT(l:List UInt8)(h:0<l.length)(a:zc6 l<0):zbQ l=none:=by
 unfold zbQ;rw[show l.length=l.length-1+1 by omega,ziM,Qe (by omega),Qi a]
theorem ziW(l:List UInt8)(h:0<l.length)(a:¬zc6 l<0):zbQ l=(zbQ (l.drop 2)).map (UInt8.ofNat (zc6 l).toNat::·):=by
 unfold zbQ;rw[show ziM l.length l=ziM (l.length-1+1) l by rw[show l.length-1+1=l.length by omega],ziM,Qe (by omega),Qe a];rw[zrr (l.length-1) (l.drop 2).length _ (by rw[QF];omega) (Qd _)]
theorem zrl:∀(n:Nat) (l r:List UInt8),l.length<=n->zbQ l=some r->r.length*2=l.length:=by
 intro n
 induction n with
 |zero=>
  intro l r hl h;have:l=[]:=QA (by omega);subst this;rw[zgC]at h;cases h;rfl
 |succ n ih=>
  intro l r hl h
  by_cases b:l.length=0
  ·have:l=[]:=QA b
   subst this;rw[zgC]at h;cases h;rfl
  ·by_cases a:zc6 l<0
   ·rw[zjT l (by omega) a]at h;cases h
   ·rw[ziW l (by omega) a]at h
    obtain⟨x,c,rfl⟩:=XV.1 h;have h2:=(zc1 l).2.2 (by omega);have:=ih _ _ (by rw[QF];omega) c;rw[QF]at this;simp only[Qo];omega
theorem zht(s:ByteArray)(i:Int)(h:0<=i)(h1:i<=4611686018427387904)(w:World):
 Calls prog 111 #[.string s,.int .i64 i] w λe w'=>e=.returned (.int .i64 (zc6 (s.data.toList.drop i.toNat)))/\∃n,w'=w.drewN n:=by
 obtain⟨n,rfl⟩:=Zv h;rw[Q9];have x:s.data.toList.length=s.size:=by simp
 by_cases h2:n+2<=s.size
 ·have d:Hid (s.data.toList.drop n=s[n]::s[n+1]::s.data.toList.drop (n+2)):=by
   unfold Hid;rw[zaG s n (by omega),zaG s (n+1) (by omega)]
  have f:=hIx (zki s[n] s[n+1] (s.data.toList.drop (n+2)));have q:=zfm s[n];have r:=zfm s[n+1];obtain⟨l,c⟩:=q;obtain⟨p,b⟩:=r;have A:(n:Int)<(s.size:Int):=by omega
  have u:(n:Int)+1<(s.size:Int):=by omega
  have y:0<=(n:Int)+1:=by omega
  have z:IntKind.i64.wrap ((n:Int)+1)=(n:Int)+1:=Qx _ (by omega);have v:((n:Int)+1).toNat=n+1:=by omega
  by_cases j:zat s[n]<0
  ·go_in
   go_wp2_with fail
   go_quiet ((go_at_call 151;exact Za (zdn _ _)))
   go_wp2;go_ret;exact⟨by rw[d.out,f.out,Qi (Or.inl j)];rfl,_,rfl⟩
  ·by_cases t:zat s[n+1]<0
   ·go_in
    go_wp2_with fail
    go_quiet ((go_at_call 151;exact Za (zdn _ _)))
    go_wp2;go_ret;exact⟨by rw[d.out,f.out,Qi (Or.inr t)];rfl,_,rfl⟩
   ·have k:0<=zat s[n]:=by omega
    have m:0<=zat s[n+1]:=by omega
    have o:=zz4 (zat s[n]) (zat s[n+1]) k c m b;have a:=hIx (f.out.trans (Qe (by omega)))
    go_in
    go_wp2_with fail
    go_quiet ((go_at_call 151;exact Za (zdn _ _)))
    go_wp2;go_ret;exact⟨by rw[d.out,a.out];rfl,_,rfl⟩
 ·have a:Hid (zc6 (s.data.toList.drop n)=-1):=by
   have g:(s.data.toList.drop n).length<2:=by rw[QF];omega
   have:=(zc1 (s.data.toList.drop n))
   unfold Hid;omega
  go_in
  go_wp2;go_ret;exact⟨by rw[a.out];rfl,0,rfl⟩
def zzE(s:ByteArray)(w:World)(v i:Value)(wr:World):Prop:=
 ∃(k:Nat) (a:List UInt8),k<=s.size/\i=.int .i64 k/\a.length<=k/\OwnB wr w.heap.size v a/\zcg s.data.toList=a++zcg (s.data.toList.drop k)/\Below w.heap.size w wr
theorem zlA(n:Int)(a:0<=n)(h1:n<=255):((UInt8.ofNat n.toNat).toNat:Int)=n:=by
 rw[UInt8.toNat_ofNat',Nat.mod_eq_of_lt (by omega)];omega
theorem zdG(s:ByteArray)(w:World)(Y:s.size<=140737488351232):
 Calls prog 79 #[.string s] w (zbN (bs (zcg s.data.toList)) w):=by
 have I:Hid (s.data.toList.length=s.size):=by unfold Hid;simp
 go_in
 go_wp2
 go_loopw [3,4] (λv i wr=>zzE s w v i wr) (λ_ i _=>s.size-(intOf i).toNat)
 case atStart=>exact⟨0,[],Qm _,rfl,Qd _,OwnB.nil _ _,rfl,Qg _ _⟩
 case round=>
  obtain⟨k,f,X,rfl,J,c,K,l⟩:=hrel;have d:=l.size;have y:=hIx K;clear K
  by_cases D:k<s.size
  ·have C:=hIx (zaG s k D)
   have B:=hIx (zem zb8 s[k] (s.data.toList.drop (k+1)));have O:=s[k].toNat_lt
   by_cases a:s[k]=43
   ·have S:((s[k].toNat:Int)==43)=true:=by rw[a];decide
    have E:Hid (zb8 s[k] (s.data.toList.drop (k+1))=([32],0)):=by unfold Hid zb8;rw[Qi a]
    clear a;go_wp2_with (at_builtin;refine zaf rfl _ _ rfl w.heap.size _ f rfl (by exact c) (by exact d) _ [32] rfl 1 1 rfl rfl (by omega) ?_;intro v' q b a o);exact⟨⟨k+1,f++[32],by omega,by go_num,by simp;omega,b,by rw[y.out,C.out];unfold zcg;rw[B.out,E.out];simp,l.trans a⟩,by simp[intOf];omega⟩
   ·have S:((s[k].toNat:Int)==43)=false:=Qb.2 (λh=>a (Zu.1 (by show s[k].toNat=43;omega)))
    by_cases j:s[k]=37
    ·have W:((s[k].toNat:Int)==37)=true:=by rw[j];decide
     have x:=zc1 (s.data.toList.drop (k+1));have u:Hid (0<=zc6 (s.data.toList.drop (k+1))->zb8 s[k] (s.data.toList.drop (k+1))=([UInt8.ofNat (zc6 (s.data.toList.drop (k+1))).toNat],2)):=λh=>by unfold zb8;rw[Qe a,Qi ⟨j,h⟩]
     have z:Hid (¬0<=zc6 (s.data.toList.drop (k+1))->zb8 s[k] (s.data.toList.drop (k+1))=([s[k]],0)):=λh=>by unfold zb8;rw[Qe a,Qe (λg=>h g.2)]
     have m:=x.2.2;rw[QF,I.out]at m;obtain⟨P,N,_⟩:=x;obtain⟨n,F⟩:∃n,zc6 (s.data.toList.drop (k+1))=n:=⟨_,rfl⟩
     rw[F]at u z m P N;have L:=hIx F;have T:=hIx j;clear F a j;have t:((k:Int)+1).toNat=k+1:=by omega
     have r:=hIx t;clear t
     by_cases A:0<=n
     ·have H:=m A
      have p:=hIx (u.out A);have U:=hIx (zlA n A N);have G:Hid ([Value.int .u8 n]=[UInt8.ofNat n.toNat].map zd6):=by unfold Hid zd6;simp only[QX,ZE];rw[U.out]
      clear m;go_wp2_with (first|(go_at_call 111;refine(zht _ _ (by omega) (by omega) _).mono ?_;rintro e q ⟨rfl,nq,rfl⟩;rw[r.out,L.out])|(at_builtin;refine zaf rfl _ _ rfl w.heap.size _ f rfl (by exact c.drewN _) (by exact d) _ [UInt8.ofNat n.toNat] G.out 1 1 rfl rfl (by omega) ?_;intro v' q b a o));exact⟨⟨k+3,f++[UInt8.ofNat n.toNat],by omega,by first|go_num|(congr 1;omega),by simp;omega,b,by rw[y.out,C.out];unfold zcg;rw[B.out,p.out,Zy];simp,(below_drewN l _).trans a⟩,by simp[intOf];omega⟩
     ·have p:=hIx (z.out A)
      clear m;go_wp2_with (first|(go_at_call 111;refine(zht _ _ (by omega) (by omega) _).mono ?_;rintro e q ⟨rfl,nq,rfl⟩;rw[r.out,L.out])|(at_builtin;refine zaf rfl _ _ rfl w.heap.size _ f rfl (by exact c.drewN _) (by exact d) _ [s[k]] rfl 1 1 rfl rfl (by omega) ?_;intro v' q b a o));exact⟨⟨k+1,f++[s[k]],by omega,by go_num,by simp;omega,b,by rw[y.out,C.out];unfold zcg;rw[B.out,p.out];simp,(below_drewN l _).trans a⟩,by simp[intOf];omega⟩
    ·have W:((s[k].toNat:Int)==37)=false:=Qb.2 (λh=>j (Zu.1 (by show s[k].toNat=37;omega)))
     have E:Hid (zb8 s[k] (s.data.toList.drop (k+1))=([s[k]],0)):=by unfold Hid zb8;rw[Qe a,Qe (λg=>j g.1)]
     clear a j;go_wp2_with (at_builtin;refine zaf rfl _ _ rfl w.heap.size _ f rfl (by exact c) (by exact d) _ [s[k]] rfl 1 1 rfl rfl (by omega) ?_;intro v' q b a o);exact⟨⟨k+1,f++[s[k]],by omega,by go_num,by simp;omega,b,by rw[y.out,C.out];unfold zcg;rw[B.out,E.out];simp,l.trans a⟩,by simp[intOf];omega⟩
  ·have V:=c.string
   have Q:Hid (zcg s.data.toList=f):=by unfold Hid;rw[y.out,QP (by rw[I.out];omega)];unfold zcg;rw[zpr,QI]
   clear c;go_wp2;go_ret;exact⟨by rw[Q.out];rfl,l⟩
def argP(x:List UInt8):Pair:=(bs (zcg (Lib.cut x [61]).1),bs (zcg (Lib.cut x [61]).2.1))
def accP(a:List (List UInt8)):List Pair:=(a.filter λx=>!x.isEmpty).map argP
def zcU(l:List UInt8):List Pair:=accP (splL 38 l)
theorem zsl(l:List UInt8):(zcU l).length<=l.length:=by
 unfold zcU accP;rw[Qh];exact zuX 38 l
theorem ztk(a:List (List UInt8))(k:Nat)(h:k<a.length):accP (a.take (k+1))=accP (a.take k)++(if a[k].isEmpty then []else [argP a[k]]):=by
 unfold accP;rw[Qq h,ZM,QU]
 congr 1
 cases a[k]with
 |nil=>rfl
 |cons b x=>rfl
theorem zsb(a:List (List UInt8))(k:Nat):(accP (a.take k)).length<=(accP a).length:=by
 unfold accP;rw[Qh,Qh];exact((List.take_sublist k a).filter _).length_le
theorem zwR(a:List (List UInt8)):accP (a.take a.length)=accP a:=by rw[QV]
theorem zfu{B n:Nat}{W w':World}(hb:Below B (W.drewN n) w'):Below B W w':=⟨hb.os,hb.tape,hb.output,hb.size,hb.block⟩
def zx1(a:List (List UInt8))(most:Int)(w b:World)(v i:Value)(wr:World):Prop:=
 ∃k:Nat,k<=a.length/\i=.int .i64 k/\OwnA wr (w.heap.size+1) v (accP (a.take k))/\Hid ((accP (a.take k)).length<=most.toNat)/\Below (w.heap.size+1) b wr
def zp2(l:List UInt8)(w:World)(e:Ending)(w':World):Prop:=
 ∃v,e=.returned (.tuple #[v,.int .i64 0])/\OwnA w' w.heap.size v (zcU l)/\Below w.heap.size w w'
def zet(most:Int)(l:List UInt8)(w:World)(e:Ending)(w':World):Prop:=
 ((zcU l).length<=most.toNat/\zp2 l w e w')\/(most.toNat<(zcU l).length/\e=.returned (.tuple #[.slice none 0 0,.int .i64 2])/\Below w.heap.size w w')
theorem zpu(s:ByteArray)(most:Int)(w:World)(H:LibOk w)(hs:s.size<=4194304):
 Calls prog 48 #[.string s,.int .i64 most] w (zet most s.data.toList w):=by
 obtain⟨m0,D⟩:=H;have hj:0<w.heap.size:=QT w _ D;have r:=strings_Split s ⟨#[38]⟩ m0 w (by omega) D (by decide);have E:=zb2 38 s;have l:=Xi ⟨#[38]⟩ (by decide) 0 _ s rfl;generalize Lib.splitB ⟨#[38]⟩ 0 (Lib.countB s ⟨#[38]⟩) s=d at r E l;generalize Lib.countB s ⟨#[38]⟩=n at r l;rw[<-l]at r;have O:=hIx E;have K:=hIx r;clear E r l
 go_in
 go_wp2_with fail;refine K.out.mono ?_;rintro e G ⟨rfl,o⟩
 have y:∀W,Below (w.heap.size+1) G W->∀j (h:j<d.length),W.cell? ⟨w.heap.size,j,none⟩=some (.string d[j]):=λW hb j h=>by
  have h9:Below (w.alloc (.cells (d.map Value.string).toArray 9)).heap.size (w.alloc (.cells (d.map Value.string).toArray 9)) W:=by rw[<-o];rw[o];rw[o]at hb;simpa using hb
  rw[zar h9 j];simp[h]
 have T:G.heap.size=w.heap.size+1:=by rw[o];simp
 have t:Below w.heap.size w G:=by rw[o];exact WaL
 have Y:∀W,Below (w.heap.size+1) G W->W.cell? ⟨0,0,none⟩=some (.int .i64 m0):=λW hb=>((t.trans (hb.mono (Zg _))).cell (p:=⟨0,0,none⟩) hj).trans D
 have l:(splL 38 s.data.toList).length=d.length:=by rw[<-O.out,Qh]
 have I:s.data.toList.length=s.size:=by simp
 have hq:d.length<=4194305:=by have:=zdR 38 s.data.toList;omega
 have hh:=hIx y;have h3:=hIx Y;have C:=hIx t;have g:=hIx l;have Q:=hIx I;have U:w.heap.size+1<=G.heap.size:=Nat.le_of_eq T.symm;clear y Y t l I o T K;go_wp2
 go_loopw [6,15] (λv i wr=>zx1 (splL 38 s.data.toList) most w G v i wr) (λ_ i _=>d.length-(intOf i).toNat)
 case atStart=>exact⟨0,Qm _,rfl,OwnA.nil _ _,Qm _,Qg _ _⟩
 case round=>
  obtain⟨k,hk,rfl,Z,B,N⟩:=hrel;rw[g.out]at hk;have q:w.heap.size+1<=wr.heap.size:=Qn U N.size;have ho:=zsb (splL 38 s.data.toList) k
  have hm:(accP (splL 38 s.data.toList)).length<=4194304:=by
   have:=zsl s.data.toList;rw[Q.out]at this;exact Qn this hs
  obtain⟨A,c,rfl,_⟩:=Z.form;have HO:=hIx Z;have S:=hIx N
  by_cases u:k<d.length
  ·have i7:IntKind.i64.wrap ((k:Int)+1)=(k:Int)+1:=Qx _ (by omega)
   have d1:decide ((k:Int)<(d.length:Int))=true:=by simp;omega
   have hc:=hh.out wr N k u;have z:=hIx (ztk (splL 38 s.data.toList) k (by rw[g.out];exact u))
   have HX:Hid (d[k].data.toList=(splL 38 s.data.toList)[k]'(by rw[g.out];exact u)):=by
    unfold Hid;have:=O.out;simp only[<-this,Zd]
   have he:d[k].size<=s.size:=by
    have h1:=zbZ 38 s.data.toList _ (Qy (by rw[g.out];exact u));rw[<-HX.out]at h1;rw[Q.out]at h1;exact h1
   rw[<-HX.out]at z;generalize d[k]=x at hc HX z he;clear Z N;cases f:x.data.toList.isEmpty with
   |true=>
    have qx:x.toList.isEmpty=true:=by rw[QS];exact f
    have a:Hid (accP ((splL 38 s.data.toList).take (k+1))=accP ((splL 38 s.data.toList).take k)):=by unfold Hid;rw[z.out,Qi f,QI]
    clear f;go_wp2;exact⟨⟨k+1,by rw[g.out];omega,rfl,by rw[a.out];exact HO.out,by rw[a.out];exact B,S.out⟩,by dsimp only[intOf];omega⟩
   |false=>
    have qx:x.toList.isEmpty=false:=by rw[QS];exact f
    have a:Hid (accP ((splL 38 s.data.toList).take (k+1))=accP ((splL 38 s.data.toList).take k)++[argP x.data.toList]):=by unfold Hid;rw[z.out,Qe (by rw[f];decide)]
    have J:=zsb (splL 38 s.data.toList) (k+1);rw[a.out,Qa,QG]at J
    by_cases b:most<=((accP ((splL 38 s.data.toList).take k)).length:Int)
    ·have d2:decide (most<=((accP ((splL 38 s.data.toList).take k)).length:Int))=true:=Qu b
     have HP:Hid (zet most s.data.toList w (.returned (.tuple #[.slice none 0 0,.int .i64 2])) wr):=.inr ⟨by show most.toNat<(accP (splL 38 s.data.toList)).length;omega,rfl,C.out.trans (S.out.mono (Zg _))⟩;clear f b;go_wp2;exact Qj (v:=.tuple #[.slice none 0 0,.int .i64 2]) (by simp[results,results48,go_sem]) rfl HP.out
    ·have d2:decide (most<=((accP ((splL 38 s.data.toList).take k)).length:Int))=false:=Qs b
     have h6:Hid ((accP ((splL 38 s.data.toList).take k)).length+1<=most.toNat):=by unfold Hid;omega
     clear b;have hcut:=strings_Cut x ⟨#[61]⟩ m0 wr (by omega) (h3.out wr S.out);have y:=zcQ x.data.toList [61];have h5:x.data.toList.length=x.size:=by simp
     have hi:=hIx hcut;have X:(Lib.cut x.data.toList [61]).1.length<=4194304:=by omega
     have L:(Lib.cut x.data.toList [61]).2.1.length<=4194304:=by omega
     have hd:=hIx X;have h8:=hIx L;clear f hcut y h5 X L;go_wp2_with fail;refine hi.out.mono ?_;rintro e w2 ⟨rfl,nq,rfl⟩;go_wp2_with fail;refine(zdG (bs (Lib.cut x.data.toList [61]).1) (wr.drewN nq) (by rw[zaj];have:=hd.out;omega)).mono ?_;rintro e w3 ⟨rfl,F⟩;rw[zae];go_wp2_with fail;refine(zdG (bs (Lib.cut x.data.toList [61]).2.1) w3 (by rw[zaj];have:=h8.out;omega)).mono ?_;rintro e P ⟨rfl,V⟩;rw[zae];have m:Below wr.heap.size wr P:=zfu (F.trans (V.mono F.size));have ha:OwnA P (w.heap.size+1) (.slice A (accP ((splL 38 s.data.toList).take k)).length c) (accP ((splL 38 s.data.toList).take k)):=HO.out.below m;have hg:w.heap.size+1<=P.heap.size:=Qn q m.size;have h7:Below (w.heap.size+1) G P:=S.out.trans (m.mono q);clear F V m
     have h4:(accP ((splL 38 s.data.toList).take k)).length<=4194304:=by
      omega
     go_wp2_with (at_builtin;refine za4 rfl (.tmp 31) (.tmp 37) rfl (w.heap.size+1) (.slice A (accP ((splL 38 s.data.toList).take k)).length c) (accP ((splL 38 s.data.toList).take k)) rfl ha hg _ (argP x.data.toList) rfl P.heap.size rfl 1 rfl h4 ?_;intro v5 w5 h0 hf hp hn);exact⟨⟨k+1,by rw[g.out];omega,rfl,by rw[a.out];exact h0,by rw[a.out,Qa];exact h6.out,h7.trans hf⟩,by dsimp only[intOf];omega⟩
  ·obtain rfl:k=d.length:=by omega
   have d1:decide ((d.length:Int)<(d.length:Int))=false:=by simp
   have HE:Hid (accP ((splL 38 s.data.toList).take d.length)=zcU s.data.toList):=by unfold Hid;rw[<-g.out,zwR];rfl
   clear Z N;go_wp2_with fail;refine Qj (v:=.tuple #[_,.int .i64 0]) (by simp[results,results48,go_sem];rfl) rfl (.inl ⟨by rw[<-HE.out];exact B.out,_,rfl,?_,C.out.trans (S.out.mono (Zg _))⟩);have:=HO.out.low (Zg w.heap.size);rw[HE.out]at this;rw[HE.out];exact this
