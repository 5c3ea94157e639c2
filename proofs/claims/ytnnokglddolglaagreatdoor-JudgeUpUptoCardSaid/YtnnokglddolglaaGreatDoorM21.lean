/- Lemmas for the last texts. -/
import Derived.Test.YtnnokglddolglaaGreatDoorM20
import Derived.Defers
import Derived.Laws.Pointers
import Derived.Laws.LoneSync
import Derived.RegionCalls
import Derived.ChangeAlike
set_option maxHeartbeats 1600000
set_option maxRecDepth 100000
namespace Go.Proofs.YtnnokglddolglaaGreatDoor
open Go.RowKit Go.Proofs.Tryz
def cmpN(op k n:Int):Bool:=if op=7 then decide (n<k)else if op=8 then decide (k<n)else k==n
def tstN(op n:Int)(v:List UInt8):Bool:=match numL 10 9 v with|none=>false|some k=>cmpN op k n
theorem znU(v:ByteArray)(h g:Nat)(op n:Int)(w:World)(f:op=7\/op=8\/op=9)(h1:w.cell? ⟨h,0,none⟩=some (.int .i64 op))(h2:w.cell? ⟨g,0,none⟩=some (.int .i64 n))(j:v.size<=maxLen):
 Calls prog 249 #[.string v,.pointer (some ⟨h,0,none⟩),.pointer (some ⟨g,0,none⟩)] w λe w'=>e=.returned (.bool (tstN op n v.data.toList))/\w'=w:=by
 have a:=zei v w j;unfold tstN;cases b:numL 10 9 v.data.toList with
 |none=>
  rw[b]at a;unfold zbx at a;dsimp only at a ⊢;have d:=hIx a;clear a b
  go_in
  go_wp2_with fail;refine d.out.mono ?_;rintro e i ⟨rfl,c⟩;rw[c];go_wp2;go_ret;exact⟨rfl,rfl⟩
 |some k=>
  rw[b]at a;unfold zbx at a;dsimp only at a ⊢;have d:=hIx a;clear a b;unfold cmpN
  rcases f with rfl|rfl|rfl
  all_goals
   go_in
   go_wp2_with fail;refine d.out.mono ?_;rintro e i ⟨rfl,c⟩;rw[c];go_wp2;go_ret;exact⟨rfl,rfl⟩
def numF(b a:Nat):Value:=.func (.func 249) #[] #[.pointer (some ⟨b,0,none⟩),.pointer (some ⟨a,0,none⟩)]
def decN(o:Option Int):Int:=match o with|none=>0|some n=>n
def decE(o:Option Int):Int:=match o with|none=>4|some _=>0
theorem zmy(o:Option Int):zbx o=.tuple #[.int .i64 (decN o),.int .i64 (decE o)]:=by cases o <;> rfl
def zyp(op:Int)(o:Option Int)(w:World)(e:Ending)(w':World):Prop:=
 ∃b a,e=.returned (.tuple #[numF b a,.int .i64 (decE o)])/\w'.cell? ⟨b,0,none⟩=some (.int .i64 op)/\w'.cell? ⟨a,0,none⟩=some (.int .i64 (decN o))/\Below w.heap.size w w'/\w.heap.size<=b/\w.heap.size<=a
theorem zot(op:Int)(a:ByteArray)(w:World)(d:a.size<=maxLen):
 Calls prog 203 #[.int .i64 op,.string a] w (zyp op (numL 10 9 a.data.toList) w):=by
 have b:=zei a (w.alloc (.cells #[.int .i64 op] 3)) d;rw[zmy]at b;generalize numL 10 9 a.data.toList=o at *;have f:=hIx b;clear b;have hb:Below w.heap.size w ((w.alloc (.cells #[.int .i64 op] 3)).alloc (.cells #[.int .i64 (decN o)] 3)):=WaL.alloc (by simp) _
 have c1:((w.alloc (.cells #[.int .i64 op] 3)).alloc (.cells #[.int .i64 (decN o)] 3)).cell? ⟨w.heap.size,0,none⟩=some (.int .i64 op):=
  Qf _ _ 0 _ _ _ ((Qt _ _ _ (by simp)).trans (Qp w _))
 have c2:((w.alloc (.cells #[.int .i64 op] 3)).alloc (.cells #[.int .i64 (decN o)] 3)).cell? ⟨w.heap.size+1,0,none⟩=some (.int .i64 (decN o)):=by
  have:=Qp (w.alloc (.cells #[.int .i64 op] 3)) (.cells #[.int .i64 (decN o)] 3);rw[Qr]at this;exact Qf _ _ 0 _ _ _ this
 have g:Hid (zyp op o w (.returned (.tuple #[.func (.func 249) #[] #[.pointer (some ⟨w.heap.size,0,none⟩),.pointer (some ⟨w.heap.size+1,0,none⟩)],.int .i64 (decE o)])) ((w.alloc (.cells #[.int .i64 op] 3)).alloc (.cells #[.int .i64 (decN o)] 3))):=
  ⟨w.heap.size,w.heap.size+1,rfl,c1,c2,hb,Qd _,Zg _⟩
 clear c1 c2 hb
 go_in
 go_wp2_with fail;refine f.out.mono ?_;rintro e h ⟨rfl,c⟩;rw[c];go_wp2;exact Qj (v:=.tuple #[.func (.func 249) #[] #[.pointer (some ⟨w.heap.size,0,none⟩),.pointer (some ⟨w.heap.size+1,0,none⟩)],.int .i64 (decE o)]) (by simp[results,results203,go_sem]) rfl g.out
theorem zsR(op:Int)(a:ByteArray)(w:World)(d:op=7\/op=8\/op=9)(i:a.size<=maxLen):
 Calls prog 157 #[.int .i64 op,.string a] w (zyp op (numL 10 9 a.data.toList) w):=by
 have hb:Below w.heap.size w ((w.alloc (.cells #[.int .i64 op] 3)).alloc (.cells #[.string a] 9)):=WaL.alloc (by simp) _;have j:=hIx (zot op a ((w.alloc (.cells #[.int .i64 op] 3)).alloc (.cells #[.string a] 9)) i);generalize numL 10 9 a.data.toList=o at *
 rcases d with rfl|rfl|rfl
 all_goals
  go_in
  go_wp2_with fail;refine j.out.mono ?_;rintro e l ⟨g,f,rfl,h1,h2,b,h,k⟩;unfold numF;have c:=hb.trans (b.mono hb.size);go_wp2;exact Qj (v:=.tuple #[.func (.func 249) #[] #[.pointer (some ⟨g,0,none⟩),.pointer (some ⟨f,0,none⟩)],.int .i64 (decE o)]) (by simp[results,results157,go_sem]) rfl ⟨g,f,rfl,h1,h2,c,Qn hb.size h,Qn hb.size k⟩
theorem zk6(a:ByteArray)(w:World)(b:LibOk w)(L:a.size<=1048576)(k:zjp a.data.toList=0):
 Calls prog 204 #[.string a] w (MadeT (tstA a) w):=by
 have d:(zbT (splL 44 a.data.toList)).length<=1000:=by
  have h1:=ziR (splL 44 a.data.toList)
  have h2:(splL 44 a.data.toList).length<=30:=by
   unfold zjp at k
   split at k
   ·exact absurd k (by decide)
   ·omega
  omega
 have C:=λv H A c g W z h p=>zvj a v H A c g W z d h p
 have r:=zmE a w (by omega) b;unfold zdz at r;generalize zbT (splL 44 a.data.toList)=l at *;generalize tstA a=f at *;rw[k]at r;have y:=hIx r;have u:=hIx C;clear r C k d b
 go_in
 go_wp2_with (go_at_call 107;apply Hid.out);refine WhM y ?_;rintro e i ⟨v,rfl,B,_,j⟩;have n:=hIx (B (by first|trivial|rfl));obtain⟨A,c,rfl,I⟩:=n.out.form;have m:=Qp i (.cells #[.slice A l.length c] 195);have o:Below i.heap.size i (i.alloc (.cells #[.slice A l.length c] 195)):=WaL
 have E:Hid (∀W,Since w.heap.size i W->Sl W W.heap.size 2 A l.length (l.flatMap zcc)):=λW q=>by
  have h2:=OwnN.keep n.out λg p=>q.keep g (QK n.out g p).1 (QK n.out g p).2
  obtain⟨K,J,D,s⟩:=h2.form;injection D with G _ _
  rw[G];exact s
 clear B I n;go_wp2
 exact Qj (v:=.tuple #[.func (.func 250) #[] #[.pointer (some ⟨i.heap.size,0,none⟩)],.int .i64 0]) (by simp[results,results204,go_sem]) rfl
  ⟨_,_,rfl,⟨_,_,rfl,λ_ _=>rfl,λW q t x F=>u.out x F A c i.heap.size W t (E.out W ((Since.of o).trans q)) (Qf _ _ 0 _ _ _ ((q.keep _ j.size (by simp)).trans m))⟩,j.trans (o.mono j.size)⟩
theorem zqm(i:ByteArray)(w:World)(k:LibOk w)(D:i.size<=1048576)(o:(zcr i.data.toList).2=0):
 Calls prog 205 #[.string i] w (MadeT (tstG i) w):=by
 have n:(zcr i.data.toList).1.Wf:=by
  unfold zcr at o ⊢
  split
  ·exact zgF _
  ·rename_i h;rw[Qe h]at o;exact absurd o (by decide)
 have u:=λv C g W y=>zwG (zcr i.data.toList).1 n v C g W y
 have q:=zmB i w k (by omega);unfold ziH at q;have A:Hid (∀v,tstG i v=anyN (outG (zcr i.data.toList).1 v) v.size):=λ_=>rfl
 generalize zcr i.data.toList=R at *;obtain⟨S,c⟩:=R;dsimp only at *;subst o;generalize tstG i=f at *;have t:=hIx q;have r:=hIx u;clear q u k n
 go_in
 go_wp2_with (go_at_call 108;apply Hid.out);refine WhM t ?_;rintro e j ⟨rfl,m⟩;have l:FourW (j.alloc (.cells #[.int .u64 S.a,.int .u64 S.b,.int .u64 S.c,.int .u64 S.d] 182)) j.heap.size S:=Qp j _;have s:Below j.heap.size j (j.alloc (.cells #[.int .u64 S.a,.int .u64 S.b,.int .u64 S.c,.int .u64 S.d] 182)):=WaL;have p:=hIx l;clear l;unfold setA;go_wp2
 exact Qj (v:=.tuple #[.func (.func 254) #[] #[.pointer (some ⟨j.heap.size,0,none⟩)],.int .i64 0]) (by simp[results,results205,go_sem]) rfl
  ⟨_,_,rfl,⟨_,_,rfl,λ_ _=>rfl,λW z _ x B=>(r.out x B j.heap.size W ((z.keep _ m.size (by simp)).trans p.out)).mono λe w' h=>⟨by rw[h.1,A.out],h.2⟩⟩,m.trans (s.mono m.size)⟩
theorem zve{ws:List ByteArray}(h:Full (lstS (ws.map lowB))):Full (lstS ws):=by
 obtain⟨k,j,hl,q⟩:=h
 have g:∀v∈k,∃u,zav u=v/\∃w∈lstS ws,u <+:w:=λv y=>by
  obtain⟨x,f,c⟩:=q v y;obtain⟨b,hb,rfl⟩:=QO.1 f;obtain⟨a,z,rfl⟩:=QO.1 hb;unfold lowB at c;rw[zae]at c;refine⟨a.data.toList.take v.length,?_,a.data.toList,QO.2 ⟨a,z,rfl⟩,List.take_prefix _ _⟩;have e:=List.prefix_iff_eq_take.1 c;unfold zav at e ⊢;rw[List.map_take];exact e.symm
 have:∀l:List (List UInt8),l.Nodup->(∀v∈l,∃u,zav u=v/\∃w∈lstS ws,u <+:w)->∃d:List (List UInt8),d.Nodup/\d.length=l.length/\(∀u∈d,∃w∈lstS ws,u <+:w)/\d.map zav=l:=by
  intro l
  induction l with
  |nil=>exact λ_ _=>⟨[],List.nodup_nil,rfl,λu h=>(by cases h),rfl⟩
  |cons v r ih=>
   intro j m;obtain⟨h1,h2⟩:=ZP.1 j;obtain⟨d,i,o,p,n⟩:=ih h2 λx f=>m x (Q3 _ f)
   obtain⟨u,e,s⟩:=m v Q7;refine⟨u::d,ZP.2 ⟨λt=>h1 ?_,i⟩,by simp[o],λx f=>?_,by rw[QX,e,n]⟩
   ·rw[<-n,<-e];exact QO.2 ⟨u,t,rfl⟩
   ·rcases QJ.1 f with rfl|f
    ·exact s
    ·exact p x f
 obtain⟨d,h1,h2,i,_⟩:=this k j g;exact⟨d,h1,by omega,i⟩
theorem zz3{ws:List ByteArray}(h:OkW ws):OkW (ws.map lowB):=
 ⟨⟨by rw[Qh];exact h.1.few,by rw[Qh];exact h.1.some,λx c=>by
  obtain⟨a,b,rfl⟩:=QO.1 c;rw[ziJ];exact h.1.short a b,λx c=>by
  obtain⟨a,b,rfl⟩:=QO.1 c;rw[ziJ];exact h.1.full a b⟩,λd=>h.2 (zve d)⟩
theorem OwnG.keepN{w w':World}{base g n c:Nat}{d:Type}{R:RowT d}{l:List d}(h:OwnG R w base (.slice (some ⟨g,0,none⟩) n c) l)(j:w'.heap[g]? = w.heap[g]?):OwnG R w' base (.slice (some ⟨g,0,none⟩) n c) l:=by
 refine⟨h.1,?_⟩
 rcases h.2 with i|⟨b,cap,a,h1,h2,f,k⟩
 ·exact .inl i
 ·have e:g=b:=by injection h1 with h1;injection h1 with h1;injection h1 with h1
  exact .inr ⟨b,cap,a,h1,h2,(by rw[<-e];rw[<-e]at f;exact j.trans f),k⟩
theorem PhrAt.since{B:Nat}{ws:List ByteArray}{l e:Nat}{w W:World}(h:PhrAt B ws l e w)(b:Since B w W):PhrAt B ws l e W:=by
 obtain⟨h1,h2,C,g,cap,q,p,n,A,c,x,f,i,r⟩:=h;refine⟨h1,h2,C,g,cap,q,p,n,A,c,x,za3 (b.keep _ h1 (QT w _ f)) 0 f,za3 (b.keep _ h2 (QT w _ i)) 0 i,?_⟩;obtain⟨u,D,d,v,a⟩:=r;have s:=a.own.lt g rfl;exact⟨u,D,d,v,⟨a.own.keepN (b.keep g (by omega) s.2),a.fst,λj m z y=>(a.done j m z y).keep b.size λk o t=>b.keep k (by omega) t,a.rest⟩⟩
noncomputable def tstO(op:Int)(a v:ByteArray):Bool:=
 if op=1 then tstR a v else if op=2 then tstP (phrW a) v else if op=7\/op=8\/op=9 then tstN op (decN (numL 10 9 a.data.toList)) v.data.toList
 else if op=10 then tstA a v else if op=11 then tstG a v else if op=12 then true else tstT op a v
theorem MadeT.same{f g:ByteArray->Bool}(h:∀v,f v=g v){w:World}{e:Ending}{w':World}(m:MadeT f w e w'):MadeT g w e w':=by
 obtain⟨d,c,n,⟨b,a,k,h2⟩,hb⟩:=m;exact⟨d,c,n,⟨b,a,k,h2.1,λW j hl s l=>(h2.2 W j hl s l).mono λe w' i=>⟨by rw[i.1,h s],i.2⟩⟩,hb⟩
section
variable (arg:ByteArray) (w:World)
theorem zr3(h:arg.size<=1048576)(i:(zda arg.data.toList).2.2=0):Calls prog 157 #[.int .i64 1,.string arg] w (MadeT (tstR arg) w):=by
 have hb:Below w.heap.size w ((w.alloc (.cells #[.int .i64 1] 3)).alloc (.cells #[.string arg] 9)):=WaL.alloc (by simp) _;have j:=hIx (zoz arg ((w.alloc (.cells #[.int .i64 1] 3)).alloc (.cells #[.string arg] 9)) h i);generalize tstR arg=f at *
 go_in
 go_wp2_with (go_at_call 201;apply Hid.out);refine WhM j ?_;rintro e l ⟨c,a,rfl,g,b⟩;have d:=hb.trans (b.mono hb.size);have k:=hIx g;clear g;go_wp2
 go_ret2
 exact⟨c,a,rfl,k.out.low hb.size,d⟩
theorem zsB(a:LibOk w)(j:arg.size<=1048576)(i:zjp arg.data.toList=0):Calls prog 157 #[.int .i64 10,.string arg] w (MadeT (tstA arg) w):=by
 have hb:Below w.heap.size w ((w.alloc (.cells #[.int .i64 10] 3)).alloc (.cells #[.string arg] 9)):=WaL.alloc (by simp) _;have k:=hIx (zk6 arg ((w.alloc (.cells #[.int .i64 10] 3)).alloc (.cells #[.string arg] 9)) (a.below hb) j i);generalize tstA arg=f at *;clear i
 go_in
 go_wp2_with (go_at_call 204;apply Hid.out);refine WhM k ?_;rintro e m ⟨d,b,rfl,h,c⟩;have g:=hb.trans (c.mono hb.size);have l:=hIx h;clear h;go_wp2
 go_ret2
 exact⟨d,b,rfl,l.out.low hb.size,g⟩
theorem zuK(a:LibOk w)(j:arg.size<=1048576)(i:(zcr arg.data.toList).2=0):Calls prog 157 #[.int .i64 11,.string arg] w (MadeT (tstG arg) w):=by
 have hb:Below w.heap.size w ((w.alloc (.cells #[.int .i64 11] 3)).alloc (.cells #[.string arg] 9)):=WaL.alloc (by simp) _;have k:=hIx (zqm arg ((w.alloc (.cells #[.int .i64 11] 3)).alloc (.cells #[.string arg] 9)) (a.below hb) j i);generalize tstG arg=f at *;clear i
 go_in
 go_wp2_with (go_at_call 205;apply Hid.out);refine WhM k ?_;rintro e m ⟨d,b,rfl,h,c⟩;have g:=hb.trans (c.mono hb.size);have l:=hIx h;clear h;go_wp2
 go_ret2
 exact⟨d,b,rfl,l.out.low hb.size,g⟩
theorem zrZ(a:LibOk w)(g:arg.size<=1048576)(j:mkC (zbC arg)=0):Calls prog 157 #[.int .i64 2,.string arg] w (MadeT (tstP (phrW arg)) w):=by
 have b:OkW (phrW arg):=zz3 (ztG.1 j);refine(zsZ arg w a g).mono λe w' h=>?_
 obtain⟨hb,f,i,rfl,c⟩:=h.1 b;exact⟨_,_,rfl,⟨_,_,rfl,λ_ _=>rfl,λW d _ x k=>zoI (phrW arg) b.1 x k _ f i W (c.since d)⟩,hb⟩
theorem zul(op:Int)(a:op=7\/op=8\/op=9)(m:arg.size<=1048576)(b:(numL 10 9 arg.data.toList).isSome=true):Calls prog 157 #[.int .i64 op,.string arg] w (MadeT (λv=>tstN op (decN (numL 10 9 arg.data.toList)) v.data.toList) w):=by
 refine(zsR op arg w a (by unfold maxLen;omega)).mono λe w' h=>?_
 obtain⟨i,f,rfl,h1,h2,hb,d,k⟩:=h
 have g:decE (numL 10 9 arg.data.toList)=0:=by
  cases j:numL 10 9 arg.data.toList with
  |none=>rw[j]at b;cases b
  |some n=>rfl
 rw[g];exact⟨_,_,rfl,⟨_,_,rfl,λ_ _=>rfl,λW c _ x l=>(znU x i f op _ W a (za3 (c.keep _ d (QT w' _ h1)) 0 h1) (za3 (c.keep _ k (QT w' _ h2)) 0 h2) (by unfold maxLen;omega)).mono λe w' h=>⟨h.1,by rw[h.2];exact Qg _ _⟩⟩,hb⟩
theorem zuD(op:Int)(b:op=3\/op=4\/op=5\/op=6)(_:LibOk w)(g:arg.size<=200):Calls prog 157 #[.int .i64 op,.string arg] w (MadeT (tstT op arg) w):=by
 have d:Hid (Calls prog 157 #[.int .i64 op,.string arg] w λe w'=>e=.returned (.tuple #[.func (.func 207) #[] #[.pointer (some ⟨w.heap.size,0,none⟩),.pointer (some ⟨w.heap.size+1,0,none⟩)],.int .i64 0])/\w'=(w.alloc (.cells #[.int .i64 op] 3)).alloc (.cells #[.string arg] 9)):=by
  have i:decide ((200:Int)<(arg.size:Int))=false:=by simp;omega
  unfold Hid
  rcases b with rfl|rfl|rfl|rfl
  all_goals
   go_in
   go_wp2
   go_ret2
   exact⟨rfl,rfl⟩
 refine d.out.mono λe w' h=>?_
 obtain⟨rfl,rfl⟩:=h;have hb:Below w.heap.size w ((w.alloc (.cells #[.int .i64 op] 3)).alloc (.cells #[.string arg] 9)):=WaL.alloc (by simp) _
 have c1:((w.alloc (.cells #[.int .i64 op] 3)).alloc (.cells #[.string arg] 9)).cell? ⟨w.heap.size,0,none⟩=some (.int .i64 op):=
  Qf _ _ 0 _ _ _ ((Qt _ _ _ (by simp)).trans (Qp w _))
 have c2:((w.alloc (.cells #[.int .i64 op] 3)).alloc (.cells #[.string arg] 9)).cell? ⟨w.heap.size+1,0,none⟩=some (.string arg):=by
  have:=Qp (w.alloc (.cells #[.int .i64 op] 3)) (.cells #[.string arg] 9);rw[Qr]at this;exact Qf _ _ 0 _ _ _ this
 exact⟨_,_,rfl,⟨_,_,rfl,λ_ _=>rfl,λW c hl x f=>znk op b arg x f _ _ W hl (za3 (c.keep _ (Qd _) (QT _ _ c1)) 0 c1) (za3 (c.keep _ (Zg _) (QT _ _ c2)) 0 c2)⟩,hb⟩
theorem zrm(a:arg.data.toList=[]):Calls prog 157 #[.int .i64 12,.string arg] w (MadeT (λ_=>true) w):=by
 have hb:Below w.heap.size w ((w.alloc (.cells #[.int .i64 12] 3)).alloc (.cells #[.string arg] 9)):=WaL.alloc (by simp) _;have q:arg.toList.isEmpty=true:=by rw[Xl,a];rfl
 have b:(arg.toList==[])=true:=by rw[Xl,a];rfl
 go_in
 go_wp2
 go_ret2
 exact⟨206,#[],rfl,⟨_,_,rfl,λ_ _=>rfl,λW _ _ x _=>zxi x W⟩,hb⟩
theorem zwi(op:Int)(h1:1<=op)(h2:op<=12)(b:LibOk w)(d:arg.size<=1048576)(a:argC op arg=0):Calls prog 157 #[.int .i64 op,.string arg] w (MadeT (tstO op arg) w):=by
 unfold argC at a
 by_cases c1:op=1
 ·subst c1
  rw[Qi rfl]at a;exact(zr3 arg w d a).mono λe w' h=>h.same λv=>by unfold tstO;rw[Qi rfl]
 rw[Qe c1]at a
 by_cases c2:op=2
 ·subst c2
  rw[Qi rfl]at a;exact(zrZ arg w b d (by exact_mod_cast a)).mono λe w' h=>h.same λv=>by unfold tstO;rw[Qe c1,Qi rfl]
 rw[Qe c2]at a
 by_cases c3:op=7\/op=8\/op=9
 ·rw[Qi c3]at a
  have c:(numL 10 9 arg.data.toList).isSome=true:=by
   by_cases c:(numL 10 9 arg.data.toList).isSome=true
   ·exact c
   ·rw[Qe c]at a;exact absurd a (by decide)
  exact(zul arg w op c3 d c).mono λe w' h=>h.same λv=>by unfold tstO;rw[Qe c1,Qe c2,Qi c3]
 rw[Qe c3]at a
 by_cases c4:op=10
 ·subst c4
  rw[Qi rfl]at a;exact(zsB arg w b d a).mono λe w' h=>h.same λv=>by unfold tstO;rw[Qe c1,Qe c2,Qe c3,Qi rfl]
 rw[Qe c4]at a
 by_cases c5:op=11
 ·subst c5
  rw[Qi rfl]at a;exact(zuK arg w b d a).mono λe w' h=>h.same λv=>by unfold tstO;rw[Qe c1,Qe c2,Qe c3,Qe c4,Qi rfl]
 rw[Qe c5]at a
 by_cases i:op=12
 ·subst i
  rw[Qi rfl]at a
  have f:arg.data.toList=[]:=by
   by_cases f:arg.data.toList=[]
   ·exact f
   ·rw[Qe f]at a;exact absurd a (by decide)
  exact(zrm arg w f).mono λe w' h=>h.same λv=>by unfold tstO;rw[Qe c1,Qe c2,Qe c3,Qe c4,Qe c5,Qi rfl]
 rw[Qe i]at a
 have g:arg.size<=200:=by
  by_cases c:200<arg.size
  ·rw[Qi c]at a;exact absurd a (by decide)
  ·omega
 exact(zuD arg w op (by omega) b g).mono λe w' h=>h.same λv=>by unfold tstO;rw[Qe c1,Qe c2,Qe c3,Qe c4,Qe c5,Qe i]
end
theorem zmf(w:World):(callFunc 295 #[]).run prog w=.ok (.value (.tuple #[])) w:=run_call_mark0 func295 (by kernel_rfl) (by kernel_rfl) (by kernel_rfl) .disable (by kernel_rfl) w
theorem zpJ(w:World):(callFunc 297 #[]).run prog w=.ok (.value (.tuple #[])) w:=run_call_mark0 func297 (by kernel_rfl) (by kernel_rfl) (by kernel_rfl) .enable (by kernel_rfl) w
theorem zum(a:Addr)(w:World):(callFunc 298 #[.pointer (some a)]).run prog w=.ok (.value (.tuple #[])) w:=run_call_marked func298 (by kernel_rfl) (by kernel_rfl) (by kernel_rfl) .acquire (by kernel_rfl) a w
theorem zuc(a:Addr)(w:World):(callFunc 300 #[.pointer (some a)]).run prog w=.ok (.value (.tuple #[])) w:=run_call_marked func300 (by kernel_rfl) (by kernel_rfl) (by kernel_rfl) .releaseMerge (by kernel_rfl) a w
theorem zjo(a:Addr)(x:Value)(u:FrameMode)(w:World)(g:w.cell? a=some x)(h:w.frozen? a=false):
 CallsD prog 244 #[.pointer (some a),.bool true] u w λe f w'=>f=u/\(e=.returned (.tuple #[])/\w'=w.drew.setCell a (.int .u32 1)):=by
 have b:w.drew.cell? a=some x:=by go_simp
 have c:w.drew.frozen? a=false:=by go_simp
 have d:=run_call_store (P:=prog) func278 (by kernel_rfl) (by kernel_rfl) (by kernel_rfl) (by kernel_rfl) (k:=.u32) (y:=1) b c
 go_enter_d func244,ntmps244
 go_wp2
 go_region_calls
 all_goals (go_end0;exact⟨rfl,rfl⟩)
theorem zjf(a:Addr)(u:FrameMode)(w:World)(c:w.cell? a=some (.int .i32 1))(g:w.frozen? a=false):
 CallsD prog 243 #[.pointer (some a)] u w λe f w'=>f=u/\(e=.returned (.tuple #[])/\w'=w.setCell a (.int .i32 0)):=by
 have h:=zmf;have i:=zpJ;have j:=zuc;have b:=run_call_add (P:=prog) func301 (by kernel_rfl) (by kernel_rfl) (by kernel_rfl) .i32 (by kernel_rfl) (y:=-1) (s:=0) c g (by simp[go_sem];rfl);have d:=run_convert_to_unsafe (P:=prog) (src:=366) (dst:=218) underlying366 underlying218 (by kernel_rfl) c
 go_enter_d func243,ntmps243
 go_wp2
 go_end0
 go_wp2
 go_end0
 exact⟨rfl,rfl⟩
theorem zsT(a:Addr)(w:World)(d:w.cell? a=some (.int .i32 0))(g:w.frozen? a=false):
 Calls prog 242 #[.pointer (some a)] w λe w'=>e=.returned (.tuple #[])/\w'=w.setCell a (.int .i32 1):=by
 have h:=zmf;have i:=zpJ;have j:=zum;have c:=run_call_cas_hit (P:=prog) func296 (by kernel_rfl) (by kernel_rfl) (by kernel_rfl) .i32 (by kernel_rfl) (y:=1) d g;have b:(w.setCell a (.int .i32 1)).cell? a=some (.int .i32 1):=Zz w a _ d;have f:=run_convert_to_unsafe (P:=prog) (src:=366) (dst:=218) underlying366 underlying218 (by kernel_rfl) b
 go_in
 go_wp2
 first|go_end0|(simp only[Exit.inBlock,Exit.then];refine Qj (results_none rfl _ _ _) rfl ?_)|refine Qj (results_none rfl _ _ _) rfl ?_
 go_wp2
 go_end0
 exact⟨rfl,rfl⟩
def Ran(b a:Nat)(Q:World->Prop)(e:Ending)(w':World):Prop:=
 e=.returned (.tuple #[])/\w'.cell? ⟨b,a,none⟩=some (.int .u32 0)/\w'.frozen? ⟨b,a,none⟩=false/\w'.cell? ⟨b,a+1,none⟩=some (.int .i32 1)/\w'.frozen? ⟨b,a+1,none⟩=false/\Q w'
def Once(b a:Nat)(Q:World->Prop)(e:Ending)(w':World):Prop:=
 e=.returned (.tuple #[])/\∃W,Q W/\w'=(W.drew.setCell ⟨b,a,none⟩ (.int .u32 1)).setCell ⟨b,a+1,none⟩ (.int .i32 0)
theorem zu8(b c:Nat)(l:Addr)(Q:World->Prop)(w:World)
 (g:w.cell? ⟨b,c,none⟩=some (.int .u32 0)) (h1:w.cell? ⟨b,c+1,none⟩=some (.int .i32 0))
 (_:w.frozen? ⟨b,c,none⟩=false) (o:w.frozen? ⟨b,c+1,none⟩=false)
 (k:Calls prog 156 #[.pointer (some l)] (w.setCell ⟨b,c+1,none⟩ (.int .i32 1)) (Ran b c Q)):
 Calls prog 200 #[.pointer (some ⟨b,c,none⟩),.func (.func 156) #[] #[.pointer (some l)]] w (Once b c Q):=by
 have hl:=run_call_load (P:=prog) func241 (by kernel_rfl) (by kernel_rfl) (by kernel_rfl) .u32 (by kernel_rfl) (w:=w.setCell ⟨b,c+1,none⟩ (.int .i32 1)) (a:=⟨b,c,none⟩) (x:=0) ((QQ _ ⟨b,c+1,none⟩ ⟨b,c,none⟩ _ (by simp)).trans g);have j:∀(x:Bool) (w:World),(Op.unary .not (.bool x)).run prog w=.ok (.bool (!x)) w:=λ_ _=>rfl
 have i:=hIx k;clear k
 go_enter_defers func200,ntmps200
 go_wp2_with (first|(go_at_call 242;refine(zsT ⟨b,c+1,none⟩ _ (by go_simp) (by go_simp)).mono ?_;rintro e w' ⟨rfl,rfl⟩)|(go_at_call 199;go_in)|(go_at_call 156;apply Hid.out));refine WhM i ?_;rintro e u ⟨rfl,s,r,t,p,h⟩;have m:=hIx h;clear h hl g h1 o i
 go_wp2
 refine leaves_cons (f:=244) (args:=#[.pointer (some ⟨b,c,none⟩),.bool true]) (by simp) (by simp[go_sem]) ?_;refine(zjo ⟨b,c,none⟩ (.int .u32 0) .returning _ s r).mono ?_;rintro e q d ⟨rfl,rfl,rfl⟩;refine leaves_cons (f:=243) (args:=#[.pointer (some ⟨b,c+1,none⟩)]) (by simp[settle]) (by simp[go_sem]) ?_;refine(zjf ⟨b,c+1,none⟩ _ _ ?_ (by simp[p])).mono ?_
 ·refine(QQ _ ⟨b,c,none⟩ ⟨b,c+1,none⟩ _ (by simp)).trans ?_
  rw[World.cell?_drew];exact t
 rintro e q d ⟨rfl,rfl,rfl⟩;simp[Leaves,settle,results,results200];exact⟨rfl,_,m.out,rfl⟩
theorem zvW(b a:Nat)(c:Addr)(Q:World->Prop)(w:World)
 (d:w.cell? ⟨b,a,none⟩=some (.int .u32 0)) (h1:w.cell? ⟨b,a+1,none⟩=some (.int .i32 0))
 (k:w.frozen? ⟨b,a,none⟩=false) (l:w.frozen? ⟨b,a+1,none⟩=false)
 (i:Calls prog 156 #[.pointer (some c)] (w.setCell ⟨b,a+1,none⟩ (.int .i32 1)) (Ran b a Q)):
 Calls prog 155 #[.pointer (some ⟨b,a,none⟩),.func (.func 156) #[] #[.pointer (some c)]] w (Once b a Q):=by
 have hl:=run_call_load (P:=prog) func241 (by kernel_rfl) (by kernel_rfl) (by kernel_rfl) .u32 (by kernel_rfl) d;have g:∀(x:Bool) (w:World),(Op.unary .not (.bool x)).run prog w=.ok (.bool (!x)) w:=λ_ _=>rfl
 have m:=hIx (zu8 b a c Q w d h1 k l i);clear i
 go_in
 go_wp2_with (first|(go_at_call 200;apply Hid.out)|(go_at_call 199;go_in));refine WhM m ?_;rintro e o ⟨rfl,W,f,h⟩;have j:=hIx f;have n:=hIx h;clear f h
 go_wp2
 go_end0
 exact⟨rfl,W,j.out,n.out⟩
theorem zxP(a:Addr)(d:Int)(c:¬d=0)(h:Value)(w:World)(g:w.cell? a=some (.int .u32 d)):
 Calls prog 155 #[.pointer (some a),h] w λe w'=>e=.returned (.tuple #[])/\w'=w:=by
 have hl:=run_call_load (P:=prog) func241 (by kernel_rfl) (by kernel_rfl) (by kernel_rfl) .u32 (by kernel_rfl) g;have b:∀(x:Bool) (w:World),(Op.unary .not (.bool x)).run prog w=.ok (.bool (!x)) w:=λ_ _=>rfl
 have f:(d != 0)=true:=by simp[c]
 go_in
 go_wp2
 go_end0
 exact⟨rfl,rfl⟩
structure zcq where
 id:Int
 ph:Int
 vs:Value
 ps:Value
 nt:Bool
 op:Int
 arg:ByteArray
 av:Value
 ch:Bool
def RBox(g:Nat)(r:zcq)(d m:Int)(t:Value)(w:World):Prop:=
 w.heap[g]? = some (.cells #[.int .i64 r.id,.int .i64 r.ph,r.vs,r.ps,.bool r.nt,.int .i64 r.op,.string r.arg,r.av,.bool r.ch,.int .u32 d,.int .i32 m,.int .u32 0,t] 97 (0,0))
section
variable {g:Nat} {r:zcq} {d m:Int} {t:Value} {w w':World}
theorem RBox.keep(h:RBox g r d m t w)(a:w'.heap[g]? = w.heap[g]?):RBox g r d m t w':=a.trans h
theorem RBox.lt(h:RBox g r d m t w):g<w.heap.size:=zaq h
theorem RBox.once(h:RBox g r d m t w):(w.cell? ⟨g,9,none⟩=some (.int .u32 d)/\w.cell? ⟨g,10,none⟩=some (.int .i32 m))/\w.frozen? ⟨g,9,none⟩=false/\w.frozen? ⟨g,10,none⟩=false:=
 ⟨⟨Qf w g 9 _ _ _ h,Qf w g 10 _ _ _ h⟩,ZJ w g 9 _ _ h,ZJ w g 10 _ _ h⟩
theorem RBox.test(h:RBox g r d m t w):w.cell? ⟨g,12,none⟩=some t/\w.frozen? ⟨g,12,none⟩=false:=⟨Qf w g 12 _ _ _ h,ZJ w g 12 _ _ h⟩
theorem RBox.rule(h:RBox g r d m t w):w.cell? ⟨g,3,none⟩=some r.ps/\w.cell? ⟨g,4,none⟩=some (.bool r.nt)/\w.cell? ⟨g,5,none⟩=some (.int .i64 r.op)/\w.cell? ⟨g,6,none⟩=some (.string r.arg):=
 ⟨Qf w g 3 _ _ _ h,Qf w g 4 _ _ _ h,Qf w g 5 _ _ _ h,Qf w g 6 _ _ _ h⟩
theorem RBox.setD(h:RBox g r d m t w)(k:Int):RBox g r k m t (w.setCell ⟨g,9,none⟩ (.int .u32 k)):=Q2 w g 9 _ _ _ h
theorem RBox.setM(h:RBox g r d m t w)(k:Int):RBox g r d k t (w.setCell ⟨g,10,none⟩ (.int .i32 k)):=Q2 w g 10 _ _ _ h
theorem RBox.setT(h:RBox g r d m t w)(u:Value):RBox g r d m u (w.setCell ⟨g,12,none⟩ u):=Q2 w g 12 _ _ _ h
end
theorem zvz{w:World}{a:Addr}{x:Value}(f:Fn)(p c:Array Value)(h:w.cell? a=some x)(b:w.frozen? a=false):(store a (.func f p c)).run prog w=.ok () (w.setCell a (.func f p c)):=
 (run_store prog w a _ .plain rfl).trans (by simp[h,b])
def zqa(g:Nat)(f:ByteArray->Bool)(w:World)(w':World):Prop:=
 ∃t W,TestAt w.heap.size f t W/\Below w.heap.size w W/\w'=W.setCell ⟨g,12,none⟩ t
theorem zwz(g s:Nat)(r:zcq)(d m:Int)(w:World)(h:RBox g r d m .nilFunc w)(B:w.cell? ⟨s,0,none⟩=some (.pointer (some ⟨g,0,none⟩)))(l:LibOk w)(h1:1<=r.op)(h2:r.op<=12)(I:r.arg.size<=1048576)(z:argC r.op r.arg=0):
 Calls prog 156 #[.pointer (some ⟨s,0,none⟩)] w λe w'=>e=.returned (.tuple #[])/\zqa g (tstO r.op r.arg) w w':=by
 have y:Hid (∀W,Below w.heap.size w W->Calls prog 157 #[.int .i64 r.op,.string r.arg] W (MadeT (tstO r.op r.arg) W)):=λW hb=>zwi r.arg W r.op h1 h2 (l.below hb) I z
 generalize tstO r.op r.arg=f at *;obtain⟨L,J,D,x⟩:=h.rule;obtain⟨A,H⟩:=h.test;have K:=h.lt;clear z
 go_in
 have v:Hid (Calls prog 157 #[.int .i64 r.op,.string r.arg] w.drew (MadeT f w.drew)):=y.out _ (Qg _ _).drew;have j:Hid (∀W b a,TestAt w.heap.size f (.func (.func b) #[] a) W->Below w.heap.size w W->zqa g f w (W.setCell ⟨g,12,none⟩ (.func (.func b) #[] a))):=λW b a q hb=>⟨_,W,q,hb,rfl⟩
 clear y
 go_region_held3 (λw'=>w'.cell? ⟨s,0,none⟩=some (.pointer (some ⟨g,0,none⟩))/\w'.cell? ⟨g,5,none⟩=some (.int .i64 r.op)/\w'.cell? ⟨g,6,none⟩=some (.string r.arg))
  (first|exact⟨B,D,x⟩|exact⟨k,t,u⟩|exact⟨o,p,n⟩|go_keep|fail "keep")
  (first|(go_at_call 157;(with_reducible refine(v.out).mono ?_);rintro e w2 ⟨b,a,rfl,q,i⟩;have c:Below w.heap.size w w2:=undrew i;have k:=zaa c B;have t:=zaa c D;have u:=zaa c x;have E:=zaa c A;have C:=zaB c A H;have F:=zvz (.func b) #[] a E C;have o:=(QQ w2 ⟨g,12,none⟩ ⟨s,0,none⟩ (.func (.func b) #[] a) (by simp)).trans k;have p:=(QQ w2 ⟨g,12,none⟩ ⟨g,5,none⟩ (.func (.func b) #[] a) (by simp)).trans t;have n:=(QQ w2 ⟨g,12,none⟩ ⟨g,6,none⟩ (.func (.func b) #[] a) (by simp)).trans u;have G:=hIx (j.out w2 b a q c);clear q i)|fail "arm")
 all_goals
  clear k t u E C F o p n
  go_end0
  exact⟨rfl,G.out⟩
structure Oth(B g:Nat)(w w':World):Prop where
 below:Below B w w'
 keep:∀k,k<w.heap.size->k≠g->w'.heap[k]? = w.heap[k]?
theorem Oth.of{B g:Nat}{w w':World}(hb:Below w.heap.size w w')(a:B<=w.heap.size):Oth B g w w':=⟨hb.mono a,λk h _=>hb.block k h⟩
theorem Oth.set{B g:Nat}(b:B<=g)(w:World)(j:Nat)(v:Value):Oth B g w (w.setCell ⟨g,j,none⟩ v):=
 ⟨(Qg _ _).setCell (p:=⟨g,j,none⟩) b v,λk _ a=>Ql w ⟨g,j,none⟩ v k a⟩
theorem Oth.trans{B g:Nat}{w W V:World}(h:Oth B g w W)(k:Oth B g W V):Oth B g w V:=
 ⟨h.below.trans k.below,λj b a=>(k.keep j (Qv b h.below.size) a).trans (h.keep j b a)⟩
theorem Oth.drew{B g:Nat}{w:World}(a:B<=w.heap.size):Oth B g w w.drew:=Oth.of (Qg _ _).drew a
def Ready(F:Nat->Prop)(g:Nat)(r:zcq)(f:ByteArray->Bool)(w:World):Prop:=∃t a b,RBox g r 1 0 t w/\TestAt b f t a/\Since b a w/\∀k,F k->¬(b<=k/\k<a.heap.size)
section
variable {F:Nat->Prop} {g:Nat} {r:zcq} {f:ByteArray->Bool} {w W:World}
theorem Ready.box(h:Ready F g r f w):∃t,RBox g r 1 0 t w:=by obtain⟨t,_,_,h,_⟩:=h;exact⟨t,h⟩
theorem Ready.lt(h:Ready F g r f w):g<w.heap.size:=by obtain⟨t,h⟩:=h.box;exact h.lt
theorem Ready.keep(h:Ready F g r f w)(n:w.heap.size<=W.heap.size)(l:W.heap[g]? = w.heap[g]?)(d:∀k,k<w.heap.size->¬F k->W.heap[k]? = w.heap[k]?):Ready F g r f W:=by
 obtain⟨t,j,m,i,e,a,b⟩:=h;exact⟨t,j,m,i.keep l,e,⟨Qn a.size n,λk h1 h2=>(d k (Qv h2 a.size) λc=>b k c ⟨h1,h2⟩).trans (a.keep k h1 h2)⟩,b⟩
theorem Ready.next(h:Ready F g r f w)(hb:Below w.heap.size w W):Ready F g r f W:=h.keep hb.size (hb.block g h.lt) λk a _=>hb.block k a
theorem Ready.more{a:Nat->Prop}(h:Ready F g r f w)(d:∀k,a k->F k\/w.heap.size<=k):Ready a g r f w:=by
 obtain⟨t,j,l,i,e,b,m⟩:=h;refine⟨t,j,l,i,e,b,λk c hb=>?_⟩
 rcases d k c with h1|h1
 ·exact m k h1 hb
 ·have:=b.size;omega
end
def zhv(B:Nat)(F:Nat->Prop)(g:Nat)(r:zcq)(f:ByteArray->Bool)(s:ByteArray)(w:World)(e:Ending)(w':World):Prop:=
 e=.returned (.bool (f s))/\Ready F g r f w'/\Oth B g w w'
theorem zr4{B g:Nat}{F:Nat->Prop}{r:zcq}{f:ByteArray->Bool}{d W:World}(j:B<=g)(u:∀k,F k->k<d.heap.size)(h:RBox g r 0 0 .nilFunc d)(o:zqa g f (d.setCell ⟨g,10,none⟩ (.int .i32 1)) W):
 ∃b a,RBox g r 1 0 (.func (.func b) #[] a) ((W.drew.setCell ⟨g,9,none⟩ (.int .u32 1)).setCell ⟨g,10,none⟩ (.int .i32 0))/\TestAt d.heap.size f (.func (.func b) #[] a) ((W.drew.setCell ⟨g,9,none⟩ (.int .u32 1)).setCell ⟨g,10,none⟩ (.int .i32 0))/\Ready F g r f ((W.drew.setCell ⟨g,9,none⟩ (.int .u32 1)).setCell ⟨g,10,none⟩ (.int .i32 0))/\Oth B g d ((W.drew.setCell ⟨g,9,none⟩ (.int .u32 1)).setCell ⟨g,10,none⟩ (.int .i32 0)):=by
 obtain⟨t,c,⟨b,a,rfl,s⟩,hb,rfl⟩:=o;have p:=h.lt;have i:RBox g r 0 1 .nilFunc c:=(h.setM 1).keep (hb.block g (by rw[Z0];exact p));have w:=i.lt;have v:Oth B g d c:=(Oth.set j d 10 (.int .i32 1)).trans (Oth.of hb (by rw[Z0];omega))
 have l:Oth B g c (((c.setCell ⟨g,12,none⟩ (.func (.func b) #[] a)).drew.setCell ⟨g,9,none⟩ (.int .u32 1)).setCell ⟨g,10,none⟩ (.int .i32 0)):=
  (((Oth.set j c 12 _).trans (Oth.drew (by rw[Z0];omega))).trans (Oth.set j _ 9 _)).trans (Oth.set j _ 10 _)
 have m:RBox g r 1 0 (.func (.func b) #[] a) (((c.setCell ⟨g,12,none⟩ (.func (.func b) #[] a)).drew.setCell ⟨g,9,none⟩ (.int .u32 1)).setCell ⟨g,10,none⟩ (.int .i32 0)):=by
  have h1:RBox g r 0 1 (.func (.func b) #[] a) (c.setCell ⟨g,12,none⟩ (.func (.func b) #[] a)).drew:=i.setT _;exact(h1.setD 1).setM 0
 have e:TestAt (d.setCell ⟨g,10,none⟩ (.int .i32 1)).heap.size f (.func (.func b) #[] a) c:=⟨b,a,rfl,s⟩
 rw[Z0]at e;have n:Since d.heap.size c (((c.setCell ⟨g,12,none⟩ (.func (.func b) #[] a)).drew.setCell ⟨g,9,none⟩ (.int .u32 1)).setCell ⟨g,10,none⟩ (.int .i32 0)):=⟨l.below.size,λk h1 h2=>l.keep k h2 (by omega)⟩
 exact⟨b,a,m,e.since n,⟨_,c,_,m,e,n,λk q hb=>by have:=u k q;omega⟩,v.trans l⟩
theorem zoQ(B:Nat)(F:Nat->Prop)(g:Nat)(r:zcq)(s:ByteArray)(w:World)(hB:B<=g)(hF:∀k,F k->k<w.heap.size)(h:RBox g r 0 0 .nilFunc w)(X:∀W,Oth B g w W->LibOk W)(h1:1<=r.op)(h2:r.op<=12)(ha:r.arg.size<=1048576)(h0:argC r.op r.arg=0)(hs:s.size<=8192):
 Calls prog 117 #[.pointer (some ⟨g,0,none⟩),.string s] w (zhv B F g r (tstO r.op r.arg) s w):=by
 have hg:=h.lt;obtain⟨j,q⟩:∃j,w.alloc (.cells #[.pointer (some ⟨g,0,none⟩)] 83)=j:=⟨_,rfl⟩
 have p:Below w.heap.size w j:=by rw[<-q];exact WaL
 have o0:Oth B g w j:=Oth.of p (by omega);have l:RBox g r 0 0 .nilFunc j:=h.keep (p.block g hg);have v:j.heap[w.heap.size]? = some (.cells #[.pointer (some ⟨g,0,none⟩)] 83 (0,0)):=by rw[<-q];exact Qp w _
 have L:(j.setCell ⟨g,10,none⟩ (.int .i32 1)).cell? ⟨w.heap.size,0,none⟩=some (.pointer (some ⟨g,0,none⟩)):=
  Qf _ _ 0 _ _ _ ((Ql j ⟨g,10,none⟩ (.int .i32 1) w.heap.size (by show w.heap.size≠g;omega)).trans v)
 have y:=zwz g w.heap.size r 0 1 (j.setCell ⟨g,10,none⟩ (.int .i32 1)) (l.setM 1) L (X _ (o0.trans (Oth.set hB j 10 _))) h1 h2 ha h0;generalize tstO r.op r.arg=f at *;obtain⟨⟨c9,D⟩,f9,N⟩:=l.once
 have x:Calls prog 156 #[.pointer (some ⟨w.heap.size,0,none⟩)] (j.setCell ⟨g,10,none⟩ (.int .i32 1)) (Ran g 9 (zqa g f (j.setCell ⟨g,10,none⟩ (.int .i32 1)))):=y.mono λe w' ⟨G,C⟩=>by
  obtain⟨t,Wm,hT,hb,Q⟩:=C;have Z:RBox g r 0 1 .nilFunc Wm:=(l.setM 1).keep (hb.block g (by rw[Z0];exact l.lt));have S:RBox g r 0 1 t w':=by rw[Q];exact Z.setT t
  obtain⟨⟨a,b⟩,c,d⟩:=S.once;exact⟨G,a,c,b,d,t,Wm,hT,hb,Q⟩
 have J:=hIx (zvW g 9 ⟨w.heap.size,0,none⟩ (zqa g f (j.setCell ⟨g,10,none⟩ (.int .i32 1))) j c9 D f9 N x);have H:Hid (∀W,zqa g f (j.setCell ⟨g,10,none⟩ (.int .i32 1)) W->∃u n,RBox g r 1 0 (.func (.func u) #[] n) ((W.drew.setCell ⟨g,9,none⟩ (.int .u32 1)).setCell ⟨g,10,none⟩ (.int .i32 0))/\TestAt j.heap.size f (.func (.func u) #[] n) ((W.drew.setCell ⟨g,9,none⟩ (.int .u32 1)).setCell ⟨g,10,none⟩ (.int .i32 0))/\Ready F g r f ((W.drew.setCell ⟨g,9,none⟩ (.int .u32 1)).setCell ⟨g,10,none⟩ (.int .i32 0))/\Oth B g j ((W.drew.setCell ⟨g,9,none⟩ (.int .u32 1)).setCell ⟨g,10,none⟩ (.int .i32 0))):=λW C=>zr4 hB (λk hk=>Qv (hF k hk) p.size) l C
 have A:=hIx v;have HL:=hIx X;have HO:=hIx o0;have hz:w.heap.size<j.heap.size:=zaq v;have h3:=hIx q;clear y x v L c9 D f9 N l p X o0 h0 q
 go_in
 go_upto_region 1 with fail
 rw[h3.out];have p0:=Qf j w.heap.size 0 _ _ _ A.out;simp only[Z7,Xe]at p0;have h5:∀(fn:Fn) (first cap:Array Value) (w:World),(Instr.makeFunc fn first cap).run prog w=.ok (.func fn first cap) w:=λ_ _ _ _=>rfl
 go_wp2_with (go_at_call 155;apply Hid.out);refine WhM J ?_;rintro e K ⟨rfl,W,C,E⟩;obtain⟨u,n,o,O,i,P⟩:=H.out W C;rw[<-E]at o O i P;have V:=HO.out.trans P;have z:=HL.out K V;have p1:K.cell? ⟨w.heap.size,0,none⟩=some (.pointer (some ⟨g,0,none⟩)):=Qf K w.heap.size 0 _ _ _ ((P.keep _ hz (by omega)).trans A.out);obtain⟨q1,_⟩:=o.test;obtain⟨h4,U,e',eg,m⟩:=O;injection e' with G _ Q
 injection G with G
 subst G;subst Q
 have hc:=m K (Since.refl _ _) z s hs;have T:=hIx i;have Y:=hIx V;have h6:g<K.heap.size:=o.lt;clear i m C E o P V J H A HL HO p0;go_wp2_with (go_at_fn u;refine hc.mono ?_;rintro e w2 ⟨rfl,I⟩);go_ret;exact⟨rfl,T.out.next I,Y.out.trans (Oth.of I (by omega))⟩
theorem zoy(B:Nat)(F:Nat->Prop)(g:Nat)(r:zcq)(f:ByteArray->Bool)(s:ByteArray)(w:World)(S:B<=g)(h:Ready F g r f w)(i:LibOk w)(I:s.size<=8192):
 Calls prog 117 #[.pointer (some ⟨g,0,none⟩),.string s] w (zhv B F g r f s w):=by
 have N:g<w.heap.size:=h.lt;obtain⟨j,d⟩:∃j,w.alloc (.cells #[.pointer (some ⟨g,0,none⟩)] 83)=j:=⟨_,rfl⟩
 have c:Below w.heap.size w j:=by rw[<-d];exact WaL
 have l:j.heap[w.heap.size]? = some (.cells #[.pointer (some ⟨g,0,none⟩)] 83 (0,0)):=by rw[<-d];exact Qp w _
 have o:=h.next c;have a:=o;obtain⟨t,H,O,p,n,k,_⟩:=o;have G:=n.since k;obtain⟨v,C,rfl,Q,b⟩:=G;clear n k;obtain⟨⟨z,_⟩,_⟩:=p.once;obtain⟨P,_⟩:=p.test;have K:=b j (Since.refl _ _) (i.below c) s I;have y:=hIx (zxP ⟨g,9,none⟩ 1 (by decide) (.func (.func 156) #[] #[.pointer (some ⟨w.heap.size,0,none⟩)]) j z);have x:=hIx a;have q:=hIx c;have J:=Qf j w.heap.size 0 _ _ _ l;simp only[Z7,Xe]at J;have u:=hIx d;have E:∀(A:Fn) (first cap:Array Value) (w:World),(Instr.makeFunc A first cap).run prog w=.ok (.func A first cap) w:=λ_ _ _ _=>rfl
 have D:g<j.heap.size:=p.lt;clear a b p c l h d z i
 go_in
 go_upto_region 1 with fail
 rw[u.out];go_wp2_with (go_at_call 155;apply Hid.out);refine WhM y ?_;rintro e L ⟨rfl,rfl⟩;go_wp2_with (go_at_fn v;refine K.mono ?_;rintro e w2 ⟨rfl,m⟩);go_ret;exact⟨rfl,x.out.next m,(Oth.of q.out (by omega)).trans (Oth.of m (by omega))⟩
theorem zos(s:ByteArray)(w:World)(a:LibOk w)(d:s.size<=4194304):Calls prog 158 #[.string s] w λe w'=>e=.returned (.string (bs (Lib.cut s.data.toList [63]).1))/\Below w.heap.size w w':=by
 obtain⟨m,b⟩:=a;have c:=hIx (strings_Cut s ⟨#[63]⟩ m w (by omega) b)
 go_in
 go_wp2_with fail;refine c.out.mono ?_;rintro e w2 ⟨rfl,nq,rfl⟩;go_wp2;go_ret;exact⟨rfl,below_drewN (Qg _ _) nq⟩
theorem zmW(s:ByteArray)(w:World)(a:LibOk w)(d:s.size<=4194304):Calls prog 49 #[.string s] w λe w'=>e=.returned (.string (bs (Lib.cut s.data.toList [63]).2.1))/\Below w.heap.size w w':=by
 obtain⟨m,b⟩:=a;have c:=hIx (strings_Cut s ⟨#[63]⟩ m w (by omega) b)
 go_in
 go_wp2_with fail;refine c.out.mono ?_;rintro e w2 ⟨rfl,nq,rfl⟩;go_wp2;go_ret;exact⟨rfl,below_drewN (Qg _ _) nq⟩
