/- Lemmas for the last texts. -/
import Derived.Test.YtfhaojhofiocaaaGreatDoorM14
import Derived.Defers
import Derived.Laws.Pointers
import Derived.Laws.LoneSync
import Derived.RegionCalls
import Derived.ChangeAlike
import Derived.Lib.ItoaLen
set_option maxHeartbeats 6400000
set_option maxRecDepth 100000
namespace Go.Proofs.YtfhaojhofiocaaaGreatDoor
open Go.RowKit Go.Proofs.Tryz
theorem zkw(a:ByteArray)(w:World)(b:LibOk w)(N:a.size<=1048576)(k:zjb a.data.toList=0):
 Calls prog 243 #[.string a] w (MadeT (tstA a) w):=by
 have d:(zbT (splL 44 a.data.toList)).length<=1000:=by
  have h1:=ziD (splL 44 a.data.toList)
  have h2:(splL 44 a.data.toList).length<=30:=by
   unfold zjb at k
   split at k
   ·exact absurd k (by decide)
   ·omega
  omega
 have D:=λv I A c g W B h q=>zuF a v I A c g W B d h q
 have s:=zl1 a w (by omega) b;unfold zdy at s;generalize zbT (splL 44 a.data.toList)=l at *;generalize tstA a=f at *;rw[k]at s;have z:=hIx s;have y:=hIx D;clear s D k d b
 go_in
 go_wp2_with (go_at_call 51;apply Hid.out);refine WhM z ?_;rintro e i ⟨v,rfl,C,_,j⟩;have n:=hIx (C (by first|trivial|rfl));obtain⟨A,c,rfl,J⟩:=n.out.form;have m:=Qv i (.cells #[.slice A l.length c] 112);have o:i (i.alloc (.cells #[.slice A l.length c] 112)):=WaL
 have F:Hid (∀W,Since w.heap.size i W->Sl W W.heap.size 2 A l.length (l.flatMap zce)):=λW r=>by
  have h2:=OwnN.keep n.out λg q=>r.keep g (QE n.out g q).1 (QE n.out g q).2
  obtain⟨L,K,E,t⟩:=h2.form;injection E with H _ _
  rw[H];exact t
 clear C J n;go_wp2
 exact QD (v:=.tuple #[.func (.func 268) #[] #[.pointer i.heap.size],jA 0]) (by simp[results,results243,go_sem]) rfl
  ⟨_,_,rfl,⟨_,_,rfl,λ_ _=>rfl,λW r u x G=>y.out x G A c i.heap.size W u (F.out W ((Since.of o).trans r)) (Qo _ _ 0 _ _ _ ((r.keep _ j.size (by simp)).trans m))⟩,j.trans (o.mono j.size)⟩
theorem zpz(i:ByteArray)(w:World)(k:LibOk w)(E:i.size<=1048576)(o:(zct i.data.toList).2=0):
 Calls prog 244 #[.string i] w (MadeT (tstG i) w):=by
 have n:(zct i.data.toList).1.Wf:=by
  unfold zct at o ⊢
  split
  ·exact ziF _
  ·rename_i h;rw[Qf h]at o;exact absurd o (by decide)
 have y:=λv D g W z=>zvW (zct i.data.toList).1 n v D g W z
 have r:=zlY i w k (by omega);unfold zis at r;have B:Hid (∀v,tstG i v=anyN (outG (zct i.data.toList).1 v) v.size):=λ_=>rfl
 generalize zct i.data.toList=R at *;obtain⟨S,c⟩:=R;dsimp only at *;subst o;generalize tstG i=f at *;have u:=hIx r;have s:=hIx y;clear r y k n
 go_in
 go_wp2_with (go_at_call 52;apply Hid.out);refine WhM u ?_;rintro e j ⟨rfl,m⟩;have l:FourW (j.alloc (.cells #[jB S.a,jB S.b,jB S.c,jB S.d] 95)) j.heap.size S:=Qv j _;have t:j (j.alloc (.cells #[jB S.a,jB S.b,jB S.c,jB S.d] 95)):=WaL;have q:=hIx l;clear l;unfold setA;go_wp2
 exact QD (v:=.tuple #[.func (.func 272) #[] #[.pointer j.heap.size],jA 0]) (by simp[results,results244,go_sem]) rfl
  ⟨_,_,rfl,⟨_,_,rfl,λ_ _=>rfl,λW A _ x C=>(s.out x C j.heap.size W ((A.keep _ m.size (by simp)).trans q.out)).mono λe w' h=>⟨by rw[h.1,B.out],h.2⟩⟩,m.trans (t.mono m.size)⟩
theorem zuz{ws:List ByteArray}(h:Full (lstS (ws.map lowB))):Full (lstS ws):=by
 obtain⟨k,j,hl,s⟩:=h
 have g:∀v∈k,∃u,zaB u=v/\∃w∈lstS ws,u <+:w:=λv z=>by
  obtain⟨x,f,c⟩:=s v z;obtain⟨b,hb,rfl⟩:=QS.1 f;obtain⟨a,A,rfl⟩:=QS.1 hb;unfold lowB at c;rw[zam]at c;refine⟨a.data.toList.take v.length,?_,a.data.toList,QS.2 ⟨a,A,rfl⟩,List.take_prefix _ _⟩;have e:=List.prefix_iff_eq_take.1 c;unfold zaB at e ⊢;rw[List.map_take];exact e.symm
 have:∀l:List jE,l.Nodup->(∀v∈l,∃u,zaB u=v/\∃w∈lstS ws,u <+:w)->∃d:List jE,d.Nodup/\d.length=l.length/\(∀u∈d,∃w∈lstS ws,u <+:w)/\d.map zaB=l:=by
  intro l
  induction l with
  |nil=>exact λ_ _=>⟨[],List.nodup_nil,rfl,λu h=>(by cases h),rfl⟩
  |cons v r ih=>
   intro j m;obtain⟨h1,h2⟩:=XJ.1 j;obtain⟨d,i,o,q,n⟩:=ih h2 λx f=>m x (Zl _ f)
   obtain⟨u,e,t⟩:=m v Zk;refine⟨u::d,XJ.2 ⟨λy=>h1 ?_,i⟩,by simp[o],λx f=>?_,by rw[Q8,e,n]⟩
   ·rw[<-n,<-e];exact QS.2 ⟨u,y,rfl⟩
   ·rcases QN.1 f with rfl|f
    ·exact t
    ·exact q x f
 obtain⟨d,h1,h2,i,_⟩:=this k j g;exact⟨d,h1,by omega,i⟩
theorem zzI{ws:List ByteArray}(h:OkW ws):OkW (ws.map lowB):=
 ⟨⟨by rw[Qk];exact h.1.few,by rw[Qk];exact h.1.some,λx c=>by
  obtain⟨a,b,rfl⟩:=QS.1 c;rw[ziu];exact h.1.short a b,λx c=>by
  obtain⟨a,b,rfl⟩:=QS.1 c;rw[ziu];exact h.1.full a b⟩,λd=>h.2 (zuz d)⟩
theorem OwnG.keepN{w w':World}{base g n c:Nat}{d:Type}{R:RowT d}{l:List d}(h:OwnG R w base (.slice g n c) l)(j:w'.heap[g]? = w.heap[g]?):OwnG R w' base (.slice g n c) l:=by
 refine⟨h.1,?_⟩
 rcases h.2 with i|⟨b,cap,a,h1,h2,f,k⟩
 ·exact .inl i
 ·have e:g=b:=by injection h1 with h1;injection h1 with h1;injection h1 with h1
  exact .inr ⟨b,cap,a,h1,h2,(by rw[<-e];rw[<-e]at f;exact j.trans f),k⟩
theorem PhrAt.since{B:Nat}{ws:List ByteArray}{i gb:Nat}{w W:World}(h:PhrAt B ws i gb w)(b:Since B w W):PhrAt B ws i gb W:=by
 obtain⟨h1,h2,C,g,cap,q,o,l,A,c,x,e,f,r⟩:=h;refine⟨h1,h2,C,g,cap,q,o,l,A,c,x,za0 (b.keep _ h1 (QT w _ e)) 0 e,za0 (b.keep _ h2 (QT w _ f)) 0 f,?_⟩;obtain⟨u,D,d,v,a⟩:=r;have s:=a.own.lt g rfl;exact⟨u,D,d,v,⟨a.own.keepN (b.keep g (by omega) s.2),a.fst,λj m z y=>(a.done j m z y).keep b.size λk n t=>b.keep k (by omega) t,a.rest⟩⟩
noncomputable def tstO(op:Int)(a v:ByteArray):Bool:=
 if op=1 then tstR a v else if op=2 then tstP (phrW a) v else if op=7\/op=8\/op=9 then tstN op (decN (numL 10 9 a.data.toList)) v.data.toList
 else if op=10 then tstA a v else if op=11 then tstG a v else if op=12 then true else tstT op a v
theorem MadeT.same{f g:ByteArray->Bool}(h:∀v,f v=g v){w:World}{e:Ending}{w':World}(m:MadeT f w e w'):MadeT g w e w':=by
 obtain⟨d,c,n,⟨b,a,k,h2⟩,hb⟩:=m;exact⟨d,c,n,⟨b,a,k,h2.1,λW j hl s l=>(h2.2 W j hl s l).mono λe w' i=>⟨by rw[i.1,h s],i.2⟩⟩,hb⟩
section
variable (arg:ByteArray) (w:World)
theorem zrh(h:arg.size<=1048576)(i:(zc8 arg.data.toList).2.2=0):Calls prog 221 #[jA 1,.string arg] w (MadeT (tstR arg) w):=by
 have hb:w ((w.alloc (.cells #[jA 1] 3)).alloc (.cells #[.string arg] 9)):=WaL.alloc (by simp) _;have j:=hIx (znR arg ((w.alloc (.cells #[jA 1] 3)).alloc (.cells #[.string arg] 9)) h i);generalize tstR arg=f at *
 go_in
 go_wp2_with (go_at_call 240;apply Hid.out);refine WhM j ?_;rintro e l ⟨c,a,rfl,g,b⟩;have d:=hb.trans (b.mono hb.size);have k:=hIx g;clear g;go_wp2
 go_ret2
 exact⟨c,a,rfl,k.out.low hb.size,d⟩
theorem zrK(a:LibOk w)(j:arg.size<=1048576)(i:zjb arg.data.toList=0):Calls prog 221 #[jA 10,.string arg] w (MadeT (tstA arg) w):=by
 have hb:w ((w.alloc (.cells #[jA 10] 3)).alloc (.cells #[.string arg] 9)):=WaL.alloc (by simp) _;have k:=hIx (zkw arg ((w.alloc (.cells #[jA 10] 3)).alloc (.cells #[.string arg] 9)) (a.below hb) j i);generalize tstA arg=f at *;clear i
 go_in
 go_wp2_with (go_at_call 243;apply Hid.out);refine WhM k ?_;rintro e m ⟨d,b,rfl,h,c⟩;have g:=hb.trans (c.mono hb.size);have l:=hIx h;clear h;go_wp2
 go_ret2
 exact⟨d,b,rfl,l.out.low hb.size,g⟩
theorem zt3(a:LibOk w)(j:arg.size<=1048576)(i:(zct arg.data.toList).2=0):Calls prog 221 #[jA 11,.string arg] w (MadeT (tstG arg) w):=by
 have hb:w ((w.alloc (.cells #[jA 11] 3)).alloc (.cells #[.string arg] 9)):=WaL.alloc (by simp) _;have k:=hIx (zpz arg ((w.alloc (.cells #[jA 11] 3)).alloc (.cells #[.string arg] 9)) (a.below hb) j i);generalize tstG arg=f at *;clear i
 go_in
 go_wp2_with (go_at_call 244;apply Hid.out);refine WhM k ?_;rintro e m ⟨d,b,rfl,h,c⟩;have g:=hb.trans (c.mono hb.size);have l:=hIx h;clear h;go_wp2
 go_ret2
 exact⟨d,b,rfl,l.out.low hb.size,g⟩
theorem zrc(a:LibOk w)(g:arg.size<=1048576)(i:mkC (zbv arg)=0):Calls prog 221 #[jA 2,.string arg] w (MadeT (tstP (phrW arg)) w):=by
 have b:OkW (phrW arg):=zzI (zsR.1 i);refine(zsb arg w a g).mono λe w' h=>?_
 obtain⟨hb,f,gb,rfl,c⟩:=h.1 b;exact⟨_,_,rfl,⟨_,_,rfl,λ_ _=>rfl,λW d _ x j=>znZ (phrW arg) b.1 x j _ f gb W (c.since d)⟩,hb⟩
theorem ztA(op:Int)(a:op=7\/op=8\/op=9)(m:arg.size<=1048576)(b:(numL 10 9 arg.data.toList).isSome=true):Calls prog 221 #[jA op,.string arg] w (MadeT (λv=>tstN op (decN (numL 10 9 arg.data.toList)) v.data.toList) w):=by
 refine(zr3 op arg w a (by unfold maxLen;omega)).mono λe w' h=>?_
 obtain⟨i,f,rfl,h1,h2,hb,d,k⟩:=h
 have g:decE (numL 10 9 arg.data.toList)=0:=by
  cases j:numL 10 9 arg.data.toList with
  |none=>rw[j]at b;cases b
  |some n=>rfl
 rw[g];exact⟨_,_,rfl,⟨_,_,rfl,λ_ _=>rfl,λW c _ x l=>(zm6 x i f op _ W a (za0 (c.keep _ d (QT w' _ h1)) 0 h1) (za0 (c.keep _ k (QT w' _ h2)) 0 h2) (by unfold maxLen;omega)).mono λe w' h=>⟨h.1,by rw[h.2];exact Qi _ _⟩⟩,hb⟩
theorem ztV(op:Int)(b:op=3\/op=4\/op=5\/op=6)(_:LibOk w)(g:arg.size<=200):Calls prog 221 #[jA op,.string arg] w (MadeT (tstT op arg) w):=by
 have d:Hid (Calls prog 221 #[jA op,.string arg] w λe w'=>e=jC (.tuple #[.func (.func 246) #[] #[.pointer w.heap.size,.pointer (w.heap.size+1:)],jA 0])/\w'=(w.alloc (.cells #[jA op] 3)).alloc (.cells #[.string arg] 9)):=by
  have i:decide ((200:Int)<(arg.size:Int))=false:=by simp;omega
  unfold Hid
  rcases b with rfl|rfl|rfl|rfl
  all_goals
   go_in
   go_wp2
   go_ret2
   exact⟨rfl,rfl⟩
 refine d.out.mono λe w' h=>?_
 obtain⟨rfl,rfl⟩:=h;have hb:w ((w.alloc (.cells #[jA op] 3)).alloc (.cells #[.string arg] 9)):=WaL.alloc (by simp) _
 have c1:((w.alloc (.cells #[jA op] 3)).alloc (.cells #[.string arg] 9)).cell? w.heap.size=some (jA op):=
  Qo _ _ 0 _ _ _ ((Qs _ _ _ (by simp)).trans (Qv w _))
 have c2:((w.alloc (.cells #[jA op] 3)).alloc (.cells #[.string arg] 9)).cell? (w.heap.size+1:)=some (.string arg):=by
  have:=Qv (w.alloc (.cells #[jA op] 3)) (.cells #[.string arg] 9);rw[Qp]at this;exact Qo _ _ 0 _ _ _ this
 exact⟨_,_,rfl,⟨_,_,rfl,λ_ _=>rfl,λW c hl x f=>zmC op b arg x f _ _ W hl (za0 (c.keep _ (Qd _) (QT _ _ c1)) 0 c1) (za0 (c.keep _ (Zd _) (QT _ _ c2)) 0 c2)⟩,hb⟩
theorem zqy(a:arg.data.toList=[]):Calls prog 221 #[jA 12,.string arg] w (MadeT (λ_=>true) w):=by
 have hb:w ((w.alloc (.cells #[jA 12] 3)).alloc (.cells #[.string arg] 9)):=WaL.alloc (by simp) _;have q:arg.toList.isEmpty=true:=by rw[Xc,a];rfl
 have b:(arg.toList==[])=true:=by rw[Xc,a];rfl
 go_in
 go_wp2
 go_ret2
 exact⟨245,#[],rfl,⟨_,_,rfl,λ_ _=>rfl,λW _ _ x _=>zwu x W⟩,hb⟩
theorem zvv(op:Int)(h1:1<=op)(h2:op<=12)(b:LibOk w)(d:arg.size<=1048576)(a:argC op arg=0):Calls prog 221 #[jA op,.string arg] w (MadeT (tstO op arg) w):=by
 unfold argC at a
 by_cases c1:op=1
 ·subst c1
  rw[Qj rfl]at a;exact(zrh arg w d a).mono λe w' h=>h.same λv=>by unfold tstO;rw[Qj rfl]
 rw[Qf c1]at a
 by_cases c2:op=2
 ·subst c2
  rw[Qj rfl]at a;exact(zrc arg w b d (by exact_mod_cast a)).mono λe w' h=>h.same λv=>by unfold tstO;rw[Qf c1,Qj rfl]
 rw[Qf c2]at a
 by_cases c3:op=7\/op=8\/op=9
 ·rw[Qj c3]at a
  have c:(numL 10 9 arg.data.toList).isSome=true:=by
   by_cases c:(numL 10 9 arg.data.toList).isSome=true
   ·exact c
   ·rw[Qf c]at a;exact absurd a (by decide)
  exact(ztA arg w op c3 d c).mono λe w' h=>h.same λv=>by unfold tstO;rw[Qf c1,Qf c2,Qj c3]
 rw[Qf c3]at a
 by_cases c4:op=10
 ·subst c4
  rw[Qj rfl]at a;exact(zrK arg w b d a).mono λe w' h=>h.same λv=>by unfold tstO;rw[Qf c1,Qf c2,Qf c3,Qj rfl]
 rw[Qf c4]at a
 by_cases c5:op=11
 ·subst c5
  rw[Qj rfl]at a;exact(zt3 arg w b d a).mono λe w' h=>h.same λv=>by unfold tstO;rw[Qf c1,Qf c2,Qf c3,Qf c4,Qj rfl]
 rw[Qf c5]at a
 by_cases i:op=12
 ·subst i
  rw[Qj rfl]at a
  have f:arg.data.toList=[]:=by
   by_cases f:arg.data.toList=[]
   ·exact f
   ·rw[Qf f]at a;exact absurd a (by decide)
  exact(zqy arg w f).mono λe w' h=>h.same λv=>by unfold tstO;rw[Qf c1,Qf c2,Qf c3,Qf c4,Qf c5,Qj rfl]
 rw[Qf i]at a
 have g:arg.size<=200:=by
  by_cases c:200<arg.size
  ·rw[Qj c]at a;exact absurd a (by decide)
  ·omega
 exact(ztV arg w op (by omega) b g).mono λe w' h=>h.same λv=>by unfold tstO;rw[Qf c1,Qf c2,Qf c3,Qf c4,Qf c5,Qf i]
end
theorem zlC(w:World):(callFunc 287 #[]).run prog w=.ok (.value (.tuple #[])) w:=run_call_mark0 func287 (by kernel_rfl) (by kernel_rfl) (by kernel_rfl) .disable (by kernel_rfl) w
theorem zoX(w:World):(callFunc 289 #[]).run prog w=.ok (.value (.tuple #[])) w:=run_call_mark0 func289 (by kernel_rfl) (by kernel_rfl) (by kernel_rfl) .enable (by kernel_rfl) w
theorem ztC(a:Addr)(w:World):(callFunc 290 #[.pointer (some a)]).run prog w=.ok (.value (.tuple #[])) w:=run_call_marked func290 (by kernel_rfl) (by kernel_rfl) (by kernel_rfl) .acquire (by kernel_rfl) a w
theorem ztr(a:Addr)(w:World):(callFunc 292 #[.pointer (some a)]).run prog w=.ok (.value (.tuple #[])) w:=run_call_marked func292 (by kernel_rfl) (by kernel_rfl) (by kernel_rfl) .releaseMerge (by kernel_rfl) a w
theorem zja(a:Addr)(x:Value)(u:FrameMode)(w:World)(g:w.cell? a=some x)(h:w.frozen? a=false):
 CallsD prog 262 #[.pointer (some a),.bool true] u w λe f w'=>f=u/\(e=jC (.tuple #[])/\w'=w.drew.setCell a (.int .u32 1)):=by
 have b:w.drew.cell? a=some x:=by go_simp
 have c:w.drew.frozen? a=false:=by go_simp
 have d:=run_call_store (P:=prog) func279 (by kernel_rfl) (by kernel_rfl) (by kernel_rfl) (by kernel_rfl) (k:=.u32) (y:=1) b c
 go_enter_d func262,ntmps262
 go_wp2
 go_region_calls
 all_goals (go_end0;exact⟨rfl,rfl⟩)
theorem zi2(a:Addr)(u:FrameMode)(w:World)(c:w.cell? a=some (.int .i32 1))(g:w.frozen? a=false):
 CallsD prog 261 #[.pointer (some a)] u w λe f w'=>f=u/\(e=jC (.tuple #[])/\w'=w.setCell a (.int .i32 0)):=by
 have h:=zlC;have i:=zoX;have j:=ztr;have b:=run_call_add (P:=prog) func293 (by kernel_rfl) (by kernel_rfl) (by kernel_rfl) .i32 (by kernel_rfl) (y:=-1) (s:=0) c g (by simp[go_sem];rfl);have d:=run_convert_to_unsafe (P:=prog) (src:=362) (dst:=308) underlying362 underlying308 (by kernel_rfl) c
 go_enter_d func261,ntmps261
 go_wp2
 go_end0
 go_wp2
 go_end0
 exact⟨rfl,rfl⟩
theorem zr5(a:Addr)(w:World)(d:w.cell? a=some (.int .i32 0))(g:w.frozen? a=false):
 Calls prog 260 #[.pointer (some a)] w λe w'=>e=jC (.tuple #[])/\w'=w.setCell a (.int .i32 1):=by
 have h:=zlC;have i:=zoX;have j:=ztC;have c:=run_call_cas_hit (P:=prog) func288 (by kernel_rfl) (by kernel_rfl) (by kernel_rfl) .i32 (by kernel_rfl) (y:=1) d g;have b:(w.setCell a (.int .i32 1)).cell? a=some (.int .i32 1):=Zx w a _ d;have f:=run_convert_to_unsafe (P:=prog) (src:=362) (dst:=308) underlying362 underlying308 (by kernel_rfl) b
 go_in
 go_wp2
 first|go_end0|(simp only[Exit.inBlock,Exit.then];refine QD (results_none rfl _ _ _) rfl ?_)|refine QD (results_none rfl _ _ _) rfl ?_
 go_wp2
 go_end0
 exact⟨rfl,rfl⟩
def Ran(b a:Nat)(Q:World->Prop)(e:Ending)(w':World):Prop:=
 e=jC (.tuple #[])/\w'.cell? ⟨b,a,none⟩=some (.int .u32 0)/\w'.frozen? ⟨b,a,none⟩=false/\w'.cell? ⟨b,a+1,none⟩=some (.int .i32 1)/\w'.frozen? ⟨b,a+1,none⟩=false/\Q w'
def Once(b a:Nat)(Q:World->Prop)(e:Ending)(w':World):Prop:=
 e=jC (.tuple #[])/\∃W,Q W/\w'=(W.drew.setCell ⟨b,a,none⟩ (.int .u32 1)).setCell ⟨b,a+1,none⟩ (.int .i32 0)
theorem zur(b c:Nat)(l:Addr)(Q:World->Prop)(w:World)
 (g:w.cell? ⟨b,c,none⟩=some (.int .u32 0)) (h1:w.cell? ⟨b,c+1,none⟩=some (.int .i32 0))
 (_:w.frozen? ⟨b,c,none⟩=false) (o:w.frozen? ⟨b,c+1,none⟩=false)
 (k:Calls prog 220 #[.pointer (some l)] (w.setCell ⟨b,c+1,none⟩ (.int .i32 1)) (Ran b c Q)):
 Calls prog 239 #[.pointer (some ⟨b,c,none⟩),.func (.func 220) #[] #[.pointer (some l)]] w (Once b c Q):=by
 have hl:=run_call_load (P:=prog) func259 (by kernel_rfl) (by kernel_rfl) (by kernel_rfl) .u32 (by kernel_rfl) (w:=w.setCell ⟨b,c+1,none⟩ (.int .i32 1)) (a:=⟨b,c,none⟩) (x:=0) ((QQ _ ⟨b,c+1,none⟩ ⟨b,c,none⟩ _ (by simp)).trans g);have j:∀(x:Bool) (w:World),(Op.unary .not (.bool x)).run prog w=.ok (.bool (!x)) w:=λ_ _=>rfl
 have i:=hIx k;clear k
 go_enter_defers func239,ntmps239
 go_wp2_with (first|(go_at_call 260;refine(zr5 ⟨b,c+1,none⟩ _ (by go_simp) (by go_simp)).mono ?_;rintro e w' ⟨rfl,rfl⟩)|(go_at_call 238;go_in)|(go_at_call 220;apply Hid.out));refine WhM i ?_;rintro e v ⟨rfl,t,s,u,q,h⟩;have m:=hIx h;clear h hl g h1 o i
 go_wp2
 refine leaves_cons (f:=262) (args:=#[.pointer (some ⟨b,c,none⟩),.bool true]) (by simp) (by simp[go_sem]) ?_;refine(zja ⟨b,c,none⟩ (.int .u32 0) .returning _ t s).mono ?_;rintro e r d ⟨rfl,rfl,rfl⟩;refine leaves_cons (f:=261) (args:=#[.pointer (some ⟨b,c+1,none⟩)]) (by simp[settle]) (by simp[go_sem]) ?_;refine(zi2 ⟨b,c+1,none⟩ _ _ ?_ (by simp[q])).mono ?_
 ·refine(QQ _ ⟨b,c,none⟩ ⟨b,c+1,none⟩ _ (by simp)).trans ?_
  rw[World.cell?_drew];exact u
 rintro e r d ⟨rfl,rfl,rfl⟩;simp[Leaves,settle,results,results239];exact⟨rfl,_,m.out,rfl⟩
theorem zvd(b a:Nat)(c:Addr)(Q:World->Prop)(w:World)
 (d:w.cell? ⟨b,a,none⟩=some (.int .u32 0)) (h1:w.cell? ⟨b,a+1,none⟩=some (.int .i32 0))
 (k:w.frozen? ⟨b,a,none⟩=false) (l:w.frozen? ⟨b,a+1,none⟩=false)
 (i:Calls prog 220 #[.pointer (some c)] (w.setCell ⟨b,a+1,none⟩ (.int .i32 1)) (Ran b a Q)):
 Calls prog 219 #[.pointer (some ⟨b,a,none⟩),.func (.func 220) #[] #[.pointer (some c)]] w (Once b a Q):=by
 have hl:=run_call_load (P:=prog) func259 (by kernel_rfl) (by kernel_rfl) (by kernel_rfl) .u32 (by kernel_rfl) d;have g:∀(x:Bool) (w:World),(Op.unary .not (.bool x)).run prog w=.ok (.bool (!x)) w:=λ_ _=>rfl
 have m:=hIx (zur b a c Q w d h1 k l i);clear i
 go_in
 go_wp2_with (first|(go_at_call 239;apply Hid.out)|(go_at_call 238;go_in));refine WhM m ?_;rintro e o ⟨rfl,W,f,h⟩;have j:=hIx f;have n:=hIx h;clear f h
 go_wp2
 go_end0
 exact⟨rfl,W,j.out,n.out⟩
theorem zw5(a:Addr)(d:Int)(c:¬d=0)(h:Value)(w:World)(g:w.cell? a=some (.int .u32 d)):
 Calls prog 219 #[.pointer (some a),h] w λe w'=>e=jC (.tuple #[])/\w'=w:=by
 have hl:=run_call_load (P:=prog) func259 (by kernel_rfl) (by kernel_rfl) (by kernel_rfl) .u32 (by kernel_rfl) g;have b:∀(x:Bool) (w:World),(Op.unary .not (.bool x)).run prog w=.ok (.bool (!x)) w:=λ_ _=>rfl
 have f:(d != 0)=true:=by simp[c]
 go_in
 go_wp2
 go_end0
 exact⟨rfl,rfl⟩
structure zcr where
 id:Int
 ph:Int
 vs:Value
 ps:Value
 nt:Bool
 op:Int
 arg:ByteArray
 av:Value
 ch:Bool
def RBox(g:Nat)(r:zcr)(d m:Int)(t:Value)(w:World):Prop:=
 w.heap[g]? = some (.cells #[jA r.id,jA r.ph,r.vs,r.ps,.bool r.nt,jA r.op,.string r.arg,r.av,.bool r.ch,.int .u32 d,.int .i32 m,.int .u32 0,t] 226 (0,0))
section
variable {g:Nat} {r:zcr} {d m:Int} {t:Value} {w w':World}
theorem RBox.keep(h:RBox g r d m t w)(a:w'.heap[g]? = w.heap[g]?):RBox g r d m t w':=a.trans h
theorem RBox.lt(h:RBox g r d m t w):g<w.heap.size:=zaG h
theorem RBox.once(h:RBox g r d m t w):(w.cell? ⟨g,9,none⟩=some (.int .u32 d)/\w.cell? ⟨g,10,none⟩=some (.int .i32 m))/\w.frozen? ⟨g,9,none⟩=false/\w.frozen? ⟨g,10,none⟩=false:=
 ⟨⟨Qo w g 9 _ _ _ h,Qo w g 10 _ _ _ h⟩,Zc w g 9 _ _ h,Zc w g 10 _ _ h⟩
theorem RBox.test(h:RBox g r d m t w):w.cell? ⟨g,12,none⟩=some t/\w.frozen? ⟨g,12,none⟩=false:=⟨Qo w g 12 _ _ _ h,Zc w g 12 _ _ h⟩
theorem RBox.rule(h:RBox g r d m t w):w.cell? ⟨g,3,none⟩=some r.ps/\w.cell? ⟨g,4,none⟩=some (.bool r.nt)/\w.cell? ⟨g,5,none⟩=some (jA r.op)/\w.cell? ⟨g,6,none⟩=some (.string r.arg):=
 ⟨Qo w g 3 _ _ _ h,Qo w g 4 _ _ _ h,Qo w g 5 _ _ _ h,Qo w g 6 _ _ _ h⟩
theorem RBox.setD(h:RBox g r d m t w)(k:Int):RBox g r k m t (w.setCell ⟨g,9,none⟩ (.int .u32 k)):=QW w g 9 _ _ _ h
theorem RBox.setM(h:RBox g r d m t w)(k:Int):RBox g r d k t (w.setCell ⟨g,10,none⟩ (.int .i32 k)):=QW w g 10 _ _ _ h
theorem RBox.setT(h:RBox g r d m t w)(u:Value):RBox g r d m u (w.setCell ⟨g,12,none⟩ u):=QW w g 12 _ _ _ h
end
theorem zuV{w:World}{a:Addr}{x:Value}(f:Fn)(p c:Array Value)(h:w.cell? a=some x)(b:w.frozen? a=false):(store a (.func f p c)).run prog w=.ok () (w.setCell a (.func f p c)):=
 (run_store prog w a _ .plain rfl).trans (by simp[h,b])
def zpm(g:Nat)(f:ByteArray->Bool)(w:World)(w':World):Prop:=
 ∃t W,TestAt w.heap.size f t W/\w W/\w'=W.setCell ⟨g,12,none⟩ t
theorem zvN(g t:Nat)(r:zcr)(d m:Int)(w:World)(h:RBox g r d m .nilFunc w)(B:w.cell? t=some (.pointer g))(l:LibOk w)(h1:1<=r.op)(h2:r.op<=12)(H:r.arg.size<=1048576)(z:argC r.op r.arg=0):
 Calls prog 220 #[.pointer t] w λe w'=>e=jC (.tuple #[])/\zpm g (tstO r.op r.arg) w w':=by
 have y:Hid (∀W,w W->Calls prog 221 #[jA r.op,.string r.arg] W (MadeT (tstO r.op r.arg) W)):=λW hb=>zvv r.arg W r.op h1 h2 (l.below hb) H z
 generalize tstO r.op r.arg=f at *;obtain⟨J,r1,r2,r3⟩:=h.rule;obtain⟨A,G⟩:=h.test;have I:=h.lt;clear z
 go_in
 have x:Hid (Calls prog 221 #[jA r.op,.string r.arg] w.drew (MadeT f w.drew)):=y.out _ (Qi _ _).drew;have j:Hid (∀W b a,TestAt w.heap.size f (.func (.func b) #[] a) W->w W->zpm g f w (W.setCell ⟨g,12,none⟩ (.func (.func b) #[] a))):=λW b a s hb=>⟨_,W,s,hb,rfl⟩
 clear y
 go_region_held3 (λw'=>w'.cell? t=some (.pointer g)/\w'.cell? ⟨g,5,none⟩=some (jA r.op)/\w'.cell? ⟨g,6,none⟩=some (.string r.arg))
  (first|exact⟨B,r2,r3⟩|exact⟨k,u,v⟩|exact⟨o,q,n⟩|go_keep|fail "keep")
  (first|(go_at_call 221;(with_reducible refine(x.out).mono ?_);rintro e w2 ⟨b,a,rfl,s,i⟩;have c:w w2:=undrew i;have k:=zaa c B;have u:=zaa c r2;have v:=zaa c r3;have D:=zaa c A;have C:=zaw c A G;have E:=zuV (.func b) #[] a D C;have o:=(QQ w2 ⟨g,12,none⟩ ⟨t,0,none⟩ (.func (.func b) #[] a) (by simp)).trans k;have q:=(QQ w2 ⟨g,12,none⟩ ⟨g,5,none⟩ (.func (.func b) #[] a) (by simp)).trans u;have n:=(QQ w2 ⟨g,12,none⟩ ⟨g,6,none⟩ (.func (.func b) #[] a) (by simp)).trans v;have F:=hIx (j.out w2 b a s c);clear s i)|fail "arm")
 all_goals
  clear k u v D C E o q n
  go_end0
  exact⟨rfl,F.out⟩
structure Oth(B g:Nat)(w w':World):Prop where
 below:Below B w w'
 keep:∀k,k<w.heap.size->k≠g->w'.heap[k]? = w.heap[k]?
theorem Oth.of{B g:Nat}{w w':World}(hb:w w')(a:B<=w.heap.size):Oth B g w w':=⟨hb.mono a,λk h _=>hb.block k h⟩
theorem Oth.set{B g:Nat}(b:B<=g)(w:World)(j:Nat)(v:Value):Oth B g w (w.setCell ⟨g,j,none⟩ v):=
 ⟨(Qi _ _).setCell (p:=⟨g,j,none⟩) b v,λk _ a=>Qm w ⟨g,j,none⟩ v k a⟩
theorem Oth.trans{B g:Nat}{w W V:World}(h:Oth B g w W)(k:Oth B g W V):Oth B g w V:=
 ⟨h.below.trans k.below,λj b a=>(k.keep j (Qw b h.below.size) a).trans (h.keep j b a)⟩
theorem Oth.drew{B g:Nat}{w:World}(a:B<=w.heap.size):Oth B g w w.drew:=Oth.of (Qi _ _).drew a
def Ready(F:Nat->Prop)(g:Nat)(r:zcr)(f:ByteArray->Bool)(w:World):Prop:=∃t a b,RBox g r 1 0 t w/\TestAt b f t a/\Since b a w/\∀k,F k->¬(b<=k/\k<a.heap.size)
section
variable {F:Nat->Prop} {g:Nat} {r:zcr} {f:ByteArray->Bool} {w W:World}
theorem Ready.box(h:Ready F g r f w):∃t,RBox g r 1 0 t w:=by obtain⟨t,_,_,h,_⟩:=h;exact⟨t,h⟩
theorem Ready.lt(h:Ready F g r f w):g<w.heap.size:=by obtain⟨t,h⟩:=h.box;exact h.lt
theorem Ready.keep(h:Ready F g r f w)(n:w.heap.size<=W.heap.size)(l:W.heap[g]? = w.heap[g]?)(d:∀k,k<w.heap.size->¬F k->W.heap[k]? = w.heap[k]?):Ready F g r f W:=by
 obtain⟨t,j,m,i,e,a,b⟩:=h;exact⟨t,j,m,i.keep l,e,⟨Ql a.size n,λk h1 h2=>(d k (Qw h2 a.size) λc=>b k c ⟨h1,h2⟩).trans (a.keep k h1 h2)⟩,b⟩
theorem Ready.next(h:Ready F g r f w)(hb:w W):Ready F g r f W:=h.keep hb.size (hb.block g h.lt) λk a _=>hb.block k a
theorem Ready.more{a:Nat->Prop}(h:Ready F g r f w)(d:∀k,a k->F k\/w.heap.size<=k):Ready a g r f w:=by
 obtain⟨t,j,l,i,e,b,m⟩:=h;refine⟨t,j,l,i,e,b,λk c hb=>?_⟩
 rcases d k c with h1|h1
 ·exact m k h1 hb
 ·have:=b.size;omega
end
def zhk(B:Nat)(F:Nat->Prop)(g:Nat)(r:zcr)(f:ByteArray->Bool)(s:ByteArray)(w:World)(e:Ending)(w':World):Prop:=
 e=jC (.bool (f s))/\Ready F g r f w'/\Oth B g w w'
theorem zri{B g:Nat}{F:Nat->Prop}{r:zcr}{f:ByteArray->Bool}{d W:World}(j:B<=g)(v:∀k,F k->k<d.heap.size)(h:RBox g r 0 0 .nilFunc d)(o:zpm g f (d.setCell ⟨g,10,none⟩ (.int .i32 1)) W):
 ∃b a,RBox g r 1 0 (.func (.func b) #[] a) ((W.drew.setCell ⟨g,9,none⟩ (.int .u32 1)).setCell ⟨g,10,none⟩ (.int .i32 0))/\TestAt d.heap.size f (.func (.func b) #[] a) ((W.drew.setCell ⟨g,9,none⟩ (.int .u32 1)).setCell ⟨g,10,none⟩ (.int .i32 0))/\Ready F g r f ((W.drew.setCell ⟨g,9,none⟩ (.int .u32 1)).setCell ⟨g,10,none⟩ (.int .i32 0))/\Oth B g d ((W.drew.setCell ⟨g,9,none⟩ (.int .u32 1)).setCell ⟨g,10,none⟩ (.int .i32 0)):=by
 obtain⟨t,c,⟨b,a,rfl,u⟩,hb,rfl⟩:=o;have q:=h.lt;have i:RBox g r 0 1 .nilFunc c:=(h.setM 1).keep (hb.block g (by rw[ZT];exact q));have x:=i.lt;have w:Oth B g d c:=(Oth.set j d 10 (.int .i32 1)).trans (Oth.of hb (by rw[ZT];omega))
 have l:Oth B g c (((c.setCell ⟨g,12,none⟩ (.func (.func b) #[] a)).drew.setCell ⟨g,9,none⟩ (.int .u32 1)).setCell ⟨g,10,none⟩ (.int .i32 0)):=
  (((Oth.set j c 12 _).trans (Oth.drew (by rw[ZT];omega))).trans (Oth.set j _ 9 _)).trans (Oth.set j _ 10 _)
 have m:RBox g r 1 0 (.func (.func b) #[] a) (((c.setCell ⟨g,12,none⟩ (.func (.func b) #[] a)).drew.setCell ⟨g,9,none⟩ (.int .u32 1)).setCell ⟨g,10,none⟩ (.int .i32 0)):=by
  have h1:RBox g r 0 1 (.func (.func b) #[] a) (c.setCell ⟨g,12,none⟩ (.func (.func b) #[] a)).drew:=i.setT _;exact(h1.setD 1).setM 0
 have e:TestAt (d.setCell ⟨g,10,none⟩ (.int .i32 1)).heap.size f (.func (.func b) #[] a) c:=⟨b,a,rfl,u⟩
 rw[ZT]at e;have n:Since d.heap.size c (((c.setCell ⟨g,12,none⟩ (.func (.func b) #[] a)).drew.setCell ⟨g,9,none⟩ (.int .u32 1)).setCell ⟨g,10,none⟩ (.int .i32 0)):=⟨l.below.size,λk h1 h2=>l.keep k h2 (by omega)⟩
 exact⟨b,a,m,e.since n,⟨_,c,_,m,e,n,λk s hb=>by have:=v k s;omega⟩,w.trans l⟩
theorem zn6(B:Nat)(F:Nat->Prop)(g:Nat)(r:zcr)(s:ByteArray)(w:World)(hB:B<=g)(hF:∀k,F k->k<w.heap.size)(h:RBox g r 0 0 .nilFunc w)(Y:∀W,Oth B g w W->LibOk W)(h1:1<=r.op)(h2:r.op<=12)(ha:r.arg.size<=1048576)(h0:argC r.op r.arg=0)(hs:s.size<=8192):
 Calls prog 207 #[.pointer g,.string s] w (zhk B F g r (tstO r.op r.arg) s w):=by
 have hg:=h.lt;obtain⟨j,u⟩:∃j,w.alloc (.cells #[.pointer g] 213)=j:=⟨_,rfl⟩
 have q:w j:=by rw[<-u];exact WaL
 have o0:Oth B g w j:=Oth.of q (by omega);have l:RBox g r 0 0 .nilFunc j:=h.keep (q.block g hg);have x:j.heap[w.heap.size]? = some (.cells #[.pointer g] 213 (0,0)):=by rw[<-u];exact Qv w _
 have N:(j.setCell ⟨g,10,none⟩ (.int .i32 1)).cell? w.heap.size=some (.pointer g):=
  Qo _ _ 0 _ _ _ ((Qm j ⟨g,10,none⟩ (.int .i32 1) w.heap.size (by show w.heap.size≠g;omega)).trans x)
 have z:=zvN g w.heap.size r 0 1 (j.setCell ⟨g,10,none⟩ (.int .i32 1)) (l.setM 1) N (Y _ (o0.trans (Oth.set hB j 10 _))) h1 h2 ha h0;generalize tstO r.op r.arg=f at *;obtain⟨⟨c9,E⟩,f9,O⟩:=l.once
 have y:Calls prog 220 #[.pointer w.heap.size] (j.setCell ⟨g,10,none⟩ (.int .i32 1)) (Ran g 9 (zpm g f (j.setCell ⟨g,10,none⟩ (.int .i32 1)))):=z.mono λe w' ⟨H,D⟩=>by
  obtain⟨t,Wm,hT,hb,S⟩:=D;have h3:RBox g r 0 1 .nilFunc Wm:=(l.setM 1).keep (hb.block g (by rw[ZT];exact l.lt));have T:RBox g r 0 1 t w':=by rw[S];exact h3.setT t
  obtain⟨⟨a,b⟩,c,d⟩:=T.once;exact⟨H,a,c,b,d,t,Wm,hT,hb,S⟩
 have K:=hIx (zvd g 9 ⟨w.heap.size,0,none⟩ (zpm g f (j.setCell ⟨g,10,none⟩ (.int .i32 1))) j c9 E f9 O y);have I:Hid (∀W,zpm g f (j.setCell ⟨g,10,none⟩ (.int .i32 1)) W->∃v n,RBox g r 1 0 (.func (.func v) #[] n) ((W.drew.setCell ⟨g,9,none⟩ (.int .u32 1)).setCell ⟨g,10,none⟩ (.int .i32 0))/\TestAt j.heap.size f (.func (.func v) #[] n) ((W.drew.setCell ⟨g,9,none⟩ (.int .u32 1)).setCell ⟨g,10,none⟩ (.int .i32 0))/\Ready F g r f ((W.drew.setCell ⟨g,9,none⟩ (.int .u32 1)).setCell ⟨g,10,none⟩ (.int .i32 0))/\Oth B g j ((W.drew.setCell ⟨g,9,none⟩ (.int .u32 1)).setCell ⟨g,10,none⟩ (.int .i32 0))):=λW D=>zri hB (λk hk=>Qw (hF k hk) q.size) l D
 have C:=hIx x;have HL:=hIx Y;have HO:=hIx o0;have hz:w.heap.size<j.heap.size:=zaG x;have h4:=hIx u;clear z y x N c9 E f9 O l q Y o0 h0 u
 go_in
 go_upto_region 1 with fail
 rw[h4.out];have p0:=Qo j w.heap.size 0 _ _ _ C.out;simp only[Z1,Z5]at p0;have h6:∀(fn:Fn) (first cap:Array Value) (w:World),(Instr.makeFunc fn first cap).run prog w=.ok (.func fn first cap) w:=λ_ _ _ _=>rfl
 go_wp2_with (go_at_call 219;apply Hid.out);refine WhM K ?_;rintro e L ⟨rfl,W,D,G⟩;obtain⟨v,n,o,P,i,Q⟩:=I.out W D;rw[<-G]at o P i Q;have X:=HO.out.trans Q;have A:=HL.out L X;have p1:L.cell? w.heap.size=some (.pointer g):=Qo L w.heap.size 0 _ _ _ ((Q.keep _ hz (by omega)).trans C.out);obtain⟨q1,_⟩:=o.test;obtain⟨h5,V,e',eg,m⟩:=P;injection e' with H _ S
 injection H with H
 subst H;subst S
 have hc:=m L (Since.refl _ _) A s hs;have U:=hIx i;have Z:=hIx X;have h7:g<L.heap.size:=o.lt;clear i m D G o Q X K I C HL HO p0;go_wp2_with (go_at_fn v;refine hc.mono ?_;rintro e w2 ⟨rfl,J⟩);go_ret;exact⟨rfl,U.out.next J,Z.out.trans (Oth.of J (by omega))⟩
theorem znQ(B:Nat)(F:Nat->Prop)(g:Nat)(r:zcr)(f:ByteArray->Bool)(s:ByteArray)(w:World)(T:B<=g)(h:Ready F g r f w)(i:LibOk w)(J:s.size<=8192):
 Calls prog 207 #[.pointer g,.string s] w (zhk B F g r f s w):=by
 have O:g<w.heap.size:=h.lt;obtain⟨j,d⟩:∃j,w.alloc (.cells #[.pointer g] 213)=j:=⟨_,rfl⟩
 have c:w j:=by rw[<-d];exact WaL
 have l:j.heap[w.heap.size]? = some (.cells #[.pointer g] 213 (0,0)):=by rw[<-d];exact Qv w _
 have o:=h.next c;have a:=o;obtain⟨t,I,P,q,n,k,_⟩:=o;have H:=n.since k;obtain⟨x,D,rfl,S,b⟩:=H;clear n k;obtain⟨⟨A,_⟩,_⟩:=q.once;obtain⟨Q,_⟩:=q.test;have L:=b j (Since.refl _ _) (i.below c) s J;have z:=hIx (zw5 ⟨g,9,none⟩ 1 (by decide) (.func (.func 220) #[] #[.pointer w.heap.size]) j A);have y:=hIx a;have u:=hIx c;have K:=Qo j w.heap.size 0 _ _ _ l;simp only[Z1,Z5]at K;have v:=hIx d;have G:∀(C:Fn) (first cap:Array Value) (w:World),(Instr.makeFunc C first cap).run prog w=.ok (.func C first cap) w:=λ_ _ _ _=>rfl
 have E:g<j.heap.size:=q.lt;clear a b q c l h d A i
 go_in
 go_upto_region 1 with fail
 rw[v.out];go_wp2_with (go_at_call 219;apply Hid.out);refine WhM z ?_;rintro e N ⟨rfl,rfl⟩;go_wp2_with (go_at_fn x;refine L.mono ?_;rintro e w2 ⟨rfl,m⟩);go_ret;exact⟨rfl,y.out.next m,(Oth.of u.out (by omega)).trans (Oth.of m (by omega))⟩
theorem znK(s:ByteArray)(w:World)(a:LibOk w)(d:s.size<=4194304):Calls prog 222 #[.string s] w λe w'=>e=jC (.string (bs (Lib.cut s.data.toList [63]).1))/\w w':=by
 obtain⟨m,b⟩:=a;have c:=hIx (strings_Cut s ⟨#[63]⟩ m w (by omega) b)
 go_in
 go_wp2_with fail;refine c.out.mono ?_;rintro e w2 ⟨rfl,nq,rfl⟩;go_wp2;go_ret;exact⟨rfl,below_drewN (Qi _ _) nq⟩
theorem zmi(s:ByteArray)(w:World)(a:LibOk w)(d:s.size<=4194304):Calls prog 155 #[.string s] w λe w'=>e=jC (.string (bs (Lib.cut s.data.toList [63]).2.1))/\w w':=by
 obtain⟨m,b⟩:=a;have c:=hIx (strings_Cut s ⟨#[63]⟩ m w (by omega) b)
 go_in
 go_wp2_with fail;refine c.out.mono ?_;rintro e w2 ⟨rfl,nq,rfl⟩;go_wp2;go_ret;exact⟨rfl,below_drewN (Qi _ _) nq⟩
section
open Go.Sort
theorem zoy(n:Int)(w:World)(a:-9223372036854775808<=n)(h1:n<=9223372036854775807)(h:TabOk w):
 Calls prog 31 #[jA n] w λe w'=>e=jC (.string (bs (Lib.itoa n)))/\w w':=
 (strconv_Itoa n a h1 w (h w (Qi _ _))).mono λe w' ⟨h1,b,os,h2⟩=>by
  subst h2;refine⟨?_,zhR w b os⟩;rw[h1]
  rfl
def oneV(x:ByteArray):List Pair:=[(ByteArray.mk #[],x)]
def valP(K:Int)(a m t b:ByteArray)(e:List zas)(f:Nat)(g:Int)(c d:List Pair):List Pair:=
 if K=1 then oneV m else if K=2 then oneV t else if K=3 then oneV (bs (Lib.cut t.data.toList [63]).1)else if K=4 then oneV (bs (Lib.cut t.data.toList [63]).2.1)else if K=5 then oneV b
 else if K=6 then zfa c a else if K=7 then zgj c else if K=8 then zfa (zbf e) a else if K=9 then zgj (zbf e)else if K=10 then zfa d a
 else if K=11 then oneV (bs (netT f 32))else if K=12 then oneV (bs (Lib.itoa g))else []
theorem zyv(a:Nat):zqh a 32=true:=by
 unfold zqh;have:topN 32=0:=by decide
 rw[this,Nat.pow_zero,Nat.mod_one]
 decide
structure ValIn(m t b:ByteArray)(fs:List zas)(A:Option Addr)(list:List Pair)(Al:Option Addr)(cook:List Pair)(Ac:Option Addr)(w:World):Prop where
 f:Sl w w.heap.size 2 A fs.length (fs.flatMap zaJ)
 l:Sl w w.heap.size 2 Al list.length (list.flatMap za6)
 c:Sl w w.heap.size 2 Ac cook.length (cook.flatMap za6)
 lib:LibOk w
 tab:TabOk w
theorem ValIn.below{m t b:ByteArray}{i:List zas}{A:Option Addr}{d:List Pair}{e:Option Addr}{a:List Pair}{g:Option Addr}{w W:World}(h:ValIn m t b i A d e a g w)(hb:w W):ValIn m t b i A d e a g W:=
 ⟨(h.f.below hb).more hb.size,(h.l.below hb).more hb.size,(h.c.below hb).more hb.size,h.lib.below hb,h.tab.below hb⟩
structure znj(t:ByteArray)(fs:List zas)(list cook:List Pair)(cl:Nat)(sc:Int):Prop where
 zt:t.size<=4194304
 zf:fs.length<=4194304
 each:∀f∈fs,f.1.size<=maxLen
 zl:list.length<=4194304
 zk:cook.length<=4194304
 zc:cl<4294967296
 zs:-9223372036854775808<=sc/\sc<=9223372036854775807
theorem zpq(K M:Int)(a m t b:ByteArray)(o:List zas)(A:Option Addr)(c:Nat)(r:Nat)(C:Int)(g:List Pair)(Al:Option Addr)(c1:Nat)(j:List Pair)(Ac:Option Addr)(c2:Nat)(w:World)
 (hc:ValIn m t b o A g Al j Ac w) (hz:znj t o g j r C):
 Calls prog 208 #[.agg #[jA K,jA M,.string a],.agg #[.string m,.string t,.slice A o.length c,.string b],.int .u32 (r:Int),jA C,.slice Al g.length c1,.slice Ac j.length c2] w (RowA (valP K a m t b o r C g j) w):=by
 obtain⟨i,L⟩:∃i,(w.alloc (.cells #[jA K,jA M,.string a] 62)).alloc (.cells #[.string m,.string t,.slice A o.length c,.string b] 53)=i:=⟨_,rfl⟩
 have D:w i:=by rw[<-L];exact WaL.alloc (by simp) _
 have ha:i.heap[w.heap.size]? = some (.cells #[jA K,jA M,.string a] 62 (0,0)):=by
  rw[<-L];exact(Qs _ _ _ (by simp)).trans (Qv w _)
 have Q:i.heap[w.heap.size+1]? = some (.cells #[.string m,.string t,.slice A o.length c,.string b] 53 (0,0)):=by
  rw[<-L];have:=Qv (w.alloc (.cells #[jA K,jA M,.string a] 62)) (.cells #[.string m,.string t,.slice A o.length c,.string b] 53);rw[Qp]at this;exact this
 have a0:i.cell? w.heap.size=some (jA K):=Qo i _ 0 _ _ _ ha;have a2:i.cell? ⟨w.heap.size,2,none⟩=some (.string a):=Qo i _ 2 _ _ _ ha;have d0:i.cell? (w.heap.size+1:)=some (.string m):=Qo i _ 0 _ _ _ Q;have d1:i.cell? ⟨w.heap.size+1,1,none⟩=some (.string t):=Qo i _ 1 _ _ _ Q;have d2:i.cell? ⟨w.heap.size+1,2,none⟩=some (.slice A o.length c):=Qo i _ 2 _ _ _ Q;have d3:i.cell? ⟨w.heap.size+1,3,none⟩=some (.string b):=Qo i _ 3 _ _ _ Q;have hI:=hc.below D;have hd:=hIx L;have hf:=hIx D;have Y:Hid (∀W,i W->ValIn m t b o A g Al j Ac W):=λW h=>hI.below h
 have HS:Hid (∀W,i W->W.cell? ⟨w.heap.size,2,none⟩=some (.string a)/\W.cell? (w.heap.size+1:)=some (.string m)/\W.cell? ⟨w.heap.size+1,1,none⟩=some (.string t)/\W.cell? ⟨w.heap.size+1,2,none⟩=some (.slice A o.length c)):=λW h=>⟨zaa h a2,zaa h d0,zaa h d1,zaa h d2⟩
 have z:=hIx hz;have S:Hid (i i):=Qi _ _
 have k:Hid (∀(l:List Pair) (v:Value) (W:World) (B:Nat),l=valP K a m t b o r C g j->OwnA W B v l->i.heap.size<=B->i W->RowA (valP K a m t b o r C g j) w (jC v) W):=λl v W B h1 h2 h3 h4=>by
  subst h1;exact⟨v,rfl,h2.low (Ql D.size h3),D.trans (h4.mono D.size)⟩
 have h9:Hid (valP K a m t b o r C g j=_):=rfl;unfold Hid at h9;clear hc hz L D ha Q hI h9
 go_in
 go_upto_region 1 with fail
 rw[hd.out]
 by_cases u:K=1
 ·subst u
  go_wp2_with (go_at_call 211;(with_reducible refine(zdc m _).mono ?_);rintro e w1 ⟨U,rfl,n,d⟩);go_ret;exact k.out _ _ _ _ rfl n (Qd _) d
 by_cases x:K=2
 ·subst x
  clear u;go_wp2_with (go_at_call 211;(with_reducible refine(zdc t _).mono ?_);rintro e w1 ⟨U,rfl,n,d⟩);go_ret;exact k.out _ _ _ _ rfl n (Qd _) d
 by_cases E:K=3
 ·subst E
  clear u x;have q:=hIx (znK t i (Y.out _ S.out).lib z.out.zt);have G:Hid (oneV (bs (Lib.cut t.data.toList [63]).1)=valP 3 a m t b o r C g j):=rfl;generalize bs (Lib.cut t.data.toList [63]).1=P at q G
  go_wp2_with (first
   |(go_at_call 222;(with_reducible refine q.out.mono ?_);rintro e w1 ⟨rfl,d⟩)
   |(go_at_call 211;(with_reducible refine(zdc P _).mono ?_);rintro e w2 ⟨U,rfl,n,s⟩))
  go_ret;exact k.out _ _ _ _ G.out n d.size (d.trans (s.mono d.size))
 by_cases H:K=4
 ·subst H
  clear u x E;have q:=hIx (zmi t i (Y.out _ S.out).lib z.out.zt);have G:Hid (oneV (bs (Lib.cut t.data.toList [63]).2.1)=valP 4 a m t b o r C g j):=rfl;generalize bs (Lib.cut t.data.toList [63]).2.1=P at q G
  go_wp2_with (first
   |(go_at_call 155;(with_reducible refine q.out.mono ?_);rintro e w1 ⟨rfl,d⟩)
   |(go_at_call 211;(with_reducible refine(zdc P _).mono ?_);rintro e w2 ⟨U,rfl,n,s⟩))
  go_ret;exact k.out _ _ _ _ G.out n d.size (d.trans (s.mono d.size))
 by_cases N:K=5
 ·subst N
  clear u x E H;go_wp2_with (go_at_call 211;(with_reducible refine(zdc b _).mono ?_);rintro e w1 ⟨U,rfl,n,d⟩);go_ret;exact k.out _ _ _ _ rfl n (Qd _) d
 by_cases T:K=6
 ·subst T
  clear u x E H N;have q:=hIx (zkp g Al c1 a i (Y.out _ S.out).l z.out.zl);go_wp2_with (go_at_call 223;(with_reducible refine q.out.mono ?_);rintro e w1 ⟨U,rfl,n,d⟩);go_ret;exact k.out _ _ _ _ rfl n (Qd _) d
 by_cases V:K=7
 ·subst V
  clear u x E H N T;have q:=hIx (zoi g Al c1 i (Y.out _ S.out).l z.out.zl);go_wp2_with (go_at_call 224;(with_reducible refine q.out.mono ?_);rintro e w1 ⟨U,rfl,n,d⟩);go_ret;exact k.out _ _ _ _ rfl n (Qd _) d
 by_cases k8:K=8
 ·subst k8
  clear u x E H N T V;have q:Hid (∀W,i W->_):=λW h=>zjp m t o A c W (Y.out W h).f z.out.each z.out.zf
  have J:(zbf o).length<=4194304:=by unfold zbf;rw[Qk];exact z.out.zf
  have h8:=hIx J;clear J;go_wp2_with fail
  go_region_held3 (λw'=>w'.cell? ⟨w.heap.size,2,none⟩=some (.string a)/\w'.cell? (w.heap.size+1:)=some (.string m)/\w'.cell? ⟨w.heap.size+1,1,none⟩=some (.string t)/\w'.cell? ⟨w.heap.size+1,2,none⟩=some (.slice A o.length c))
   (first|exact HS.out _ h5|exact HS.out _ y|exact HS.out _ S.out|go_keep)
   (first
    |(go_at_call 225;(with_reducible refine(q.out _ (S.out.drew)).mono ?_);rintro e w8 ⟨v8,rfl,Z,I⟩;have y:i w8:=zug I;obtain⟨A8,c8,rfl,X⟩:=Z.form)
    |(go_at_call 223;(with_reducible refine(zkp (zbf o) A8 c8 a w8 X h8.out).mono ?_);rintro e w9 ⟨v9,rfl,h6,h7⟩;have h5:i w9:=y.trans (h7.mono y.size)))
  clear Z X;go_wp2;go_ret;exact k.out _ _ _ _ rfl h6 y.size h5
 by_cases k9:K=9
 ·subst k9
  clear u x E H N T V k8;have q:=hIx (zjp m t o A c i (Y.out _ S.out).f z.out.each z.out.zf);have J:(zbf o).length<=4194304:=by unfold zbf;rw[Qk];exact z.out.zf
  have h8:=hIx J;clear J;go_wp2_with (go_at_call 225;(with_reducible refine q.out.mono ?_);rintro e w8 ⟨v8,rfl,Z,I⟩;obtain⟨A8,c8,rfl,X⟩:=Z.form);refine(zoi (zbf o) A8 c8 w8 X h8.out).mono ?_;rintro e w9 ⟨v9,rfl,h6,h7⟩;go_wp2;go_ret;exact k.out _ _ _ _ rfl h6 I.size (I.trans (h7.mono I.size))
 by_cases F:K=10
 ·subst F
  clear u x E H N T V k8 k9;have q:=hIx (zkp j Ac c2 a i (Y.out _ S.out).c z.out.zk);go_wp2_with (go_at_call 223;(with_reducible refine q.out.mono ?_);rintro e w1 ⟨U,rfl,n,d⟩);go_ret;exact k.out _ _ _ _ rfl n (Qd _) d
 by_cases O:K=11
 ·subst O
  clear u x E H N T V k8 k9 F
  have q:Hid (Calls prog 226 #[.agg #[.int .u32 (r:Int),jA 32]] i λe w'=>e=jC (.tuple #[.string (bs (netT r 32)),jA 0])/\i w'):=by
   have h:=zqW r 32 i z.out.zc (Y.out _ S.out).tab;unfold zgz at h;rw[zyv,Qj rfl]at h;exact h
  have G:Hid (oneV (bs (netT r 32))=valP 11 a m t b o r C g j):=rfl;generalize bs (netT r 32)=P at q G
  go_wp2_with (first
   |(go_at_call 226;(with_reducible refine q.out.mono ?_);rintro e w1 ⟨rfl,d⟩)
   |(go_at_call 211;(with_reducible refine(zdc P _).mono ?_);rintro e w2 ⟨U,rfl,n,s⟩))
  go_ret;exact k.out _ _ _ _ G.out n d.size (d.trans (s.mono d.size))
 by_cases h0:K=12
 ·subst h0
  clear u x E H N T V k8 k9 F O;have q:=hIx (zoy C i z.out.zs.1 z.out.zs.2 (Y.out _ S.out).tab);have G:Hid (oneV (bs (Lib.itoa C))=valP 12 a m t b o r C g j):=rfl;generalize bs (Lib.itoa C)=P at q G
  go_wp2_with (first
   |(go_at_call 31;(with_reducible refine q.out.mono ?_);rintro e w1 ⟨rfl,d⟩)
   |(go_at_call 211;(with_reducible refine(zdc P _).mono ?_);rintro e w2 ⟨U,rfl,n,s⟩))
  go_ret;exact k.out _ _ _ _ G.out n d.size (d.trans (s.mono d.size))
 have G:Hid ([]=valP K a m t b o r C g j):=by unfold Hid valP;rw[Qf u,Qf x,Qf E,Qf H,Qf N,Qf T,Qf V,Qf k8,Qf k9,Qf F,Qf O,Qf h0]
 have q1:=Qc.2 u;have q2:=Qc.2 x;have q3:=Qc.2 E;have q4:=Qc.2 H;have q5:=Qc.2 N;have q6:=Qc.2 T;have q7:=Qc.2 V;have q8:=Qc.2 k8;have q9:=Qc.2 k9;have hh:=Qc.2 F;have hg:=Qc.2 O;have he:=Qc.2 h0;clear u x E H N T V k8 k9 F O h0;go_wp2;go_ret;exact k.out [] _ _ _ G.out (OwnA.nil _ _) (Qd _) S.out
end
theorem srcV{wr:World}{B n:Nat}{A:Option Addr}{d:List Value}{k m o:Nat->Value}(h:Sl wr B 3 A n d){j:Nat}(r:j<n)(q:∀j,j<n->d[j*3]? = some (k j)/\d[j*3+1]? = some (m j)/\d[j*3+2]? = some (o j)):
 ∃b a,A=some ⟨b,a,none⟩/\wr.cell? ⟨b,a+j*3,none⟩=some (k j)/\wr.cell? ⟨b,a+j*3+1,none⟩=some (m j)/\wr.cell? ⟨b,a+j*3+2,none⟩=some (o j):=by
 have hl:=h.len;obtain⟨b,a,e,_,s⟩:=h.src (by omega);have f:=q j r
 have c:∀i v,d[i]? = some v->wr.cell? ⟨b,a+i,none⟩=some v:=λi v l=>by
  have g:i<d.length:=(Qy.1 l).1;rw[s i g,<-l,Qe g]
 exact⟨b,a,e,by have:=c _ _ f.1;rw[show a+j*3=a+j*3 from rfl]at this;exact this,by have:=c _ _ f.2.1;rw[<-Zf]at this;exact this,by have:=c _ _ f.2.2;rw[<-Zf]at this;exact this⟩
theorem zrj(g:Nat)(t:Array Value)(H:∀args w,(callFunc g args).run prog w=.ok (.enter g args) w)(A:Option Addr)(n c:Nat)(o:List Value)(x y z:Nat->Value)(p:Nat->Bool)(w:World)
 (h:Sl w w.heap.size 3 A n o) (s:n<=9223372036854775807) (v:∀j,j<n->o[j*3]? = some (x j)/\o[j*3+1]? = some (y j)/\o[j*3+2]? = some (z j))
 (r:∀W j,j<n->w W->Calls prog g (#[.agg #[x j,y j,z j]]++t) W (zaC (p j) W)):
 Calls prog 227 #[.slice A n c,.func (.func g) #[] t] w λe w'=>e=jC (jA (hitI p n))/\w w':=by
 have F:=hIx r;have G:=hIx v;clear r v
 go_in
 go_wp2
 go_loopw [5,8] (λ_ i wr=>∃j:Nat,j<=n/\i=jA j/\w wr/\Hid (∀i,i<j->p i=false)) (λ_ i _=>n-(intOf i).toNat)
 case atStart=>exact⟨0,Qn _,rfl,Qi _ _,λi u=>absurd u (by omega)⟩
 case round=>
  obtain⟨j,I,rfl,hb,a⟩:=hrel
  by_cases d:j<n
  ·obtain⟨b,D,rfl,B,C,E⟩:=srcV (h.below hb) d G.out
   have q:=F.out wr j d hb;cases l:p j with
   |true=>
    rw[l]at q;have f:=hIx (zmb p n j d l a);clear l;go_wp2_with (go_at_fn g;refine q.mono ?_;rintro e w' ⟨rfl,k⟩);go_ret;exact⟨zae f.out.symm,hb.trans (k.mono hb.size)⟩
   |false=>
    rw[l]at q
    have m:Hid (∀i,i<j+1->p i=false):=λi u=>by
     by_cases e:i=j
     ·rw[e];exact l
     ·exact a i (by omega)
    clear l a;go_wp2_with (go_at_fn g;refine q.mono ?_;rintro e w' ⟨rfl,k⟩)
    go_roundw
    case rel=>exact⟨j+1,by omega,by go_num,hb.trans (k.mono hb.size),m⟩
    case measure=>simp[intOf] <;> omega
  ·obtain rfl:j=n:=by omega
   have f:=hIx (zeH p j a);go_wp2;go_ret;exact⟨zae f.out.symm,hb⟩
theorem zqN(g:Nat)(d:Array Value)(o:∀args w,(callFunc g args).run prog w=.ok (.enter g args) w)(A:Option Addr)(n c:Nat)(a:List Value)(f i k:Nat->Value)(p:Nat->Bool)(w:World)
 (h:Sl w w.heap.size 3 A n a) (b:n<=9223372036854775807) (m:∀j,j<n->a[j*3]? = some (f j)/\a[j*3+1]? = some (i j)/\a[j*3+2]? = some (k j))
 (l:∀W j,j<n->w W->Calls prog g (#[.agg #[f j,i j,k j]]++d) W (zaC (p j) W)):
 Calls prog 209 #[.slice A n c,.func (.func g) #[] d] w (zaC (anyN p n) w):=by
 have r:=hIx (zrj g d o A n c a f i k p w h b m l);have q:=hIx (zhM p n);clear l m h
 go_in
 go_wp2_with fail;refine r.out.mono ?_;rintro e s ⟨rfl,hb⟩;go_wp2;go_ret;exact⟨zaQ q.out,hb⟩
structure VarV where
 k:Int
 m:Int
 n:ByteArray
def zb5(v:VarV):List Value:=[jA v.k,jA v.m,.string v.n]
def exB(v:VarV)(x:Pair)(a:VarV):Bool:=(a.m==2)&&(a.k==v.k)&&(a.n.toList.isEmpty||(a.n.toList==x.1.toList))
def exP(l:List VarV)(v:VarV)(x:Pair):Bool:=l.any (exB v x)
def zdP(l:List VarV)(v:VarV)(a:List Pair):List Pair:=a.filter λx=>!exP l v x
def zf3(l:List VarV)(v:VarV)(a:List Pair):List Pair:=
 if v.m=2 then []else if v.m=1 then oneV (bs (Lib.itoa (zdP l v a).length))else zdP l v a
def allP(a:VarV->List Pair)(l s:List VarV):List Pair:=s.flatMap λv=>zf3 l v (a v)
theorem zpv(l:List VarV)(v:VarV)(a:List Pair)(k:Nat)(h:k<a.length):zdP l v (a.take (k+1))=zdP l v (a.take k)++if exP l v a[k]=true then []else [a[k]]:=by
 unfold zdP;rw[Qu h,ZR]
 by_cases c:exP l v a[k]=true <;> simp[c]
theorem zvZ(l:List VarV)(v:VarV)(a:List Pair)(k:Nat):(zdP l v (a.take k)).length<=k:=Ql (Zh _ _) (ZN _ _)
theorem zq3(a:VarV->List Pair)(l s:List VarV)(k:Nat)(h:k<s.length):allP a l (s.take (k+1))=allP a l (s.take k)++zf3 l s[k] (a s[k]):=by
 unfold allP;rw[Qu h,Q7];simp
theorem zx0(a:VarV->List Pair)(l s:List VarV)(k:Nat):(allP a l (s.take k)).length<=(allP a l s).length:=by
 have:allP a l s=allP a l (s.take k)++allP a l (s.drop k):=by
  unfold allP;rw[<-Q7,Zt]
 rw[this,Qb];omega
theorem zpL(l:List VarV):(l.flatMap zb5).length=l.length*3:=by
 induction l with
 |nil=>rfl
 |cons a r ih=>rw[QV,Qb,ih,Qq];show 3+_=_;omega
theorem zid:∀(l:List VarV) (k:Nat) (h:k<l.length),(l.flatMap zb5)[k*3]? = some (jA l[k].k)/\(l.flatMap zb5)[k*3+1]? = some (jA l[k].m)/\(l.flatMap zb5)[k*3+2]? = some (.string l[k].n)
 | [],_,h=>absurd h (by simp)
 |a::r,0,_=>⟨rfl,rfl,rfl⟩
 |a::r,k+1,h=>by
  have:=zid r k (by simpa using h);rw[QV];have b:(zb5 a).length=3:=rfl;refine⟨?_,?_,?_⟩
  ·rw[Q1 (by rw[b];omega),b,show (k+1)*3-3=k*3 by omega];exact this.1
  ·rw[Q1 (by rw[b];omega),b,show (k+1)*3+1-3=k*3+1 by omega];exact this.2.1
  ·rw[Q1 (by rw[b];omega),b,show (k+1)*3+2-3=k*3+2 by omega];exact this.2.2
theorem zyV{w:World}{B n:Nat}{A:Option Addr}{l:List VarV}(h:Sl w B 3 A n (l.flatMap zb5))(k:Nat)(d:k<l.length):
 ∃b a,A=some ⟨b,a,none⟩/\b<B/\w.cell? ⟨b,a+k*3,none⟩=some (jA l[k].k)/\w.cell? ⟨b,a+k*3+1,none⟩=some (jA l[k].m)/\w.cell? ⟨b,a+k*3+2,none⟩=some (.string l[k].n):=by
 have hl:=zpL l;obtain⟨b,a,e,hb,c⟩:=h.src (by omega);obtain⟨f,h1,h2⟩:=zid l k d;refine⟨b,a,e,hb,?_,?_,?_⟩
 ·rw[c (k*3) (by omega),<-f,Qe]
 ·rw[Zf,c (k*3+1) (by omega),<-h1,Qe]
 ·rw[Zf,c (k*3+2) (by omega),<-h2,Qe]
theorem ztz(a v:VarV)(x:Pair)(f e:Nat)(w:World)(l:w.cell? f=some (jA v.k))(s:w.cell? e=some (.string x.1)):
 Calls prog 210 #[.agg #[jA a.k,jA a.m,.string a.n],.pointer f,.pointer e] w (zaC (exB v x a) w):=by
 have z:f<w.heap.size:=QT w _ l;have o:e<w.heap.size:=QT w _ s;have hb:w (w.alloc (.cells #[jA a.k,jA a.m,.string a.n] 62)):=WaL;have b:Hid (exB v x a=((a.m==2)&&(a.k==v.k)&&(a.n.toList.isEmpty||(a.n.toList==x.1.toList)))):=rfl;obtain⟨j,q,i⟩:=a;obtain⟨r,u,n2⟩:=v;obtain⟨t,y⟩:=x;dsimp only at *;cases c:(q==2)with
 |false=>
  rw[c]at b
  go_in
  go_wp2;go_ret;exact⟨by rw[b.out];rfl,hb⟩
 |true=>
  cases d:(j==r)with
  |false=>
   rw[c,d]at b
   go_in
   go_wp2;go_ret;exact⟨by rw[b.out];rfl,hb⟩
  |true=>
   cases g:i.toList.isEmpty with
   |true=>
    rw[c,d,g]at b
    go_in
    go_wp2;go_ret;exact⟨by rw[b.out];rfl,hb⟩
   |false=>
    cases h:(i.toList==t.toList)with
    |true=>
     rw[c,d,g,h]at b
     go_in
     go_wp2;go_ret;exact⟨by rw[b.out];rfl,hb⟩
    |false=>
     rw[c,d,g,h]at b
     go_in
     go_wp2;go_ret;exact⟨by rw[b.out];rfl,hb⟩
def dVar:VarV:=⟨0,0,ByteArray.mk #[]⟩
theorem zxF(l:List VarV)(v:VarV)(x:Pair)(A:Option Addr)(c b a:Nat)(w:World)(h:Sl w w.heap.size 3 A l.length (l.flatMap zb5))(hl:l.length<=9223372036854775807)(g:w.cell? b=some (jA v.k))(f:w.cell? a=some (.string x.1)):
 Calls prog 209 #[.slice A l.length c,.func (.func 210) #[] #[.pointer b,.pointer a]] w (zaC (exP l v x) w):=by
 have e:=zd2 (exB v x) l dVar;unfold exP;rw[<-e];refine zqN 210 #[.pointer b,.pointer a] (λ_ _=>rfl) A l.length c (l.flatMap zb5) (λj=>jA (l.getD j dVar).k) (λj=>jA (l.getD j dVar).m) (λj=>.string (l.getD j dVar).n) (λj=>exB v x (l.getD j dVar)) w h hl (λj d=>?_) λW j d hb=>?_
 ·have:=zid l j d
  rw[Qr,Qe d];exact this
 ·exact ztz _ v x b a W (zaa hb g) (zaa hb f)
