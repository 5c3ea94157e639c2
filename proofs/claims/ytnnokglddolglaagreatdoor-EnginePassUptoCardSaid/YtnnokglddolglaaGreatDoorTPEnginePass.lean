/- EnginePass is proved here: for every input of bulk at most 1048576 the law returns true, and its arguments read as they did. Condition: the bound. -/
import Derived.Test.YtnnokglddolglaaGreatDoorM36
import Derived.Test.YtnnokglddolglaaGreatDoorCards
import Derived.Test.YtnnokglddolglaaGreatDoorTie
import Derived.Deep.DeepHandedRow
import Derived.Lay
import Derived.SevenTiedAt
import Derived.LaidSub
import Derived.MakeChecks
import Derived.Lib.LaidTab
set_option maxRecDepth 100000
namespace Go.Proofs.YtnnokglddolglaaGreatDoor.enginePass
open Go.ChangeShapes Go.WideShapes Go.ChangeAt Go.RowKit
open Go.ChangeMaps (open_string)

theorem tab_pow10 {W:World} (h:laidMetH Tryz.prog Rows.enginePassUptoRow.laid W):Lib.TabIs Tryz.prog W "internal/strconv.uint64pow10" .u64 Lib.pow10Tab:=by
 have h1:=laidMetH.filter (λx=>x.1== "internal/strconv.uint64pow10") h;have e:(Rows.enginePassUptoRow.laid.filter λx=>x.1== "internal/strconv.uint64pow10")=[("internal/strconv.uint64pow10",Lib.tabData .u64 Lib.pow10Tab)]:=by kernel_rfl
 rw[e,MakeChecks.laidMetH_plain _ _ _ (by kernel_rfl)] at h1;exact Lib.tabIs_of_head (g:=1) (t:=267) (e:=180) (n:=20) (by kernel_rfl) (by kernel_rfl) Tryz.underlying267 Tryz.underlying180 (by kernel_rfl) (by kernel_rfl) h1

theorem contract(H:Type)(enc:TypeId × Value->H)(W:World)(base:Nat)(args:Array Value)(h n:List (DataW H))(b:List MemPlace)
 (a:∀(j:Nat) t v,Tryz.f3.params[j]? = some t->args[j]? = some v->Value.okWide Tryz.prog W .any base t v)
 (z:DataW.Whole enc Tryz.prog Tryz.f3.params.toList Rows.enginePassSpec.vars false W args.toList h n b)
 (A:Rows.uptoSmall H (h++n)=true)
 (d:laidMetH Tryz.prog Rows.enginePassUptoRow.laid W)
 (u:W.ShapedOpen Tryz.prog):
 Calls Tryz.prog 3 args W λe W'=>∃v,e=.returned v/\Rows.enginePassSpec.post enc Tryz.prog Tryz.f3 false true false false W args v W':=by
 have s:=z;obtain⟨p,q,m,hV,rfl,h5,U⟩:=z;have C:DataW.TrodAll enc Tryz.prog W 0 (λ_=>true) true Tryz.f3.params.toList args.toList h p:=m;have k:Hid (Rows.uptoBulkAll (h++n)<=1048576):=zgp A;clear A;rw[Tryz.params3] at C a;obtain⟨F,h3,i,L,p0,q0,o,rfl,rfl,K,Q⟩:=trodAll_cons C;obtain⟨B,J,g,T,p1,q1,rfl,rfl,rfl,h1,I⟩:=trodAll_cons Q;obtain⟨D,N,f,h4,p2,q2,rfl,rfl,rfl,h2,Y⟩:=trodAll_cons I;obtain⟨rfl,rfl,rfl⟩:=trodAll_nil Y;obtain rfl:args=#[F,B,D]:=by cases args;simp_all
 obtain⟨rfl,rfl⟩:=trodVars_none hV;have r:Rows.uptoBulk i<=1048576:=Nat.le_trans (zca (l:=[i,g,f]++[]) (by simp)) k.out;have w:Rows.uptoBulk g<=1048576:=Nat.le_trans (zca (l:=[i,g,f]++[]) (by simp)) k.out;have V:Rows.uptoBulk f<=1048576:=Nat.le_trans (zca (l:=[i,g,f]++[]) (by simp)) k.out;have c:=k.out;rw[List.append_nil] at c;simp only[Rows.uptoBulkAll] at c;obtain⟨Z,y,G⟩:=zf1 (a 0 24 F rfl rfl) K;have X:=zgI G (r);have S:=y.val;subst S;obtain⟨a1,E,e1⟩:=zgV (a 1 29 B rfl rfl) h1;have P:=zfK e1 (w);have n1:=E.val;subst n1;obtain⟨x,rfl,rfl,rfl,w2⟩:=open_int Tryz.underlying30 (a 2 30 D rfl rfl) h2;have O:0<=x/\x<=4294967295:=by simpa[Lit.wf,IntKind.min,IntKind.max,IntKind.signed,IntKind.bits] using w2
 refine(zjr Z a1 x W y X E P O (Tryz.laysM146.s1_3 W u) (tab_pow10 d)).mono λe W' ⟨he,hb⟩=>?_
 subst he;exact⟨_,rfl,zlw zoj (by decide+kernel) rfl Tryz.underlying4 rfl s hb rfl⟩

noncomputable def laidWorld(os:Os):World:=World.laidAll Tryz.prog os Rows.enginePassUptoRow.laid
theorem laid_met(os:Os):laidMet Tryz.prog Rows.enginePassUptoRow.laid ((laidWorld os).forCall (λ_ _=>0) ⟨#[],#[.agg #[.int .i64 0,.int .i64 0,.slice none 0 0],.agg #[.string ByteArray.empty,.string ByteArray.empty,.slice none 0 0,.string ByteArray.empty],.int .u32 0],[]⟩).memory:=
 laidMet_laidAll _ (by kernel_rfl) (by kernel_rfl)
theorem reads(os:Os){H:Type}(enc:TypeId × Value->H):∃a,DataW.whole enc Tryz.prog ((laidWorld os).forCall (λ_ _=>0) ⟨#[],#[.agg #[.int .i64 0,.int .i64 0,.slice none 0 0],.agg #[.string ByteArray.empty,.string ByteArray.empty,.slice none 0 0,.string ByteArray.empty],.int .u32 0],[]⟩).memory Tryz.f3.params.toList Rows.enginePassSpec.vars false #[.agg #[.int .i64 0,.int .i64 0,.slice none 0 0],.agg #[.string ByteArray.empty,.string ByteArray.empty,.slice none 0 0,.string ByteArray.empty],.int .u32 0].toList 8=some ([.agg [.lit (.int .i64 0),.lit (.int .i64 0),.nil],.agg [.agg [.lit (.string []),.lit (.string []),.nil],.lit (.string [])],.lit (.int .u32 0)],[],a):=
 ⟨[],by kernel_rfl⟩
theorem lifted(os:Os)(a:os.Started)(H:Type)(enc:TypeId × Value->H)(F:Stop.Interp):
 ReturnsInHanded {} Tryz.checked os 3 .any ((Rows.OpenSpec.upto Rows.enginePassSpec).preRow enc Tryz.prog Tryz.f3 Rows.enginePassUptoRow.domain false Rows.enginePassUptoRow.laid) (((Rows.OpenSpec.upto Rows.enginePassSpec).at F).post enc Tryz.prog Tryz.f3 false true false false):=by
 obtain⟨f,m⟩:=reads os enc
 refine returnsInHanded_of_row (C:=Tryz.checked) (s:=Rows.OpenSpec.upto Rows.enginePassSpec) own a (by kernel_rfl) Tryz.func3
  (witness_row_at (enc:=enc) (C:=Tryz.checked) false (laidWorld os) #[.agg #[.int .i64 0,.int .i64 0,.slice none 0 0],.agg #[.string ByteArray.empty,.string ByteArray.empty,.slice none 0 0,.string ByteArray.empty],.int .u32 0] (World.laidAll_os _ _ _) (by kernel_rfl) (by kernel_rfl) (by kernel_rfl)
   (OpenSpec.preRow_of_cond 8 m (by kernel_rfl) (λk h=>by cases h;kernel_rfl) (by kernel_rfl) (laid_met os))) ?_
 intro W base args l j b e i _ c _ d g _;exact contract H enc W base args l j b e i (c _ rfl) d g

theorem closedA:(Rows.enginePassUptoRow.inPlace==Tryz.pinned.checked.prog.inPlace 3)=true:=by kernel_rfl
theorem closedB:(Rows.enginePassUptoRow.unfollowed==Tryz.pinned.checked.prog.unfollowed 3)=true:=by kernel_rfl
theorem closedC:(Rows.enginePassUptoRow.recurses==Tryz.pinned.checked.prog.recurses 3)=true:=by kernel_rfl
theorem closedD:(Rows.enginePassUptoRow.named==Tryz.pinned.checked.prog.varsNamed 3)=true:=by kernel_rfl
theorem closed:joinedFacts Tryz.pinned.checked.prog 3 Tryz.f3 (Rows.OpenSpec.upto Rows.enginePassSpec).bare Rows.enginePassUptoRow=true:=by
 unfold joinedFacts
 repeat' (with_reducible refine Bool.and_eq_true_iff.2 ⟨?_,?_⟩)
 all_goals (with_reducible first | exact closedA | exact closedB | exact closedC | exact closedD | skip)
 all_goals kernel_rfl
theorem over:Rows.enginePassUptoRow.holds Tryz.pinned (Rows.OpenSpec.upto Rows.enginePassSpec):=
 OpenClaim.holds_of_cond 3 Tryz.f3 rfl rfl rfl rfl rfl rfl rfl ⟨rfl,rfl,rfl,rfl,rfl⟩ rfl rfl rfl rfl rfl (by kernel_rfl) Tryz.func3 closed
  (of_decide_eq_true (by kernel_rfl)) (by unfold Func.isWrapper;first | (rw[if_pos (by decide+kernel)];kernel_rfl) | (rw[if_neg (by decide+kernel)];exact⟨rfl,rfl⟩))
  (λos a H enc _ F=>by rw[OpenClaim.pre_eq_preRow];exact lifted os a H enc F)

theorem plain (f:FuncId) (c:Func) (g:Tryz.pinned.checked.prog.funcNamed "gatewicket/wickkeep.EnginePass"=some f) (b:Tryz.pinned.checked.prog.funcs[f]? = some c):
 false=Tryz.pinned.checked.prog.looks []/\∀(j:Nat) t,c.params[j]? = some t->Tryz.pinned.checked.prog.wantsStandIn t=false:=by
 obtain rfl:f=3:=Option.some.inj ((show Tryz.prog.funcNamed "gatewicket/wickkeep.EnginePass"=some 3 by kernel_rfl).symm.trans g) |>.symm;obtain rfl:c=Tryz.f3:=(Option.some.inj (Tryz.func3.symm.trans b)).symm;refine⟨by kernel_rfl,λj t d=>?_⟩;rw[Tryz.params3] at d;have e:t∈[24,29,30]:=by simpa using Array.mem_of_getElem? d
 have a:([24,29,30].all λu=>!Tryz.prog.wantsStandIn u)=true:=by kernel_rfl
 exact(show Tryz.prog.wantsStandIn t=false by simpa using List.all_eq_true.1 a t e)

theorem proved:Rows.EnginePassUptoCardSaid:=
 Claim7.holds_tied_plain_at .later [] _ _ _ _ over (λ_ h=>by cases h) (by kernel_rfl) (λ_ h=>by cases h) enginePassUpto_row_tie rfl ⟨rfl,rfl⟩ (by kernel_rfl) rfl plain (by kernel_rfl)
#print axioms proved
end Go.Proofs.YtnnokglddolglaaGreatDoor.enginePass
