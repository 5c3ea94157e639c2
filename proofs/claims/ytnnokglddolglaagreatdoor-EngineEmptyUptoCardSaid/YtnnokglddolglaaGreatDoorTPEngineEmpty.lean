/- EngineEmpty is proved here: for every input of bulk at most 1048576 the law returns true, and its arguments read as they did. Condition: the bound. -/
import Derived.Test.YtnnokglddolglaaGreatDoorM35
import Derived.Test.YtnnokglddolglaaGreatDoorCards
import Derived.Test.YtnnokglddolglaaGreatDoorTie
import Derived.Deep.DeepHandedRow
import Derived.Lay
import Derived.SevenTiedAt
import Derived.LaidSub
import Derived.MakeChecks
import Derived.Lib.LaidTab
set_option maxRecDepth 100000
namespace Go.Proofs.YtnnokglddolglaaGreatDoor.engineEmpty
open Go.ChangeShapes Go.WideShapes Go.ChangeAt Go.RowKit
open Go.ChangeMaps (open_string)

theorem tab_pow10 {W:World} (h:laidMetH Tryz.prog Rows.engineEmptyUptoRow.laid W):Lib.TabIs Tryz.prog W "internal/strconv.uint64pow10" .u64 Lib.pow10Tab:=by
 have h1:=laidMetH.filter (λx=>x.1== "internal/strconv.uint64pow10") h;have e:(Rows.engineEmptyUptoRow.laid.filter λx=>x.1== "internal/strconv.uint64pow10")=[("internal/strconv.uint64pow10",Lib.tabData .u64 Lib.pow10Tab)]:=by kernel_rfl
 rw[e,MakeChecks.laidMetH_plain _ _ _ (by kernel_rfl)] at h1;exact Lib.tabIs_of_head (g:=1) (t:=267) (e:=180) (n:=20) (by kernel_rfl) (by kernel_rfl) Tryz.underlying267 Tryz.underlying180 (by kernel_rfl) (by kernel_rfl) h1

theorem contract(H:Type)(enc:TypeId × Value->H)(W:World)(base:Nat)(args:Array Value)(m n:List (DataW H))(b:List MemPlace)
 (a:∀(j:Nat) t v,Tryz.f4.params[j]? = some t->args[j]? = some v->Value.okWide Tryz.prog W .any base t v)
 (J:DataW.Whole enc Tryz.prog Tryz.f4.params.toList Rows.engineEmptySpec.vars false W args.toList m n b)
 (E:Rows.uptoSmall H (m++n)=true)
 (d:laidMetH Tryz.prog Rows.engineEmptyUptoRow.laid W)
 (y:W.ShapedOpen Tryz.prog):
 Calls Tryz.prog 4 args W λe W'=>∃v,e=.returned v/\Rows.engineEmptySpec.post enc Tryz.prog Tryz.f4 false true false false W args v W':=by
 have u:=J;obtain⟨p,q,o,hV,rfl,h5,h9⟩:=J;have F:DataW.TrodAll enc Tryz.prog W 0 (λ_=>true) true Tryz.f4.params.toList args.toList m p:=o;have k:Hid (Rows.uptoBulkAll (m++n)<=1048576):=zgp E;clear E;rw[Tryz.params4] at F a;obtain⟨B,U,g,N,p0,q0,r,rfl,rfl,h0,O⟩:=trodAll_cons F;obtain⟨A,L,i,h6,p1,q1,rfl,rfl,rfl,h1,r1⟩:=trodAll_cons O;obtain⟨G,h8,f,V,p2,q2,rfl,rfl,rfl,h2,r2⟩:=trodAll_cons r1;obtain⟨D,h7,h,X,p3,q3,rfl,rfl,rfl,Q,r3⟩:=trodAll_cons r2;obtain⟨rfl,rfl,rfl⟩:=trodAll_nil r3;obtain rfl:args=#[B,A,G,D]:=by cases args;simp_all
 obtain⟨rfl,rfl⟩:=trodVars_none hV;have s:Rows.uptoBulk g<=1048576:=Nat.le_trans (zca (l:=[g,i,f,h]++[]) (by simp)) k.out;have z:Rows.uptoBulk i<=1048576:=Nat.le_trans (zca (l:=[g,i,f,h]++[]) (by simp)) k.out;have Y:Rows.uptoBulk f<=1048576:=Nat.le_trans (zca (l:=[g,i,f,h]++[]) (by simp)) k.out;have h4:Rows.uptoBulk h<=1048576:=Nat.le_trans (zca (l:=[g,i,f,h]++[]) (by simp)) k.out;have c:=k.out;rw[List.append_nil] at c;simp only[Rows.uptoBulkAll] at c;obtain⟨a0,C,K⟩:=zf1 (a 0 24 B rfl rfl) h0;have S:=zgI K (s);have P:=C.val;subst P;obtain⟨a1,I,T⟩:=zgV (a 1 29 A rfl rfl) h1;have z1:=zfK T (z);have n1:=I.val;subst n1;obtain⟨w,rfl,rfl,rfl,w2⟩:=open_int Tryz.underlying30 (a 2 30 G rfl rfl) h2;have z2:0<=w/\w<=4294967295:=by simpa[Lit.wf,IntKind.min,IntKind.max,IntKind.signed,IntKind.bits] using w2
 obtain⟨x,rfl,rfl,rfl,w3⟩:=open_int Tryz.underlying3 (a 3 3 D rfl rfl) Q;have Z:-9223372036854775808<=x/\x<=9223372036854775807:=by simpa[Lit.wf,IntKind.min,IntKind.max,IntKind.signed,IntKind.bits] using w3
 refine(zi3 a0 a1 w x W C S I z1 z2 Z (Tryz.laysM146.s1_3 W y) (tab_pow10 d)).mono λe W' ⟨he,hb⟩=>?_
 subst he;exact⟨_,rfl,zlw zoj (by decide+kernel) rfl Tryz.underlying4 rfl u hb rfl⟩

noncomputable def laidWorld(os:Os):World:=World.laidAll Tryz.prog os Rows.engineEmptyUptoRow.laid
theorem laid_met(os:Os):laidMet Tryz.prog Rows.engineEmptyUptoRow.laid ((laidWorld os).forCall (λ_ _=>0) ⟨#[],#[.agg #[.int .i64 0,.int .i64 0,.slice none 0 0],.agg #[.string ByteArray.empty,.string ByteArray.empty,.slice none 0 0,.string ByteArray.empty],.int .u32 0,.int .i64 0],[]⟩).memory:=
 laidMet_laidAll _ (by kernel_rfl) (by kernel_rfl)
theorem reads(os:Os){H:Type}(enc:TypeId × Value->H):∃a,DataW.whole enc Tryz.prog ((laidWorld os).forCall (λ_ _=>0) ⟨#[],#[.agg #[.int .i64 0,.int .i64 0,.slice none 0 0],.agg #[.string ByteArray.empty,.string ByteArray.empty,.slice none 0 0,.string ByteArray.empty],.int .u32 0,.int .i64 0],[]⟩).memory Tryz.f4.params.toList Rows.engineEmptySpec.vars false #[.agg #[.int .i64 0,.int .i64 0,.slice none 0 0],.agg #[.string ByteArray.empty,.string ByteArray.empty,.slice none 0 0,.string ByteArray.empty],.int .u32 0,.int .i64 0].toList 8=some ([.agg [.lit (.int .i64 0),.lit (.int .i64 0),.nil],.agg [.agg [.lit (.string []),.lit (.string []),.nil],.lit (.string [])],.lit (.int .u32 0),.lit (.int .i64 0)],[],a):=
 ⟨[],by kernel_rfl⟩
theorem lifted(os:Os)(a:os.Started)(H:Type)(enc:TypeId × Value->H)(F:Stop.Interp):
 ReturnsInHanded {} Tryz.checked os 4 .any ((Rows.OpenSpec.upto Rows.engineEmptySpec).preRow enc Tryz.prog Tryz.f4 Rows.engineEmptyUptoRow.domain false Rows.engineEmptyUptoRow.laid) (((Rows.OpenSpec.upto Rows.engineEmptySpec).at F).post enc Tryz.prog Tryz.f4 false true false false):=by
 obtain⟨f,m⟩:=reads os enc
 refine returnsInHanded_of_row (C:=Tryz.checked) (s:=Rows.OpenSpec.upto Rows.engineEmptySpec) own a (by kernel_rfl) Tryz.func4
  (witness_row_at (enc:=enc) (C:=Tryz.checked) false (laidWorld os) #[.agg #[.int .i64 0,.int .i64 0,.slice none 0 0],.agg #[.string ByteArray.empty,.string ByteArray.empty,.slice none 0 0,.string ByteArray.empty],.int .u32 0,.int .i64 0] (World.laidAll_os _ _ _) (by kernel_rfl) (by kernel_rfl) (by kernel_rfl)
   (OpenSpec.preRow_of_cond 8 m (by kernel_rfl) (λk h=>by cases h;kernel_rfl) (by kernel_rfl) (laid_met os))) ?_
 intro W base args l j b e i _ c _ d g _;exact contract H enc W base args l j b e i (c _ rfl) d g

theorem closedA:(Rows.engineEmptyUptoRow.inPlace==Tryz.pinned.checked.prog.inPlace 4)=true:=by kernel_rfl
theorem closedB:(Rows.engineEmptyUptoRow.unfollowed==Tryz.pinned.checked.prog.unfollowed 4)=true:=by kernel_rfl
theorem closedC:(Rows.engineEmptyUptoRow.recurses==Tryz.pinned.checked.prog.recurses 4)=true:=by kernel_rfl
theorem closedD:(Rows.engineEmptyUptoRow.named==Tryz.pinned.checked.prog.varsNamed 4)=true:=by kernel_rfl
theorem closed:joinedFacts Tryz.pinned.checked.prog 4 Tryz.f4 (Rows.OpenSpec.upto Rows.engineEmptySpec).bare Rows.engineEmptyUptoRow=true:=by
 unfold joinedFacts
 repeat' (with_reducible refine Bool.and_eq_true_iff.2 ⟨?_,?_⟩)
 all_goals (with_reducible first | exact closedA | exact closedB | exact closedC | exact closedD | skip)
 all_goals kernel_rfl
theorem over:Rows.engineEmptyUptoRow.holds Tryz.pinned (Rows.OpenSpec.upto Rows.engineEmptySpec):=
 OpenClaim.holds_of_cond 4 Tryz.f4 rfl rfl rfl rfl rfl rfl rfl ⟨rfl,rfl,rfl,rfl,rfl⟩ rfl rfl rfl rfl rfl (by kernel_rfl) Tryz.func4 closed
  (of_decide_eq_true (by kernel_rfl)) (by unfold Func.isWrapper;first | (rw[if_pos (by decide+kernel)];kernel_rfl) | (rw[if_neg (by decide+kernel)];exact⟨rfl,rfl⟩))
  (λos a H enc _ F=>by rw[OpenClaim.pre_eq_preRow];exact lifted os a H enc F)

theorem plain (f:FuncId) (c:Func) (g:Tryz.pinned.checked.prog.funcNamed "gatewicket/wickkeep.EngineEmpty"=some f) (b:Tryz.pinned.checked.prog.funcs[f]? = some c):
 false=Tryz.pinned.checked.prog.looks []/\∀(j:Nat) t,c.params[j]? = some t->Tryz.pinned.checked.prog.wantsStandIn t=false:=by
 obtain rfl:f=4:=Option.some.inj ((show Tryz.prog.funcNamed "gatewicket/wickkeep.EngineEmpty"=some 4 by kernel_rfl).symm.trans g) |>.symm;obtain rfl:c=Tryz.f4:=(Option.some.inj (Tryz.func4.symm.trans b)).symm;refine⟨by kernel_rfl,λj t d=>?_⟩;rw[Tryz.params4] at d;have e:t∈[24,29,30,3]:=by simpa using Array.mem_of_getElem? d
 have a:([24,29,30,3].all λu=>!Tryz.prog.wantsStandIn u)=true:=by kernel_rfl
 exact(show Tryz.prog.wantsStandIn t=false by simpa using List.all_eq_true.1 a t e)

theorem proved:Rows.EngineEmptyUptoCardSaid:=
 Claim7.holds_tied_plain_at .later [] _ _ _ _ over (λ_ h=>by cases h) (by kernel_rfl) (λ_ h=>by cases h) engineEmptyUpto_row_tie rfl ⟨rfl,rfl⟩ (by kernel_rfl) rfl plain (by kernel_rfl)
#print axioms proved
end Go.Proofs.YtnnokglddolglaaGreatDoor.engineEmpty
