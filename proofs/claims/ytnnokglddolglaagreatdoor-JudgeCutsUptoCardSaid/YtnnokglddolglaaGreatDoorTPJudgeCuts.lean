/- JudgeCuts is proved here: for every input of bulk at most 1048576 the law returns true, and its arguments read as they did. Condition: the bound. -/
import Derived.Test.YtnnokglddolglaaGreatDoorM42
import Derived.Test.YtnnokglddolglaaGreatDoorCards
import Derived.Test.YtnnokglddolglaaGreatDoorTie
import Derived.Deep.DeepHandedRow
import Derived.Lay
import Derived.SevenTiedAt
import Derived.LaidSub
import Derived.MakeChecks
set_option maxRecDepth 100000
namespace Go.Proofs.YtnnokglddolglaaGreatDoor.judgeCuts
open Go.ChangeShapes Go.WideShapes Go.ChangeAt Go.RowKit
open Go.ChangeMaps (open_string)

theorem zs4 {W:World} (h:laidMetH Tryz.prog Rows.judgeCutsUptoRow.laid W):Lib.TabIs Tryz.prog W "internal/strconv.uint64pow10" .u64 Lib.pow10Tab:=by
 have h1:=laidMetH.filter (λx=>x.1== "internal/strconv.uint64pow10") h;have e:(Rows.judgeCutsUptoRow.laid.filter λx=>x.1== "internal/strconv.uint64pow10")=[("internal/strconv.uint64pow10",Lib.tabData .u64 Lib.pow10Tab)]:=by kernel_rfl
 rw[e,MakeChecks.laidMetH_plain _ _ _ (by kernel_rfl)] at h1;exact Lib.tabIs_of_head (g:=1) (t:=267) (e:=180) (n:=20) (by kernel_rfl) (by kernel_rfl) Tryz.underlying267 Tryz.underlying180 (by kernel_rfl) (by kernel_rfl) h1

theorem zuf {W:World} (h:laidMetH Tryz.prog Rows.judgeCutsUptoRow.laid W):Lib.TabIs Tryz.prog W "math/bits.deBruijn64tab" .u8 zvO:=by
 have h1:=laidMetH.filter (λx=>x.1== "math/bits.deBruijn64tab") h;have e:(Rows.judgeCutsUptoRow.laid.filter λx=>x.1== "math/bits.deBruijn64tab")=[("math/bits.deBruijn64tab",Lib.tabData .u8 zvO)]:=by kernel_rfl
 rw[e,MakeChecks.laidMetH_plain _ _ _ (by kernel_rfl)] at h1;exact Lib.tabIs_of_head (g:=3) (t:=325) (e:=5) (n:=64) (by kernel_rfl) (by kernel_rfl) Tryz.underlying325 Tryz.underlying5 (by kernel_rfl) (by kernel_rfl) h1

theorem zvJ(H:Type)(enc:TypeId × Value->H)(W:World)(base:Nat)(args:Array Value)(m n:List (DataW H))(c:List MemPlace)
 (a:∀(j:Nat) t v,Tryz.f6.params[j]? = some t->args[j]? = some v->Value.okWide Tryz.prog W .any base t v)
 (K:DataW.Whole enc Tryz.prog Tryz.f6.params.toList Rows.judgeCutsSpec.vars false W args.toList m n c)
 (F:Rows.uptoSmall H (m++n)=true)
 (b:laidMetH Tryz.prog Rows.judgeCutsUptoRow.laid W)
 (z:W.ShapedOpen Tryz.prog):
 Calls Tryz.prog 6 args W λe W'=>∃v,e=jC v/\Rows.judgeCutsSpec.post enc Tryz.prog Tryz.f6 false true false false W args v W':=by
 have y:=K;obtain⟨p,q,o,hV,rfl,Z,h7⟩:=K;have G:DataW.TrodAll enc Tryz.prog W 0 (λ_=>true) true Tryz.f6.params.toList args.toList m p:=o;have k:Hid (Rows.uptoBulkAll (m++n)<=1048576):=zqh F;clear F;rw[Tryz.params6] at G a;obtain⟨C,U,g,O,p0,q0,r,rfl,rfl,h0,P⟩:=trodAll_cons G;obtain⟨A,N,i,h4,p1,q1,rfl,rfl,rfl,h1,r1⟩:=trodAll_cons P;obtain⟨J,h6,f,V,p2,q2,rfl,rfl,rfl,h2,r2⟩:=trodAll_cons r1;obtain⟨E,h5,h,X,p3,q3,rfl,rfl,rfl,S,r3⟩:=trodAll_cons r2;obtain⟨rfl,rfl,rfl⟩:=trodAll_nil r3;obtain rfl:args=#[C,A,J,E]:=by cases args;simp_all
 obtain⟨rfl,rfl⟩:=trodVars_none hV;have s:Rows.uptoBulk g<=1048576:=Nat.le_trans (ze2 (l:=[g,i,f,h]++[]) (by simp)) k.out;have h8:Rows.uptoBulk i<=1048576:=Nat.le_trans (ze2 (l:=[g,i,f,h]++[]) (by simp)) k.out;have u:Rows.uptoBulk f<=1048576:=Nat.le_trans (ze2 (l:=[g,i,f,h]++[]) (by simp)) k.out;have x:Rows.uptoBulk h<=1048576:=Nat.le_trans (ze2 (l:=[g,i,f,h]++[]) (by simp)) k.out;have d:=k.out;rw[List.append_nil] at d;simp only[Rows.uptoBulkAll] at d;obtain⟨a0,D,L⟩:=zpJ (a 0 24 C rfl rfl) h0;have T:=zqR L (s);have Q:=D.val;subst Q;obtain⟨w,rfl,rfl,rfl,w1⟩:=open_int Tryz.underlying30 (a 1 30 A rfl rfl) h1;have z1:0<=w/\w<=4294967295:=by simpa[Lit.wf,IntKind.min,IntKind.max,IntKind.signed,IntKind.bits] using w1
 obtain⟨a2,B,e2⟩:=zgF (a 2 29 J rfl rfl) h2;have z2:=zgz e2 (u);have n2:=B.val;subst n2;obtain⟨a3,I,e3⟩:=zgF (a 3 29 E rfl rfl) S;have Y:=zgz e3 (x);have n3:=I.val;subst n3;refine(zlh a0 w a2 a3 W D T z1 B z2 I Y (Tryz.laysM146.s1_3 W z) (zs4 b) (zuf b)).mono λe W' ⟨he,hb⟩=>?_
 subst he;exact⟨_,rfl,zvM zx1 (by decide+kernel) rfl Tryz.underlying4 rfl y hb rfl⟩

noncomputable def zhd(os:Os):World:=World.laidAll Tryz.prog os Rows.judgeCutsUptoRow.laid
theorem zvY(os:Os):laidMet Tryz.prog Rows.judgeCutsUptoRow.laid ((zhd os).forCall (λ_ _=>0) ⟨#[],#[.agg #[jA 0,jA 0,jD 0 0],.int .u32 0,.agg #[.string ByteArray.empty,.string ByteArray.empty,jD 0 0,.string ByteArray.empty],.agg #[.string ByteArray.empty,.string ByteArray.empty,jD 0 0,.string ByteArray.empty]],[]⟩).memory:=
 laidMet_laidAll _ (by kernel_rfl) (by kernel_rfl)
theorem zzN(os:Os){H:Type}(enc:TypeId × Value->H):∃a,DataW.whole enc Tryz.prog ((zhd os).forCall (λ_ _=>0) ⟨#[],#[.agg #[jA 0,jA 0,jD 0 0],.int .u32 0,.agg #[.string ByteArray.empty,.string ByteArray.empty,jD 0 0,.string ByteArray.empty],.agg #[.string ByteArray.empty,.string ByteArray.empty,jD 0 0,.string ByteArray.empty]],[]⟩).memory Tryz.f6.params.toList Rows.judgeCutsSpec.vars false #[.agg #[jA 0,jA 0,jD 0 0],.int .u32 0,.agg #[.string ByteArray.empty,.string ByteArray.empty,jD 0 0,.string ByteArray.empty],.agg #[.string ByteArray.empty,.string ByteArray.empty,jD 0 0,.string ByteArray.empty]].toList 8=some ([.agg [.lit (.int .i64 0),.lit (.int .i64 0),.nil],.lit (.int .u32 0),.agg [.agg [.lit (.string []),.lit (.string []),.nil],.lit (.string [])],.agg [.agg [.lit (.string []),.lit (.string []),.nil],.lit (.string [])]],[],a):=
 ⟨[],by kernel_rfl⟩
theorem zzn(os:Os)(a:os.Started)(H:Type)(enc:TypeId × Value->H)(F:Stop.Interp):
 ReturnsInHanded {} Tryz.checked os 6 .any ((Rows.OpenSpec.upto Rows.judgeCutsSpec).preRow enc Tryz.prog Tryz.f6 Rows.judgeCutsUptoRow.domain false Rows.judgeCutsUptoRow.laid) (((Rows.OpenSpec.upto Rows.judgeCutsSpec).at F).post enc Tryz.prog Tryz.f6 false true false false):=by
 obtain⟨f,m⟩:=zzN os enc
 refine returnsInHanded_of_row (C:=Tryz.checked) (s:=Rows.OpenSpec.upto Rows.judgeCutsSpec) own a (by kernel_rfl) Tryz.func6
  (witness_row_at (enc:=enc) (C:=Tryz.checked) false (zhd os) #[.agg #[jA 0,jA 0,jD 0 0],.int .u32 0,.agg #[.string ByteArray.empty,.string ByteArray.empty,jD 0 0,.string ByteArray.empty],.agg #[.string ByteArray.empty,.string ByteArray.empty,jD 0 0,.string ByteArray.empty]] (World.laidAll_os _ _ _) (by kernel_rfl) (by kernel_rfl) (by kernel_rfl)
   (OpenSpec.preRow_of_cond 8 m (by kernel_rfl) (λk h=>by cases h;kernel_rfl) (by kernel_rfl) (zvY os))) ?_
 intro W base args l j b e i _ c _ d g _;exact zvJ H enc W base args l j b e i (c _ rfl) d g

theorem zxJ:(Rows.judgeCutsUptoRow.inPlace==Tryz.pinned.checked.prog.inPlace 6)=true:=by kernel_rfl
theorem zxW:(Rows.judgeCutsUptoRow.unfollowed==Tryz.pinned.checked.prog.unfollowed 6)=true:=by kernel_rfl
theorem zw9:(Rows.judgeCutsUptoRow.recurses==Tryz.pinned.checked.prog.recurses 6)=true:=by kernel_rfl
theorem zya:(Rows.judgeCutsUptoRow.named==Tryz.pinned.checked.prog.varsNamed 6)=true:=by kernel_rfl
theorem closed:joinedFacts Tryz.pinned.checked.prog 6 Tryz.f6 (Rows.OpenSpec.upto Rows.judgeCutsSpec).bare Rows.judgeCutsUptoRow=true:=by
 unfold joinedFacts
 repeat' (with_reducible refine Bool.and_eq_true_iff.2 ⟨?_,?_⟩)
 all_goals (with_reducible first | exact zxJ | exact zxW | exact zw9 | exact zya | skip)
 all_goals kernel_rfl
theorem over:Rows.judgeCutsUptoRow.holds Tryz.pinned (Rows.OpenSpec.upto Rows.judgeCutsSpec):=
 OpenClaim.holds_of_cond 6 Tryz.f6 rfl rfl rfl rfl rfl rfl rfl ⟨rfl,rfl,rfl,rfl,rfl⟩ rfl rfl rfl rfl rfl (by kernel_rfl) Tryz.func6 closed
  (of_decide_eq_true (by kernel_rfl)) (by unfold Func.isWrapper;first | (rw[if_pos (by decide+kernel)];kernel_rfl) | (rw[if_neg (by decide+kernel)];exact⟨rfl,rfl⟩))
  (λos a H enc _ F=>by rw[OpenClaim.pre_eq_preRow];exact zzn os a H enc F)

theorem plain (f:FuncId) (c:Func) (g:Tryz.pinned.checked.prog.funcNamed "gatewicket/wickkeep.JudgeCuts"=some f) (b:Tryz.pinned.checked.prog.funcs[f]? = some c):
 false=Tryz.pinned.checked.prog.looks []/\∀(j:Nat) t,c.params[j]? = some t->Tryz.pinned.checked.prog.wantsStandIn t=false:=by
 obtain rfl:f=6:=Option.some.inj ((show Tryz.prog.funcNamed "gatewicket/wickkeep.JudgeCuts"=some 6 by kernel_rfl).symm.trans g) |>.symm;obtain rfl:c=Tryz.f6:=(Option.some.inj (Tryz.func6.symm.trans b)).symm;refine⟨by kernel_rfl,λj t d=>?_⟩;rw[Tryz.params6] at d;have e:t∈[24,30,29,29]:=by simpa using Array.mem_of_getElem? d
 have a:([24,30,29,29].all λu=>!Tryz.prog.wantsStandIn u)=true:=by kernel_rfl
 exact(show Tryz.prog.wantsStandIn t=false by simpa using List.all_eq_true.1 a t e)

theorem proved:Rows.JudgeCutsUptoCardSaid:=
 Claim7.holds_tied_plain_at .later [] _ _ _ _ over (λ_ h=>by cases h) (by kernel_rfl) (λ_ h=>by cases h) judgeCutsUpto_row_tie rfl ⟨rfl,rfl⟩ (by kernel_rfl) rfl plain (by kernel_rfl)
#print axioms proved
end Go.Proofs.YtnnokglddolglaaGreatDoor.judgeCuts
