/- EngineMore is proved here: for every input of bulk at most 1048576 the law returns true, and its arguments read as they did. Condition: the bound. -/
import Derived.Test.YthfjmlcjkbgboaaGreatDoorM43
import Derived.Test.YthfjmlcjkbgboaaGreatDoorTEngT
import Derived.Test.YthfjmlcjkbgboaaGreatDoorCards
import Derived.Test.YthfjmlcjkbgboaaGreatDoorTie
import Derived.Deep.DeepHandedRow
import Derived.Lay
import Derived.SevenTiedAt
import Derived.LaidSub
import Derived.MakeChecks
import Derived.Lib.LaidTab
import Derived.Lib.ItoaNum
import Derived.Test.YthfjmlcjkbgboaaGreatDoorM39
namespace Go.Proofs.YthfjmlcjkbgboaaGreatDoor.engineMore
open Go.ChangeShapes Go.WideShapes Go.ChangeAt Go.RowKit
open Go.ChangeMaps (open_string)

theorem tab_pow10 {W : World} (h : laidMetH Tryz.prog Rows.engineMoreUptoRow.laid W) : Lib.TabIs Tryz.prog W "internal/strconv.uint64pow10" .u64 Lib.pow10Tab := by
 have h1 := laidMetH.filter (fun x => x.1 == "internal/strconv.uint64pow10") h
 have e : (Rows.engineMoreUptoRow.laid.filter fun x => x.1 == "internal/strconv.uint64pow10") = [("internal/strconv.uint64pow10", Lib.tabData .u64 Lib.pow10Tab)] := by kernel_rfl
 rw [e, MakeChecks.laidMetH_plain _ _ _ (by kernel_rfl)] at h1
 exact Lib.tabIs_of_head (g := 1) (t := 292) (e := 212) (n := 20) (by kernel_rfl) (by kernel_rfl) Tryz.underlying292 Tryz.underlying212 (by kernel_rfl) (by kernel_rfl) h1

set_option maxRecDepth 100000 in
theorem contract (H : Type) (enc : TypeId × Value → H) (W : World) (base : Nat) (args : Array Value) (ds gs : List (DataW H)) (before : List MemPlace)
 (hval : ∀ (j : Nat) t v, Tryz.f4.params[j]? = some t → args[j]? = some v → Value.okWide Tryz.prog W .any base t v)
 (hW : DataW.Whole enc Tryz.prog Tryz.f4.params.toList Rows.engineMoreSpec.vars false W args.toList ds gs before)
 (hk : Rows.uptoSmall H (ds ++ gs) = true)
 (hlaid : laidMetH Tryz.prog Rows.engineMoreUptoRow.laid W)
 (hsh : W.ShapedOpen Tryz.prog) :
 Calls Tryz.prog 4 args W fun e W' => ∃ v, e = .returned v ∧ Rows.engineMoreSpec.post enc Tryz.prog Tryz.f4 false true false false W args v W' := by
 have hW' := hW
 obtain ⟨p, q, hA0, hV, rfl, hfz, hnd⟩ := hW
 have hA : DataW.TrodAll enc Tryz.prog W 0 (fun _ => true) true Tryz.f4.params.toList args.toList ds p := hA0
 have HK : Hid (Rows.uptoBulkAll (ds ++ gs) ≤ 1048576) := upto_bound hk
 clear hk
 rw [Tryz.params4] at hA hval
 obtain ⟨v0, vs0, d0, ds0, p0, q0, hargs, rfl, rfl, h0, r0⟩ := trodAll_cons hA
 obtain ⟨v1, vs1, d1, ds1, p1, q1, rfl, rfl, rfl, h1, r1⟩ := trodAll_cons r0
 obtain ⟨v2, vs2, d2, ds2, p2, q2, rfl, rfl, rfl, h2, r2⟩ := trodAll_cons r1
 obtain ⟨v3, vs3, d3, ds3, p3, q3, rfl, rfl, rfl, h3, r3⟩ := trodAll_cons r2
 obtain ⟨rfl, rfl, rfl⟩ := trodAll_nil r3
 obtain rfl : args = #[v0, v1, v2, v3] := by cases args; simp_all
 obtain ⟨rfl, rfl⟩ := trodVars_none hV
 have hb0 : Rows.uptoBulk d0 ≤ 1048576 := Nat.le_trans (part_le (l := [d0, d1, d2, d3] ++ []) (by simp)) HK.out
 have hb1 : Rows.uptoBulk d1 ≤ 1048576 := Nat.le_trans (part_le (l := [d0, d1, d2, d3] ++ []) (by simp)) HK.out
 have hb2 : Rows.uptoBulk d2 ≤ 1048576 := Nat.le_trans (part_le (l := [d0, d1, d2, d3] ++ []) (by simp)) HK.out
 have hb3 : Rows.uptoBulk d3 ≤ 1048576 := Nat.le_trans (part_le (l := [d0, d1, d2, d3] ++ []) (by simp)) HK.out
 have hall := HK.out
 rw [List.append_nil] at hall
 simp only [Rows.uptoBulkAll] at hall
 obtain ⟨a0, x0, e0⟩ := open_rule (hval 0 26 v0 rfl rfl) h0
 have z0 := rule_bulk e0 (hb0)
 have n0 := x0.val
 subst n0
 obtain ⟨a1, x1, e1⟩ := open_request (hval 1 38 v1 rfl rfl) h1
 have z1 := request_bulk e1 (hb1)
 have n1 := x1.val
 subst n1
 obtain ⟨a2, x2, e2⟩ := open_args (hval 2 44 v2 rfl rfl) h2
 have z2 := args_bulk e2 (hb2)
 have n2 := x2.val
 subst n2
 obtain ⟨a3, x3, e3⟩ := open_args (hval 3 44 v3 rfl rfl) h3
 have z3 := args_bulk e3 (hb3)
 have n3 := x3.val
 subst n3
 refine (engineMore_any a0 a1 a2 a3 W x0 z0 x1 z1 x2 z2 x3 z3 (Tryz.laysM146.s1_3 W hsh) (tab_pow10 hlaid)).mono fun e W' ⟨he, hb⟩ => ?_
 subst he
 exact ⟨_, rfl, law_post laidOut (by decide +kernel) rfl Tryz.underlying4 rfl hW' hb rfl⟩

noncomputable def laidWorld (os : Os) : World := World.laidAll Tryz.prog os Rows.engineMoreUptoRow.laid
theorem laid_met (os : Os) : laidMet Tryz.prog Rows.engineMoreUptoRow.laid ((laidWorld os).forCall (fun _ _ => 0) ⟨#[], #[.agg #[.int .i64 0, .int .i64 0, .slice none 0 0, .slice none 0 0, .bool false, .int .i64 0, .string ByteArray.empty, .slice none 0 0, .bool false], .agg #[.string ByteArray.empty, .string ByteArray.empty, .slice none 0 0, .string ByteArray.empty], .slice none 0 0, .slice none 0 0], []⟩).memory :=
 laidMet_laidAll _ (by kernel_rfl) (by kernel_rfl)
theorem reads (os : Os) {H : Type} (enc : TypeId × Value → H) : ∃ places, DataW.whole enc Tryz.prog ((laidWorld os).forCall (fun _ _ => 0) ⟨#[], #[.agg #[.int .i64 0, .int .i64 0, .slice none 0 0, .slice none 0 0, .bool false, .int .i64 0, .string ByteArray.empty, .slice none 0 0, .bool false], .agg #[.string ByteArray.empty, .string ByteArray.empty, .slice none 0 0, .string ByteArray.empty], .slice none 0 0, .slice none 0 0], []⟩).memory Tryz.f4.params.toList Rows.engineMoreSpec.vars false #[.agg #[.int .i64 0, .int .i64 0, .slice none 0 0, .slice none 0 0, .bool false, .int .i64 0, .string ByteArray.empty, .slice none 0 0, .bool false], .agg #[.string ByteArray.empty, .string ByteArray.empty, .slice none 0 0, .string ByteArray.empty], .slice none 0 0, .slice none 0 0].toList 8 = some ([.agg [.lit (.int .i64 0), .lit (.int .i64 0), .nil, .nil, .lit (.bool false), .lit (.int .i64 0), .lit (.string []), .nil, .lit (.bool false)], .agg [.agg [.lit (.string []), .lit (.string []), .nil], .lit (.string [])], .nil, .nil], [], places) :=
 ⟨[], by kernel_rfl⟩
set_option maxRecDepth 100000 in
theorem lifted (os : Os) (started : os.Started) (H : Type) (enc : TypeId × Value → H) (F : Stop.Interp) :
 ReturnsInHanded {} Tryz.checked os 4 .any ((Rows.OpenSpec.upto Rows.engineMoreSpec).preRow enc Tryz.prog Tryz.f4 Rows.engineMoreUptoRow.domain false Rows.engineMoreUptoRow.laid) (((Rows.OpenSpec.upto Rows.engineMoreSpec).at F).post enc Tryz.prog Tryz.f4 false true false false) := by
 obtain ⟨places, hx⟩ := reads os enc
 refine returnsInHanded_of_row (C := Tryz.checked) (s := Rows.OpenSpec.upto Rows.engineMoreSpec) own started (by kernel_rfl) Tryz.func4
  (witness_row_at (enc := enc) (C := Tryz.checked) false (laidWorld os) #[.agg #[.int .i64 0, .int .i64 0, .slice none 0 0, .slice none 0 0, .bool false, .int .i64 0, .string ByteArray.empty, .slice none 0 0, .bool false], .agg #[.string ByteArray.empty, .string ByteArray.empty, .slice none 0 0, .string ByteArray.empty], .slice none 0 0, .slice none 0 0] (World.laidAll_os _ _ _) (by kernel_rfl) (by kernel_rfl) (by kernel_rfl)
   (OpenSpec.preRow_of_cond 8 hx (by kernel_rfl) (fun k hk => by cases hk; kernel_rfl) (by kernel_rfl) (laid_met os))) ?_
 intro W base args ds gs before hval hW _ hcond _ hlaid hsh _
 exact contract H enc W base args ds gs before hval hW (hcond _ rfl) hlaid hsh

theorem closedA : (Rows.engineMoreUptoRow.inPlace == Tryz.pinned.checked.prog.inPlace 4) = true := by kernel_rfl
theorem closedB : (Rows.engineMoreUptoRow.unfollowed == Tryz.pinned.checked.prog.unfollowed 4) = true := by kernel_rfl
theorem closedC : (Rows.engineMoreUptoRow.recurses == Tryz.pinned.checked.prog.recurses 4) = true := by kernel_rfl
theorem closedD : (Rows.engineMoreUptoRow.named == Tryz.pinned.checked.prog.varsNamed 4) = true := by kernel_rfl
theorem closed : joinedFacts Tryz.pinned.checked.prog 4 Tryz.f4 (Rows.OpenSpec.upto Rows.engineMoreSpec).bare Rows.engineMoreUptoRow = true := by
 unfold joinedFacts
 repeat' (with_reducible refine Bool.and_eq_true_iff.2 ⟨?_, ?_⟩)
 all_goals (with_reducible first | exact closedA | exact closedB | exact closedC | exact closedD | skip)
 all_goals kernel_rfl
theorem over : Rows.engineMoreUptoRow.holds Tryz.pinned (Rows.OpenSpec.upto Rows.engineMoreSpec) :=
 OpenClaim.holds_of_cond 4 Tryz.f4 rfl rfl rfl rfl rfl rfl rfl ⟨rfl, rfl, rfl, rfl, rfl⟩ rfl rfl rfl rfl rfl (by kernel_rfl) Tryz.func4 closed
  (of_decide_eq_true (by kernel_rfl)) (by unfold Func.isWrapper; first | (rw [if_pos (by decide +kernel)]; kernel_rfl) | (rw [if_neg (by decide +kernel)]; exact ⟨rfl, rfl⟩))
  (fun os started H enc _ F => by rw [OpenClaim.pre_eq_preRow]; exact lifted os started H enc F)

theorem plain (f : FuncId) (fn : Func) (hf : Tryz.pinned.checked.prog.funcNamed "gatewicket/wickkeep.EngineMore" = some f) (hfn : Tryz.pinned.checked.prog.funcs[f]? = some fn) :
 false = Tryz.pinned.checked.prog.looks [] ∧ ∀ (j : Nat) t, fn.params[j]? = some t → Tryz.pinned.checked.prog.wantsStandIn t = false := by
 obtain rfl : f = 4 := Option.some.inj ((show Tryz.prog.funcNamed "gatewicket/wickkeep.EngineMore" = some 4 by kernel_rfl).symm.trans hf) |>.symm
 obtain rfl : fn = Tryz.f4 := (Option.some.inj (Tryz.func4.symm.trans hfn)).symm
 refine ⟨by kernel_rfl, fun j t ht => ?_⟩
 rw [Tryz.params4] at ht
 have hm : t ∈ [26, 38, 44, 44] := by simpa using Array.mem_of_getElem? ht
 have hall : ([26, 38, 44, 44].all fun u => !Tryz.prog.wantsStandIn u) = true := by kernel_rfl
 exact (show Tryz.prog.wantsStandIn t = false by simpa using List.all_eq_true.1 hall t hm)

theorem proved : Rows.EngineMoreUptoCardSaid :=
 Claim7.holds_tied_plain_at .later [] _ _ _ _ over (fun _ h => by cases h) (by kernel_rfl) (fun _ h => by cases h) engineMoreUpto_row_tie rfl ⟨rfl, rfl⟩ (by kernel_rfl) rfl plain (by kernel_rfl)
#print axioms proved
end Go.Proofs.YthfjmlcjkbgboaaGreatDoor.engineMore
