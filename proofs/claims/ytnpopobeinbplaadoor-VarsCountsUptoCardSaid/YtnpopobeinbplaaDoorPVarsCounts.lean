/- VarsCounts is proved here: for every input of bulk at most 1048576 the law returns true, and its arguments read as they did. Condition: the bound. -/
import Derived.Test.YtnpopobeinbplaaDoorFrame
import Derived.Test.YtnpopobeinbplaaDoorVarC
import Derived.Test.YtnpopobeinbplaaDoorCards
import Derived.Test.YtnpopobeinbplaaDoorTie
import Derived.Deep.DeepHandedRow
import Derived.Lay
import Derived.SevenTiedAt
import Derived.LaidSub
import Derived.MakeChecks
import Derived.Lib.LaidTab
import Derived.Lib.ItoaNum
import Derived.Test.YtnpopobeinbplaaDoorOpenQ
import Derived.Test.YtnpopobeinbplaaDoorOpenU
namespace Go.Proofs.YtnpopobeinbplaaDoor.varsCounts
open Go.ChangeShapes Go.WideShapes Go.ChangeAt Go.RowKit
open Go.ChangeMaps (open_string)

theorem tab_pow10 {W : World} (h : laidMetH Tryd.prog Rows.varsCountsUptoRow.laid W) : Lib.TabIs Tryd.prog W "internal/strconv.uint64pow10" .u64 Lib.pow10Tab := by
  have h1 := laidMetH.filter (fun x => x.1 == "internal/strconv.uint64pow10") h
  have e : (Rows.varsCountsUptoRow.laid.filter fun x => x.1 == "internal/strconv.uint64pow10") = [("internal/strconv.uint64pow10", Lib.tabData .u64 Lib.pow10Tab)] := by kernel_rfl
  rw [e, MakeChecks.laidMetH_plain _ _ _ (by kernel_rfl)] at h1
  exact Lib.tabIs_of_head (g := 1) (t := 164) (e := 119) (n := 20) (by kernel_rfl) (by kernel_rfl) Tryd.underlying164 Tryd.underlying119 (by kernel_rfl) (by kernel_rfl) h1

set_option maxRecDepth 100000 in
theorem contract (H : Type) (enc : TypeId × Value → H) (W : World) (base : Nat) (args : Array Value) (ds gs : List (DataW H)) (before : List MemPlace)
    (hval : ∀ (j : Nat) t v, Tryd.f7.params[j]? = some t → args[j]? = some v → Value.okWide Tryd.prog W .any base t v)
    (hW : DataW.Whole enc Tryd.prog Tryd.f7.params.toList Rows.varsCountsSpec.vars false W args.toList ds gs before)
    (hk : Rows.uptoSmall H (ds ++ gs) = true)
    (hlaid : laidMetH Tryd.prog Rows.varsCountsUptoRow.laid W)
    (hsh : W.ShapedOpen Tryd.prog) :
    Calls Tryd.prog 7 args W fun e W' => ∃ v, e = .returned v ∧ Rows.varsCountsSpec.post enc Tryd.prog Tryd.f7 false true false false W args v W' := by
  have hW' := hW
  obtain ⟨p, q, hA0, hV, rfl, hfz, hnd⟩ := hW
  have hA : DataW.TrodAll enc Tryd.prog W 0 (fun _ => true) true Tryd.f7.params.toList args.toList ds p := hA0
  have HK : Hid (Rows.uptoBulkAll (ds ++ gs) ≤ 1048576) := upto_bound hk
  clear hk
  rw [Tryd.params7] at hA hval
  obtain ⟨v0, vs0, d0, ds0, p0, q0, hargs, rfl, rfl, h0, r0⟩ := trodAll_cons hA
  obtain ⟨v1, vs1, d1, ds1, p1, q1, rfl, rfl, rfl, h1, r1⟩ := trodAll_cons r0
  obtain ⟨v2, vs2, d2, ds2, p2, q2, rfl, rfl, rfl, h2, r2⟩ := trodAll_cons r1
  obtain ⟨v3, vs3, d3, ds3, p3, q3, rfl, rfl, rfl, h3, r3⟩ := trodAll_cons r2
  obtain ⟨v4, vs4, d4, ds4, p4, q4, rfl, rfl, rfl, h4, r4⟩ := trodAll_cons r3
  obtain ⟨v5, vs5, d5, ds5, p5, q5, rfl, rfl, rfl, h5, r5⟩ := trodAll_cons r4
  obtain ⟨rfl, rfl, rfl⟩ := trodAll_nil r5
  obtain rfl : args = #[v0, v1, v2, v3, v4, v5] := by cases args; simp_all
  obtain ⟨rfl, rfl⟩ := trodVars_none hV
  have hb0 : Rows.uptoBulk d0 ≤ 1048576 := Nat.le_trans (part_le (l := [d0, d1, d2, d3, d4, d5] ++ []) (by simp)) HK.out
  have hb1 : Rows.uptoBulk d1 ≤ 1048576 := Nat.le_trans (part_le (l := [d0, d1, d2, d3, d4, d5] ++ []) (by simp)) HK.out
  have hb2 : Rows.uptoBulk d2 ≤ 1048576 := Nat.le_trans (part_le (l := [d0, d1, d2, d3, d4, d5] ++ []) (by simp)) HK.out
  have hb3 : Rows.uptoBulk d3 ≤ 1048576 := Nat.le_trans (part_le (l := [d0, d1, d2, d3, d4, d5] ++ []) (by simp)) HK.out
  have hb4 : Rows.uptoBulk d4 ≤ 1048576 := Nat.le_trans (part_le (l := [d0, d1, d2, d3, d4, d5] ++ []) (by simp)) HK.out
  have hb5 : Rows.uptoBulk d5 ≤ 1048576 := Nat.le_trans (part_le (l := [d0, d1, d2, d3, d4, d5] ++ []) (by simp)) HK.out
  have hall := HK.out
  rw [List.append_nil] at hall
  simp only [Rows.uptoBulkAll] at hall
  obtain ⟨a0, b0, c0, rfl⟩ := open_var (hval 0 61 v0 rfl rfl) h0
  obtain ⟨a1, x1, e1⟩ := open_request (hval 1 50 v1 rfl rfl) h1
  have z1 := request_bulk e1 (hb1)
  have n1 := x1.val
  subst n1
  obtain ⟨a2, rfl, rfl, rfl, w2⟩ := open_int Tryd.underlying25 (hval 2 25 v2 rfl rfl) h2
  have z2 : 0 ≤ a2 ∧ a2 ≤ 4294967295 := by simpa [Lit.wf, IntKind.min, IntKind.max, IntKind.signed, IntKind.bits] using w2
  obtain ⟨a3, rfl, rfl, rfl, w3⟩ := open_int Tryd.underlying3 (hval 3 3 v3 rfl rfl) h3
  have z3 : -9223372036854775808 ≤ a3 ∧ a3 ≤ 9223372036854775807 := by simpa [Lit.wf, IntKind.min, IntKind.max, IntKind.signed, IntKind.bits] using w3
  obtain ⟨a4, x4, e4⟩ := open_args (hval 4 58 v4 rfl rfl) h4
  have z4 := args_bulk e4 (hb4)
  have n4 := x4.val
  subst n4
  obtain ⟨a5, x5, e5⟩ := open_args (hval 5 58 v5 rfl rfl) h5
  have z5 := args_bulk e5 (hb5)
  have n5 := x5.val
  subst n5
  refine (varsCounts_any a0 b0 c0 a1 a2 a3 a4 a5 W x1 z1 z2 z3 x4 z4 x5 z5 (Tryd.laysM146.s1_3 W hsh) (tab_pow10 hlaid)).mono fun e W' ⟨he, hb⟩ => ?_
  subst he
  exact ⟨_, rfl, law_post laidOut (by decide +kernel) rfl Tryd.underlying4 rfl hW' hb rfl⟩

noncomputable def laidWorld (os : Os) : World := World.laidAll Tryd.prog os Rows.varsCountsUptoRow.laid
theorem laid_met (os : Os) : laidMet Tryd.prog Rows.varsCountsUptoRow.laid ((laidWorld os).forCall (fun _ _ => 0) ⟨#[], #[.agg #[.int .i64 0, .int .i64 0, .string ByteArray.empty], .agg #[.string ByteArray.empty, .string ByteArray.empty, .slice none 0 0, .string ByteArray.empty], .int .u32 0, .int .i64 0, .slice none 0 0, .slice none 0 0], []⟩).memory :=
  laidMet_laidAll _ (by kernel_rfl) (by kernel_rfl)
theorem reads (os : Os) {H : Type} (enc : TypeId × Value → H) : ∃ places, DataW.whole enc Tryd.prog ((laidWorld os).forCall (fun _ _ => 0) ⟨#[], #[.agg #[.int .i64 0, .int .i64 0, .string ByteArray.empty], .agg #[.string ByteArray.empty, .string ByteArray.empty, .slice none 0 0, .string ByteArray.empty], .int .u32 0, .int .i64 0, .slice none 0 0, .slice none 0 0], []⟩).memory Tryd.f7.params.toList Rows.varsCountsSpec.vars false #[.agg #[.int .i64 0, .int .i64 0, .string ByteArray.empty], .agg #[.string ByteArray.empty, .string ByteArray.empty, .slice none 0 0, .string ByteArray.empty], .int .u32 0, .int .i64 0, .slice none 0 0, .slice none 0 0].toList 8 = some ([.agg [.lit (.int .i64 0), .lit (.int .i64 0), .lit (.string [])], .agg [.agg [.lit (.string []), .lit (.string []), .nil], .lit (.string [])], .lit (.int .u32 0), .lit (.int .i64 0), .nil, .nil], [], places) :=
  ⟨[], by kernel_rfl⟩
set_option maxRecDepth 100000 in
theorem lifted (os : Os) (started : os.Started) (H : Type) (enc : TypeId × Value → H) (F : Stop.Interp) :
    ReturnsInHanded {} Tryd.checked os 7 .any ((Rows.OpenSpec.upto Rows.varsCountsSpec).preRow enc Tryd.prog Tryd.f7 Rows.varsCountsUptoRow.domain false Rows.varsCountsUptoRow.laid) (((Rows.OpenSpec.upto Rows.varsCountsSpec).at F).post enc Tryd.prog Tryd.f7 false true false false) := by
  obtain ⟨places, hx⟩ := reads os enc
  refine returnsInHanded_of_row (C := Tryd.checked) (s := Rows.OpenSpec.upto Rows.varsCountsSpec) own started (by kernel_rfl) Tryd.func7
    (witness_row_at (enc := enc) (C := Tryd.checked) false (laidWorld os) #[.agg #[.int .i64 0, .int .i64 0, .string ByteArray.empty], .agg #[.string ByteArray.empty, .string ByteArray.empty, .slice none 0 0, .string ByteArray.empty], .int .u32 0, .int .i64 0, .slice none 0 0, .slice none 0 0] (World.laidAll_os _ _ _) (by kernel_rfl) (by kernel_rfl) (by kernel_rfl)
      (OpenSpec.preRow_of_cond 8 hx (by kernel_rfl) (fun k hk => by cases hk; kernel_rfl) (by kernel_rfl) (laid_met os))) ?_
  intro W base args ds gs before hval hW _ hcond _ hlaid hsh _
  exact contract H enc W base args ds gs before hval hW (hcond _ rfl) hlaid hsh

theorem over : Rows.varsCountsUptoRow.holds Tryd.pinned (Rows.OpenSpec.upto Rows.varsCountsSpec) :=
  OpenClaim.holds_of_cond 7 Tryd.f7 rfl rfl rfl rfl rfl rfl rfl ⟨rfl, rfl, rfl, rfl, rfl⟩ rfl rfl rfl rfl rfl (by kernel_rfl) Tryd.func7 (by kernel_rfl)
    (of_decide_eq_true (by kernel_rfl)) (by unfold Func.isWrapper; first | (rw [if_pos (by decide +kernel)]; kernel_rfl) | (rw [if_neg (by decide +kernel)]; exact ⟨rfl, rfl⟩))
    (fun os started H enc _ F => by rw [OpenClaim.pre_eq_preRow]; exact lifted os started H enc F)

theorem plain (f : FuncId) (fn : Func) (hf : Tryd.pinned.checked.prog.funcNamed "gatewicket/wickkeep.VarsCounts" = some f) (hfn : Tryd.pinned.checked.prog.funcs[f]? = some fn) :
    false = Tryd.pinned.checked.prog.looks [] ∧ ∀ (j : Nat) t, fn.params[j]? = some t → Tryd.pinned.checked.prog.wantsStandIn t = false := by
  obtain rfl : f = 7 := Option.some.inj ((show Tryd.prog.funcNamed "gatewicket/wickkeep.VarsCounts" = some 7 by kernel_rfl).symm.trans hf) |>.symm
  obtain rfl : fn = Tryd.f7 := (Option.some.inj (Tryd.func7.symm.trans hfn)).symm
  refine ⟨by kernel_rfl, fun j t ht => ?_⟩
  rw [Tryd.params7] at ht
  have hm : t ∈ [61, 50, 25, 3, 58, 58] := by simpa using Array.mem_of_getElem? ht
  have hall : ([61, 50, 25, 3, 58, 58].all fun u => !Tryd.prog.wantsStandIn u) = true := by kernel_rfl
  exact (show Tryd.prog.wantsStandIn t = false by simpa using List.all_eq_true.1 hall t hm)

theorem proved : Rows.VarsCountsUptoCardSaid :=
  Claim7.holds_tied_plain_at .later [] _ _ _ _ over (fun _ h => by cases h) (by kernel_rfl) (fun _ h => by cases h) varsCountsUpto_row_tie rfl ⟨rfl, rfl⟩ (by kernel_rfl) rfl plain (by kernel_rfl)
#print axioms proved
end Go.Proofs.YtnpopobeinbplaaDoor.varsCounts
