/- OpsTexts walked. -/
import Derived.Test.YtipkelbbfgidhaaGreatDoorOpsV
namespace Go.Proofs.YtipkelbbfgidhaaGreatDoor
open Go.RowKit

theorem ab_phr : phrW ⟨#[97, 124, 66]⟩ = [⟨#[97]⟩, ⟨#[98]⟩] := by decide +kernel
theorem ab_ok : OkW (phrW ⟨#[97, 124, 66]⟩) := by
  rw [ab_phr]
  exact ⟨good_of_code (by decide +kernel), not_full (by decide +kernel)⟩
theorem ab_tst : tstP (phrW ⟨#[97, 124, 66]⟩) ⟨#[120, 98]⟩ = true := by
  rw [ab_phr]; decide +kernel
theorem lowB_again (v : ByteArray) : lowB (lowB v) = lowB v := by
  unfold lowB; rw [bs_toList, lowerL_again]
theorem tstP_low (ws : List ByteArray) (v : ByteArray) : tstP ws (lowB v) = tstP ws v := by
  have h : lowerL (lowB v).data.toList = lowerL v.data.toList := by
    unfold lowB; rw [bs_toList, lowerL_again]
  unfold tstP; rw [h]
/-- What held answers. -/
def HeldIs (op : Int) (arg v : ByteArray) (is ok : Bool) : Prop := ∀ w : World, LibOk w → Calls Tryz.prog 4 #[.int .i64 op, .string arg, .string v] w fun e w' => e = .returned (.tuple #[.bool is, .bool ok]) ∧ Below w.heap.size w w'
theorem heldT (op : Int) (hop : op = 3 ∨ op = 4 ∨ op = 5 ∨ op = 6) (arg v : ByteArray) : HeldIs op arg v (decide (arg.size ≤ 200 ∧ v.size ≤ 8192) && tstT op arg v) (decide (arg.size ≤ 200 ∧ v.size ≤ 8192)) := fun w hl =>
  held_any op arg v w _ _ (holdsT_any op hop arg v w hl _ _ (fun h => by rw [decide_eq_true h]; exact ⟨Bool.true_and _, rfl⟩) (fun h => by rw [decide_eq_false h]; exact ⟨rfl, rfl⟩))
open Classical in
noncomputable def fineP (arg v : ByteArray) : Bool := decide (OkW (phrW arg) ∧ v.size ≤ 8192)
open Classical in
theorem heldP (arg v : ByteArray) (ha : arg.size ≤ 1048576) : HeldIs 2 arg v (fineP arg v && tstP (phrW arg) v) (fineP arg v) := fun w hl =>
  held_any 2 arg v w _ _ (holdsP_any arg v w hl ha _ _ (fun h => by unfold fineP; rw [decide_eq_true h]; exact ⟨Bool.true_and _, rfl⟩) (fun h => by unfold fineP; rw [decide_eq_false h]; exact ⟨rfl, rfl⟩))
theorem heldAB : HeldIs 2 ⟨#[97, 124, 66]⟩ ⟨#[120, 98]⟩ true true := fun w hl =>
  held_any 2 _ _ w _ _ (holdsP_any _ _ w hl (by decide) _ _ (fun _ => ⟨ab_tst.symm, rfl⟩) (fun h => absurd ⟨ab_ok, by decide⟩ h))
/-- The four answers fit each other. -/
theorem four_fit (arg v : ByteArray) : ((tstT 3 arg v && (!(tstT 5 arg v) || !(tstT 6 arg v))) || ((tstT 5 arg v || tstT 6 arg v) && !(tstT 4 arg v)) || (tstT 3 arg v != (arg.toList == v.toList))) = false := by
  have e3 : tstT 3 arg v = (arg.toList == v.toList) := by
    have : tstT 3 arg v = (v.toList == arg.toList) := rfl
    rw [this, Bool.eq_iff_iff, beq_iff_eq, beq_iff_eq]
    exact ⟨Eq.symm, Eq.symm⟩
  have e4 : tstT 4 arg v = Lib.contains v.data.toList arg.data.toList := rfl
  have e5 : tstT 5 arg v = Lib.hasPrefix v.data.toList arg.data.toList := rfl
  have e6 : tstT 6 arg v = Lib.hasSuffix v.data.toList arg.data.toList := rfl
  rw [e3, e4, e5, e6]
  have hp := @pre_has v.data.toList arg.data.toList
  have hs := @suf_has v.data.toList arg.data.toList
  have h3 : (arg.toList == v.toList) = true → Lib.hasPrefix v.data.toList arg.data.toList = true ∧ Lib.hasSuffix v.data.toList arg.data.toList = true := fun h => by
    have e : arg.data.toList = v.data.toList := by
      have := beq_iff_eq.1 h
      rw [ByteArray.toList_eq, ByteArray.toList_eq] at this
      exact this
    rw [e]
    exact ⟨pre_self _, suf_self _⟩
  generalize Lib.hasPrefix v.data.toList arg.data.toList = p at *
  generalize Lib.hasSuffix v.data.toList arg.data.toList = s at *
  generalize Lib.contains v.data.toList arg.data.toList = c at *
  generalize (arg.toList == v.toList) = q at *
  cases q <;> cases p <;> cases s <;> cases c <;> simp at *
set_option maxRecDepth 100000 in
set_option maxHeartbeats 3200000 in
theorem opsTexts_any (arg v : ByteArray) (w : World) (ha : arg.size ≤ 1048576) (hv : v.size ≤ 1048576) (hl : LibOk w) :
    Calls Tryz.prog 3 #[.string arg, .string v] w fun e w' => e = .returned (.bool true) ∧ Below w.heap.size w w' := by
  have HL := Lib.hid hl
  have HAB := Lib.hid heldAB
  have H3 := Lib.hid (heldT 3 (by omega) arg v)
  have H5 := Lib.hid (heldT 5 (by omega) arg v)
  have H6 := Lib.hid (heldT 6 (by omega) arg v)
  have H4 := Lib.hid (heldT 4 (by omega) arg v)
  have HFIT := Lib.hid (four_fit arg v)
  have HA := Lib.hid (heldP arg v ha)
  have HLOW : Hid (∀ W, Calls Tryz.prog 5 #[.string v] W (StrPost (lowB v) W)) := Lib.hid fun W => Lower_any v W (by unfold maxLen; omega)
  have HB := Lib.hid (heldP arg (lowB v) ha)
  have efin : fineP arg (lowB v) = fineP arg v := by unfold fineP; rw [lowB_size]
  rw [tstP_low, efin] at HB
  clear efin
  generalize lowB v = lv at *
  generalize tstT 3 arg v = b3 at *
  generalize tstT 4 arg v = b4 at *
  generalize tstT 5 arg v = b5 at *
  generalize tstT 6 arg v = b6 at *
  generalize decide (arg.size ≤ 200 ∧ v.size ≤ 8192) = ok at *
  generalize tstP (phrW arg) v = tp at *
  generalize fineP arg v = fine at *
  clear hl ha hv
  cases ok with
  | false =>
    rw [Bool.false_and] at H3 H4 H5 H6
    clear HA HB HFIT HLOW
    go_enter Tryz.func3, Tryz.ntmps3
    go_wp2_with (go_at_call 4; apply Hid.out)
    unfold Hid
    refine (HAB.out _ (HL.out.below (Below.refl _ _))).mono ?_
    rintro e w1 ⟨rfl, hb1⟩
    go_wp2_with (go_at_call 4; apply Hid.out)
    unfold Hid
    refine (H3.out _ (HL.out.below hb1)).mono ?_
    rintro e w2 ⟨rfl, hc2⟩
    have hb2 := hb1.trans (hc2.mono hb1.size)
    go_wp2_with (go_at_call 4; apply Hid.out)
    unfold Hid
    refine (H5.out _ (HL.out.below hb2)).mono ?_
    rintro e w3 ⟨rfl, hc3⟩
    have hb3 := hb2.trans (hc3.mono hb2.size)
    go_wp2_with (go_at_call 4; apply Hid.out)
    unfold Hid
    refine (H6.out _ (HL.out.below hb3)).mono ?_
    rintro e w4 ⟨rfl, hc4⟩
    have hb4 := hb3.trans (hc4.mono hb3.size)
    go_wp2_with (go_at_call 4; apply Hid.out)
    unfold Hid
    refine (H4.out _ (HL.out.below hb4)).mono ?_
    rintro e w5 ⟨rfl, hc5⟩
    have hb5 := hb4.trans (hc5.mono hb4.size)
    go_wp2_with fail
    go_ret
    exact ⟨rfl, hb5⟩
  | true =>
    rw [Bool.true_and] at H3 H4 H5 H6
    have hfit := HFIT.out
    clear HFIT
    generalize hq : (arg.toList == v.toList) = q at *
    cases q <;> cases b3 <;> cases b5 <;> cases b6 <;> cases b4 <;> first | (exact absurd hfit (by decide)) | skip
    all_goals
      clear hfit
      go_enter Tryz.func3, Tryz.ntmps3
      go_wp2_with (go_at_call 4; apply Hid.out)
      unfold Hid
      refine (HAB.out _ (HL.out.below (Below.refl _ _))).mono ?_
      rintro e w1 ⟨rfl, hb1⟩
      go_wp2_with (go_at_call 4; apply Hid.out)
      unfold Hid
      refine (H3.out _ (HL.out.below hb1)).mono ?_
      rintro e w2 ⟨rfl, hc2⟩
      have hb2 := hb1.trans (hc2.mono hb1.size)
      go_wp2_with (go_at_call 4; apply Hid.out)
      unfold Hid
      refine (H5.out _ (HL.out.below hb2)).mono ?_
      rintro e w3 ⟨rfl, hc3⟩
      have hb3 := hb2.trans (hc3.mono hb2.size)
      go_wp2_with (go_at_call 4; apply Hid.out)
      unfold Hid
      refine (H6.out _ (HL.out.below hb3)).mono ?_
      rintro e w4 ⟨rfl, hc4⟩
      have hb4 := hb3.trans (hc4.mono hb3.size)
      go_wp2_with (go_at_call 4; apply Hid.out)
      unfold Hid
      refine (H4.out _ (HL.out.below hb4)).mono ?_
      rintro e w5 ⟨rfl, hc5⟩
      have hb5 := hb4.trans (hc5.mono hb4.size)
      go_wp2_with (first | (go_at_call 4; apply Hid.out) | fail "lower")
      unfold Hid
      refine (HA.out _ (HL.out.below hb5)).mono ?_
      rintro e w6 ⟨rfl, hc6⟩
      have hb6 := hb5.trans (hc6.mono hb5.size)
      go_wp2_with (go_at_call 5; apply Hid.out)
      unfold Hid
      refine (HLOW.out _).mono ?_
      rintro e w7 ⟨rfl, hc7⟩
      have hb7 := hb6.trans (hc7.mono hb6.size)
      go_wp2_with (go_at_call 4; apply Hid.out)
      unfold Hid
      refine (HB.out _ (HL.out.below hb7)).mono ?_
      rintro e w8 ⟨rfl, hc8⟩
      have hb8 := hb7.trans (hc8.mono hb7.size)
      cases fine <;> cases tp
      all_goals
        go_wp2_with fail
        go_ret
        exact ⟨rfl, hb8⟩
end Go.Proofs.YtipkelbbfgidhaaGreatDoor
