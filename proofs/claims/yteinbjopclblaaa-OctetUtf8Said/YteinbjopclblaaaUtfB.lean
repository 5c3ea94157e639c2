/- The walks of octet.Utf8 and of the law OctetUtf8. -/
import Derived.Test.YteinbjopclblaaaUtf
namespace Go.Proofs.Yteinbjopclblaaa
open Go.RowKit

def UtfPost (s : ByteArray) (w : World) (e : Ending) (w' : World) : Prop :=
  e = .returned (.tuple #[.bool (utfAt s.data.toList 0).1, .int .i64 (utfAt s.data.toList 0).2]) ∧ Below w.heap.size w w'
def UtfRel (s : ByteArray) (w : World) (i : Value) (w' : World) : Prop :=
  ∃ k : Nat, k ≤ s.size ∧ i = .int .i64 k ∧ utfAt s.data.toList 0 = utfAt (s.data.toList.drop k) k ∧ Below w.heap.size w w'

set_option maxRecDepth 100000 in
set_option maxHeartbeats 800000 in
theorem Utf8_any (s : ByteArray) (w : World) (hs : s.size ≤ maxLen) :
    Calls Try.prog 23 #[.string s] w (UtfPost s w) := by
  have hs2 := hs
  unfold maxLen at hs
  go_enter Try.func23, Try.ntmps23
  go_wp2
  go_loopw [4] (fun i wr => UtfRel s w i wr) (fun i _ => s.size - (intOf i).toNat)
  case atStart => exact ⟨0, Nat.zero_le _, rfl, rfl, Below.refl _ _⟩
  case round =>
    obtain ⟨k, hk, rfl, hr, hbl⟩ := hrel
    have HR := Lib.hid hr
    clear hr
    by_cases hlt : k < s.size
    · have hx : (s.extract k s.size).data.toList = s.data.toList.drop k := Lib.extract_to_end s k
      have hxs : (s.extract k s.size).size = s.size - k := by rw [Lib.size_eq, hx]; simp
      have HX := Lib.hid hx
      have HXS := Lib.hid hxs
      have hdl : Hid ((s.data.toList.drop k).length = s.size - k) := by unfold Hid; simp
      have hle := sizeL_le (s.data.toList.drop k) (by rw [hdl.out]; omega)
      rw [hdl.out] at hle
      clear hx hxs
      by_cases hz : sizeL (s.data.toList.drop k) = 0
      · have HZ := Lib.hid hz
        clear hz hle
        go_wp2_with (go_at_call 61; refine (size_any _ (by rw [HXS.out]; omega) _ (by rw [HXS.out]; unfold maxLen at *; omega)).mono ?_; rintro e w1 ⟨rfl, hb1⟩; rw [HX.out, HZ.out])
        go_ret2
        exact ⟨by rw [HR.out, utfAt_bad _ _ (by rw [hdl.out]; omega) HZ.out]; rfl, hbl.trans (hb1.mono hbl.size)⟩
      · have hnz : ((sizeL (s.data.toList.drop k) : Int) == 0) = false := beq_eq_false_iff_ne.2 (by omega)
        have hst := Lib.hid (utfAt_step (s.data.toList.drop k) k (by rw [hdl.out]; omega) hz)
        have hpos : 0 < sizeL (s.data.toList.drop k) := by omega
        clear hz
        generalize hgn : sizeL (s.data.toList.drop k) = n at *
        have HGN := Lib.hid hgn
        clear hgn
        go_wp2_with (go_at_call 61; refine (size_any _ (by rw [HXS.out]; omega) _ (by rw [HXS.out]; unfold maxLen at *; omega)).mono ?_; rintro e w1 ⟨rfl, hb1⟩; rw [HX.out, HGN.out])
        go_roundw
        case rel => exact ⟨k + n, by omega, by go_num, by rw [HR.out, hst.out, List.drop_drop], hbl.trans (hb1.mono hbl.size)⟩
        case measure => simp [intOf]; omega
    · go_wp2
      go_ret2
      have hk' : k = s.size := by omega
      exact ⟨by rw [HR.out, List.drop_eq_nil_of_le (by simp; omega)]; rfl, hbl⟩

theorem utf_tok (l : List UInt8) : utfAt l 0 = ((utfAt l 0).1, (utfAt l 0).2) := rfl
theorem utfAt_true {l : List UInt8} {i : Nat} (h : (utfAt l i).1 = true) : (utfAt l i).2 = 0 := by
  have := utfAt_shift l.length l 0 i (Nat.le_refl _)
  rw [Nat.zero_add] at this
  cases hb : (utfAt l 0).1 with
  | true => rw [this, hb]; rfl
  | false => rw [this, hb] at h; cases h

theorem utf_first : utfAt (ByteArray.mk #[97, 195, 169, 255]).data.toList 0 = (false, 3) := by decide

set_option maxRecDepth 100000 in
set_option maxHeartbeats 1600000 in
theorem octetUtf8_any (s t : ByteArray) (w : World) (hs : s.size ≤ 140737488355328) (ht : t.size ≤ 140737488355328) :
    Calls Try.prog 4 #[.string s, .string t] w fun e w' => e = .returned (.bool true) ∧ Below w.heap.size w w' := by
  have HC : Hid ((s ++ t).data.toList = s.data.toList ++ t.data.toList) := by unfold Hid; simp
  have hv := utfAt_valid s.data.toList.length s.data.toList t.data.toList 0 (Nat.le_refl _)
  have hbad := utfAt_bad_pos s.data.toList.length s.data.toList 0 (Nat.le_refl _)
  have hsh := utfAt_shift t.data.toList.length t.data.toList 0 s.size (Nat.le_refl _)
  rw [Nat.zero_add] at hsh hv
  rw [show s.data.toList.length = s.size by simp] at hv hbad
  rw [hsh] at hv
  have htk : ∀ n, (s.extract 0 n).data.toList = s.data.toList.take n := fun n => by rw [extract_take, List.drop_zero]
  generalize hA : utfAt s.data.toList 0 = A at *
  generalize hB : utfAt t.data.toList 0 = B at *
  obtain ⟨a, n⟩ := A
  obtain ⟨b, m⟩ := B
  have HA := Lib.hid hA
  have HB := Lib.hid hB
  have hm : b = true → m = 0 := fun h => by have := utfAt_true (l := t.data.toList) (i := 0) (by rw [hB]; exact h); rw [hB] at this; exact this
  have hmle : (m : Int) ≤ 140737488355328 := by
    cases b with
    | true => rw [hm rfl]; decide
    | false =>
      have h := (utfAt_bad_pos t.data.toList.length t.data.toList 0 (Nat.le_refl _) (by rw [hB])).2.1
      rw [hB, Nat.zero_add, show t.data.toList.length = t.size by simp] at h
      simp at h; omega
  clear hA hB hsh
  have HTK := Lib.hid htk
  clear htk
  cases a with
  | true =>
    have hv' := hv rfl
    clear hbad hv
    cases b with
    | true =>
      have HV := Lib.hid (hv'.trans (if_pos rfl))
      obtain rfl := hm rfl
      clear hv' hm
      go_enter Try.func4, Try.ntmps4
      go_wp2_with fail
      refine (Utf8_any _ _ (by decide)).mono ?_
      rintro e w1 ⟨rfl, hb1⟩
      rw [utf_first]
      go_wp2_with fail
      refine (Utf8_any _ _ (by unfold maxLen; omega)).mono ?_
      rintro e w2 ⟨rfl, hb2⟩
      rw [HA.out]
      go_wp2_with fail
      refine (Utf8_any _ _ (by unfold maxLen; omega)).mono ?_
      rintro e w3 ⟨rfl, hb3⟩
      rw [HB.out]
      go_wp2_with fail
      refine (Utf8_any _ _ (by rw [ByteArray.size_append]; unfold maxLen; omega)).mono ?_
      rintro e w4 ⟨rfl, hb4⟩
      rw [HC.out, HV.out]
      go_wp2_with fail
      go_ret
      exact ⟨rfl, ((hb1.trans (hb2.mono hb1.size)).trans (hb3.mono (hb1.trans (hb2.mono hb1.size)).size)).trans (hb4.mono (by have := hb1.size; have := hb2.size; have := hb3.size; omega))⟩
    | false =>
      have HV := Lib.hid (hv'.trans (if_neg (show ¬ false = true by decide)))
      clear hv' hm
      go_enter Try.func4, Try.ntmps4
      go_wp2_with fail
      refine (Utf8_any _ _ (by decide)).mono ?_
      rintro e w1 ⟨rfl, hb1⟩
      rw [utf_first]
      go_wp2_with fail
      refine (Utf8_any _ _ (by unfold maxLen; omega)).mono ?_
      rintro e w2 ⟨rfl, hb2⟩
      rw [HA.out]
      go_wp2_with fail
      refine (Utf8_any _ _ (by unfold maxLen; omega)).mono ?_
      rintro e w3 ⟨rfl, hb3⟩
      rw [HB.out]
      go_wp2_with fail
      refine (Utf8_any _ _ (by rw [ByteArray.size_append]; unfold maxLen; omega)).mono ?_
      rintro e w4 ⟨rfl, hb4⟩
      rw [HC.out, HV.out]
      go_wp2_with fail
      go_ret
      exact ⟨by show Ending.returned (.bool _) = _; exact ret_bool (beq_iff_eq.2 (by omega)), ((hb1.trans (hb2.mono hb1.size)).trans (hb3.mono (hb1.trans (hb2.mono hb1.size)).size)).trans (hb4.mono (by have := hb1.size; have := hb2.size; have := hb3.size; omega))⟩
  | false =>
    obtain ⟨_, b2, b3, b4⟩ := hbad rfl
    clear hv hbad
    have b4' := b4 t.data.toList
    have hT : utfAt (s.data.toList.take n) 0 = (true, 0) := Prod.ext (by rw [← Nat.sub_zero n]; exact b3) (utfAt_true (by rw [← Nat.sub_zero n]; exact b3))
    have HT := Lib.hid hT
    clear hT b3 b4 hm
    simp only [Nat.zero_add] at b2
    have hn0 : (0 : Int) ≤ n := by omega
    have hns : (n : Int) ≤ s.size := by omega
    generalize hC : utfAt (s.data.toList ++ t.data.toList) 0 = C at *
    obtain ⟨c, k⟩ := C
    have HV := Lib.hid hC
    clear hC
    cases c with
    | true =>
      clear b4'
      go_enter Try.func4, Try.ntmps4
      go_wp2_with fail
      refine (Utf8_any _ _ (by decide)).mono ?_
      rintro e w1 ⟨rfl, hb1⟩
      rw [utf_first]
      go_wp2_with fail
      refine (Utf8_any _ _ (by unfold maxLen; omega)).mono ?_
      rintro e w2 ⟨rfl, hb2⟩
      rw [HA.out]
      go_wp2_with fail
      refine (Utf8_any _ _ (by unfold maxLen; omega)).mono ?_
      rintro e w3 ⟨rfl, hb3⟩
      rw [HB.out]
      go_wp2_with fail
      refine (Utf8_any _ _ (by rw [ByteArray.size_append]; unfold maxLen; omega)).mono ?_
      rintro e w4 ⟨rfl, hb4⟩
      rw [HC.out, HV.out]
      go_wp2_with fail
      refine (Utf8_any _ _ (by rw [Lib.size_eq, HTK.out, List.length_take, Nat.min_def]; unfold maxLen; split <;> omega)).mono ?_
      rintro e w5 ⟨rfl, hb5⟩
      rw [HTK.out, HT.out]
      go_wp2_with fail
      go_ret
      exact ⟨rfl, (((hb1.trans (hb2.mono hb1.size)).trans (hb3.mono (hb1.trans (hb2.mono hb1.size)).size)).trans (hb4.mono (by have := hb1.size; have := hb2.size; have := hb3.size; omega))).trans (hb5.mono (by have := hb1.size; have := hb2.size; have := hb3.size; have := hb4.size; omega))⟩
    | false =>
      have hkn : (n : Int) ≤ k := by
        rcases b4' with h | h
        · cases h
        · exact Int.ofNat_le.2 h
      clear b4'
      go_enter Try.func4, Try.ntmps4
      go_wp2_with fail
      refine (Utf8_any _ _ (by decide)).mono ?_
      rintro e w1 ⟨rfl, hb1⟩
      rw [utf_first]
      go_wp2_with fail
      refine (Utf8_any _ _ (by unfold maxLen; omega)).mono ?_
      rintro e w2 ⟨rfl, hb2⟩
      rw [HA.out]
      go_wp2_with fail
      refine (Utf8_any _ _ (by unfold maxLen; omega)).mono ?_
      rintro e w3 ⟨rfl, hb3⟩
      rw [HB.out]
      go_wp2_with fail
      refine (Utf8_any _ _ (by rw [ByteArray.size_append]; unfold maxLen; omega)).mono ?_
      rintro e w4 ⟨rfl, hb4⟩
      rw [HC.out, HV.out]
      go_wp2_with fail
      refine (Utf8_any _ _ (by rw [Lib.size_eq, HTK.out, List.length_take, Nat.min_def]; unfold maxLen; split <;> omega)).mono ?_
      rintro e w5 ⟨rfl, hb5⟩
      rw [HTK.out, HT.out]
      go_wp2_with fail
      go_ret
      exact ⟨rfl, (((hb1.trans (hb2.mono hb1.size)).trans (hb3.mono (hb1.trans (hb2.mono hb1.size)).size)).trans (hb4.mono (by have := hb1.size; have := hb2.size; have := hb3.size; omega))).trans (hb5.mono (by have := hb1.size; have := hb2.size; have := hb3.size; have := hb4.size; omega))⟩

end Go.Proofs.Yteinbjopclblaaa
