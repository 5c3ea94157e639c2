/- The walks of escaped and Unquote. -/
import Derived.Test.YtnhlkjalmcldpaaDoorQuote
import Derived.Test.YtnhlkjalmcldpaaDoorUnqL
import Derived.Deep.QuietTactic
import Derived.BigQuiet
import Derived.Laws.BitsAllLaws
import Derived.Laws.BitsLemmas
namespace Go.Proofs.YtnhlkjalmcldpaaDoor
open Go.RowKit

theorem list_getD1 (s : ByteArray) (k : Nat) (hk : k + 1 < s.size) : (s.data.toList.drop 1).getD k 0 = s[k + 1] := by
  rw [List.getD_eq_getElem?_getD, List.getElem?_drop, Nat.add_comm 1 k, Lib.data_getElem? s (k + 1) hk]; rfl

theorem IndexByte_any (t : ByteArray) (b : UInt8) (W : World) : Calls Tryd.prog 45 #[.string t, .int .u8 b.toNat] W fun e w' => e = .returned (.int .i64 (Lib.indexByte t.data.toList b)) ∧ w' = W := by
  have := Tryd.strings_IndexByte t b.toNat W
  rw [toUInt8_back] at this; exact this

theorem or_hex (a b : Int) (ha : 0 ≤ a) (ha' : a ≤ 15) (hb : 0 ≤ b) (hb' : b ≤ 15) : bits .or .i64 (a * 16) b = a * 16 + b := by
  obtain ⟨a, rfl⟩ := Int.eq_ofNat_of_zero_le ha
  obtain ⟨b, rfl⟩ := Int.eq_ofNat_of_zero_le hb
  have key : ((List.range 16).all fun x => (List.range 16).all fun y => decide (bits .or .i64 ((x : Int) * 16) (y : Int) = (x : Int) * 16 + (y : Int))) = true := by decide +kernel
  have h1 := List.all_eq_true.1 key a (List.mem_range.2 (by omega))
  exact of_decide_eq_true (List.all_eq_true.1 h1 b (List.mem_range.2 (by omega)))

set_option maxRecDepth 100000 in
set_option maxHeartbeats 1600000 in
theorem escaped_any (s : ByteArray) (w : World) (hs : s.size ≤ maxLen) :
    Calls Tryd.prog 46 #[.string s] w fun e w' => e = .returned (.tuple #[.int .u8 ((escL s.data.toList).1.toNat : Int), .int .i64 ((escL s.data.toList).2 : Int)]) ∧ ∃ n, w' = w.drewN n := by
  unfold maxLen at hs
  by_cases h0 : s.size = 0
  · have hs0 : s = ByteArray.empty := by
      have : s.data.toList = [] := List.eq_nil_of_length_eq_zero (by rw [← Lib.size_eq]; exact h0)
      exact ext_bs this
    subst hs0
    go_enter Tryd.func46, Tryd.ntmps46
    go_wp2_with fail
    go_ret2
    exact ⟨rfl, 0, rfl⟩
  have hpos : 0 < s.size := by omega
  have hne : (s.toList == []) = false := by
    rw [Lib.toList_data]; exact beq_eq_false_iff_ne.2 (fun h => h0 (by rw [Lib.size_eq, h]; rfl))
  have hem : s.toList.isEmpty = false := by
    rw [Lib.toList_data]; cases h : s.data.toList with
    | nil => exact absurd (show s.size = 0 by rw [Lib.size_eq, h]; rfl) h0
    | cons _ _ => rfl
  have HD : Hid (s.data.toList = s[0] :: s.data.toList.drop 1) := by
    have := drop_cons s 0 hpos
    rw [List.drop_zero] at this; exact this
  have HLEN : Hid ((s.data.toList.drop 1).length = s.size - 1) := by unfold Hid; simp
  have HES : Hid ((ByteArray.mk #[110, 114, 116, 115, 92, 45]).data.toList = es) := rfl
  have HHT : Hid ((ByteArray.mk #[48, 49, 50, 51, 52, 53, 54, 55, 56, 57, 97, 98, 99, 100, 101, 102]).data.toList = hexT) := rfl
  clear h0
  rcases es_cases s[0] with ⟨hi, hb⟩ | ⟨hi, hb⟩ | ⟨hi, hb⟩ | ⟨hi, hb⟩ | ⟨hi, hb⟩ | ⟨hi, hb⟩ | ⟨hi, hb⟩
  iterate 6
    rotate_left 0
    · have HI := Lib.hid hi
      have HR : Hid (escL s.data.toList = escL (s[0] :: s.data.toList.drop 1)) := by unfold Hid; rw [← HD.out]
      have HB := Lib.hid hb
      clear hi hb
      go_enter Tryd.func46, Tryd.ntmps46
      go_wp2_with (go_at_call 45; refine (Tryd.strings_IndexByte _ _ _).mono ?_; rintro e w' ⟨rfl, rfl⟩; rw [toUInt8_back, HES.out, HI.out])
      go_ret2
      exact ⟨by rw [HR.out, HB.out]; rfl, 0, rfl⟩
  have HI := Lib.hid hi
  have HR := Lib.hid (escL_hex s[0] (s.data.toList.drop 1) hb)
  have HR2 : Hid (escL s.data.toList = escL (s[0] :: s.data.toList.drop 1)) := by unfold Hid; rw [← HD.out]
  clear hi hb
  by_cases g1 : s[0] = 120
  · have h1 : ((s[0].toNat : Int) != 120) = false := by rw [g1]; decide
    have h1' : ((s[0].toNat : Int) == 120) = true := by rw [g1]; decide
    have HG1 := Lib.hid g1
    clear g1
    by_cases g2 : 3 ≤ s.size
    · have e1 := Lib.hid (list_getD1 s 0 (by omega))
      have e2 := Lib.hid (list_getD1 s 1 (by omega))
      have HRR : Hid (escL s.data.toList = if isHex s[1] = true ∧ isHex s[2] = true then (UInt8.ofNat ((digitI s[1]).toNat * 16 + (digitI s[2]).toNat), 3) else (0, 0)) := by
        unfold Hid
        rw [HR2.out, HR.out, e1.out, e2.out, HLEN.out, HG1.out]
        simp only [true_and]
        by_cases hc : isHex s[1] = true ∧ isHex s[2] = true
        · rw [if_pos hc, if_pos ⟨by omega, hc.1, hc.2⟩]
        · rw [if_neg hc, if_neg (fun h => hc ⟨h.2.1, h.2.2⟩)]
      obtain ⟨i1, hi1⟩ : ∃ i1, i1 = Lib.indexByte hexT s[1] := ⟨_, rfl⟩
      obtain ⟨i2, hi2⟩ : ∃ i2, i2 = Lib.indexByte hexT s[2] := ⟨_, rfl⟩
      have b1 : isHex s[1] = decide (0 ≤ i1) := by rw [hi1]; rfl
      have b2 : isHex s[2] = decide (0 ≤ i2) := by rw [hi2]; rfl
      have d1 := isHex_digit s[1]
      have d2 := isHex_digit s[2]
      have HI1 := Lib.hid hi1
      have HI2 := Lib.hid hi2
      clear hi1 hi2
      by_cases q1 : 0 ≤ i1
      · by_cases q2 : 0 ≤ i2
        · have hx1 : isHex s[1] = true := by rw [b1]; exact decide_eq_true q1
          have hx2 : isHex s[2] = true := by rw [b2]; exact decide_eq_true q2
          obtain ⟨d11, d12⟩ := d1 hx1
          obtain ⟨d21, d22⟩ := d2 hx2
          have HRF := Lib.hid (HRR.out.trans (if_pos ⟨hx1, hx2⟩))
          have hor := or_hex (digitI s[1]) (digitI s[2]) d11 d12 d21 d22
          clear d1 d2 b1 b2 hx1 hx2
          go_enter Tryd.func46, Tryd.ntmps46
          go_wp2_with fail
          refine (IndexByte_any _ _ _).mono ?_
          rintro e w1 ⟨rfl, rfl⟩
          rw [HES.out, HI.out]
          go_wp2_with fail
          refine (IndexByte_any _ _ _).mono ?_
          rintro e w1 ⟨rfl, rfl⟩
          rw [HHT.out, ← HI1.out]
          go_wp2_with fail
          refine (IndexByte_any _ _ _).mono ?_
          rintro e w1 ⟨rfl, rfl⟩
          rw [HHT.out, ← HI2.out]
          go_wp2_with fail
          go_quiet ((go_at_call 59; exact Calls.quiet_of_same (digit_any _ _)))
          go_wp2_with fail
          go_ret2
          refine ⟨?_, nq, rfl⟩
          rw [HRF.out]
          have hlt : (digitI s[1]).toNat * 16 + (digitI s[2]).toNat < 256 := by omega
          have hv : ((UInt8.ofNat ((digitI s[1]).toNat * 16 + (digitI s[2]).toNat)).toNat : Int) = digitI s[1] * 16 + digitI s[2] := by
            rw [UInt8.toNat_ofNat', Nat.mod_eq_of_lt hlt]; omega
          show Ending.returned (.tuple #[.int .u8 (digitI s[1] * 16 + digitI s[2]), .int .i64 3]) = _
          simp only [hv]; rfl
        · have HRF := Lib.hid (HRR.out.trans (if_neg (fun h => q2 (of_decide_eq_true (b2.symm.trans h.2)))))
          clear d1 d2 b1 b2
          go_enter Tryd.func46, Tryd.ntmps46
          go_wp2_with fail
          refine (IndexByte_any _ _ _).mono ?_
          rintro e w1 ⟨rfl, rfl⟩
          rw [HES.out, HI.out]
          go_wp2_with fail
          refine (IndexByte_any _ _ _).mono ?_
          rintro e w1 ⟨rfl, rfl⟩
          rw [HHT.out, ← HI1.out]
          go_wp2_with fail
          refine (IndexByte_any _ _ _).mono ?_
          rintro e w1 ⟨rfl, rfl⟩
          rw [HHT.out, ← HI2.out]
          go_wp2_with fail
          go_ret2
          exact ⟨by rw [HRF.out]; rfl, 0, rfl⟩
      · have HRF := Lib.hid (HRR.out.trans (if_neg (fun h => q1 (of_decide_eq_true (b1.symm.trans h.1)))))
        clear d1 d2 b1 b2
        go_enter Tryd.func46, Tryd.ntmps46
        go_wp2_with fail
        refine (IndexByte_any _ _ _).mono ?_
        rintro e w1 ⟨rfl, rfl⟩
        rw [HES.out, HI.out]
        go_wp2_with fail
        refine (IndexByte_any _ _ _).mono ?_
        rintro e w1 ⟨rfl, rfl⟩
        rw [HHT.out, ← HI1.out]
        go_wp2_with fail
        go_ret2
        exact ⟨by rw [HRF.out]; rfl, 0, rfl⟩
    · have HRF : Hid (escL s.data.toList = (0, 0)) := by
        unfold Hid
        rw [HR2.out, HR.out, HLEN.out, if_neg (by omega)]
      clear h1'
      go_enter Tryd.func46, Tryd.ntmps46
      go_wp2_with fail
      refine (IndexByte_any _ _ _).mono ?_
      rintro e w1 ⟨rfl, rfl⟩
      rw [HES.out, HI.out]
      go_wp2_with fail
      go_ret2
      exact ⟨by rw [HRF.out]; rfl, 0, rfl⟩
  · have HRF : Hid (escL s.data.toList = (0, 0)) := by
      unfold Hid
      rw [HR2.out, HR.out, if_neg (fun h => g1 h.1)]
    have h1 : ((s[0].toNat : Int) != 120) = true := by
      rw [bne_iff_ne]; intro h; exact g1 (UInt8.toNat_inj.1 (by show s[0].toNat = 120; omega))
    clear g1
    go_enter Tryd.func46, Tryd.ntmps46
    go_wp2_with fail
    refine (IndexByte_any _ _ _).mono ?_
    rintro e w1 ⟨rfl, rfl⟩
    rw [HES.out, HI.out]
    go_wp2_with fail
    go_ret2
    exact ⟨by rw [HRF.out]; rfl, 0, rfl⟩

end Go.Proofs.YtnhlkjalmcldpaaDoor
