/- The walk of CodingJoins. -/
import Derived.Test.YteinbjopclblaaaUrlE
namespace Go.Proofs.Yteinbjopclblaaa
open Go.RowKit

theorem scan_len (step : UInt8 → List UInt8 → List UInt8 × Nat) (h : ∀ b r, (step b r).1.length = 1) : ∀ (n : Nat) (l : List UInt8), l.length ≤ n → (scan step l).length ≤ l.length := by
  intro n
  induction n with
  | zero =>
    intro l hl
    have : l = [] := List.eq_nil_of_length_eq_zero (by omega)
    subst this; exact Nat.le_refl _
  | succ n ih =>
    intro l hl
    cases l with
    | nil => exact Nat.le_refl _
    | cons b r =>
      simp only [List.length_cons] at hl
      rw [scan_cons, List.length_append, h b r, List.length_cons]
      have := ih (r.drop (step b r).2) (by rw [List.length_drop]; omega)
      rw [List.length_drop] at this
      omega
theorem urlDec_len (l : List UInt8) : (urlDecL l).length ≤ l.length := scan_len urlStep (fun b r => (urlStep_le b r).2) _ l (Nat.le_refl _)
theorem htmlDec_len (l : List UInt8) : (htmlDecL l).length ≤ l.length := scan_len htmlStep (fun b r => by unfold htmlStep; split <;> rfl) _ l (Nat.le_refl _)

theorem joins_a : urlDecL (ByteArray.mk #[37, 52, 49, 43]).data.toList = [65, 32] := by decide
theorem joins_b : htmlDecL (ByteArray.mk #[38, 108, 116, 59, 38, 35, 54, 53, 59]).data.toList = [60, 65] := by decide

set_option maxRecDepth 100000 in
set_option maxHeartbeats 1600000 in
theorem codingJoins_any (s t : ByteArray) (w : World) (hs : s.size ≤ 1048576) (ht : t.size ≤ 1048576) :
    Calls Try.prog 16 #[.string s, .string t] w fun e w' => e = .returned (.bool true) ∧ Below w.heap.size w w' := by
  go_enter Try.func16, Try.ntmps16
  go_wp2_with fail
  refine (UrlDecode_any _ _ (by decide)).mono ?_
  rintro e w1 ⟨rfl, hb1⟩
  rw [joins_a]
  go_wp2_with fail
  refine (HtmlDecode_any _ _ (by decide)).mono ?_
  rintro e w2 ⟨rfl, hb2⟩
  rw [joins_b]
  go_wp2_with fail
  have hS : (s ++ ByteArray.mk #[46]).data.toList = s.data.toList ++ [46] := by simp
  have hz : (s ++ ByteArray.mk #[46]).size ≤ 1048577 := by rw [ByteArray.size_append]; exact Nat.add_le_add hs (Nat.le_refl 1)
  generalize s ++ ByteArray.mk #[46] = s1 at *
  have HT1 : Hid ((s1 ++ t).data.toList = s1.data.toList ++ t.data.toList) := by unfold Hid; simp
  have HT2 : Hid ((ByteArray.mk #[97] ++ t).data.toList = 97 :: t.data.toList) := by unfold Hid; simp
  have HJ : Hid (urlDecL (s1.data.toList ++ t.data.toList) = urlDecL s1.data.toList ++ urlDecL t.data.toList) := by
    unfold Hid; rw [hS]; exact urlDec_joins s.data.toList t.data.toList
  have HH := Lib.hid (hexDec_joins s1.data.toList t.data.toList)
  have HA := Lib.hid (htmlDec_a t.data.toList)
  have HE : Hid (urlEncL (s1.data.toList ++ t.data.toList) = urlEncL s1.data.toList ++ urlEncL t.data.toList) := List.flatMap_append
  have l1 : s1.data.toList.length = s1.size := by simp
  have l2 : t.data.toList.length = t.size := by simp
  have z1 : (bs (hexEncL s1.data.toList ++ hexEncL t.data.toList)).size ≤ 140737488351232 := by
    rw [bs_size, List.length_append, hexEnc_len, hexEnc_len]; omega
  have z2 : (s1 ++ t).size ≤ 2097153 := by rw [ByteArray.size_append]; omega
  have z3 : (ByteArray.mk #[97] ++ t).size ≤ 140737488351232 := by rw [ByteArray.size_append]; show 1 + t.size ≤ _; omega
  have heq : (s1.toList ++ t.toList) = (s1 ++ t).toList := by rw [Lib.toList_data, Lib.toList_data, Lib.toList_data, HT1.out]
  have heq2 : ((s1.data.toList ++ t.data.toList) == (s1 ++ t).toList) = true := by rw [Lib.toList_data, HT1.out]; exact beq_self_eq_true _
  have e1 : (hexEncL s1.data.toList).length + (hexEncL t.data.toList).length ≤ 9223372036854775807 := by rw [hexEnc_len, hexEnc_len]; omega
  have e2 : (urlDecL s1.data.toList).length + (urlDecL t.data.toList).length ≤ 9223372036854775807 := by
    have := urlDec_len s1.data.toList
    have := urlDec_len t.data.toList
    omega
  have e3 : 1 + (htmlDecL t.data.toList).length ≤ 9223372036854775807 := by
    have := htmlDec_len t.data.toList
    omega
  have e4 : (urlEncL s1.data.toList).length + (urlEncL t.data.toList).length ≤ 9223372036854775807 := by
    have := urlEnc_len s1.data.toList
    have := urlEnc_len t.data.toList
    omega
  have heq3 : (ByteArray.mk #[97] ++ bs (htmlDecL t.data.toList)).toList = 97 :: htmlDecL t.data.toList := by
    rw [show ByteArray.mk #[97] = bs [97] from rfl, bs_append, bs_list]; rfl
  clear hS l1 l2 heq
  refine (HexEncode_any _ _ (by omega)).mono ?_
  rintro e w3 ⟨rfl, hb3⟩
  go_wp2_with fail
  refine (HexEncode_any _ _ (by omega)).mono ?_
  rintro e w4 ⟨rfl, hb4⟩
  go_wp2_with fail
  refine (HexDecode_any _ _ z1).mono ?_
  rintro e w5 ⟨rfl, hb5⟩
  rw [bs_toList, HH.out]
  simp only [strRes]
  go_wp2_with fail
  refine (UrlDecode_any _ _ (by omega)).mono ?_
  rintro e w6 ⟨rfl, hb6⟩
  rw [HT1.out, HJ.out]
  go_wp2_with fail
  refine (UrlDecode_any _ _ (by omega)).mono ?_
  rintro e w7 ⟨rfl, hb7⟩
  go_wp2_with fail
  refine (UrlDecode_any _ _ (by omega)).mono ?_
  rintro e w8 ⟨rfl, hb8⟩
  go_wp2_with fail
  refine (HtmlDecode_any _ _ z3).mono ?_
  rintro e w9 ⟨rfl, hb9⟩
  rw [HT2.out, HA.out]
  go_wp2_with fail
  refine (HtmlDecode_any _ _ (by omega)).mono ?_
  rintro e w10 ⟨rfl, hb10⟩
  go_wp2_with fail
  refine (UrlEncode_any _ _ (by omega)).mono ?_
  rintro e w11 ⟨rfl, hb11⟩
  rw [HT1.out, HE.out]
  go_wp2_with fail
  refine (UrlEncode_any _ _ (by omega)).mono ?_
  rintro e w12 ⟨rfl, hb12⟩
  go_wp2_with fail
  refine (UrlEncode_any _ _ (by omega)).mono ?_
  rintro e w13 ⟨rfl, hb13⟩
  go_wp2_with fail
  go_ret
  refine ⟨rfl, ?_⟩
  have g2 := hb1.trans (hb2.mono hb1.size)
  have g3 := g2.trans (hb3.mono g2.size)
  have g4 := g3.trans (hb4.mono g3.size)
  have g5 := g4.trans (hb5.mono g4.size)
  have g6 := g5.trans (hb6.mono g5.size)
  have g7 := g6.trans (hb7.mono g6.size)
  have g8 := g7.trans (hb8.mono g7.size)
  have g9 := g8.trans (hb9.mono g8.size)
  have g10 := g9.trans (hb10.mono g9.size)
  have g11 := g10.trans (hb11.mono g10.size)
  have g12 := g11.trans (hb12.mono g11.size)
  exact g12.trans (hb13.mono g12.size)

end Go.Proofs.Yteinbjopclblaaa
