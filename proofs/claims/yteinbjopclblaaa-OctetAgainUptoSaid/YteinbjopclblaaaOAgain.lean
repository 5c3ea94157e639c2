/- The walk of OctetAgain. -/
import Derived.Test.YteinbjopclblaaaUnqW
namespace Go.Proofs.Yteinbjopclblaaa
open Go.RowKit

theorem quote_first : quoteL (ByteArray.mk #[97, 32, 98]).data.toList = [97, 92, 115, 98] := by decide

set_option maxRecDepth 100000 in
set_option maxHeartbeats 1600000 in
theorem octetAgain_any (s t : ByteArray) (w : World) (hs : s.size ≤ 1048576) (ht : t.size ≤ 1048576) :
    Calls Try.prog 5 #[.string s, .string t] w fun e w' => e = .returned (.bool true) ∧ Below w.heap.size w w' := by
  have hq : (quoteL s.data.toList == quoteL t.data.toList) = (s.toList == t.toList) := by
    rw [Lib.toList_data, Lib.toList_data, Bool.eq_iff_iff, beq_iff_eq, beq_iff_eq]
    exact ⟨quote_inj, fun h => by rw [h]⟩
  have hlen := unquote_len s.data.toList
  have hL : s.data.toList.length = s.size := by simp
  rw [hL] at hlen
  clear hL
  cases hu : unquoteL s.data.toList with
  | none =>
    have HU := Lib.hid hu
    clear hu hlen
    cases hb : (s.toList == t.toList) with
    | _ =>
      rw [hb] at hq
      go_enter Try.func5, Try.ntmps5
      go_wp2_with fail
      refine (Quote_any _ _ (by decide)).mono ?_
      rintro e w1 ⟨rfl, hb1⟩
      rw [quote_first]
      go_wp2_with fail
      refine (Quote_any _ _ hs).mono ?_
      rintro e w2 ⟨rfl, hb2⟩
      go_wp2_with fail
      refine (Quote_any _ _ ht).mono ?_
      rintro e w3 ⟨rfl, hb3⟩
      go_wp2_with fail
      refine (Unquote_any _ _ (by omega)).mono ?_
      rintro e w4 ⟨rfl, hb4⟩
      rw [HU.out]
      simp only [strRes]
      go_wp2_with fail
      go_ret
      exact ⟨rfl, ((hb1.trans (hb2.mono hb1.size)).trans (hb3.mono (Nat.le_trans hb1.size hb2.size))).trans (hb4.mono (Nat.le_trans hb1.size (Nat.le_trans hb2.size hb3.size)))⟩
  | some u =>
    have hul := hlen u hu
    have HU := Lib.hid hu
    have HQU := Lib.hid (unquote_quote u)
    have hqs : (bs (quoteL u)).size ≤ 140737488351232 := by
      rw [bs_size]
      have := quote_len u
      unfold quoteL
      (repeat' split) <;> first | omega | (simp only [List.length_cons, List.length_nil]; omega)
    have hus : (bs u).size ≤ 1048576 := by rw [bs_size]; omega
    clear hu hlen
    cases hb : (s.toList == t.toList) with
    | _ =>
      rw [hb] at hq
      go_enter Try.func5, Try.ntmps5
      go_wp2_with fail
      refine (Quote_any _ _ (by decide)).mono ?_
      rintro e w1 ⟨rfl, hb1⟩
      rw [quote_first]
      go_wp2_with fail
      refine (Quote_any _ _ hs).mono ?_
      rintro e w2 ⟨rfl, hb2⟩
      go_wp2_with fail
      refine (Quote_any _ _ ht).mono ?_
      rintro e w3 ⟨rfl, hb3⟩
      go_wp2_with fail
      refine (Unquote_any _ _ (by omega)).mono ?_
      rintro e w4 ⟨rfl, hb4⟩
      rw [HU.out]
      simp only [strRes]
      go_wp2_with fail
      refine (Quote_any _ _ hus).mono ?_
      rintro e w5 ⟨rfl, hb5⟩
      rw [bs_toList]
      go_wp2_with fail
      refine (Unquote_any _ _ hqs).mono ?_
      rintro e w6 ⟨rfl, hb6⟩
      rw [bs_toList, HQU.out]
      simp only [strRes]
      go_wp2_with fail
      go_ret
      have q1 := hb1.size
      have q2 := hb2.size
      have q3 := hb3.size
      have q4 := hb4.size
      have q5 := hb5.size
      exact ⟨rfl, ((((hb1.trans (hb2.mono (by omega))).trans (hb3.mono (by omega))).trans (hb4.mono (by omega))).trans (hb5.mono (by omega))).trans (hb6.mono (by omega))⟩

end Go.Proofs.Yteinbjopclblaaa
