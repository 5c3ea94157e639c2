/- The walk of CodingJoins. -/
import Derived.Test.YtdbipccopijgeaaDoorUrlE
namespace Go.Proofs.YtdbipccopijgeaaDoor
open Go.RowKit

theorem scan_len (step : UInt8 → List UInt8 → List UInt8 × Nat) (h : ∀ b r, (step b r).1.length = 1) : ∀ (n : Nat) (l : List UInt8), l.length ≤ n → (scan step l).length ≤ l.length := by
  intro n
  induction n with
  | zero =>
    intro l hl
    have : l = [] := List.eq_nil_of_length_eq_zero (by omega)
    subst this; exact Nat.le_refl _
  | succ n ih =>
    intro l hl
    cases l with
    | nil => exact Nat.le_refl _
    | cons b r =>
      simp only [List.length_cons] at hl
      rw [scan_cons, List.length_append, h b r, List.length_cons]
      have := ih (r.drop (step b r).2) (by rw [List.length_drop]; omega)
      rw [List.length_drop] at this
      omega
theorem urlDec_len (l : List UInt8) : (urlDecL l).length ≤ l.length := scan_len urlStep (fun b r => (urlStep_le b r).2) _ l (Nat.le_refl _)
theorem htmlDec_len (l : List UInt8) : (htmlDecL l).length ≤ l.length := scan_len htmlStep (fun b r => by unfold htmlStep; split <;> rfl) _ l (Nat.le_refl _)

theorem joins_a : urlDecL (ByteArray.mk #[37, 52, 49, 43]).data.toList = [65, 32] := by decide
theorem joins_b : htmlDecL (ByteArray.mk #[38, 108, 116, 59, 38, 35, 54, 53, 59]).data.toList = [60, 65] := by decide

end Go.Proofs.YtdbipccopijgeaaDoor
