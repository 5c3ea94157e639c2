/- OctetFinds: what Find computes, plainly, and the walk of the law. -/
import Derived.Test.YtipkelbbfgidhaaGreatDoorOctC
namespace Go.Proofs.YtipkelbbfgidhaaGreatDoor
open Go.RowKit

theorem index_cases (t : List UInt8) : ∀ s : List UInt8, (Lib.index s t = -1 ∧ ∀ j, j ≤ s.length → Lib.occAt s t j = false) ∨
    ∃ k : Nat, Lib.index s t = k ∧ k ≤ s.length ∧ Lib.occAt s t k = true ∧ ∀ j, j < k → Lib.occAt s t j = false
  | [] => by
    cases t with
    | nil => exact .inr ⟨0, rfl, Nat.le_refl _, rfl, fun j h => absurd h (by omega)⟩
    | cons a t => exact .inl ⟨rfl, fun j _ => by simp [Lib.occAt]⟩
  | b :: l => by
    unfold Lib.index
    by_cases h0 : t.isPrefixOf (b :: l) = true
    · rw [if_pos h0]
      exact .inr ⟨0, rfl, Nat.zero_le _, h0, fun j h => absurd h (by omega)⟩
    · have h0' : Lib.occAt (b :: l) t 0 = false := by unfold Lib.occAt; exact eq_false_of_ne_true h0
      rw [if_neg h0]
      rcases index_cases t l with ⟨h1, h2⟩ | ⟨k, h1, h2, h3, h4⟩
      · refine .inl ⟨by rw [h1]; rfl, fun j hj => ?_⟩
        cases j with
        | zero => exact h0'
        | succ j => exact h2 j (by simp at hj; omega)
      · refine .inr ⟨k + 1, ?_, by simp; omega, h3, fun j hj => ?_⟩
        · rw [h1, if_neg (by simp)]; omega
        · cases j with
          | zero => exact h0'
          | succ j => exact h4 j (by omega)

theorem occAt_drop (s t : List UInt8) (f j : Nat) : Lib.occAt (s.drop f) t j = Lib.occAt s t (f + j) := by
  unfold Lib.occAt; rw [List.drop_drop]

theorem findL_cases (s t : List UInt8) (n : Int) : (findL s t n = -1 ∧ ∀ j : Nat, max n 0 ≤ (j : Int) → j ≤ s.length → Lib.occAt s t j = false) ∨
    ∃ k : Nat, findL s t n = k ∧ max n 0 ≤ (k : Int) ∧ k ≤ s.length ∧ Lib.occAt s t k = true ∧ ∀ j : Nat, max n 0 ≤ (j : Int) → j < k → Lib.occAt s t j = false := by
  unfold findL
  have hf : 0 ≤ max n 0 := by omega
  generalize max n 0 = f at *
  obtain ⟨f, rfl⟩ := Int.eq_ofNat_of_zero_le hf
  rw [Int.toNat_natCast]
  by_cases h1 : (s.length : Int) < f
  · rw [if_pos h1]
    exact .inl ⟨rfl, fun j h2 h3 => absurd h2 (by omega)⟩
  · rw [if_neg h1]
    rcases index_cases t (s.drop f) with ⟨h2, h3⟩ | ⟨k, h2, h3, h4, h5⟩
    · rw [h2, if_neg (by omega)]
      refine .inl ⟨rfl, fun j h6 h7 => ?_⟩
      have := h3 (j - f) (by rw [List.length_drop]; omega)
      rw [occAt_drop, show f + (j - f) = j by omega] at this
      exact this
    · rw [h2, if_pos (by omega)]
      rw [List.length_drop] at h3
      refine .inr ⟨f + k, by omega, by omega, by omega, by rw [← occAt_drop]; exact h4, fun j h6 h7 => ?_⟩
      have := h5 (j - f) (by omega)
      rw [occAt_drop, show f + (j - f) = j by omega] at this
      exact this

/-- Found from where it was found: there again. -/
theorem findL_again (s t : List UInt8) (k : Nat) (hk : k ≤ s.length) (h : Lib.occAt s t k = true) : findL s t k = k := by
  rcases findL_cases s t k with ⟨_, h2⟩ | ⟨m, h1, h2, _, _, h5⟩
  · rw [h2 k (by omega) hk] at h; cases h
  · rw [h1]
    rcases Nat.lt_or_ge k m with h6 | h6
    · rw [h5 k (by omega) h6] at h; cases h
    · omega

theorem occAt_mid (u t s : List UInt8) : Lib.occAt (u ++ t ++ s) t u.length = true := by
  unfold Lib.occAt
  rw [List.append_assoc, List.drop_left]
  simp
theorem find_mid (u t s : List UInt8) : ∃ k : Nat, findL (u ++ t ++ s) t 0 = k ∧ k ≤ u.length := by
  rcases findL_cases (u ++ t ++ s) t 0 with ⟨_, h2⟩ | ⟨m, h1, h2, _, _, h5⟩
  · have := h2 u.length (by omega) (by simp)
    rw [occAt_mid] at this; cases this
  · refine ⟨m, h1, ?_⟩
    rcases Nat.lt_or_ge u.length m with h6 | h6
    · have := h5 u.length (by omega) h6
      rw [occAt_mid] at this; cases this
    · exact h6

def FindsRel (n : Int) (k : Nat) (i : Value) : Prop := ∃ j : Nat, max n 0 ≤ (j : Int) ∧ j ≤ k ∧ i = .int .i64 j

theorem finds_first : findL (ByteArray.mk #[97, 98, 97, 98]).data.toList (ByteArray.mk #[97, 98]).data.toList 1 = 2 := by decide

end Go.Proofs.YtipkelbbfgidhaaGreatDoor
