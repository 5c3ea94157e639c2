/- Plain: the items of a set as text. -/
import Derived.Test.YtnjjchbgnmjkjaaRpl
namespace Go.Proofs.Ytnjjchbgnmjkjaa
open Go.RowKit

/-- Where a run of members that begins at b ends. -/
def runE (f : Nat → Bool) : Nat → Nat → Nat
  | 0, b => b
  | n + 1, b => if b < 256 ∧ f b = true then runE f n (b + 1) else b
theorem runE_facts (f : Nat → Bool) : ∀ (n b : Nat), 256 - b < n → b ≤ runE f n b ∧ (∀ x, b ≤ x → x < runE f n b → x < 256 ∧ f x = true) ∧ (runE f n b < 256 → f (runE f n b) = false) ∧ (b ≤ 256 → runE f n b ≤ 256)
  | 0, b, h => by omega
  | n + 1, b, h => by
    rw [runE]
    by_cases hc : b < 256 ∧ f b = true
    · rw [if_pos hc]
      obtain ⟨h1, h2, h3, h4⟩ := runE_facts f n (b + 1) (by omega)
      refine ⟨by omega, fun x hx1 hx2 => ?_, h3, fun _ => h4 (by omega)⟩
      by_cases hx : x = b
      · subst hx; exact hc
      · exact h2 x (by omega) hx2
    · rw [if_neg hc]
      refine ⟨Nat.le_refl _, fun x h1 h2 => by omega, fun hb => ?_, fun h => h⟩
      cases hf : f b with
      | false => rfl
      | true => exact absurd ⟨hb, hf⟩ hc
def runTo (f : Nat → Bool) (b : Nat) : Nat := runE f 257 b
def pieceI (lo e : Nat) : List UInt8 :=
  if e - lo = 0 then [] else if e - lo = 1 then charP lo else if e - lo = 2 then charP lo ++ charP (lo + 1) else charP lo ++ [45] ++ charP (e - 1)
/-- Text and number of the members from b on. -/
def itemsR (f : Nat → Bool) : Nat → Nat → List UInt8 × Nat
  | 0, _ => ([], 0)
  | n + 1, b => if 256 ≤ b then ([], 0) else (pieceI b (runTo f b) ++ (itemsR f n (runTo f b + 1)).1, (runTo f b - b) + (itemsR f n (runTo f b + 1)).2)
def itemsL (f : Nat → Bool) (b : Nat) : List UInt8 × Nat := itemsR f 257 b
theorem itemsR_fuel (f : Nat → Bool) : ∀ (n m b : Nat), 256 - b < n → 256 - b < m → itemsR f n b = itemsR f m b
  | 0, _, _, h, _ => by omega
  | _, 0, _, _, h => by omega
  | n + 1, m + 1, b, h1, h2 => by
    rw [itemsR, itemsR]
    by_cases hb : 256 ≤ b
    · rw [if_pos hb, if_pos hb]
    · rw [if_neg hb, if_neg hb]
      have := (runE_facts f 257 b (by omega)).1
      have h3 : b ≤ runTo f b := this
      rw [itemsR_fuel f n m (runTo f b + 1) (by omega) (by omega)]
theorem items_step (f : Nat → Bool) (b : Nat) : itemsL f b = if 256 ≤ b then ([], 0) else (pieceI b (runTo f b) ++ (itemsL f (runTo f b + 1)).1, (runTo f b - b) + (itemsL f (runTo f b + 1)).2) := by
  have e : itemsL f b = itemsR f 257 b := rfl
  rw [e, itemsR]
  by_cases hb : 256 ≤ b
  · rw [if_pos hb, if_pos hb]
  · rw [if_neg hb, if_neg hb]
    have h3 : b ≤ runTo f b := (runE_facts f 257 b (by omega)).1
    rw [itemsR_fuel f 256 257 (runTo f b + 1) (by omega) (by omega)]
    rfl
theorem charP_len (b : Nat) : 1 ≤ (charP b).length ∧ (charP b).length ≤ 4 := by
  unfold charP
  repeat' split
  all_goals exact ⟨by simp, by simp⟩
theorem pieceI_len (lo e : Nat) : (pieceI lo e).length ≤ 9 := by
  have h1 := charP_len lo
  have h2 := charP_len (lo + 1)
  have h3 := charP_len (e - 1)
  unfold pieceI
  split
  · simp
  · split
    · omega
    · split
      · rw [List.length_append]; omega
      · rw [List.length_append, List.length_append, List.length_singleton]; omega
theorem itemsR_len (f : Nat → Bool) : ∀ (n b : Nat), (itemsR f n b).1.length ≤ 9 * n
  | 0, b => by simp [itemsR]
  | n + 1, b => by
    rw [itemsR]
    split
    · simp
    · have h1 := pieceI_len b (runTo f b)
      have h2 := itemsR_len f n (runTo f b + 1)
      rw [List.length_append]
      omega
theorem itemsR_num (f : Nat → Bool) : ∀ (n b : Nat), b ≤ 257 → (itemsR f n b).2 + b ≤ 257
  | 0, b, h => by simp [itemsR]; exact h
  | n + 1, b, h => by
    rw [itemsR]
    split
    · simpa using h
    · rename_i hb
      obtain ⟨h3, _, _, h4⟩ := runE_facts f 257 b (by omega)
      have h3' : b ≤ runTo f b := h3
      have h4' : runTo f b ≤ 256 := h4 (by omega)
      have := itemsR_num f n (runTo f b + 1) (by omega)
      dsimp only
      omega
end Go.Proofs.Ytnjjchbgnmjkjaa
