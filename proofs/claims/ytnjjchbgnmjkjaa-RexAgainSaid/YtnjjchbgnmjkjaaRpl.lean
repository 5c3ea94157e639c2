/- Plain: a byte as text is read back. -/
import Derived.Test.YtnjjchbgnmjkjaaRpc
namespace Go.Proofs.Ytnjjchbgnmjkjaa
open Go.RowKit

theorem nextR_at {s : List UInt8} {r : RS} {c : UInt8} (he : r.e = 0) (h : s[r.pos]? = some c) : nextR s r = (c.toNat : Int) := by
  unfold nextR; rw [if_pos he, h]
theorem hexD_index : ∀ k : Fin 16, Lib.indexByte hexL (((hexD k.val).toNat : Int).toNat.toUInt8) = (k.val : Int) := by decide +kernel
theorem digitR_at {s : List UInt8} {r : RS} {k : Nat} (he : r.e = 0) (hk : k < 16) (h : s[r.pos]? = some (hexD k)) : digitR s r = ((k : Int), { r with pos := r.pos + 1 }) := by
  have h1 := nextR_at he h
  have h2 := hexD_index ⟨k, hk⟩
  dsimp only at h2
  unfold digitR
  rw [h1, if_neg (by omega), h2, if_neg (by omega)]
theorem sign_not : ∀ k : Fin 256, isSign (k.val : Int) = true → k.val ≠ 110 ∧ k.val ≠ 116 ∧ k.val ≠ 114 ∧ k.val ≠ 120 := by decide +kernel
theorem sign_92 : isSign 92 = true := by decide +kernel
theorem ofNat_to {b : Nat} (hb : b < 256) : ((UInt8.ofNat b).toNat : Int) = (b : Int) := by rw [UInt8.toNat_ofNat']; omega
theorem char_back {s : List UInt8} {r : RS} {b : Nat} (he : r.e = 0) (hb : b < 256) (h : ∀ i, i < (charP b).length → s[r.pos + i]? = (charP b)[i]?) :
    charR s r = ((b : Int), { r with pos := r.pos + (charP b).length }) := by
  have esc : ∀ c : UInt8, s[r.pos]? = some 92 → s[r.pos + 1]? = some c → nextR s r = 92 ∧ nextR s { r with pos := r.pos + 1 } = (c.toNat : Int) := fun c h1 h2 =>
    ⟨nextR_at he h1, nextR_at (r := { r with pos := r.pos + 1 }) he h2⟩
  unfold charP at h ⊢
  by_cases h1 : b = 10
  · subst h1
    obtain ⟨a1, a2⟩ := esc 110 (h 0 (by decide)) (h 1 (by decide))
    unfold charR escR
    rw [if_pos a1, a2]
    rfl
  by_cases h2 : b = 9
  · subst h2
    obtain ⟨a1, a2⟩ := esc 116 (h 0 (by decide)) (h 1 (by decide))
    unfold charR escR
    rw [if_pos a1, a2]
    rfl
  by_cases h3 : b = 13
  · subst h3
    obtain ⟨a1, a2⟩ := esc 114 (h 0 (by decide)) (h 1 (by decide))
    unfold charR escR
    rw [if_pos a1, a2]
    rfl
  rw [if_neg h1, if_neg h2, if_neg h3] at h ⊢
  by_cases h4 : b < 33 ∨ 126 < b
  · rw [if_pos h4] at h ⊢
    obtain ⟨a1, a2⟩ := esc 120 (h 0 (by simp)) (h 1 (by simp))
    have d1 : digitR s { r with pos := r.pos + 1 + 1 } = (((b / 16 : Nat) : Int), { r with pos := r.pos + 1 + 1 + 1 }) := digitR_at he (by omega) (h 2 (by simp))
    have d2 : digitR s { r with pos := r.pos + 1 + 1 + 1 } = (((b % 16 : Nat) : Int), { r with pos := r.pos + 1 + 1 + 1 + 1 }) := digitR_at he (by omega) (h 3 (by simp))
    unfold charR escR
    rw [if_pos a1, a2, if_neg (by decide), if_neg (by decide), if_neg (by decide), if_pos (by decide)]
    dsimp only
    rw [d1]
    dsimp only
    rw [d2]
    dsimp only
    have e : ((b / 16 : Nat) : Int) * 16 + ((b % 16 : Nat) : Int) = (b : Int) := by omega
    rw [e]
    rfl
  · rw [if_neg h4] at h ⊢
    by_cases h5 : isSign (b : Int) = true
    · rw [if_pos h5] at h ⊢
      obtain ⟨a1, a2⟩ := esc (UInt8.ofNat b) (h 0 (by simp)) (h 1 (by simp))
      rw [ofNat_to hb] at a2
      have := sign_not ⟨b, hb⟩ h5
      dsimp only at this
      unfold charR escR
      rw [if_pos a1, a2, if_neg (by omega), if_neg (by omega), if_neg (by omega), if_neg (by omega), if_neg (by omega), if_pos h5]
      rfl
    · rw [if_neg h5] at h ⊢
      have a1 := nextR_at he (h 0 (by simp))
      rw [ofNat_to hb] at a1
      have h92 : b ≠ 92 := fun e => by subst e; exact h5 sign_92
      unfold charR plainR
      rw [a1, if_neg (by omega), if_neg (by omega), if_neg (by omega), if_neg h5]
      rfl
end Go.Proofs.Ytnjjchbgnmjkjaa
