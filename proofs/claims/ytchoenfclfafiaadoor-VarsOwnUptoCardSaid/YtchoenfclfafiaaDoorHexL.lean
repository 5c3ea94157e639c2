/- Numbers written and read again; in plain lists. -/
import Derived.Test.YtchoenfclfafiaaDoorOctA
import Derived.Lib.ItoaNum
namespace Go.Proofs.YtchoenfclfafiaaDoor
open Go.RowKit

theorem numGo_snoc (base : Int) (b : UInt8) : ∀ (l : List UInt8) (a v : Int), numGo base l a = some v → ¬ (digitI b < 0 ∨ base ≤ digitI b) → numGo base (l ++ [b]) a = some (v * base + digitI b)
  | [], a, v, h, hb => by
    cases h
    rw [List.nil_append, numGo, if_neg hb]; rfl
  | c :: l, a, v, h, hb => by
    rw [numGo] at h
    split at h
    · cases h
    · rename_i hc
      rw [List.cons_append, numGo, if_neg hc]
      exact numGo_snoc base b l _ v h hb
theorem digitI_dec (d : Nat) (h : d < 10) : digitI (UInt8.ofNat (48 + d)) = (d : Int) := by
  have h : ∀ d : Fin 10, digitI (UInt8.ofNat (48 + d.val)) = (d.val : Int) := by decide
  exact h ⟨d, by omega⟩
def hexC (d : Nat) : UInt8 := UInt8.ofNat (if d < 10 then 48 + d else 87 + d)
theorem digitI_hex (d : Nat) (h : d < 16) : digitI (hexC d) = (d : Int) := by
  have h : ∀ d : Fin 16, digitI (hexC d.val) = (d.val : Int) := by decide
  exact h ⟨d, by omega⟩
theorem dec_read (u : Nat) : numGo 10 (Lib.decDigits u) 0 = some (u : Int) := by
  induction u using Nat.strongRecOn with
  | ind u ih =>
    rw [Lib.decDigits]
    split
    · rename_i h
      rw [numGo, digitI_dec u h, if_neg (by omega), numGo]
      congr 1; omega
    · rename_i h
      have e := ih (u / 10) (by omega)
      rw [numGo_snoc 10 _ _ _ _ e (by rw [digitI_dec _ (Nat.mod_lt _ (by decide))]; omega), digitI_dec _ (Nat.mod_lt _ (by decide))]
      congr 1; omega
theorem dec_len : ∀ (k u : Nat), u < 10 ^ (k + 1) → 1 ≤ (Lib.decDigits u).length ∧ (Lib.decDigits u).length ≤ k + 1
  | 0, u, h => by rw [Lib.decDigits, dif_pos (by simpa using h)]; simp
  | k + 1, u, h => by
    rw [Lib.decDigits]
    split
    · simp
    · have h2 : u / 10 < 10 ^ (k + 1) := by
        rw [Nat.div_lt_iff_lt_mul (by decide)]
        rw [Nat.pow_succ] at h
        omega
      have := dec_len k (u / 10) h2
      rw [List.length_append, List.length_singleton]
      omega
theorem dec_num (u : Nat) (h : u < 1000000000) : numL 10 9 (Lib.decDigits u) = some (u : Int) := by
  have := dec_len 8 u (by simpa using h)
  unfold numL
  rw [if_neg (by omega), dec_read]
def hexF : Nat → Nat → List UInt8
  | 0, n => [hexC n]
  | f + 1, n => if n < 16 then [hexC n] else hexF f (n / 16) ++ [hexC (n % 16)]
theorem hex_read : ∀ (f n : Nat), n < 16 ^ (f + 1) → numGo 16 (hexF f n) 0 = some (n : Int)
  | 0, n, h => by
    have h : n < 16 := by simpa using h
    rw [hexF, numGo, digitI_hex n h, if_neg (by omega), numGo]
    congr 1; omega
  | f + 1, n, h => by
    rw [hexF]
    split
    · rename_i h
      rw [numGo, digitI_hex n h, if_neg (by omega), numGo]
      congr 1; omega
    · have h2 : n / 16 < 16 ^ (f + 1) := by
        rw [Nat.div_lt_iff_lt_mul (by decide)]
        rw [Nat.pow_succ] at h
        omega
      rw [numGo_snoc 16 _ _ _ _ (hex_read f (n / 16) h2) (by rw [digitI_hex _ (Nat.mod_lt _ (by decide))]; omega), digitI_hex _ (Nat.mod_lt _ (by decide))]
      congr 1; omega
theorem hex_len : ∀ (f n : Nat), 1 ≤ (hexF f n).length ∧ (hexF f n).length ≤ f + 1
  | 0, n => by simp [hexF]
  | f + 1, n => by
    rw [hexF]
    split
    · simp
    · have := hex_len f (n / 16)
      rw [List.length_append, List.length_singleton]
      omega
theorem hex_num (n : Nat) (h : n < 268435456) : numL 16 7 (hexF 6 n) = some (n : Int) := by
  have := hex_len 6 n
  unfold numL
  rw [if_neg (by omega), hex_read 6 n (by simpa using h)]
end Go.Proofs.YtchoenfclfafiaaDoor
