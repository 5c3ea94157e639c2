/- Sets of bytes as four words, by a test; lists of ranges; plainly. -/
import Derived.Test.YtnjjchbgnmjkjaaRexL
import Derived.Test.YtnjjchbgnmjkjaaArgL
import Derived.Test.YtnjjchbgnmjkjaaOctA
import Derived.Laws.Bits64b
namespace Go.Proofs.Ytnjjchbgnmjkjaa
open Go.RowKit

/-- The number whose low bits are these. -/
def bitsN (f : Nat → Bool) : Nat → Nat
  | 0 => 0
  | i + 1 => bitsN f i ||| if f i then 2 ^ i else 0
theorem bitsN_lt (f : Nat → Bool) : ∀ n, bitsN f n < 2 ^ n
  | 0 => Nat.one_pos
  | n + 1 => by
    have h := bitsN_lt f n
    rw [bitsN]
    refine Nat.or_lt_two_pow (Nat.lt_of_lt_of_le h (Nat.pow_le_pow_right (by decide) (by omega))) ?_
    split
    · exact Nat.pow_lt_pow_right (by decide) (by omega)
    · exact Nat.two_pow_pos _
theorem bitsN_test (f : Nat → Bool) : ∀ n i, (bitsN f n).testBit i = (decide (i < n) && f i)
  | 0, i => by simp [bitsN]
  | n + 1, i => by
    have ih := bitsN_test f n i
    rw [bitsN, Nat.testBit_or, ih]
    have hp : (if f n then 2 ^ n else 0).testBit i = (decide (n = i) && f n) := by
      split
      · rename_i h; rw [Nat.testBit_two_pow, h, Bool.and_true]
      · rename_i h; simp [h]
    rw [hp]
    by_cases e : i = n
    · subst e; simp
    · have e2 : ¬ n = i := fun h => e h.symm
      by_cases h2 : i < n
      · simp [h2, Nat.lt_succ_of_lt h2, e2]
      · have : ¬ i < n + 1 := by omega
        simp [h2, this, e2]
/-- The word j of the set of a test. -/
def wdF (f : Nat → Bool) (j : Nat) : Nat := bitsN (fun i => f (64 * j + i)) 64
theorem wdF_lt (f : Nat → Bool) (j : Nat) : wdF f j < 18446744073709551616 := bitsN_lt _ 64
theorem wdF_test (f : Nat → Bool) (j i : Nat) : (wdF f j).testBit i = (decide (i < 64) && f (64 * j + i)) := bitsN_test _ 64 i
theorem wdF_or (f g : Nat → Bool) (j : Nat) : wdF f j ||| wdF g j = wdF (fun k => f k || g k) j := by
  refine Nat.eq_of_testBit_eq fun i => ?_
  rw [Nat.testBit_or, wdF_test, wdF_test, wdF_test]
  cases decide (i < 64) <;> simp
theorem wdF_one (f : Nat → Bool) (k : Nat) : wdF f (k / 64) ||| 2 ^ (k % 64) = wdF (fun x => f x || decide (x = k)) (k / 64) := by
  refine Nat.eq_of_testBit_eq fun i => ?_
  rw [Nat.testBit_or, wdF_test, wdF_test, Nat.testBit_two_pow]
  by_cases h : i < 64
  · by_cases e : k % 64 = i
    · have : 64 * (k / 64) + i = k := by omega
      simp [h, e, this]
    · have : ¬ 64 * (k / 64) + i = k := by omega
      simp [h, e, this]
  · have : ¬ k % 64 = i := by omega
    simp [h, this]
theorem wdF_other (f : Nat → Bool) (k j : Nat) (h : j ≠ k / 64) : wdF (fun x => f x || decide (x = k)) j = wdF f j := by
  refine Nat.eq_of_testBit_eq fun i => ?_
  rw [wdF_test, wdF_test]
  by_cases h2 : i < 64
  · have : ¬ 64 * j + i = k := by omega
    simp [h2, this]
  · simp [h2]
theorem wdF_congr {f g : Nat → Bool} {j : Nat} (hj : j < 4) (h : ∀ k, k < 256 → f k = g k) : wdF f j = wdF g j := by
  refine Nat.eq_of_testBit_eq fun i => ?_
  rw [wdF_test, wdF_test]
  by_cases h2 : i < 64
  · rw [h _ (by omega)]
  · simp [h2]
theorem wdF_bit (f : Nat → Bool) (k : Nat) : wdF f (k / 64) / 2 ^ (k % 64) % 2 = if f k then 1 else 0 := by
  have h := wdF_test f (k / 64) (k % 64)
  rw [Nat.testBit_eq_decide_div_mod_eq] at h
  have e : 64 * (k / 64) + k % 64 = k := by omega
  rw [e, decide_eq_true (show k % 64 < 64 by omega), Bool.true_and] at h
  cases hf : f k with
  | true => rw [hf] at h; simpa using h
  | false =>
    rw [hf] at h
    have := of_decide_eq_false h
    simp; omega
def setF (f : Nat → Bool) : Set4 := ⟨wdF f 0, wdF f 1, wdF f 2, wdF f 3⟩
theorem setF_word (f : Nat → Bool) (j : Nat) (hj : j < 4) : (setF f).word j = (wdF f j : Nat) := by
  match j, hj with
  | 0, _ => rfl
  | 1, _ => rfl
  | 2, _ => rfl
  | 3, _ => rfl
theorem setF_congr {f g : Nat → Bool} (h : ∀ k, k < 256 → f k = g k) : setF f = setF g := by
  unfold setF
  rw [wdF_congr (by decide) h, wdF_congr (by decide) h, wdF_congr (by decide) h, wdF_congr (by decide) h]
theorem wdF_none (j : Nat) : wdF (fun _ => false) j = 0 := Nat.eq_of_testBit_eq fun i => by rw [wdF_test]; simp
theorem setF_none : setF (fun _ => false) = .zero := by
  unfold setF Set4.zero
  simp only [wdF_none]
  rfl

/-! Lists of ranges. -/
def numB (most : Int) (l : List UInt8) : Int := match numL 10 9 l with
  | some n => if most < n ∨ (l.head? = some 48 ∧ 1 < l.length) then -1 else n
  | none => -1
def loR (x : List UInt8) : Int := numB 255 (Lib.cut x [45]).1
def hiR (x : List UInt8) : Int := numB 255 (if (Lib.cut x [45]).2.2 = true then (Lib.cut x [45]).2.1 else (Lib.cut x [45]).1)
def okR (x : List UInt8) : Bool := decide (0 ≤ loR x) && decide (loR x ≤ hiR x)
def inR (x : List UInt8) (k : Nat) : Bool := decide (loR x ≤ k) && decide ((k : Int) ≤ hiR x)
def anyR (ps : List (List UInt8)) (k : Nat) : Bool := ps.any fun x => inR x k
def okB (l : List UInt8) : Bool := (splL 44 l).all okR
def inB (l : List UInt8) : Nat → Bool := anyR (splL 44 l)
theorem okB_append (s t : List UInt8) : okB (s ++ 44 :: t) = (okB s && okB t) := by unfold okB; rw [splL_append, List.all_append]
theorem inB_append (s t : List UInt8) (k : Nat) : inB (s ++ 44 :: t) k = (inB s k || inB t k) := by unfold inB anyR; rw [splL_append, List.any_append]
theorem numGo_nonneg : ∀ (l : List UInt8) (n v : Int), 0 ≤ n → numGo 10 l n = some v → 0 ≤ v
  | [], n, v, h, e => by cases e; exact h
  | b :: l, n, v, h, e => by
    rw [numGo] at e
    split at e
    · cases e
    · exact numGo_nonneg l _ v (by omega) e
theorem numB_le (most : Int) (l : List UInt8) (h : 0 ≤ most) : numB most l ≤ most := by
  unfold numB
  split
  · split <;> omega
  · omega
theorem numB_ge (most : Int) (l : List UInt8) : -1 ≤ numB most l := by
  unfold numB
  split
  · rename_i n hn
    have : 0 ≤ n := by
      unfold numL at hn
      split at hn
      · cases hn
      · exact numGo_nonneg l 0 n (by decide) hn
    split <;> omega
  · omega
theorem const_ok : okB [57, 44, 54, 53, 45, 54, 54] = true := by decide
theorem const_in (k : Nat) (hk : k < 256) : inB [57, 44, 54, 53, 45, 54, 54] k = (((k : Int) == 9) || ((k : Int) == 65) || ((k : Int) == 66)) := by
  have h1 : splL 44 [57, 44, 54, 53, 45, 54, 54] = [[57], [54, 53, 45, 54, 54]] := by decide
  have h2 : loR [57] = 9 ∧ hiR [57] = 9 ∧ loR [54, 53, 45, 54, 54] = 65 ∧ hiR [54, 53, 45, 54, 54] = 66 := by decide
  unfold inB anyR
  rw [h1]
  simp only [List.any_cons, List.any_nil, inR, h2.1, h2.2.1, h2.2.2.1, h2.2.2.2]
  by_cases a : k = 9
  · subst a; rfl
  · by_cases b : k = 65
    · subst b; rfl
    · by_cases c : k = 66
      · subst c; rfl
      · have e1 : ((k : Int) == 9) = false := by rw [beq_eq_false_iff_ne]; omega
        have e2 : ((k : Int) == 65) = false := by rw [beq_eq_false_iff_ne]; omega
        have e3 : ((k : Int) == 66) = false := by rw [beq_eq_false_iff_ne]; omega
        rw [e1, e2, e3]
        have d1 : (decide ((9 : Int) ≤ k) && decide ((k : Int) ≤ 9)) = false := by simp; omega
        have d2 : (decide ((65 : Int) ≤ k) && decide ((k : Int) ≤ 66)) = false := by simp; omega
        rw [d1, d2]; rfl
end Go.Proofs.Ytnjjchbgnmjkjaa
