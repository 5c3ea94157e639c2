/- What escaped computes, plainly. -/
import Derived.Test.YtchoenfclfafiaaQuoteL
import Derived.Test.YtchoenfclfafiaaOctA
namespace Go.Proofs.Ytchoenfclfafiaa

def es : List UInt8 := [110, 114, 116, 115, 92, 45]
def hexT : List UInt8 := [48, 49, 50, 51, 52, 53, 54, 55, 56, 57, 97, 98, 99, 100, 101, 102]
def isHex (b : UInt8) : Bool := decide (0 ≤ Lib.indexByte hexT b)
def escL (l : List UInt8) : UInt8 × Nat :=
  match l with
  | [] => (0, 0)
  | b :: r =>
    if b = 110 then (10, 1) else if b = 114 then (13, 1) else if b = 116 then (9, 1) else if b = 115 then (32, 1) else if b = 92 then (92, 1) else if b = 45 then (45, 1)
    else if b = 120 ∧ 2 ≤ r.length ∧ isHex (r.getD 0 0) = true ∧ isHex (r.getD 1 0) = true then (UInt8.ofNat ((digitI (r.getD 0 0)).toNat * 16 + (digitI (r.getD 1 0)).toNat), 3) else (0, 0)

theorem es_cases (b : UInt8) : (Lib.indexByte es b = 0 ∧ b = 110) ∨ (Lib.indexByte es b = 1 ∧ b = 114) ∨ (Lib.indexByte es b = 2 ∧ b = 116) ∨ (Lib.indexByte es b = 3 ∧ b = 115) ∨ (Lib.indexByte es b = 4 ∧ b = 92) ∨ (Lib.indexByte es b = 5 ∧ b = 45) ∨
    (Lib.indexByte es b = -1 ∧ b ≠ 110 ∧ b ≠ 114 ∧ b ≠ 116 ∧ b ≠ 115 ∧ b ≠ 92 ∧ b ≠ 45) :=
  of_decide_eq_true (all_bytes (p := fun b => decide ((Lib.indexByte es b = 0 ∧ b = 110) ∨ (Lib.indexByte es b = 1 ∧ b = 114) ∨ (Lib.indexByte es b = 2 ∧ b = 116) ∨ (Lib.indexByte es b = 3 ∧ b = 115) ∨ (Lib.indexByte es b = 4 ∧ b = 92) ∨ (Lib.indexByte es b = 5 ∧ b = 45) ∨
    (Lib.indexByte es b = -1 ∧ b ≠ 110 ∧ b ≠ 114 ∧ b ≠ 116 ∧ b ≠ 115 ∧ b ≠ 92 ∧ b ≠ 45))) (by decide +kernel) b)
theorem isHex_digit (b : UInt8) : isHex b = true → 0 ≤ digitI b ∧ digitI b ≤ 15 :=
  of_decide_eq_true (all_bytes (p := fun b => decide (isHex b = true → 0 ≤ digitI b ∧ digitI b ≤ 15)) (by decide +kernel) b)
theorem escL_hex (b : UInt8) (r : List UInt8) (h : b ≠ 110 ∧ b ≠ 114 ∧ b ≠ 116 ∧ b ≠ 115 ∧ b ≠ 92 ∧ b ≠ 45) :
    escL (b :: r) = if b = 120 ∧ 2 ≤ r.length ∧ isHex (r.getD 0 0) = true ∧ isHex (r.getD 1 0) = true then (UInt8.ofNat ((digitI (r.getD 0 0)).toNat * 16 + (digitI (r.getD 1 0)).toNat), 3) else (0, 0) := by
  obtain ⟨h1, h2, h3, h4, h5, h6⟩ := h
  simp only [escL, if_neg h1, if_neg h2, if_neg h3, if_neg h4, if_neg h5, if_neg h6]

end Go.Proofs.Ytchoenfclfafiaa
