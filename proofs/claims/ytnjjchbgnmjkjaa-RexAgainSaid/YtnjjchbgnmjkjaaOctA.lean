/- The walks of octet: numbers. -/
import Derived.Test.YtnjjchbgnmjkjaaOct
namespace Go.Proofs.Ytnjjchbgnmjkjaa
open Go.RowKit

theorem digitI_lt (b : UInt8) : digitI b < 16 := by
  have := b.toNat_lt
  unfold digitI; (repeat' split) <;> omega

def numGo (base : Int) : List UInt8 → Int → Option Int
  | [], n => some n
  | b :: l, n => if digitI b < 0 ∨ base ≤ digitI b then none else numGo base l (n * base + digitI b)
def numL (base : Int) (most : Nat) (l : List UInt8) : Option Int :=
  if l.length = 0 ∨ most < l.length then none else numGo base l 0

def numRes (o : Option Int) : Value := match o with
  | some n => .tuple #[.int .i64 n, .int .i64 0]
  | none => .tuple #[.int .i64 0, .int .i64 4]

def NumRel (base : Int) (most : Nat) (s : ByteArray) (n i : Value) : Prop :=
  ∃ (k : Nat) (v : Int), k ≤ s.size ∧ i = .int .i64 k ∧ n = .int .i64 v ∧ 0 ≤ v ∧ v < 16 ^ k ∧ numL base most s.data.toList = numGo base (s.data.toList.drop k) v

end Go.Proofs.Ytnjjchbgnmjkjaa
