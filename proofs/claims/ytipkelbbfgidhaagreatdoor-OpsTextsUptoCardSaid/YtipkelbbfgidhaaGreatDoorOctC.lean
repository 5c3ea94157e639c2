/- The walks of octet: Find, Token. -/
import Derived.Test.YtipkelbbfgidhaaGreatDoorShelf
import Derived.Test.YtipkelbbfgidhaaGreatDoorOctB
namespace Go.Proofs.YtipkelbbfgidhaaGreatDoor
open Go.RowKit

/-- The library's own variable holds some number. -/
def LibOk (w : World) : Prop := ∃ m : Int, w.cell? ⟨0, 0, none⟩ = some (.int .i64 m)
theorem LibOk.pos {w : World} (h : LibOk w) : 0 < w.heap.size := by
  obtain ⟨m, hm⟩ := h
  exact World.block_lt_of_cell? w ⟨0, 0, none⟩ hm
theorem LibOk.below {w w' : World} (h : LibOk w) (hb : Below w.heap.size w w') : LibOk w' := by
  have hp := h.pos
  obtain ⟨m, hm⟩ := h
  exact ⟨m, (hb.cell (p := ⟨0, 0, none⟩) hp).trans hm⟩

def findL (s t : List UInt8) (from_ : Int) : Int :=
  if (s.length : Int) < max from_ 0 then -1 else if 0 ≤ Lib.index (s.drop (max from_ 0).toNat) t then max from_ 0 + Lib.index (s.drop (max from_ 0).toNat) t else -1

def tokSigns : List UInt8 := [33, 35, 36, 37, 38, 39, 42, 43, 45, 46, 94, 95, 124, 126, 96]
def letB (b : UInt8) : Bool := decide (97 ≤ (b ||| 32).toNat) && decide ((b ||| 32).toNat ≤ 122) || decide (48 ≤ b.toNat) && decide (b.toNat ≤ 57)
def tokB (b : UInt8) : Bool := letB b || decide (0 ≤ Lib.indexByte tokSigns b)
def tokenL (l : List UInt8) : Bool := !l.isEmpty && l.all tokB

def TokRel (s : ByteArray) (i : Value) : Prop := ∃ k : Nat, k ≤ s.size ∧ i = .int .i64 k ∧ s.data.toList.all tokB = (s.data.toList.drop k).all tokB
theorem toUInt8_back (b : UInt8) : ((b.toNat : Int)).toNat.toUInt8 = b := by simp

theorem tokB_t {b : UInt8} {c i : Int} (hc : c = (b ||| 32).toNat) (hi : i = Lib.indexByte tokSigns b) (h : (97 ≤ c ∧ c ≤ 122) ∨ (48 ≤ (b.toNat : Int) ∧ (b.toNat : Int) ≤ 57) ∨ 0 ≤ i) : tokB b = true := by
  subst hi; subst hc
  unfold tokB letB
  simp only [Bool.or_eq_true, Bool.and_eq_true, decide_eq_true_eq]
  omega
theorem tokB_f {b : UInt8} {c i : Int} (hc : c = (b ||| 32).toNat) (hi : i = Lib.indexByte tokSigns b) (h : ¬ ((97 ≤ c ∧ c ≤ 122) ∨ (48 ≤ (b.toNat : Int) ∧ (b.toNat : Int) ≤ 57) ∨ 0 ≤ i)) : tokB b = false := by
  subst hi; subst hc
  unfold tokB letB
  simp only [Bool.or_eq_false_iff, Bool.and_eq_false_iff, decide_eq_false_iff_not]
  omega

end Go.Proofs.YtipkelbbfgidhaaGreatDoor
