/- The walks of octet: Lower, Trim, Find. -/
import Derived.Test.YtnkcgfpjedlpaaaBase
import Derived.Lib.Strings
import Derived.Lib.IndexBytes
namespace Go.Proofs.Ytnkcgfpjedlpaaa
open Go.RowKit

def lowerB (b : UInt8) : UInt8 := if 65 ≤ b.toNat ∧ b.toNat ≤ 90 then b + 32 else b
def lowerL (l : List UInt8) : List UInt8 := l.map lowerB
def lowerTo (k : Nat) (l : List UInt8) : List UInt8 := (l.take k).map lowerB ++ l.drop k

theorem lowerTo_length (k : Nat) (l : List UInt8) : (lowerTo k l).length = l.length := by
  simp [lowerTo]; omega
theorem lowerTo_at (k : Nat) (l : List UInt8) (h : k < l.length) (h' : k < (lowerTo k l).length) : (lowerTo k l)[k] = l[k] := by
  have e : (lowerTo k l)[k]? = l[k]? := by
    unfold lowerTo
    rw [List.getElem?_append_right (by simp; omega)]
    simp [Nat.min_eq_left (Nat.le_of_lt h)]
  rw [List.getElem?_eq_getElem h', List.getElem?_eq_getElem h] at e
  exact Option.some.inj e
theorem lowerTo_set (k : Nat) (l : List UInt8) (h : k < l.length) : (lowerTo k l).set k (lowerB l[k]) = lowerTo (k + 1) l := by
  have hlen : ((l.take k).map lowerB).length = k := by simp; omega
  unfold lowerTo
  rw [List.set_append_right k _ (by omega), hlen, Nat.sub_self, List.drop_eq_getElem_cons h, List.set_cons_zero, List.take_succ_eq_append_getElem h, List.map_append, List.append_assoc]
  rfl
theorem lowerTo_keep (k : Nat) (l : List UInt8) (h : k < l.length) (e : lowerB l[k] = l[k]) : lowerTo k l = lowerTo (k + 1) l := by
  rw [← lowerTo_set k l h, e]
  refine (List.ext_getElem (by simp) fun i h1 h2 => ?_).symm
  rw [List.getElem_set]
  split
  · rename_i h3; subst h3; rw [lowerTo_at _ _ h]
  · rfl
theorem lowerTo_zero (l : List UInt8) : lowerTo 0 l = l := by simp [lowerTo]
theorem lowerTo_all (k : Nat) (l : List UInt8) (h : l.length ≤ k) : lowerTo k l = lowerL l := by
  simp [lowerTo, lowerL, List.take_of_length_le h, List.drop_eq_nil_of_le h]

def LowerRel (s : ByteArray) (w : World) (g : Nat) (i : Value) (wr : World) : Prop :=
  ∃ k : Nat, k ≤ s.size ∧ i = .int .i64 k ∧ BytesAt wr g (lowerTo k s.data.toList) ∧ Below w.heap.size w wr
def StrPost (r : ByteArray) (w : World) (e : Ending) (w' : World) : Prop := e = .returned (.string r) ∧ Below w.heap.size w w'

def blank (b : UInt8) : Bool := b == 32 || b == 9
theorem blank_t {b : UInt8} (h : (b.toNat : Int) = 32 ∨ (b.toNat : Int) = 9) : blank b = true := by
  unfold blank
  rcases h with h | h
  · rw [show b = 32 from UInt8.toNat_inj.1 (show b.toNat = 32 by omega)]; rfl
  · rw [show b = 9 from UInt8.toNat_inj.1 (show b.toNat = 9 by omega)]; rfl
theorem blank_f {b : UInt8} (h : ¬ (b.toNat : Int) = 32) (h' : ¬ (b.toNat : Int) = 9) : blank b = false := by
  unfold blank
  rw [Bool.or_eq_false_iff]
  exact ⟨beq_eq_false_iff_ne.2 (by rintro rfl; exact h rfl), beq_eq_false_iff_ne.2 (by rintro rfl; exact h' rfl)⟩
def rtrimL (l : List UInt8) : List UInt8 := (l.reverse.dropWhile blank).reverse
def trimL (l : List UInt8) : List UInt8 := rtrimL (l.dropWhile blank)
theorem rtrim_snoc_t (l : List UInt8) (b : UInt8) (h : blank b = true) : rtrimL (l ++ [b]) = rtrimL l := by simp [rtrimL, h]
theorem rtrim_snoc_f (l : List UInt8) (b : UInt8) (h : blank b = false) : rtrimL (l ++ [b]) = l ++ [b] := by simp [rtrimL, h]

def TrimRelA (s : ByteArray) (i : Value) : Prop := ∃ k : Nat, k ≤ s.size ∧ i = .int .i64 k ∧ trimL s.data.toList = rtrimL ((s.data.toList.drop k).dropWhile blank)
def TrimRelB (s : ByteArray) (a : Nat) (i : Value) : Prop := ∃ b : Nat, a ≤ b ∧ b ≤ s.size ∧ i = .int .i64 b ∧ trimL s.data.toList = rtrimL ((s.data.toList.take b).drop a)

end Go.Proofs.Ytnkcgfpjedlpaaa
