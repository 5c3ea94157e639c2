/- The first place below n at which a test holds. -/
import Derived.Test.YtipkelbbfgidhaaGreatDoorMem
namespace Go.Proofs.YtipkelbbfgidhaaGreatDoor
open Go.RowKit

def hitI (p : Nat → Bool) (n : Nat) : Int := match (List.range n).find? p with
  | some i => (i : Int)
  | none => -1
def anyN (p : Nat → Bool) (n : Nat) : Bool := (List.range n).any p
theorem hit_none (p : Nat → Bool) (n : Nat) (h : ∀ i, i < n → p i = false) : hitI p n = -1 := by
  unfold hitI
  rw [List.find?_eq_none.2 (fun x hx => by rw [h x (List.mem_range.1 hx)]; decide)]
theorem hit_at (p : Nat → Bool) (n j : Nat) (hj : j < n) (h1 : p j = true) (h : ∀ i, i < j → p i = false) : hitI p n = j := by
  unfold hitI
  have : (List.range n).find? p = some j := by
    rw [List.find?_eq_some_iff_getElem]
    refine ⟨h1, j, by simpa using hj, by simp, fun i hi => by simpa using h i hi⟩
  rw [this]
theorem any_false (p : Nat → Bool) (n : Nat) : anyN p n = false ↔ ∀ i, i < n → p i = false := by
  unfold anyN; simp
theorem any_true (p : Nat → Bool) (n : Nat) : anyN p n = true ↔ ∃ i, i < n ∧ p i = true := by
  unfold anyN; simp
theorem hit_any (p : Nat → Bool) (n : Nat) : decide (0 ≤ hitI p n) = anyN p n := by
  cases h : anyN p n with
  | false => rw [hit_none p n ((any_false p n).1 h)]; rfl
  | true =>
    obtain ⟨i, hi, hpi⟩ := (any_true p n).1 h
    unfold hitI
    cases hf : (List.range n).find? p with
    | some j => simp
    | none => exact absurd hpi (by have := List.find?_eq_none.1 hf i (by simpa using hi); simpa using this)
theorem anyN_list {α : Type} (f : α → Bool) (l : List α) (d : α) : anyN (fun j => f (l.getD j d)) l.length = l.any f := by
  rw [Bool.eq_iff_iff, any_true, List.any_eq_true]
  constructor
  · rintro ⟨i, hi, h⟩
    rw [List.getD_eq_getElem?_getD, List.getElem?_eq_getElem hi] at h
    exact ⟨l[i], List.getElem_mem hi, h⟩
  · rintro ⟨x, hx, h⟩
    obtain ⟨i, hi, rfl⟩ := List.mem_iff_getElem.1 hx
    exact ⟨i, hi, by rw [List.getD_eq_getElem?_getD, List.getElem?_eq_getElem hi]; exact h⟩
def BoolPost (b : Bool) (w : World) (e : Ending) (w' : World) : Prop := e = .returned (.bool b) ∧ Below w.heap.size w w'
end Go.Proofs.YtipkelbbfgidhaaGreatDoor
