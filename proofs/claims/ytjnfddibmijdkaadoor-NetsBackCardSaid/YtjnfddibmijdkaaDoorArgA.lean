/- Rows of arguments in memory: two strings each. -/
import Derived.Test.YtjnfddibmijdkaaDoorMem
import Derived.Test.YtjnfddibmijdkaaDoorArgL
import Derived.Laws.OwnMore
namespace Go.Proofs.YtjnfddibmijdkaaDoor
open Go.RowKit

abbrev Pair := ByteArray × ByteArray
def cellsA (x : Pair) : List Value := [.string x.1, .string x.2]
theorem cellsA_len (l : List Pair) : (l.flatMap cellsA).length = l.length * 2 := by
  induction l with
  | nil => rfl
  | cons x l ih => rw [List.flatMap_cons, List.length_append, ih]; simp only [cellsA, List.length_cons, List.length_nil]; omega
theorem cellsA_one (l : List Pair) : ∀ u ∈ l.flatMap cellsA, u.oneCell' = true := fun u hu => by
  obtain ⟨x, _, h⟩ := List.mem_flatMap.1 hu
  simp only [cellsA, List.mem_cons, List.not_mem_nil, or_false] at h
  rcases h with rfl | rfl <;> rfl
theorem cellsA_at : ∀ (l : List Pair) (k : Nat) (h : k < l.length), (l.flatMap cellsA)[k * 2]? = some (.string l[k].1) ∧ (l.flatMap cellsA)[k * 2 + 1]? = some (.string l[k].2)
  | [], k, h => absurd h (by simp)
  | x :: l, 0, _ => ⟨rfl, rfl⟩
  | x :: l, k + 1, h => by
    have := cellsA_at l k (by simpa using h)
    rw [List.flatMap_cons, show (k + 1) * 2 = 2 + k * 2 by omega, List.getElem?_append_right (by simp [cellsA]), show 2 + k * 2 + 1 = 2 + (k * 2 + 1) by omega, List.getElem?_append_right (by simp [cellsA])]
    simpa [cellsA] using this
/-- Two cells of an argument. -/
theorem arg_at {w : World} {B n : Nat} {A : Option Addr} {l : List Pair} (h : Sl w B 2 A n (l.flatMap cellsA)) (k : Nat) (hk : k < l.length) :
    ∃ b off, A = some ⟨b, off, none⟩ ∧ b < B ∧ w.cell? ⟨b, off + k * 2, none⟩ = some (.string l[k].1) ∧ w.cell? ⟨b, off + k * 2 + 1, none⟩ = some (.string l[k].2) := by
  have hl := cellsA_len l
  obtain ⟨b, off, e, hb, hc⟩ := h.src (by omega)
  obtain ⟨h0, h1⟩ := cellsA_at l k hk
  refine ⟨b, off, e, hb, ?_, ?_⟩
  · rw [hc (k * 2) (by omega)]
    rw [List.getElem?_eq_getElem (by omega)] at h0
    exact h0
  · rw [Nat.add_assoc, hc (k * 2 + 1) (by omega)]
    rw [List.getElem?_eq_getElem (by omega)] at h1
    exact h1
section
variable {ops : Array Oper} {rest : List Oper} {o : Oper} {a : Act} {Q : Exit → Act → World → Prop} {w : World}
end
end Go.Proofs.YtjnfddibmijdkaaDoor
