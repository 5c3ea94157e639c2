/- Rows of truth values in memory; the walk of rex.last. -/
import Derived.Test.YtnjjchbgnmjkjaaRexM
import Derived.Test.YtnjjchbgnmjkjaaRexE
import Derived.Test.YtnjjchbgnmjkjaaMem2
import Derived.OwnWalk
namespace Go.Proofs.Ytnjjchbgnmjkjaa
open Go.RowKit

/-- A row of n truth values of the call's own, from the head of a block. -/
structure BL (w : World) (base g cap n : Nat) (l : List Bool) : Prop where
  len : l.length = n
  own : w.ownsRow base 4 1 (.slice (some ⟨g, 0, none⟩) n cap) n (l.map Value.bool)
section
variable {w w' : World} {base g cap n : Nat} {l : List Bool}
theorem BL.lt (h : BL w base g cap n l) : base ≤ g ∧ g < w.heap.size := World.ownsRow.lt h.own g rfl
theorem BL.cell (h : BL w base g cap n l) {j : Nat} (hj : j < n) : w.cell? ⟨g, j, none⟩ = some (.bool (tt l j)) := by
  have hl := h.len
  have := h.own.cellAt j (by omega)
  rw [this, List.getElem?_map]
  unfold tt
  rw [List.getD_eq_getElem?_getD, List.getElem?_eq_getElem (by omega)]
  rfl
theorem BL.free (h : BL w base g cap n l) (j : Nat) : w.frozen? ⟨g, j, none⟩ = false := h.own.frozenAt j
theorem BL.set (h : BL w base g cap n l) (j : Nat) (b : Bool) : BL (w.setCell ⟨g, j, none⟩ (.bool b)) base g cap n (l.set j b) :=
  ⟨by rw [List.length_set]; exact h.len, by rw [List.map_set]; exact (h.own.stored j (.bool b)).1⟩
theorem BL.keep (h : BL w base g cap n l) (hb : w.heap.size ≤ w'.heap.size ∧ w'.heap[g]? = w.heap[g]?) : BL w' base g cap n l := by
  refine ⟨h.len, h.own.1, ?_⟩
  rcases h.own.2 with h0 | ⟨g', cap', cur, h1, h2, h3, h4⟩
  · exact .inl h0
  · refine .inr ⟨g', cap', cur, h1, h2, ?_, h4⟩
    injection h1 with h1
    injection h1 with h1
    injection h1 with h1
    subst h1
    exact hb.2.trans h3
theorem BL.below (h : BL w base g cap n l) (hb : Below w.heap.size w w') : BL w' base g cap n l := h.keep ⟨hb.size, hb.block g h.lt.2⟩
theorem BL.only {k : Nat} (h : BL w base g cap n l) (hb : w.grownBy w' (some k)) (hk : g ≠ k) : BL w' base g cap n l := h.keep ⟨hb.size, hb.block g h.lt.2 (fun e => hk (by injection e))⟩
theorem BL.far {k : Nat} (h : BL w base g cap n l) (hk : g ≠ k) (j : Nat) (u : Value) : BL (w.setCell ⟨k, j, none⟩ u) base g cap n l :=
  h.keep ⟨by simp [World.setCell], Below.heap_setCell w ⟨k, j, none⟩ u g hk⟩
theorem BL.drewN (h : BL w base g cap n l) (q : Nat) : BL (w.drewN q) base g cap n l := h.keep ⟨Nat.le_refl _, rfl⟩
theorem BL.drew (h : BL w base g cap n l) : BL w.drew base g cap n l := h.keep ⟨Nat.le_refl _, rfl⟩
theorem BL.alloc (h : BL w base g cap n l) (o : Obj) : BL (w.alloc o) base g cap n l := h.below ((Below.refl _ _).alloc (Nat.le_refl _) o)
theorem BL.low {b2 : Nat} (h : BL w base g cap n l) (hb : b2 ≤ base) : BL w b2 g cap n l := by
  refine ⟨h.len, h.own.1, ?_⟩
  rcases h.own.2 with h0 | ⟨g', cap', cur, h1, h2, h3⟩
  · exact .inl h0
  · exact .inr ⟨g', cap', cur, h1, Nat.le_trans hb h2, h3⟩
end
theorem below_none {w w' : World} (h : w.grownBy w' none) : Below w.heap.size w w' := ⟨h.os, h.tape, h.output, h.size, fun i hi => h.block i hi (fun e => by cases e)⟩
theorem info_bool : (Try.prog.info? 4).map (fun i => (i.zero, i.size, i.bytes)) = some (some (.bool false), 1, 1) := by kernel_rfl

section
variable {ops : Array Oper} {rest : List Oper} {o : Oper} {a : Act} {Q : Exit → Act → World → Prop} {w : World}
end

end Go.Proofs.Ytnjjchbgnmjkjaa
