/- The walk of rex.ends at expressions without kids. -/
import Derived.Test.YtnjjchbgnmjkjaaRexB
import Derived.Test.YtnjjchbgnmjkjaaRexH
import Derived.Deep.QuietTactic
import Derived.BigQuiet
import Derived.Deep.RegionHeld3
import Derived.Laws.CopyOwn
import Derived.StillTailTactics
namespace Go.Proofs.Ytnjjchbgnmjkjaa
open Go.RowKit

def EndsPost (s : List UInt8) (t : Tree) (fr : List Bool) (n : Nat) (w : World) (e : Ending) (w' : World) : Prop :=
  ∃ g cap to, e = .returned (.slice (some ⟨g, 0, none⟩) n cap) ∧ BL w' w.heap.size g cap n to ∧ EndsL s t fr to ∧ Below w.heap.size w w'
theorem box_six {W w' : World} {c0 c1 c2 c3 c4 c5 : Value} {t : TypeId} (hb : Below (W.alloc (.cells #[c0, c1, c2, c3, c4, c5] t)).heap.size (W.alloc (.cells #[c0, c1, c2, c3, c4, c5] t)) w') :
    (w'.cell? ⟨W.heap.size, 0, none⟩ = some c0 ∧ w'.cell? ⟨W.heap.size, 1, none⟩ = some c1 ∧ w'.cell? ⟨W.heap.size, 2, none⟩ = some c2 ∧ w'.cell? ⟨W.heap.size, 3, none⟩ = some c3 ∧ w'.cell? ⟨W.heap.size, 4, none⟩ = some c4 ∧ w'.cell? ⟨W.heap.size, 5, none⟩ = some c5) ∧ Below W.heap.size W w' :=
  ⟨⟨new_cell hb 0, new_cell hb 1, new_cell hb 2, new_cell hb 3, new_cell hb 4, new_cell hb 5⟩, below_new hb (Nat.le_refl _)⟩

theorem BL.heap {w : World} {base g n : Nat} {l : List Bool} (h : BL w base g n n l) : w.heap[g]? = some (.cells (l.map Value.bool).toArray 4 (0, 0)) := by
  rcases h.own.2 with ⟨h0, _⟩ | ⟨g', cap', cur, h1, h2, h3, h4, h5, h6, h7⟩
  · cases h0
  · injection h1 with h1 _ h1c
    injection h1 with h1
    injection h1 with h1
    subst h1; subst h1c
    have : cur.toList = l.map Value.bool := by rw [← h7, List.take_of_length_le (by rw [Array.length_toList, h6]; exact Nat.le_refl _)]
    rw [h3, ← this]
theorem BL.of_heap {w : World} {base g n : Nat} {l : List Bool} (hl : l.length = n) (hb : base ≤ g) (hn : n ≤ maxLen) (h : w.heap[g]? = some (.cells (l.map Value.bool).toArray 4 (0, 0))) : BL w base g n n l :=
  ⟨hl, by simp [hl], .inr ⟨g, n, (l.map Value.bool).toArray, rfl, hb, h, Nat.le_refl _, hn, by simp [hl], by rw [List.take_of_length_le (by simp [hl])]⟩⟩
theorem BL.copied {w : World} {base g cap n : Nat} {l : List Bool} (h : BL w base g cap n l) (j : Nat) (v : Value) (hj : (l.map Value.bool)[j]? = some v) : w.cell? ((⟨g, 0, none⟩ : Addr).add j) = some v := by
  rw [addr_add]
  rw [List.getElem?_map] at hj
  cases hq : l[j]? with
  | none => rw [hq] at hj; cases hj
  | some q =>
    rw [hq] at hj
    injection hj with hj
    have hjl : j < n := by rw [← h.len]; exact (List.getElem?_eq_some_iff.1 hq).1
    rw [h.cell hjl, ← hj]
    unfold tt
    rw [List.getD_eq_getElem?_getD, hq]
    rfl
theorem bools_one (l : List Bool) : ∀ v ∈ l.map Value.bool, v.oneCell' = true := fun v hv => by
  obtain ⟨q, _, rfl⟩ := List.mem_map.1 hv
  rfl
theorem size_bool : (Try.prog.info? 4).map (·.size) = some 1 := by kernel_rfl
theorem splice_all {cur cs : List Value} (h : cs.length = cur.length) : splice cur 0 cs = cs := by
  unfold splice
  simp [h]

end Go.Proofs.Ytnjjchbgnmjkjaa
