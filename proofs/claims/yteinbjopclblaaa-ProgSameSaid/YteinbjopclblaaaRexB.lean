/- Rows of truth values in memory; the walk of rex.last. -/
import Derived.Test.YteinbjopclblaaaRexM
import Derived.Test.YteinbjopclblaaaRexE
import Derived.Test.YteinbjopclblaaaMem2
import Derived.OwnWalk
namespace Go.Proofs.Yteinbjopclblaaa
open Go.RowKit

/-- A row of n truth values of the call's own, from the head of a block. -/
structure BL (w : World) (base g cap n : Nat) (l : List Bool) : Prop where
  len : l.length = n
  own : w.ownsRow base 4 1 (.slice (some ⟨g, 0, none⟩) n cap) n (l.map Value.bool)
section
variable {w w' : World} {base g cap n : Nat} {l : List Bool}
theorem BL.lt (h : BL w base g cap n l) : base ≤ g ∧ g < w.heap.size := World.ownsRow.lt h.own g rfl
theorem BL.cell (h : BL w base g cap n l) {j : Nat} (hj : j < n) : w.cell? ⟨g, j, none⟩ = some (.bool (tt l j)) := by
  have hl := h.len
  have := h.own.cellAt j (by omega)
  rw [this, List.getElem?_map]
  unfold tt
  rw [List.getD_eq_getElem?_getD, List.getElem?_eq_getElem (by omega)]
  rfl
theorem BL.free (h : BL w base g cap n l) (j : Nat) : w.frozen? ⟨g, j, none⟩ = false := h.own.frozenAt j
theorem BL.set (h : BL w base g cap n l) (j : Nat) (b : Bool) : BL (w.setCell ⟨g, j, none⟩ (.bool b)) base g cap n (l.set j b) :=
  ⟨by rw [List.length_set]; exact h.len, by rw [List.map_set]; exact (h.own.stored j (.bool b)).1⟩
theorem BL.keep (h : BL w base g cap n l) (hb : w.heap.size ≤ w'.heap.size ∧ w'.heap[g]? = w.heap[g]?) : BL w' base g cap n l := by
  refine ⟨h.len, h.own.1, ?_⟩
  rcases h.own.2 with h0 | ⟨g', cap', cur, h1, h2, h3, h4⟩
  · exact .inl h0
  · refine .inr ⟨g', cap', cur, h1, h2, ?_, h4⟩
    injection h1 with h1
    injection h1 with h1
    injection h1 with h1
    subst h1
    exact hb.2.trans h3
theorem BL.below (h : BL w base g cap n l) (hb : Below w.heap.size w w') : BL w' base g cap n l := h.keep ⟨hb.size, hb.block g h.lt.2⟩
theorem BL.only {k : Nat} (h : BL w base g cap n l) (hb : w.grownBy w' (some k)) (hk : g ≠ k) : BL w' base g cap n l := h.keep ⟨hb.size, hb.block g h.lt.2 (fun e => hk (by injection e))⟩
theorem BL.far {k : Nat} (h : BL w base g cap n l) (hk : g ≠ k) (j : Nat) (u : Value) : BL (w.setCell ⟨k, j, none⟩ u) base g cap n l :=
  h.keep ⟨by simp [World.setCell], Below.heap_setCell w ⟨k, j, none⟩ u g hk⟩
theorem BL.drewN (h : BL w base g cap n l) (q : Nat) : BL (w.drewN q) base g cap n l := h.keep ⟨Nat.le_refl _, rfl⟩
theorem BL.drew (h : BL w base g cap n l) : BL w.drew base g cap n l := h.keep ⟨Nat.le_refl _, rfl⟩
theorem BL.alloc (h : BL w base g cap n l) (o : Obj) : BL (w.alloc o) base g cap n l := h.below ((Below.refl _ _).alloc (Nat.le_refl _) o)
theorem BL.low {b2 : Nat} (h : BL w base g cap n l) (hb : b2 ≤ base) : BL w b2 g cap n l := by
  refine ⟨h.len, h.own.1, ?_⟩
  rcases h.own.2 with h0 | ⟨g', cap', cur, h1, h2, h3⟩
  · exact .inl h0
  · exact .inr ⟨g', cap', cur, h1, Nat.le_trans hb h2, h3⟩
end
theorem below_none {w w' : World} (h : w.grownBy w' none) : Below w.heap.size w w' := ⟨h.os, h.tape, h.output, h.size, fun i hi => h.block i hi (fun e => by cases e)⟩
theorem info_bool : (Try.prog.info? 4).map (fun i => (i.zero, i.size, i.bytes)) = some (some (.bool false), 1, 1) := by kernel_rfl

section
variable {ops : Array Oper} {rest : List Oper} {o : Oper} {a : Act} {Q : Exit → Act → World → Prop} {w : World}
theorem wpList_make_b (hgd : o.guard = none) (x y : Operand) (hop : o.op = .makeSlice 127 x y) (n g : Nat) (hg : w.heap.size = g) (hx : a.eval x = .int .i64 (n : Int)) (hy : a.eval y = .int .i64 (n : Int)) (hn : n ≤ 1048576)
    (hK : ∀ w', BL w' g g n n (List.replicate n false) → Below w.heap.size w w' → g < w'.heap.size → wpList Try.prog ops Q rest (a.put o.dst (.slice (some ⟨g, 0, none⟩) n n)) w') :
    wpList Try.prog ops Q (o :: rest) a w := by
  subst hg
  obtain ⟨i0, hi, hz0, hz1, hz2⟩ := info_parts info_bool
  refine wpList_make_full w hgd x y 127 hop w.heap.size 4 i0 (.bool false) 1 Try.underlying127 hi hz0 hz1 .i64 .i64 _ _ n hx hy rfl rfl (by rw [hz2]; omega) (by unfold maxLen; omega) (Nat.le_refl _) fun w' h1 h2 => ?_
  have hB : BL w' w.heap.size w.heap.size n n (List.replicate n false) := ⟨by simp, by
    rw [Nat.mul_one] at h1
    have e : (madeCells (Value.bool false).cells n).toList = (List.replicate n false).map Value.bool := by
      rw [List.map_replicate]; exact toList_madeCells_one (.bool false) n
    rw [← e]; exact h1⟩
  exact hK w' hB (below_none h2) hB.lt.2
end

set_option maxHeartbeats 800000 in
theorem last_any (w : World) (base g cap n : Nat) (l : List Bool) (h : BL w base g cap n l) (hn : n ≤ 1048576) :
    Calls Try.prog 86 #[.slice (some ⟨g, 0, none⟩) n cap] w fun e w' => (∃ r, e = .returned (.int .i64 r) ∧ LastIs l r) ∧ w' = w := by
  go_enter Try.func86, Try.ntmps86
  go_wp2_with fail
  go_loop [3] (fun i => ∃ z : Int, -1 ≤ z ∧ z < n ∧ i = .int .i64 z ∧ Hid (∀ j : Nat, z < j → tt l j = false)) (fun i => (intOf i + 1).toNat)
  case atStart => exact ⟨_, by omega, by omega, rfl, fun j hj => by
    cases e : tt l j with
    | false => rfl
    | true => have h1 := tt_lt e; have h2 := h.len; omega⟩
  case round =>
    obtain ⟨z, hz1, hz2, rfl, hno⟩ := hrel
    by_cases hz : 0 ≤ z
    · obtain ⟨m, rfl⟩ := Int.eq_ofNat_of_zero_le hz
      have hc := h.cell (j := m) (by omega)
      cases hq : tt l m with
      | true =>
        have HL : LastIs l m := .inr ⟨m, rfl, hq, fun i hi => hno i (by omega)⟩
        rw [hq] at hc
        have HH := Lib.hid HL
        clear hq HL hno
        go_wp2_with fail
        go_ret
        exact ⟨⟨_, rfl, HH.out⟩, rfl⟩
      | false =>
        have hno2 : Hid (∀ j : Nat, (m : Int) - 1 < j → tt l j = false) := fun j hj => by
          by_cases e : j = m
          · rw [e]; exact hq
          · exact hno j (by omega)
        rw [hq] at hc
        clear hq hno
        go_wp2_with fail
        go_round
        case rel => exact ⟨_, by omega, by omega, rfl, hno2⟩
        case measure => simp [intOf] <;> omega
    · obtain rfl : z = -1 := by omega
      have HL : LastIs l (-1) := .inl ⟨rfl, fun j => hno j (by omega)⟩
      have HH := Lib.hid HL
      clear HL hno
      go_wp2_with fail
      go_ret
      exact ⟨⟨_, rfl, HH.out⟩, rfl⟩
end Go.Proofs.Yteinbjopclblaaa
