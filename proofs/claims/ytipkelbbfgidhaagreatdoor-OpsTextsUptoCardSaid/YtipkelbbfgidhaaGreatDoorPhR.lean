/- Rows of any elements, of the call's own: read, appended to, stored into. -/
import Derived.Test.YtipkelbbfgidhaaGreatDoorOpen
import Derived.Test.YtipkelbbfgidhaaGreatDoorMem2
import Derived.Laws.OwnMore
namespace Go.Proofs.YtipkelbbfgidhaaGreatDoor
open Go.RowKit

/-- How an element lies in a row. -/
structure RowT (α : Type) where
  e : TypeId
  t : TypeId
  size : Nat
  bytes : Nat
  z : Value
  cells : α → List Value
  hsz : ∀ a, (cells a).length = size
  hpos : 0 < size
  under : Tryz.prog.underlying t = some (.slice e)
  info : (Tryz.prog.info? e).map (fun i => (i.zero, i.size, i.bytes)) = some (some z, size, bytes)
  hz : z.cells.size = size
  one : ∀ a, ∀ u ∈ cells a, u.oneCell' = true
  hbytes : bytes ≤ 64
def OwnG {α : Type} (R : RowT α) (w : World) (base : Nat) (v : Value) (l : List α) : Prop := w.ownsRow base R.e R.size v l.length (l.flatMap R.cells)
theorem OwnG.nil {α : Type} (R : RowT α) (w : World) (base : Nat) : OwnG R w base (.slice none 0 0) [] := World.ownsRow_nil w base R.e R.size
theorem OwnG.below {α : Type} {R : RowT α} {w w' : World} {base : Nat} {v : Value} {l : List α} (h : OwnG R w base v l) (hb : Below w.heap.size w w') : OwnG R w' base v l := ownsRow_below h hb
theorem OwnG.keep {α : Type} {R : RowT α} {w w' : World} {base : Nat} {v : Value} {l : List α} (h : OwnG R w base v l) (hk : ∀ g, v.ownBlock = some g → w'.heap[g]? = w.heap[g]?) : OwnG R w' base v l := by
  refine ⟨h.1, ?_⟩
  rcases h.2 with h0 | ⟨g, cap, cur, h1, h2, h3, h4⟩
  · exact .inl h0
  · exact .inr ⟨g, cap, cur, h1, h2, (hk g (by rw [h1]; rfl)).trans h3, h4⟩
theorem OwnG.low {α : Type} {R : RowT α} {w : World} {base b : Nat} {v : Value} {l : List α} (h : OwnG R w base v l) (hb : b ≤ base) : OwnG R w b v l :=
  ⟨h.1, h.2.imp_right fun ⟨g, cap, cur, h1, h2, h3⟩ => ⟨g, cap, cur, h1, Nat.le_trans hb h2, h3⟩⟩
theorem OwnG.high {α : Type} {R : RowT α} {w : World} {base b : Nat} {v : Value} {l : List α} (h : OwnG R w base v l) (hb : ∀ g, v.ownBlock = some g → b ≤ g) : OwnG R w b v l :=
  ⟨h.1, h.2.imp_right fun ⟨g, cap, cur, h1, h2, h3⟩ => ⟨g, cap, cur, h1, hb g (by rw [h1]; rfl), h3⟩⟩
theorem OwnG.lt {α : Type} {R : RowT α} {w : World} {base : Nat} {v : Value} {l : List α} (h : OwnG R w base v l) : ∀ k, v.ownBlock = some k → base ≤ k ∧ k < w.heap.size := World.ownsRow.lt h
theorem OwnG.head {α : Type} {R : RowT α} {w : World} {base : Nat} {v : Value} {l : List α} (h : OwnG R w base v l) (hl : 0 < l.length) : ∃ g c, v = .slice (some ⟨g, 0, none⟩) l.length c ∧ base ≤ g ∧ g < w.heap.size := by
  rcases h.2 with ⟨h1, h2⟩ | ⟨g, cap, cur, h1, hb, hg, _⟩
  · omega
  · exact ⟨g, cap, h1, hb, (World.ownsRow.lt h g (by rw [h1]; simp [Value.ownBlock])).2⟩
theorem OwnG.cases {α : Type} {R : RowT α} {w : World} {base : Nat} {v : Value} {l : List α} (h : OwnG R w base v l) : (v = .slice none 0 0 ∧ l = []) ∨ ∃ g c, v = .slice (some ⟨g, 0, none⟩) l.length c ∧ base ≤ g ∧ g < w.heap.size := by
  rcases h.2 with ⟨h1, h2⟩ | ⟨g, cap, cur, h1, hb, hg, _⟩
  · exact .inl ⟨h1, List.eq_nil_of_length_eq_zero h2⟩
  · exact .inr ⟨g, cap, h1, hb, (World.ownsRow.lt h g (by rw [h1]; simp [Value.ownBlock])).2⟩
theorem OwnG.at {α : Type} {R : RowT α} {w : World} {base g c : Nat} {l : List α} (h : OwnG R w base (.slice (some ⟨g, 0, none⟩) l.length c) l) (k : Nat) (hk : k < l.length) (j : Nat) (hj : j < R.size) :
    w.cell? ⟨g, k * R.size + j, none⟩ = (R.cells l[k])[j]? ∧ w.frozen? ⟨g, k * R.size + j, none⟩ = false := by
  have h1 := flat_at R.cells R.size R.hsz l k j hk hj
  have hl := flat_len R.cells R.size R.hsz l
  have h2 : k * R.size + j < (l.flatMap R.cells).length := by
    rw [hl]
    have : (k + 1) * R.size ≤ l.length * R.size := Nat.mul_le_mul_right _ hk
    rw [Nat.succ_mul] at this
    omega
  have hc := World.ownsRow.cells (g := g) h (by simp [Value.ownBlock]) (k * R.size + j) _ (List.getElem?_eq_getElem h2)
  rw [addr_add] at hc
  rw [List.getElem?_eq_getElem h2] at h1
  exact ⟨hc.trans h1, World.ownsRow.frozenAt h _⟩
theorem OwnG.form {α : Type} {R : RowT α} {w : World} {base : Nat} {v : Value} {l : List α} (h : OwnG R w base v l) : ∃ A c, v = .slice A l.length c ∧ Sl w w.heap.size R.size A l.length (l.flatMap R.cells) := by
  rcases h.cases with ⟨h1, h2⟩ | ⟨g, cap, h1, hb, hg⟩
  · subst h2
    exact ⟨none, 0, h1, Sl.nil _ _ _ _⟩
  · refine ⟨_, _, h1, flat_len R.cells R.size R.hsz l, fun hp => ⟨g, 0, rfl, hg, fun j hj => ?_⟩⟩
    have := World.ownsRow.cells (g := g) h (by rw [h1]; simp [Value.ownBlock]) j _ (List.getElem?_eq_getElem hj)
    rw [addr_add] at this
    rw [Nat.zero_add]
    exact this
theorem OwnG.stored {α : Type} {R : RowT α} {w : World} {base g c : Nat} {l : List α} (h : OwnG R w base (.slice (some ⟨g, 0, none⟩) l.length c) l) (k : Nat) (hk : k < l.length) (j : Nat) (hj : j < R.size) (u : Value) (y : α) (hy : R.cells y = (R.cells l[k]).set j u) :
    OwnG R (w.setCell ⟨g, k * R.size + j, none⟩ u) base (.slice (some ⟨g, 0, none⟩) l.length c) (l.set k y) ∧ w.grownBy (w.setCell ⟨g, k * R.size + j, none⟩ u) (some g) := by
  have hs := World.ownsRow.stored h (k * R.size + j) u
  refine ⟨?_, hs.2⟩
  have he : ∀ (l : List α) (k : Nat) (h : k < l.length), R.cells y = (R.cells l[k]).set j u → (l.flatMap R.cells).set (k * R.size + j) u = (l.set k y).flatMap R.cells := by
    intro l
    induction l with
    | nil => intro k h; exact absurd h (by simp)
    | cons a r ih =>
      intro k h he
      cases k with
      | zero =>
        have he' : R.cells y = (R.cells a).set j u := he
        simp only [List.flatMap_cons, List.set_cons_zero, Nat.zero_mul, Nat.zero_add]
        rw [List.set_append_left _ _ (by rw [R.hsz]; exact hj), he']
      | succ k =>
        simp only [List.flatMap_cons, List.set_cons_succ]
        rw [List.set_append_right _ _ (by rw [R.hsz, Nat.succ_mul]; omega), R.hsz, show (k + 1) * R.size + j - R.size = k * R.size + j by rw [Nat.succ_mul]; omega]
        rw [ih k (by simpa using h) he]
  unfold OwnG
  rw [List.length_set, ← he l k hk hy]
  exact hs.1
section
variable {ops : Array Oper} {rest : List Oper} {o : Oper} {a : Act} {Q : Exit → Act → World → Prop} {w : World}
theorem wp_append_g {α : Type} (R : RowT α) {K : Act → World → Prop} (s x : Operand) (ho : o.op = .call { callee := .builtin .append, args := #[s, x], argTypes := #[R.t, R.t] })
    (base : Nat) (v : Value) (l : List α) (hs : a.eval s = v) (hown : OwnG R w base v l) (hbase : base ≤ w.heap.size)
    (vs : List Value) (new : α) (hv : vs = R.cells new) (g0 : Nat) (hg0 : w.heap.size = g0) (c : Nat) (hx : a.eval x = .slice (some ⟨g0, 0, none⟩) 1 c)
    (hbytes : l.length ≤ 1048576)
    (h : ∀ v' w', OwnG R w' base v' (l ++ [new]) → Below base w w' → (∀ g, g < w.heap.size → v.ownBlock ≠ some g → w'.heap[g]? = w.heap[g]?) → w.heap.size < w'.heap.size → K (a.put o.dst v') w') :
    o.wp Tryz.prog a (w.alloc (.cells vs.toArray R.e)) K Q := by
  subst hv; subst hg0
  obtain ⟨i0, hi, hz0, hz1, hz2⟩ := info_parts R.info
  have hb := R.hbytes
  exact wp_append_kept s x R.t ho base R.e i0 _ R.size R.bytes R.under hi hz0 hz1 hz2 R.hz R.hpos v l.length (l.flatMap R.cells) hs hown hbase (R.cells new) 1 c hx (by rw [R.hsz, Nat.one_mul])
    (R.one new) (by unfold maxLen; omega) (Nat.le_trans (Nat.mul_le_mul (Nat.add_le_add_right hbytes 1) hb) (by omega)) fun v' w' h1 h2 h3 h4 => h v' w' (by unfold OwnG; rw [List.length_append, List.flatMap_append]; simpa using h1) h2 h3 h4
theorem wpList_append_g {α : Type} (R : RowT α) (hgd : o.guard = none) (s x : Operand) (ho : o.op = .call { callee := .builtin .append, args := #[s, x], argTypes := #[R.t, R.t] })
    (base : Nat) (v : Value) (l : List α) (hs : a.eval s = v) (hown : OwnG R w base v l) (hbase : base ≤ w.heap.size)
    (vs : List Value) (new : α) (hv : vs = R.cells new) (g0 : Nat) (hg0 : w.heap.size = g0) (c : Nat) (hx : a.eval x = .slice (some ⟨g0, 0, none⟩) 1 c)
    (hbytes : l.length ≤ 1048576)
    (h : ∀ v' w', OwnG R w' base v' (l ++ [new]) → Below base w w' → (∀ g, g < w.heap.size → v.ownBlock ≠ some g → w'.heap[g]? = w.heap[g]?) → w.heap.size < w'.heap.size → wpList Tryz.prog ops Q rest (a.put o.dst v') w') :
    wpList Tryz.prog ops Q (o :: rest) a (w.alloc (.cells vs.toArray R.e)) :=
  wpList_plain hgd fun _ hK => wp_append_g R s x ho base v l hs hown hbase vs new hv g0 hg0 c hx hbytes fun v' w' h1 h2 h3 h4 => hK _ _ (h v' w' h1 h2 h3 h4)
theorem step_append_g {α : Type} (R : RowT α) {K : Act → World → Prop} {E : Prop} (hgd : o.guard = none) (s x : Operand) (ho : o.op = .call { callee := .builtin .append, args := #[s, x], argTypes := #[R.t, R.t] })
    (base : Nat) (v : Value) (l : List α) (hs : a.eval s = v) (hown : OwnG R w base v l) (hbase : base ≤ w.heap.size)
    (vs : List Value) (new : α) (hv : vs = R.cells new) (g0 : Nat) (hg0 : w.heap.size = g0) (c : Nat) (hx : a.eval x = .slice (some ⟨g0, 0, none⟩) 1 c)
    (hbytes : l.length ≤ 1048576)
    (h : ∀ v' w', OwnG R w' base v' (l ++ [new]) → Below base w w' → (∀ g, g < w.heap.size → v.ownBlock ≠ some g → w'.heap[g]? = w.heap[g]?) → w.heap.size < w'.heap.size → K (a.put o.dst v') w') :
    if Region.wanted o (yielded ops a.tmps) = true then Oper.wp Tryz.prog o a (w.alloc (.cells vs.toArray R.e)) K Q else E := by
  have hw : Region.wanted o (yielded ops a.tmps) = true := by simp [Region.wanted, hgd]
  rw [if_pos hw]
  exact wp_append_g R s x ho base v l hs hown hbase vs new hv g0 hg0 c hx hbytes h
end
end Go.Proofs.YtipkelbbfgidhaaGreatDoor
