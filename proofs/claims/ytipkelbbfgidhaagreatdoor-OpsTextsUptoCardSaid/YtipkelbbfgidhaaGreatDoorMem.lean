/- Slices that read as lists of cells; rows of strings of the call's own; rows of fields. -/
import Derived.Test.YtipkelbbfgidhaaGreatDoorBase
import Derived.Deep.Draws
namespace Go.Proofs.YtipkelbbfgidhaaGreatDoor
open Go.RowKit

/-- The slice that begins at A, of n elements of so many cells each, reads as these cells, and lies in a block below B. -/
structure Sl (w : World) (B size : Nat) (A : Option Addr) (n : Nat) (xs : List Value) : Prop where
  len : xs.length = n * size
  src : 0 < xs.length → ∃ b off, A = some ⟨b, off, none⟩ ∧ b < B ∧ ∀ j (h : j < xs.length), w.cell? ⟨b, off + j, none⟩ = some xs[j]

theorem Sl.nil (w : World) (B size : Nat) (A : Option Addr) : Sl w B size A 0 [] := ⟨by simp, fun h => absurd h (by simp)⟩
theorem Sl.keep {w w' : World} {B size n : Nat} {A : Option Addr} {xs : List Value} (h : Sl w B size A n xs) (hk : ∀ b o, b < B → w'.cell? ⟨b, o, none⟩ = w.cell? ⟨b, o, none⟩) : Sl w' B size A n xs :=
  ⟨h.len, fun hp => by
    obtain ⟨b, off, e, hb, hc⟩ := h.src hp
    exact ⟨b, off, e, hb, fun j hj => (hk b _ hb).trans (hc j hj)⟩⟩
theorem Sl.below {w w' : World} {B size n : Nat} {A : Option Addr} {xs : List Value} (h : Sl w B size A n xs) (hb : Below B w w') : Sl w' B size A n xs :=
  h.keep fun b o hp => hb.cell (p := ⟨b, o, none⟩) hp
theorem Sl.more {w : World} {B B' size n : Nat} {A : Option Addr} {xs : List Value} (h : Sl w B size A n xs) (hB : B ≤ B') : Sl w B' size A n xs :=
  ⟨h.len, fun hp => by
    obtain ⟨b, off, e, hb, hc⟩ := h.src hp
    exact ⟨b, off, e, by omega, hc⟩⟩
theorem Sl.drewN {w : World} {B size n : Nat} {A : Option Addr} {xs : List Value} (h : Sl w B size A n xs) (q : Nat) : Sl (w.drewN q) B size A n xs := h.keep fun _ _ _ => rfl
theorem Sl.alloc {w : World} {B size n : Nat} {A : Option Addr} {xs : List Value} (h : Sl w B size A n xs) (hB : B ≤ w.heap.size) (o : Obj) : Sl (w.alloc o) B size A n xs :=
  h.below ((Below.refl _ _).alloc hB _)
theorem Sl.set {w : World} {B size n : Nat} {A : Option Addr} {xs : List Value} (h : Sl w B size A n xs) {p : Addr} (hB : B ≤ p.block) (u : Value) : Sl (w.setCell p u) B size A n xs :=
  h.below ((Below.refl _ _).setCell hB _)

theorem new_cell {W w' : World} {cs : Array Value} {t : TypeId} (hb : Below (W.alloc (.cells cs t)).heap.size (W.alloc (.cells cs t)) w') (j : Nat) : w'.cell? ⟨W.heap.size, j, none⟩ = cs[j]? :=
  (hb.cell (p := ⟨W.heap.size, j, none⟩) (by simp)).trans (cell_of_row (W.alloc (.cells cs t)) W.heap.size j cs t (0, 0) (heap_alloc_new W _))
theorem new_free {W w' : World} {cs : Array Value} {t : TypeId} (hb : Below (W.alloc (.cells cs t)).heap.size (W.alloc (.cells cs t)) w') (j : Nat) : w'.frozen? ⟨W.heap.size, j, none⟩ = false := by
  have hx := (hb.block W.heap.size (by simp)).trans (heap_alloc_new W (.cells cs t))
  simp [World.frozen?, hx]
theorem free_kept {W W' : World} (hb : Below W.heap.size W W') {p : Addr} {x : Value} (h : W.cell? p = some x) (hf : W.frozen? p = false) : W'.frozen? p = false := (hb.frozen (World.block_lt_of_cell? W p h)).trans hf
theorem undrew {B : Nat} {W w' : World} (hb : Below B W.drew w') : Below B W w' := ⟨hb.os, hb.tape, hb.output, hb.size, hb.block⟩
theorem below_new {B : Nat} {W w' : World} {o : Obj} (hb : Below (W.alloc o).heap.size (W.alloc o) w') (hB : B ≤ W.heap.size) : Below B W w' :=
  ((Below.refl B W).alloc hB o).trans (hb.mono (by simp; omega))
theorem cell_kept {W W' : World} (hb : Below W.heap.size W W') {p : Addr} {x : Value} (h : W.cell? p = some x) : W'.cell? p = some x := (hb.cell (World.block_lt_of_cell? W p h)).trans h
theorem ownsRow_below {w w' : World} {base : Nat} {e : TypeId} {size : Nat} {v : Value} {n : Nat} {xs : List Value} (h : w.ownsRow base e size v n xs) (hb : Below w.heap.size w w') : w'.ownsRow base e size v n xs := by
  refine ⟨h.1, ?_⟩
  rcases h.2 with h0 | ⟨g, cap, cur, h1, h2, h3, h4⟩
  · exact .inl h0
  · exact .inr ⟨g, cap, cur, h1, h2, (hb.block g (h.lt g (by rw [h1]; rfl)).2).trans h3, h4⟩

theorem Sl.lit {W : World} {cs : Array Value} {t : TypeId} {g B n size : Nat} {xs : List Value} (hg : W.heap.size = g) (hB : g < B) (hx : cs.toList = xs) (h : xs.length = n * size) : Sl (W.alloc (.cells cs t)) B size (some ⟨g, 0, none⟩) n xs := by
  subst hg; subst hx
  exact ⟨h, fun _ => ⟨_, 0, rfl, hB, fun j hj => by rw [Nat.zero_add, cell_of_row (W.alloc (.cells cs t)) W.heap.size j cs t (0, 0) (heap_alloc_new W _)]; simp [Array.getElem?_eq_getElem (by simpa using hj : j < cs.size)]⟩⟩

theorem two_set {w : World} {g : Nat} {x' y' : Value} (x y : Value) (h0 : w.cell? ⟨g, 0, none⟩ = some x') (h1 : w.cell? ⟨g, 1, none⟩ = some y') :
    ((w.setCell ⟨g, 0, none⟩ x).setCell ⟨g, 1, none⟩ y).cell? ⟨g, 0, none⟩ = some x ∧ ((w.setCell ⟨g, 0, none⟩ x).setCell ⟨g, 1, none⟩ y).cell? ⟨g, 1, none⟩ = some y := by
  have n1 : (⟨g, 1, none⟩ : Addr) ≠ ⟨g, 0, none⟩ := by intro e; cases e
  refine ⟨?_, ?_⟩
  · rw [World.cell?_setCell_other _ _ _ _ n1, World.cell?_setCell_same _ _ _ h0]
  · exact World.cell?_setCell_same (w.setCell ⟨g, 0, none⟩ x) _ _ ((World.cell?_setCell_other _ _ _ _ (Ne.symm n1)).trans h1)

theorem box_facts {w W' : World} {cs : Array Value} {t : TypeId} (hb : Below (w.heap.size + 1) (w.alloc (.cells cs t)) W') : (∀ j, W'.cell? ⟨w.heap.size, j, none⟩ = cs[j]?) ∧ Below w.heap.size w W' := by
  have hb' : Below (w.alloc (.cells cs t)).heap.size (w.alloc (.cells cs t)) W' := by simpa using hb
  exact ⟨fun j => new_cell hb' j, below_new hb' (Nat.le_refl _)⟩

/-- What a function hands back that makes a row of its own. -/
def RowIs (e : TypeId) (size n : Nat) (xs : List Value) (w : World) (r : Ending) (w' : World) : Prop := ∃ v, r = .returned v ∧ w'.ownsRow w.heap.size e size v n xs ∧ Below w.heap.size w w'

/-- A row of strings of the call's own. -/
def OwnS (w : World) (base : Nat) (v : Value) (l : List ByteArray) : Prop := w.ownsRow base 9 1 v l.length (l.map Value.string)
theorem OwnS.nil (w : World) (base : Nat) : OwnS w base (.slice none 0 0) [] := World.ownsRow_nil w base 9 1
theorem OwnS.form {w : World} {base : Nat} {v : Value} {l : List ByteArray} (h : OwnS w base v l) : ∃ A c, v = .slice A l.length c ∧ Sl w w.heap.size 1 A l.length (l.map Value.string) := by
  rcases h.2 with ⟨h1, h2⟩ | ⟨g, cap, cur, h1, hb, hg, _⟩
  · have : l = [] := List.eq_nil_of_length_eq_zero h2
    subst this
    exact ⟨none, 0, h1, Sl.nil _ _ _ _⟩
  · refine ⟨_, _, h1, by simp, fun hp => ⟨g, 0, rfl, ?_, fun j hj => ?_⟩⟩
    · exact ((h.lt g (by rw [h1]; simp [Value.ownBlock])).2)
    · have := World.ownsRow.cells (g := g) h (by rw [h1]; simp [Value.ownBlock]) j _ (List.getElem?_eq_getElem hj)
      rw [addr_add] at this
      rw [Nat.zero_add]
      exact this
theorem OwnS.below {w w' : World} {base : Nat} {v : Value} {l : List ByteArray} (h : OwnS w base v l) (hb : Below w.heap.size w w') : OwnS w' base v l := ownsRow_below h hb
theorem OwnS.later {w w' : World} {base : Nat} {v : Value} {l : List ByteArray} {o : Obj} (h : OwnS w base v l) (hb : Below (w.alloc o).heap.size (w.alloc o) w') : OwnS w' base v l := ownsRow_below h (below_new hb (Nat.le_refl _))
theorem OwnS.sl {w : World} {base : Nat} {A : Option Addr} {n c : Nat} {l : List ByteArray} (h : OwnS w base (.slice A n c) l) : Sl w w.heap.size 1 A l.length (l.map Value.string) := by
  obtain ⟨A', c', e, hs⟩ := h.form
  injection e with e1 e2 e3
  subst e1
  exact hs
theorem OwnS.far {w : World} {base g : Nat} {v : Value} {l : List ByteArray} (h : OwnS w base v l) (hne : ∀ k, v.ownBlock = some k → k ≠ g) (j : Nat) (x : Value) : OwnS (w.setCell ⟨g, j, none⟩ x) base v l :=
  ownsRow_setCell_other (a := ⟨g, j, none⟩) h (fun e => hne g e rfl) x
theorem OwnS.lt {w : World} {base : Nat} {v : Value} {l : List ByteArray} (h : OwnS w base v l) : ∀ k, v.ownBlock = some k → base ≤ k ∧ k < w.heap.size := World.ownsRow.lt h
theorem info_str : (Tryz.prog.info? 9).map (fun i => (i.zero, i.size, i.bytes)) = some (some (.string ByteArray.empty), 1, 16) := by kernel_rfl

section
variable {ops : Array Oper} {rest : List Oper} {o : Oper} {a : Act} {Q : Exit → Act → World → Prop} {w : World}
/-- append of a list that was just built, onto a row of the call's own: besides, what other blocks hold stays. -/
theorem wp_append_kept {K : Act → World → Prop} (s x : Operand) (t : TypeId) (ho : o.op = .call { callee := .builtin .append, args := #[s, x], argTypes := #[t, t] })
    (base : Nat) (e : TypeId) (i : TypeInfo) (z : Value) (size bytes : Nat) (ht : Tryz.prog.underlying t = some (.slice e)) (hi : Tryz.prog.info? e = some i) (hz : i.zero = some z)
    (hsize : i.size = size) (hby : i.bytes = bytes) (hzs : z.cells.size = size) (hsz : 0 < size)
    (v : Value) (n : Nat) (xs : List Value) (hs : a.eval s = v) (hown : w.ownsRow base e size v n xs) (hbase : base ≤ w.heap.size)
    (vs : List Value) (m c : Nat) (hx : a.eval x = .slice (some ⟨w.heap.size, 0, none⟩) m c) (hl : vs.length = m * size) (h1 : ∀ u ∈ vs, u.oneCell' = true)
    (h63 : n + m ≤ maxLen) (hbytes : (n + m) * bytes ≤ 140737488355328)
    (h : ∀ v' w', w'.ownsRow base e size v' (n + m) (xs ++ vs) → Below base w w' → (∀ g, g < w.heap.size → v.ownBlock ≠ some g → w'.heap[g]? = w.heap[g]?) → w.heap.size < w'.heap.size → K (a.put o.dst v') w') :
    o.wp Tryz.prog a (w.alloc (.cells vs.toArray e)) K Q := by
  have hown2 := hown.alloc (.cells vs.toArray e)
  refine wp_append_own (P := Tryz.prog) (w.alloc (.cells vs.toArray e)) s x t ho base e i z size bytes ht hi hz hsize hby hzs hsz v n xs hs hown2 ⟨w.heap.size, 0, none⟩ m c vs hx hl (cells_new w vs e) h1 h63 hbytes (by simp; omega) ?_
  intro v' w' ho' hg _
  have hb1 : Below base w (w.alloc (.cells vs.toArray e)) := (Below.refl _ _).alloc hbase _
  have hb2 := hb1.grown hg (by simp; omega) (fun k hk => (hown.lt k hk).1)
  refine h v' w' ho' hb2 (fun g hg' hne => (hg.block g (by simp; omega) (fun e => hne e.symm)).trans (Below.heap_alloc _ _ _ hg')) ?_
  have := hg.size
  simp at this
  omega
theorem wpList_append_s (hgd : o.guard = none) (s x : Operand) (ho : o.op = .call { callee := .builtin .append, args := #[s, x], argTypes := #[47, 47] })
    (base : Nat) (v : Value) (l : List ByteArray) (hs : a.eval s = v) (hown : OwnS w base v l) (hbase : base ≤ w.heap.size)
    (vs : List Value) (news : List ByteArray) (hv : vs = news.map Value.string) (m c : Nat) (hx : a.eval x = .slice (some ⟨w.heap.size, 0, none⟩) m c) (hl : news.length = m)
    (hbytes : (l.length + m) * 16 ≤ 140737488355328)
    (h : ∀ v' w', OwnS w' base v' (l ++ news) → Below base w w' → (∀ g, g < w.heap.size → v.ownBlock ≠ some g → w'.heap[g]? = w.heap[g]?) → w.heap.size < w'.heap.size → wpList Tryz.prog ops Q rest (a.put o.dst v') w') :
    wpList Tryz.prog ops Q (o :: rest) a (w.alloc (.cells vs.toArray 9)) := by
  subst hv; subst hl
  obtain ⟨i0, hi, hz0, hz1, hz2⟩ := info_parts info_str
  exact wpList_plain hgd fun _ hK => wp_append_kept s x 47 ho base 9 i0 (.string ByteArray.empty) 1 16 Tryz.underlying47 hi hz0 hz1 hz2 rfl (by decide) v l.length (l.map Value.string) hs hown hbase (news.map Value.string) news.length c hx (by simp)
    (fun u hu => by obtain ⟨b, _, rfl⟩ := List.mem_map.1 hu; rfl) (by unfold maxLen; omega) (by omega) fun v' w' h1 h2 h3 h4 => hK _ _ (h v' w' (by unfold OwnS; rw [List.length_append, List.map_append]; exact h1) h2 h3 h4)
end

/-! Fields: two strings each. -/
def cellsF (fs : List (ByteArray × ByteArray)) : List Value := fs.flatMap fun f => [.string f.1, .string f.2]
theorem cellsF_len (fs : List (ByteArray × ByteArray)) : (cellsF fs).length = fs.length * 2 := by
  induction fs with
  | nil => rfl
  | cons f r ih => simp only [cellsF, List.flatMap_cons, List.length_append, List.length_cons, List.length_nil] at ih ⊢; omega
theorem cellsF_at : ∀ (fs : List (ByteArray × ByteArray)) (k : Nat) (h : k < fs.length), (cellsF fs)[k * 2]? = some (.string fs[k].1) ∧ (cellsF fs)[k * 2 + 1]? = some (.string fs[k].2)
  | [], k, h => absurd h (by simp)
  | f :: r, 0, h => ⟨rfl, rfl⟩
  | f :: r, k + 1, h => by
    have ih := cellsF_at r k (by simpa using h)
    have e : cellsF (f :: r) = .string f.1 :: .string f.2 :: cellsF r := rfl
    rw [e, show (k + 1) * 2 = k * 2 + 1 + 1 by omega]
    exact ih
theorem Sl.field {w : World} {B n : Nat} {A : Option Addr} {fs : List (ByteArray × ByteArray)} (h : Sl w B 2 A n (cellsF fs)) {k : Nat} (hk : k < fs.length) :
    ∃ b off, A = some ⟨b, off, none⟩ ∧ b < B ∧ w.cell? ⟨b, off + k * 2, none⟩ = some (.string fs[k].1) ∧ w.cell? ⟨b, off + k * 2 + 1, none⟩ = some (.string fs[k].2) := by
  have hl := cellsF_len fs
  obtain ⟨b, off, e, hb, hc⟩ := h.src (by omega)
  obtain ⟨h1, h2⟩ := cellsF_at fs k hk
  have hc1 := hc (k * 2) (by omega)
  have hc2 := hc (k * 2 + 1) (by omega)
  rw [List.getElem?_eq_getElem (by omega)] at h1 h2
  refine ⟨b, off, e, hb, by rw [hc1]; exact h1, by rw [Nat.add_assoc, hc2]; exact h2⟩

end Go.Proofs.YtipkelbbfgidhaaGreatDoor
