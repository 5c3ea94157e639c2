/- Rows of whole numbers in memory, for prog's threads. -/
import Derived.Test.YteinbjopclblaaaThoT
import Derived.Test.YteinbjopclblaaaThoG
import Derived.Deep.AppendLies
namespace Go.Proofs.Yteinbjopclblaaa
open Go.RowKit

def natV (n : Nat) : Value := .int .i64 (n : Int)
def OwnN (w : World) (v : Value) (l : List Nat) : Prop := w.ownsRow 0 3 1 v l.length (l.map natV)
theorem OwnN.nil (w : World) : OwnN w (.slice none 0 0) [] := World.ownsRow_nil w 0 3 1
theorem OwnN.keep {w w' : World} {v : Value} {l : List Nat} (h : OwnN w v l) (hk : ∀ g, v.ownBlock = some g → w'.heap[g]? = w.heap[g]?) : OwnN w' v l := by
  refine ⟨h.1, ?_⟩
  rcases h.2 with h0 | ⟨g, cap, cur, h1, h2, h3, h4⟩
  · exact .inl h0
  · exact .inr ⟨g, cap, cur, h1, h2, (hk g (by rw [h1]; rfl)).trans h3, h4⟩
theorem OwnN.lt {w : World} {v : Value} {l : List Nat} (h : OwnN w v l) : ∀ g, v.ownBlock = some g → g < w.heap.size := fun g hg => (World.ownsRow.lt h g hg).2
theorem OwnN.form {w : World} {v : Value} {l : List Nat} (h : OwnN w v l) : ∃ A c, v = .slice A l.length c := by
  rcases h.2 with ⟨h1, h2⟩ | ⟨g, cap, cur, h1, _⟩
  · exact ⟨none, 0, by rw [h1, h2]⟩
  · exact ⟨_, _, h1⟩
theorem OwnN.head {w : World} {v : Value} {l : List Nat} (h : OwnN w v l) (hl : 0 < l.length) : ∃ g c, v = .slice (some ⟨g, 0, none⟩) l.length c ∧ g < w.heap.size := by
  rcases h.2 with ⟨_, h2⟩ | ⟨g, cap, cur, h1, _⟩
  · omega
  · exact ⟨g, cap, h1, h.lt g (by rw [h1]; rfl)⟩
theorem OwnN.cell {w : World} {g c : Nat} {l : List Nat} (h : OwnN w (.slice (some ⟨g, 0, none⟩) l.length c) l) (k : Nat) (hk : k < l.length) : w.cell? ⟨g, k, none⟩ = some (.int .i64 ((l[k] : Nat) : Int)) := by
  have h1 := World.ownsRow.cells (g := g) h (by simp [Value.ownBlock]) k (natV l[k]) (by simp [hk])
  rw [addr_add] at h1
  exact h1
theorem OwnN.pop {w : World} {g c k : Nat} {l : List Nat} (h : OwnN w (.slice (some ⟨g, 0, none⟩) (l ++ [k]).length c) (l ++ [k])) : OwnN w (.slice (some ⟨g, 0, none⟩) l.length c) l := by
  unfold OwnN at h ⊢
  rw [List.length_append, List.length_singleton, List.map_append] at h
  exact ownsRow_pop (by simp) h
theorem OwnN.one (w : World) (n : Nat) : OwnN (w.alloc (.cells #[natV n] 3)) (.slice (some ⟨w.heap.size, 0, none⟩) 1 1) [n] :=
  ⟨rfl, .inr ⟨w.heap.size, 1, #[natV n], rfl, Nat.zero_le _, heap_alloc_new w _, Nat.le_refl _, by decide, rfl, rfl⟩⟩

/-- From where each instruction was come to. -/
def FromN (w : World) (g n : Nat) (F : Nat → Nat) : Prop := w.heap[g]? = some (.cells ((List.range n).map fun i => natV (F i)).toArray 3 (0, 0))
theorem FromN.cell {w : World} {g n : Nat} {F : Nat → Nat} (h : FromN w g n F) (k : Nat) (hk : k < n) : w.cell? ⟨g, k, none⟩ = some (.int .i64 ((F k : Nat) : Int)) ∧ w.frozen? ⟨g, k, none⟩ = false :=
  ⟨(cell_of_row w g k _ _ _ h).trans (by simp [hk, natV]), frozen_of_row w g k _ _ h⟩
theorem FromN.keep {w w' : World} {g n : Nat} {F : Nat → Nat} (h : FromN w g n F) (hk : w'.heap[g]? = w.heap[g]?) : FromN w' g n F := hk.trans h
theorem FromN.set {w : World} {g n : Nat} {F : Nat → Nat} (h : FromN w g n F) (k v : Nat) : FromN (w.setCell ⟨g, k, none⟩ (.int .i64 (v : Int))) g n (upd F k v) := by
  have h1 := heap_setCell_same w g k _ _ (.int .i64 (v : Int)) h
  unfold FromN
  rw [h1, List.setIfInBounds_toArray]
  congr 3
  apply List.ext_getElem (by simp)
  intro i h2 h3
  simp only [List.length_set, List.length_map, List.length_range] at h2
  rw [List.getElem_set]
  simp only [List.getElem_map, List.getElem_range, upd]
  by_cases c : k = i
  · subst c; simp [natV]
  · rw [if_neg c, if_neg (fun e => c e.symm)]

theorem info_intN : (Try.prog.info? 3).map (fun i => (i.zero, i.size, i.bytes)) = some (some (.int .i64 0), 1, 8) := by kernel_rfl
section
variable {ops : Array Oper} {rest : List Oper} {o : Oper} {a : Act} {Q : Exit → Act → World → Prop} {w : World}
theorem wp_append_n {K : Act → World → Prop} (s x : Operand) (ho : o.op = .call { callee := .builtin .append, args := #[s, x], argTypes := #[49, 49] })
    (v : Value) (l : List Nat) (hs : a.eval s = v) (hown : OwnN w v l)
    (vs : List Value) (news : List Nat) (hv : vs = news.map natV) (g0 : Nat) (hg0 : w.heap.size = g0) (c : Nat) (hx : a.eval x = .slice (some ⟨g0, 0, none⟩) news.length c) (hn0 : 0 < news.length)
    (hlen : l.length + news.length ≤ 1048576)
    (h : ∀ g cap w', OwnN w' (.slice (some ⟨g, 0, none⟩) (l ++ news).length cap) (l ++ news) → (∀ k, k < w.heap.size → v.ownBlock ≠ some k → w'.heap[k]? = w.heap[k]?) → (v.ownBlock = some g ∨ w.heap.size ≤ g) → g < w'.heap.size → w.heap.size < w'.heap.size → Below 0 w w' → K (a.put o.dst (.slice (some ⟨g, 0, none⟩) (l ++ news).length cap)) w') :
    o.wp Try.prog a (w.alloc (.cells vs.toArray 3)) K Q := by
  subst hv; subst hg0
  obtain ⟨i0, hi, hz0, hz1, hz2⟩ := info_parts info_intN
  have hown2 := World.ownsRow.alloc hown (.cells (news.map natV).toArray 3)
  refine wp_append_lies (P := Try.prog) (w.alloc (.cells (news.map natV).toArray 3)) s x 49 ho 0 3 i0 (.int .i64 0) 1 8 Try.underlying49 hi hz0 hz1 hz2 rfl (by decide) v l.length (l.map natV) hs hown2
    ⟨w.heap.size, 0, none⟩ news.length c (news.map natV) hx (by simp) (cells_new w _ _) (fun u hu => by obtain ⟨n, _, rfl⟩ := List.mem_map.1 hu; rfl) hn0 (by unfold maxLen; omega) (by omega) (Nat.zero_le _) (w.heap.size + 1) (by simp) ?_
  intro g cap w' h1 h2 h3 h4
  have hz := h2.size
  rw [World.size_alloc] at hz
  rw [← List.map_append, ← List.length_append] at h1
  rw [← List.length_append]
  exact h g cap w' h1 (fun k hk hne => (h2.block k (by simp; omega) (fun e => hne e.symm)).trans (Below.heap_alloc _ _ _ hk)) (h3.imp_right fun e => by omega) h4 (by omega) (((Below.refl _ _).alloc (Nat.zero_le _) _).trans ⟨h2.os, h2.tape, h2.output, h2.size, fun _ hi => absurd hi (by omega)⟩)
theorem wpList_append_n (hgd : o.guard = none) (s x : Operand) (ho : o.op = .call { callee := .builtin .append, args := #[s, x], argTypes := #[49, 49] })
    (v : Value) (l : List Nat) (hs : a.eval s = v) (hown : OwnN w v l)
    (vs : List Value) (news : List Nat) (hv : vs = news.map natV) (g0 : Nat) (hg0 : w.heap.size = g0) (c : Nat) (hx : a.eval x = .slice (some ⟨g0, 0, none⟩) news.length c) (hn0 : 0 < news.length)
    (hlen : l.length + news.length ≤ 1048576)
    (h : ∀ g cap w', OwnN w' (.slice (some ⟨g, 0, none⟩) (l ++ news).length cap) (l ++ news) → (∀ k, k < w.heap.size → v.ownBlock ≠ some k → w'.heap[k]? = w.heap[k]?) → (v.ownBlock = some g ∨ w.heap.size ≤ g) → g < w'.heap.size → w.heap.size < w'.heap.size → Below 0 w w' → wpList Try.prog ops Q rest (a.put o.dst (.slice (some ⟨g, 0, none⟩) (l ++ news).length cap)) w') :
    wpList Try.prog ops Q (o :: rest) a (w.alloc (.cells vs.toArray 3)) :=
  wpList_plain hgd fun _ hK => wp_append_n s x ho v l hs hown vs news hv g0 hg0 c hx hn0 hlen fun g cap w' h1 h2 h3 h4 h5 h6 => hK _ _ (h g cap w' h1 h2 h3 h4 h5 h6)
theorem step_append_n {K : Act → World → Prop} {E : Prop} (hgd : o.guard = none) (s x : Operand) (ho : o.op = .call { callee := .builtin .append, args := #[s, x], argTypes := #[49, 49] })
    (v : Value) (l : List Nat) (hs : a.eval s = v) (hown : OwnN w v l)
    (vs : List Value) (news : List Nat) (hv : vs = news.map natV) (g0 : Nat) (hg0 : w.heap.size = g0) (c : Nat) (hx : a.eval x = .slice (some ⟨g0, 0, none⟩) news.length c) (hn0 : 0 < news.length)
    (hlen : l.length + news.length ≤ 1048576)
    (h : ∀ g cap w', OwnN w' (.slice (some ⟨g, 0, none⟩) (l ++ news).length cap) (l ++ news) → (∀ k, k < w.heap.size → v.ownBlock ≠ some k → w'.heap[k]? = w.heap[k]?) → (v.ownBlock = some g ∨ w.heap.size ≤ g) → g < w'.heap.size → w.heap.size < w'.heap.size → Below 0 w w' → K (a.put o.dst (.slice (some ⟨g, 0, none⟩) (l ++ news).length cap)) w') :
    if Region.wanted o (yielded ops a.tmps) = true then Oper.wp Try.prog o a (w.alloc (.cells vs.toArray 3)) K Q else E := by
  have hw : Region.wanted o (yielded ops a.tmps) = true := by simp [Region.wanted, hgd]
  rw [if_pos hw]
  exact wp_append_n s x ho v l hs hown vs news hv g0 hg0 c hx hn0 hlen h
end
end Go.Proofs.Yteinbjopclblaaa
