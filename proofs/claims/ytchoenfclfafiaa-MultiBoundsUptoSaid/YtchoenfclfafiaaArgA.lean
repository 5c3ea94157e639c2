/- Rows of arguments in memory: two strings each. -/
import Derived.Test.YtchoenfclfafiaaMem
import Derived.Test.YtchoenfclfafiaaArgL
import Derived.Laws.OwnMore
namespace Go.Proofs.Ytchoenfclfafiaa
open Go.RowKit

abbrev Pair := ByteArray × ByteArray
def cellsA (x : Pair) : List Value := [.string x.1, .string x.2]
theorem cellsA_len (l : List Pair) : (l.flatMap cellsA).length = l.length * 2 := by
  induction l with
  | nil => rfl
  | cons x l ih => rw [List.flatMap_cons, List.length_append, ih]; simp only [cellsA, List.length_cons, List.length_nil]; omega
theorem cellsA_one (l : List Pair) : ∀ u ∈ l.flatMap cellsA, u.oneCell' = true := fun u hu => by
  obtain ⟨x, _, h⟩ := List.mem_flatMap.1 hu
  simp only [cellsA, List.mem_cons, List.not_mem_nil, or_false] at h
  rcases h with rfl | rfl <;> rfl
theorem cellsA_at : ∀ (l : List Pair) (k : Nat) (h : k < l.length), (l.flatMap cellsA)[k * 2]? = some (.string l[k].1) ∧ (l.flatMap cellsA)[k * 2 + 1]? = some (.string l[k].2)
  | [], k, h => absurd h (by simp)
  | x :: l, 0, _ => ⟨rfl, rfl⟩
  | x :: l, k + 1, h => by
    have := cellsA_at l k (by simpa using h)
    rw [List.flatMap_cons, show (k + 1) * 2 = 2 + k * 2 by omega, List.getElem?_append_right (by simp [cellsA]), show 2 + k * 2 + 1 = 2 + (k * 2 + 1) by omega, List.getElem?_append_right (by simp [cellsA])]
    simpa [cellsA] using this
/-- A row of arguments of the call's own. -/
def OwnA (w : World) (base : Nat) (v : Value) (l : List Pair) : Prop := w.ownsRow base 43 2 v l.length (l.flatMap cellsA)
theorem OwnA.nil (w : World) (base : Nat) : OwnA w base (.slice none 0 0) [] := World.ownsRow_nil w base 43 2
theorem OwnA.below {w w' : World} {base : Nat} {v : Value} {l : List Pair} (h : OwnA w base v l) (hb : Below w.heap.size w w') : OwnA w' base v l := ownsRow_below h hb
theorem OwnA.keep {w w' : World} {base : Nat} {v : Value} {l : List Pair} (h : OwnA w base v l) (hk : ∀ g, v.ownBlock = some g → w'.heap[g]? = w.heap[g]?) : OwnA w' base v l := by
  refine ⟨h.1, ?_⟩
  rcases h.2 with h0 | ⟨g, cap, cur, h1, h2, h3, h4⟩
  · exact .inl h0
  · exact .inr ⟨g, cap, cur, h1, h2, (hk g (by rw [h1]; rfl)).trans h3, h4⟩
theorem OwnA.low {w : World} {base b : Nat} {v : Value} {l : List Pair} (h : OwnA w base v l) (hb : b ≤ base) : OwnA w b v l :=
  ⟨h.1, h.2.imp_right fun ⟨g, cap, cur, h1, h2, h3⟩ => ⟨g, cap, cur, h1, Nat.le_trans hb h2, h3⟩⟩
theorem OwnA.form {w : World} {base : Nat} {v : Value} {l : List Pair} (h : OwnA w base v l) : ∃ A c, v = .slice A l.length c ∧ Sl w w.heap.size 2 A l.length (l.flatMap cellsA) := by
  rcases h.2 with ⟨h1, h2⟩ | ⟨g, cap, cur, h1, hb, hg, _⟩
  · have : l = [] := List.eq_nil_of_length_eq_zero h2
    subst this
    exact ⟨none, 0, h1, Sl.nil _ _ _ _⟩
  · refine ⟨_, _, h1, cellsA_len l, fun hp => ⟨g, 0, rfl, ?_, fun j hj => ?_⟩⟩
    · exact (World.ownsRow.lt h g (by rw [h1]; simp [Value.ownBlock])).2
    · have := World.ownsRow.cells (g := g) h (by rw [h1]; simp [Value.ownBlock]) j _ (List.getElem?_eq_getElem hj)
      rw [addr_add] at this
      rw [Nat.zero_add]
      exact this
/-- Two cells of an argument. -/
theorem arg_at {w : World} {B n : Nat} {A : Option Addr} {l : List Pair} (h : Sl w B 2 A n (l.flatMap cellsA)) (k : Nat) (hk : k < l.length) :
    ∃ b off, A = some ⟨b, off, none⟩ ∧ b < B ∧ w.cell? ⟨b, off + k * 2, none⟩ = some (.string l[k].1) ∧ w.cell? ⟨b, off + k * 2 + 1, none⟩ = some (.string l[k].2) := by
  have hl := cellsA_len l
  obtain ⟨b, off, e, hb, hc⟩ := h.src (by omega)
  obtain ⟨h0, h1⟩ := cellsA_at l k hk
  refine ⟨b, off, e, hb, ?_, ?_⟩
  · rw [hc (k * 2) (by omega)]
    rw [List.getElem?_eq_getElem (by omega)] at h0
    exact h0
  · rw [Nat.add_assoc, hc (k * 2 + 1) (by omega)]
    rw [List.getElem?_eq_getElem (by omega)] at h1
    exact h1
theorem info_arg : (Try.prog.info? 43).map (fun i => (i.zero, i.size, i.bytes)) = some (some (.agg #[.string ByteArray.empty, .string ByteArray.empty]), 2, 32) := by kernel_rfl
section
variable {ops : Array Oper} {rest : List Oper} {o : Oper} {a : Act} {Q : Exit → Act → World → Prop} {w : World}
/-- One argument appended. -/
theorem wpList_append_a (hgd : o.guard = none) (s x : Operand) (ho : o.op = .call { callee := .builtin .append, args := #[s, x], argTypes := #[40, 40] })
    (base : Nat) (v : Value) (l : List Pair) (hs : a.eval s = v) (hown : OwnA w base v l) (hbase : base ≤ w.heap.size)
    (vs : List Value) (new : Pair) (hv : vs = cellsA new) (g0 : Nat) (hg0 : w.heap.size = g0) (c : Nat) (hx : a.eval x = .slice (some ⟨g0, 0, none⟩) 1 c)
    (hbytes : l.length ≤ 4194304)
    (h : ∀ v' w', OwnA w' base v' (l ++ [new]) → Below base w w' → (∀ g, g < w.heap.size → v.ownBlock ≠ some g → w'.heap[g]? = w.heap[g]?) → w.heap.size < w'.heap.size → wpList Try.prog ops Q rest (a.put o.dst v') w') :
    wpList Try.prog ops Q (o :: rest) a (w.alloc (.cells vs.toArray 43)) := by
  subst hv; subst hg0
  obtain ⟨i0, hi, hz0, hz1, hz2⟩ := info_parts info_arg
  refine wpList_plain hgd fun _ hK => wp_append_kept s x 40 ho base 43 i0 _ 2 32 Try.underlying40 hi hz0 hz1 hz2 rfl (by decide) v l.length (l.flatMap cellsA) hs hown hbase (cellsA new) 1 c hx rfl
    (fun u hu => cellsA_one [new] u (by simpa using hu)) (by unfold maxLen; omega) (by omega) fun v' w' h1 h2 h3 h4 => hK _ _ (h v' w' (by unfold OwnA; rw [List.length_append, List.flatMap_append]; simpa using h1) h2 h3 h4)
/-- A whole row appended. -/
theorem wpList_append_aa (hgd : o.guard = none) (s x : Operand) (ho : o.op = .call { callee := .builtin .append, args := #[s, x], argTypes := #[40, 40] })
    (base base2 : Nat) (v u : Value) (l m : List Pair) (hs : a.eval s = v) (hx : a.eval x = u) (hown : OwnA w base v l) (hown2 : OwnA w base2 u m) (hbase : base ≤ w.heap.size)
    (hbytes : l.length + m.length ≤ 4398046511104)
    (h : ∀ v' w', OwnA w' base v' (l ++ m) → Below base w w' → (∀ g, g < w.heap.size → v.ownBlock ≠ some g → w'.heap[g]? = w.heap[g]?) → w.heap.size ≤ w'.heap.size → wpList Try.prog ops Q rest (a.put o.dst v') w') :
    wpList Try.prog ops Q (o :: rest) a w := by
  obtain ⟨i0, hi, hz0, hz1, hz2⟩ := info_parts info_arg
  refine wpList_plain hgd fun K hK => ?_
  rcases hown2.2 with ⟨e1, e2⟩ | ⟨g, cap, cur, e1, hbg, hg, _⟩
  · have hm : m = [] := List.eq_nil_of_length_eq_zero e2
    subst hm; subst e1
    have hr := run_append_owned_none (P := Try.prog) (w := w) base 40 o.type 43 i0 2 Try.underlying40 hi v l.length (l.flatMap cellsA) hown
    unfold Oper.wp execOp
    simp only [ho, resolve, invoke, builtin, Sem.run_bind, Sem.run_pure, Result.andThen_ok, List.map_toArray, List.map_cons, List.map_nil, hs, hx, hr]
    exact hK _ _ (h v w (by rw [List.append_nil]; exact hown) (Below.refl _ _) (fun _ _ _ => rfl) (Nat.le_refl _))
  · have hcell : ∀ j z, (m.flatMap cellsA)[j]? = some z → w.cell? (Addr.add ⟨g, 0, none⟩ j) = some z := fun j z hz => World.ownsRow.cells (g := g) hown2 (by rw [e1]; simp [Value.ownBlock]) j z hz
    refine wp_append_own (P := Try.prog) w s x 40 ho base 43 i0 _ 2 32 Try.underlying40 hi hz0 hz1 hz2 rfl (by decide) v l.length (l.flatMap cellsA) hs hown ⟨g, 0, none⟩ m.length cap (m.flatMap cellsA) (hx.trans e1) (cellsA_len m) hcell (cellsA_one m)
      (by unfold maxLen; omega) (by omega) hbase ?_
    intro v' w' ho' hgr _
    exact hK _ _ (h v' w' (by unfold OwnA; rw [List.length_append, List.flatMap_append]; exact ho') ((Below.refl _ _).grown hgr hbase (fun k hk => (World.ownsRow.lt hown k hk).1)) (fun k hk hne => hgr.block k hk (fun e => hne e.symm)) hgr.size)
end
end Go.Proofs.Ytchoenfclfafiaa
