/- Rows of fields in memory: two strings each. -/
import Derived.Test.YtchoenfclfafiaaDoorMem
import Derived.Test.YtchoenfclfafiaaDoorArgL
import Derived.Laws.OwnMore
namespace Go.Proofs.YtchoenfclfafiaaDoor
open Go.RowKit

abbrev PairV := ByteArray × ByteArray
def cellsV (x : PairV) : List Value := [.string x.1, .string x.2]
theorem cellsV_len (l : List PairV) : (l.flatMap cellsV).length = l.length * 2 := by
  induction l with
  | nil => rfl
  | cons x l ih => rw [List.flatMap_cons, List.length_append, ih]; simp only [cellsV, List.length_cons, List.length_nil]; omega
theorem cellsV_one (l : List PairV) : ∀ u ∈ l.flatMap cellsV, u.oneCell' = true := fun u hu => by
  obtain ⟨x, _, h⟩ := List.mem_flatMap.1 hu
  simp only [cellsV, List.mem_cons, List.not_mem_nil, or_false] at h
  rcases h with rfl | rfl <;> rfl
theorem cellsV_at : ∀ (l : List PairV) (k : Nat) (h : k < l.length), (l.flatMap cellsV)[k * 2]? = some (.string l[k].1) ∧ (l.flatMap cellsV)[k * 2 + 1]? = some (.string l[k].2)
  | [], k, h => absurd h (by simp)
  | x :: l, 0, _ => ⟨rfl, rfl⟩
  | x :: l, k + 1, h => by
    have := cellsV_at l k (by simpa using h)
    rw [List.flatMap_cons, show (k + 1) * 2 = 2 + k * 2 by omega, List.getElem?_append_right (by simp [cellsV]), show 2 + k * 2 + 1 = 2 + (k * 2 + 1) by omega, List.getElem?_append_right (by simp [cellsV])]
    simpa [cellsV] using this
/-- A row of fields of the call's own. -/
def OwnV (w : World) (base : Nat) (v : Value) (l : List PairV) : Prop := w.ownsRow base 65 2 v l.length (l.flatMap cellsV)
theorem OwnV.nil (w : World) (base : Nat) : OwnV w base (.slice none 0 0) [] := World.ownsRow_nil w base 65 2
theorem OwnV.below {w w' : World} {base : Nat} {v : Value} {l : List PairV} (h : OwnV w base v l) (hb : Below w.heap.size w w') : OwnV w' base v l := ownsRow_below h hb
theorem OwnV.keep {w w' : World} {base : Nat} {v : Value} {l : List PairV} (h : OwnV w base v l) (hk : ∀ g, v.ownBlock = some g → w'.heap[g]? = w.heap[g]?) : OwnV w' base v l := by
  refine ⟨h.1, ?_⟩
  rcases h.2 with h0 | ⟨g, cap, cur, h1, h2, h3, h4⟩
  · exact .inl h0
  · exact .inr ⟨g, cap, cur, h1, h2, (hk g (by rw [h1]; rfl)).trans h3, h4⟩
theorem OwnV.low {w : World} {base b : Nat} {v : Value} {l : List PairV} (h : OwnV w base v l) (hb : b ≤ base) : OwnV w b v l :=
  ⟨h.1, h.2.imp_right fun ⟨g, cap, cur, h1, h2, h3⟩ => ⟨g, cap, cur, h1, Nat.le_trans hb h2, h3⟩⟩
theorem OwnV.form {w : World} {base : Nat} {v : Value} {l : List PairV} (h : OwnV w base v l) : ∃ A c, v = .slice A l.length c ∧ Sl w w.heap.size 2 A l.length (l.flatMap cellsV) := by
  rcases h.2 with ⟨h1, h2⟩ | ⟨g, cap, cur, h1, hb, hg, _⟩
  · have : l = [] := List.eq_nil_of_length_eq_zero h2
    subst this
    exact ⟨none, 0, h1, Sl.nil _ _ _ _⟩
  · refine ⟨_, _, h1, cellsV_len l, fun hp => ⟨g, 0, rfl, ?_, fun j hj => ?_⟩⟩
    · exact (World.ownsRow.lt h g (by rw [h1]; simp [Value.ownBlock])).2
    · have := World.ownsRow.cells (g := g) h (by rw [h1]; simp [Value.ownBlock]) j _ (List.getElem?_eq_getElem hj)
      rw [addr_add] at this
      rw [Nat.zero_add]
      exact this
/-- Two cells of a field. -/
theorem fld_at {w : World} {B n : Nat} {A : Option Addr} {l : List PairV} (h : Sl w B 2 A n (l.flatMap cellsV)) (k : Nat) (hk : k < l.length) :
    ∃ b off, A = some ⟨b, off, none⟩ ∧ b < B ∧ w.cell? ⟨b, off + k * 2, none⟩ = some (.string l[k].1) ∧ w.cell? ⟨b, off + k * 2 + 1, none⟩ = some (.string l[k].2) := by
  have hl := cellsV_len l
  obtain ⟨b, off, e, hb, hc⟩ := h.src (by omega)
  obtain ⟨h0, h1⟩ := cellsV_at l k hk
  refine ⟨b, off, e, hb, ?_, ?_⟩
  · rw [hc (k * 2) (by omega)]
    rw [List.getElem?_eq_getElem (by omega)] at h0
    exact h0
  · rw [Nat.add_assoc, hc (k * 2 + 1) (by omega)]
    rw [List.getElem?_eq_getElem (by omega)] at h1
    exact h1
theorem info_fld : (Tryd.prog.info? 65).map (fun i => (i.zero, i.size, i.bytes)) = some (some (.agg #[.string ByteArray.empty, .string ByteArray.empty]), 2, 32) := by kernel_rfl
section
variable {ops : Array Oper} {rest : List Oper} {o : Oper} {a : Act} {Q : Exit → Act → World → Prop} {w : World}
/-- One field appended. -/
theorem wpList_append_v (hgd : o.guard = none) (s x : Operand) (ho : o.op = .call { callee := .builtin .append, args := #[s, x], argTypes := #[27, 27] })
    (base : Nat) (v : Value) (l : List PairV) (hs : a.eval s = v) (hown : OwnV w base v l) (hbase : base ≤ w.heap.size)
    (vs : List Value) (new : PairV) (hv : vs = cellsV new) (g0 : Nat) (hg0 : w.heap.size = g0) (c : Nat) (hx : a.eval x = .slice (some ⟨g0, 0, none⟩) 1 c)
    (hbytes : l.length ≤ 4194304)
    (h : ∀ v' w', OwnV w' base v' (l ++ [new]) → Below base w w' → (∀ g, g < w.heap.size → v.ownBlock ≠ some g → w'.heap[g]? = w.heap[g]?) → w.heap.size < w'.heap.size → wpList Tryd.prog ops Q rest (a.put o.dst v') w') :
    wpList Tryd.prog ops Q (o :: rest) a (w.alloc (.cells vs.toArray 65)) := by
  subst hv; subst hg0
  obtain ⟨i0, hi, hz0, hz1, hz2⟩ := info_parts info_fld
  refine wpList_plain hgd fun _ hK => wp_append_kept s x 27 ho base 65 i0 _ 2 32 Tryd.underlying27 hi hz0 hz1 hz2 rfl (by decide) v l.length (l.flatMap cellsV) hs hown hbase (cellsV new) 1 c hx rfl
    (fun u hu => cellsV_one [new] u (by simpa using hu)) (by unfold maxLen; omega) (by omega) fun v' w' h1 h2 h3 h4 => hK _ _ (h v' w' (by unfold OwnV; rw [List.length_append, List.flatMap_append]; simpa using h1) h2 h3 h4)
/-- A whole row appended. -/
theorem wpList_append_vv (hgd : o.guard = none) (s x : Operand) (ho : o.op = .call { callee := .builtin .append, args := #[s, x], argTypes := #[27, 27] })
    (base base2 : Nat) (v u : Value) (l m : List PairV) (hs : a.eval s = v) (hx : a.eval x = u) (hown : OwnV w base v l) (hown2 : OwnV w base2 u m) (hbase : base ≤ w.heap.size)
    (hbytes : l.length + m.length ≤ 4194304)
    (h : ∀ v' w', OwnV w' base v' (l ++ m) → Below base w w' → (∀ g, g < w.heap.size → v.ownBlock ≠ some g → w'.heap[g]? = w.heap[g]?) → w.heap.size ≤ w'.heap.size → wpList Tryd.prog ops Q rest (a.put o.dst v') w') :
    wpList Tryd.prog ops Q (o :: rest) a w := by
  obtain ⟨i0, hi, hz0, hz1, hz2⟩ := info_parts info_fld
  refine wpList_plain hgd fun K hK => ?_
  rcases hown2.2 with ⟨e1, e2⟩ | ⟨g, cap, cur, e1, hbg, hg, _⟩
  · have hm : m = [] := List.eq_nil_of_length_eq_zero e2
    subst hm; subst e1
    have hr := run_append_owned_none (P := Tryd.prog) (w := w) base 27 o.type 65 i0 2 Tryd.underlying27 hi v l.length (l.flatMap cellsV) hown
    unfold Oper.wp execOp
    simp only [ho, resolve, invoke, builtin, Sem.run_bind, Sem.run_pure, Result.andThen_ok, List.map_toArray, List.map_cons, List.map_nil, hs, hx, hr]
    exact hK _ _ (h v w (by rw [List.append_nil]; exact hown) (Below.refl _ _) (fun _ _ _ => rfl) (Nat.le_refl _))
  · have hcell : ∀ j z, (m.flatMap cellsV)[j]? = some z → w.cell? (Addr.add ⟨g, 0, none⟩ j) = some z := fun j z hz => World.ownsRow.cells (g := g) hown2 (by rw [e1]; simp [Value.ownBlock]) j z hz
    refine wp_append_own (P := Tryd.prog) w s x 27 ho base 65 i0 _ 2 32 Tryd.underlying27 hi hz0 hz1 hz2 rfl (by decide) v l.length (l.flatMap cellsV) hs hown ⟨g, 0, none⟩ m.length cap (m.flatMap cellsV) (hx.trans e1) (cellsV_len m) hcell (cellsV_one m)
      (by unfold maxLen; omega) (by omega) hbase ?_
    intro v' w' ho' hgr _
    exact hK _ _ (h v' w' (by unfold OwnV; rw [List.length_append, List.flatMap_append]; exact ho') ((Below.refl _ _).grown hgr hbase (fun k hk => (World.ownsRow.lt hown k hk).1)) (fun k hk hne => hgr.block k hk (fun e => hne e.symm)) hgr.size)
end
end Go.Proofs.YtchoenfclfafiaaDoor
