/- The walk of audit.Decode. -/
import Derived.Test.YteinbjopclblaaaAudW
import Derived.Test.YteinbjopclblaaaAudR
namespace Go.Proofs.Yteinbjopclblaaa
open Go.RowKit

def zero6 : Array Value := #[.int .i64 0, .int .i64 0, .int .i64 0, .int .i64 0, .slice none 0 0, .string (ByteArray.mk #[])]
/-- A row of numbers of the call's own. -/
def OwnI (w : World) (base : Nat) (v : Value) (l : List Int) : Prop := w.ownsRow base 3 1 v l.length (l.map (Value.int .i64))
theorem ownsRow_low {w : World} {base b2 : Nat} {e : TypeId} {size : Nat} {v : Value} {n : Nat} {xs : List Value} (h : w.ownsRow base e size v n xs) (hb : b2 ≤ base) : w.ownsRow b2 e size v n xs := by
  refine ⟨h.1, ?_⟩
  rcases h.2 with h0 | ⟨g, cap, cur, h1, h2, h3⟩
  · exact .inl h0
  · exact .inr ⟨g, cap, cur, h1, Nat.le_trans hb h2, h3⟩
def DecPost (res : Read) (w : World) (e : Ending) (w' : World) : Prop := match res with
  | .inl x => e = .returned (.tuple #[.agg zero6, .int .i64 0, .int .i64 x]) ∧ Below w.heap.size w w'
  | .inr (r, n) => ∃ A c, e = .returned (.tuple #[recV r A c, .int .i64 (n : Int), .int .i64 0]) ∧ Sl w' w'.heap.size 1 A r.matched.length (r.matched.map (Value.int .i64)) ∧ Below w.heap.size w w' ∧ OwnI w' 0 (.slice A r.matched.length c) r.matched

/-- A block of six cells that is known whole. -/
def Six (w : World) (g : Nat) (c0 c1 c2 c3 c4 c5 : Value) : Prop := w.heap[g]? = some (.cells #[c0, c1, c2, c3, c4, c5] 51 (0, 0))
section
variable {w w' : World} {g : Nat} {c0 c1 c2 c3 c4 c5 : Value}
theorem Six.cells (h : Six w g c0 c1 c2 c3 c4 c5) : w.cell? ⟨g, 0, none⟩ = some c0 ∧ w.cell? ⟨g, 1, none⟩ = some c1 ∧ w.cell? ⟨g, 2, none⟩ = some c2 ∧ w.cell? ⟨g, 3, none⟩ = some c3 ∧ w.cell? ⟨g, 4, none⟩ = some c4 ∧ w.cell? ⟨g, 5, none⟩ = some c5 :=
  ⟨cell_of_row w g 0 _ _ (0, 0) h, cell_of_row w g 1 _ _ (0, 0) h, cell_of_row w g 2 _ _ (0, 0) h, cell_of_row w g 3 _ _ (0, 0) h, cell_of_row w g 4 _ _ (0, 0) h, cell_of_row w g 5 _ _ (0, 0) h⟩
theorem Six.frees (h : Six w g c0 c1 c2 c3 c4 c5) : w.frozen? ⟨g, 0, none⟩ = false ∧ w.frozen? ⟨g, 1, none⟩ = false ∧ w.frozen? ⟨g, 2, none⟩ = false ∧ w.frozen? ⟨g, 3, none⟩ = false ∧ w.frozen? ⟨g, 4, none⟩ = false ∧ w.frozen? ⟨g, 5, none⟩ = false := by
  unfold Six at h
  simp [World.frozen?, h]
theorem Six.lt (h : Six w g c0 c1 c2 c3 c4 c5) : g < w.heap.size := by
  rcases Nat.lt_or_ge g w.heap.size with hlt | hge
  · exact hlt
  · unfold Six at h; rw [Array.getElem?_eq_none hge] at h; cases h
theorem Six.only {k : Nat} (h : Six w g c0 c1 c2 c3 c4 c5) (hg : w.grownBy w' (some k)) (hne : g ≠ k) : Six w' g c0 c1 c2 c3 c4 c5 := (hg.block g h.lt (fun e => hne (by injection e))).trans h
theorem Six.below (h : Six w g c0 c1 c2 c3 c4 c5) (hb : Below w.heap.size w w') : Six w' g c0 c1 c2 c3 c4 c5 := (hb.block g h.lt).trans h
theorem Six.far (h : Six w g c0 c1 c2 c3 c4 c5) {k : Nat} (hne : g ≠ k) (j : Nat) (u : Value) : Six (w.setCell ⟨k, j, none⟩ u) g c0 c1 c2 c3 c4 c5 := (Below.heap_setCell w ⟨k, j, none⟩ u g hne).trans h
theorem Six.set0 (h : Six w g c0 c1 c2 c3 c4 c5) (u : Value) : Six (w.setCell ⟨g, 0, none⟩ u) g u c1 c2 c3 c4 c5 := by unfold Six at h ⊢; simp [World.setCell, Array.getElem?_modify, h]
theorem Six.set1 (h : Six w g c0 c1 c2 c3 c4 c5) (u : Value) : Six (w.setCell ⟨g, 1, none⟩ u) g c0 u c2 c3 c4 c5 := by unfold Six at h ⊢; simp [World.setCell, Array.getElem?_modify, h]
theorem Six.set2 (h : Six w g c0 c1 c2 c3 c4 c5) (u : Value) : Six (w.setCell ⟨g, 2, none⟩ u) g c0 c1 u c3 c4 c5 := by unfold Six at h ⊢; simp [World.setCell, Array.getElem?_modify, h]
theorem Six.set3 (h : Six w g c0 c1 c2 c3 c4 c5) (u : Value) : Six (w.setCell ⟨g, 3, none⟩ u) g c0 c1 c2 u c4 c5 := by unfold Six at h ⊢; simp [World.setCell, Array.getElem?_modify, h]
theorem Six.set4 (h : Six w g c0 c1 c2 c3 c4 c5) (u : Value) : Six (w.setCell ⟨g, 4, none⟩ u) g c0 c1 c2 c3 u c5 := by unfold Six at h ⊢; simp [World.setCell, Array.getElem?_modify, h]
theorem Six.set5 (h : Six w g c0 c1 c2 c3 c4 c5) (u : Value) : Six (w.setCell ⟨g, 5, none⟩ u) g c0 c1 c2 c3 c4 u := by unfold Six at h ⊢; simp [World.setCell, Array.getElem?_modify, h]
theorem AR.far {s : ByteArray} {a e : Int} (h : AR w g s a e) {k : Nat} (hne : g ≠ k) (j : Nat) (u : Value) : AR (w.setCell ⟨k, j, none⟩ u) g s a e := (Below.heap_setCell w ⟨k, j, none⟩ u g hne).trans h
theorem below_only {B : Nat} {a : World} {k : Nat} (h : Below B a w) (hg : w.grownBy w' (some k)) (hk : B ≤ k) (hB : B ≤ w.heap.size) : Below B a w' :=
  h.trans ⟨hg.os, hg.tape, hg.output, hg.size, fun i hi => hg.block i (Nat.lt_of_lt_of_le hi hB) (fun e => by injection e with e; omega)⟩
end

theorem Six.fill {w : World} {g : Nat} {c0 c1 c2 c3 c4 c5 : Value} (h : Six w g c0 c1 c2 c3 c4 c5) (x0 x1 x2 x3 x4 x5 : Value) :
    Six ((((((w.setCell ⟨g, 0, none⟩ x0).setCell ⟨g, 1, none⟩ x1).setCell ⟨g, 2, none⟩ x2).setCell ⟨g, 3, none⟩ x3).setCell ⟨g, 4, none⟩ x4).setCell ⟨g, 5, none⟩ x5) g x0 x1 x2 x3 x4 x5 :=
  (((((h.set0 x0).set1 x1).set2 x2).set3 x3).set4 x4).set5 x5
theorem below_fill {B g : Nat} {a w : World} (h : Below B a w) (hB : B ≤ g) (x0 x1 x2 x3 x4 x5 : Value) :
    Below B a ((((((w.setCell ⟨g, 0, none⟩ x0).setCell ⟨g, 1, none⟩ x1).setCell ⟨g, 2, none⟩ x2).setCell ⟨g, 3, none⟩ x3).setCell ⟨g, 4, none⟩ x4).setCell ⟨g, 5, none⟩ x5) :=
  (((((h.setCell (p := ⟨g, 0, none⟩) hB x0).setCell (p := ⟨g, 1, none⟩) hB x1).setCell (p := ⟨g, 2, none⟩) hB x2).setCell (p := ⟨g, 3, none⟩) hB x3).setCell (p := ⟨g, 4, none⟩) hB x4).setCell (p := ⟨g, 5, none⟩) hB x5
theorem Six.drewI {w : World} {g : Nat} {c0 c1 c2 c3 c4 c5 : Value} (h : Six w g c0 c1 c2 c3 c4 c5) : Six w.drew g c0 c1 c2 c3 c4 c5 := h
def fillW (w : World) (g : Nat) (x0 x1 x2 x3 x4 x5 : Value) : World := (((((w.setCell ⟨g, 0, none⟩ x0).setCell ⟨g, 1, none⟩ x1).setCell ⟨g, 2, none⟩ x2).setCell ⟨g, 3, none⟩ x3).setCell ⟨g, 4, none⟩ x4).setCell ⟨g, 5, none⟩ x5
theorem fillW_eq (w : World) (g : Nat) (x0 x1 x2 x3 x4 x5 : Value) : (((((w.setCell ⟨g, 0, none⟩ x0).setCell ⟨g, 1, none⟩ x1).setCell ⟨g, 2, none⟩ x2).setCell ⟨g, 3, none⟩ x3).setCell ⟨g, 4, none⟩ x4).setCell ⟨g, 5, none⟩ x5 = fillW w g x0 x1 x2 x3 x4 x5 := rfl
theorem Six.fillN {w : World} {g : Nat} {c0 c1 c2 c3 c4 c5 : Value} (h : Six w g c0 c1 c2 c3 c4 c5) (x0 x1 x2 x3 x4 x5 : Value) : Six (fillW w g x0 x1 x2 x3 x4 x5) g x0 x1 x2 x3 x4 x5 := by
  rw [← fillW_eq]
  exact h.fill x0 x1 x2 x3 x4 x5
theorem below_fillN {B g : Nat} {a w : World} (h : Below B a w) (hB : B ≤ g) (x0 x1 x2 x3 x4 x5 : Value) : Below B a (fillW w g x0 x1 x2 x3 x4 x5) := by
  rw [← fillW_eq]
  exact below_fill h hB x0 x1 x2 x3 x4 x5
theorem Six.fillD {w : World} {g : Nat} {c0 c1 c2 c3 c4 c5 : Value} (h : Six w g c0 c1 c2 c3 c4 c5) (x0 x1 x2 x3 x4 x5 : Value) : Six (fillW w g x0 x1 x2 x3 x4 x5).drew g x0 x1 x2 x3 x4 x5 := by
  rw [← fillW_eq]
  exact (h.fill x0 x1 x2 x3 x4 x5).drewI
theorem below_fillD {B g : Nat} {a w : World} (h : Below B a w) (hB : B ≤ g) (x0 x1 x2 x3 x4 x5 : Value) : Below B a (fillW w g x0 x1 x2 x3 x4 x5).drew := by
  rw [← fillW_eq]
  exact (below_fill h hB x0 x1 x2 x3 x4 x5).drew
theorem OwnI.form {w : World} {base : Nat} {v : Value} {l : List Int} (h : OwnI w base v l) : ∃ A c, v = .slice A l.length c ∧ Sl w w.heap.size 1 A l.length (l.map (Value.int .i64)) := by
  rcases h.2 with ⟨h1, h2⟩ | ⟨g, cap, cur, h1, hb, hg, _⟩
  · have : l = [] := List.eq_nil_of_length_eq_zero h2
    subst this
    exact ⟨none, 0, h1, Sl.nil _ _ _ _⟩
  · refine ⟨_, _, h1, by simp, fun hp => ⟨g, 0, rfl, ?_, fun j hj => ?_⟩⟩
    · exact ((World.ownsRow.lt h g (by rw [h1]; simp [Value.ownBlock])).2)
    · have := World.ownsRow.cells (g := g) h (by rw [h1]; simp [Value.ownBlock]) j _ (List.getElem?_eq_getElem hj)
      rw [addr_add] at this
      rw [Nat.zero_add]
      exact this
theorem OwnI.only {w w' : World} {base k : Nat} {v : Value} {l : List Int} (h : OwnI w base v l) (hg : w.grownBy w' (some k)) (hk : k < base) : OwnI w' base v l :=
  World.ownsRow.kept h hg (.inr fun e => by have := (World.ownsRow.lt h k e).1; omega)
theorem OwnI.far {w : World} {base k : Nat} {v : Value} {l : List Int} (h : OwnI w base v l) (hk : k < base) (j : Nat) (x : Value) : OwnI (w.setCell ⟨k, j, none⟩ x) base v l :=
  ownsRow_setCell_other (a := ⟨k, j, none⟩) h (fun e => by have := (World.ownsRow.lt h k e).1; omega) x
theorem OwnI.filled {w : World} {base g n c : Nat} {A : Option Addr} {l : List Int} (h : OwnI w base (.slice A n c) l) (hg : g < base) (x0 x1 x2 x3 x4 x5 : Value) :
    Sl (fillW w g x0 x1 x2 x3 x4 x5).drew (fillW w g x0 x1 x2 x3 x4 x5).drew.heap.size 1 A l.length (l.map (Value.int .i64)) := by
  have h6 := (((((h.far hg 0 x0).far hg 1 x1).far hg 2 x2).far hg 3 x3).far hg 4 x4).far hg 5 x5
  rw [fillW_eq] at h6
  generalize fillW w g x0 x1 x2 x3 x4 x5 = F at *
  obtain ⟨A', c', e, hs⟩ := h6.form
  injection e with e1 e2 e3
  subst e1
  exact hs.keep (w' := F.drew) (fun _ _ _ => rfl)
theorem OwnI.filledO {w : World} {base g : Nat} {v : Value} {l : List Int} (h : OwnI w base v l) (hg : g < base) (x0 x1 x2 x3 x4 x5 : Value) : OwnI (fillW w g x0 x1 x2 x3 x4 x5).drew 0 v l := by
  have h6 := (((((h.far hg 0 x0).far hg 1 x1).far hg 2 x2).far hg 3 x3).far hg 4 x4).far hg 5 x5
  rw [fillW_eq] at h6
  exact World.ownsRow.drew (ownsRow_low h6 (Nat.zero_le _))
theorem info_int : (Try.prog.info? 3).map (fun i => (i.zero, i.size, i.bytes)) = some (some (.int .i64 0), 1, 8) := by kernel_rfl
section
variable {ops : Array Oper} {rest : List Oper} {o : Oper} {a : Act} {Q : Exit → Act → World → Prop} {w : World}
theorem step_append_i {K : Act → World → Prop} {E : Prop} (hgd : o.guard = none) (s x : Operand) (ho : o.op = .call { callee := .builtin .append, args := #[s, x], argTypes := #[49, 49] })
    (base : Nat) (v : Value) (l : List Int) (hs : a.eval s = v) (hown : OwnI w base v l) (hbase : base ≤ w.heap.size)
    (vs : List Value) (news : List Int) (hv : vs = news.map (Value.int .i64)) (m c : Nat) (hx : a.eval x = .slice (some ⟨w.heap.size, 0, none⟩) m c) (hl : news.length = m)
    (hbytes : (l.length + m) * 8 ≤ 140737488355328)
    (h : ∀ v' w', OwnI w' base v' (l ++ news) → Below base w w' → w.heap.size < w'.heap.size → K (a.put o.dst v') w') :
    if Region.wanted o (yielded ops a.tmps) = true then Oper.wp Try.prog o a (w.alloc (.cells vs.toArray 3)) K Q else E := by
  have hw : Region.wanted o (yielded ops a.tmps) = true := by simp [Region.wanted, hgd]
  rw [if_pos hw]
  subst hv; subst hl
  obtain ⟨i0, hi, hz0, hz1, hz2⟩ := info_parts info_int
  exact wp_append_kept s x 49 ho base 3 i0 (.int .i64 0) 1 8 Try.underlying49 hi hz0 hz1 hz2 rfl (by decide) v l.length (l.map (Value.int .i64)) hs hown hbase (news.map (Value.int .i64)) news.length c hx (by simp)
    (fun u hu => by obtain ⟨b, _, rfl⟩ := List.mem_map.1 hu; rfl) (by unfold maxLen; omega) (by omega) fun v' w' h1 h2 _ h4 => h v' w' (by unfold OwnI; rw [List.length_append, List.map_append]; exact h1) h2 h4
end

theorem four_rng (l : List UInt8) (a : Nat) (e most : Int) (ha : a ≤ l.length) (hm : 0 ≤ most) :
    (fourR l (a, e) most).2.1 ≤ l.length ∧ 0 ≤ (fourR l (a, e) most).1 ∧ (fourR l (a, e) most).1 < 4294967296 ∧ (fourR l (a, e) most).1 ≤ most := by
  unfold fourR
  by_cases h0 : e ≠ 0
  · rw [if_pos h0]; exact ⟨ha, Int.le_refl _, (show (0 : Int) < 4294967296 by decide), hm⟩
  · rw [if_neg h0]
    dsimp only
    by_cases c1 : (l.length : Int) - (a : Int) < 4
    · rw [if_pos c1]; exact ⟨ha, Int.le_refl _, (show (0 : Int) < 4294967296 by decide), hm⟩
    · rw [if_neg c1]
      have hlen : ((l.drop a).take 4).length = 4 := by rw [List.length_take, List.length_drop]; omega
      obtain ⟨_, q2, q3⟩ := four_be _ hlen
      by_cases c2 : most < be4 ((l.drop a).take 4)
      · rw [if_pos c2]; exact ⟨by show a + 4 ≤ _; omega, Int.le_refl _, (show (0 : Int) < 4294967296 by decide), hm⟩
      · rw [if_neg c2]; exact ⟨by show a + 4 ≤ _; omega, q2, q3, by show be4 _ ≤ _; omega⟩

/-- What is there when the reading begins: the result's block, the reader, the record that is filled. -/
structure DecSt (w W : World) (s : ByteArray) (a e : Int) (c0 c1 c2 c3 c4 c5 : Value) : Prop where
  res : Six W w.heap.size (.int .i64 0) (.int .i64 0) (.int .i64 0) (.int .i64 0) (.slice none 0 0) (.string (ByteArray.mk #[]))
  rd : AR W (w.heap.size + 1) s a e
  out : Six W (w.heap.size + 1 + 1) c0 c1 c2 c3 c4 c5
  below : Below w.heap.size w W
  size : w.heap.size + 1 + 1 + 1 ≤ W.heap.size
theorem DecSt.read {w W W' : World} {s : ByteArray} {a e a' e' : Int} {c0 c1 c2 c3 c4 c5 : Value} (h : DecSt w W s a e c0 c1 c2 c3 c4 c5) (hr : AR W' (w.heap.size + 1) s a' e') (hg : W.grownBy W' (some (w.heap.size + 1))) : DecSt w W' s a' e' c0 c1 c2 c3 c4 c5 :=
  ⟨h.res.only hg (by omega), hr, h.out.only hg (by omega), below_only h.below hg (by omega) h.below.size, Nat.le_trans h.size hg.size⟩
theorem DecSt.fill {w W : World} {s : ByteArray} {a e : Int} {c0 c1 c2 c3 c4 c5 : Value} (h : DecSt w W s a e c0 c1 c2 c3 c4 c5) (x0 x1 x2 x3 : Value) :
    DecSt w ((((W.setCell ⟨w.heap.size + 1 + 1, 0, none⟩ x0).setCell ⟨w.heap.size + 1 + 1, 1, none⟩ x1).setCell ⟨w.heap.size + 1 + 1, 2, none⟩ x2).setCell ⟨w.heap.size + 1 + 1, 3, none⟩ x3) s a e x0 x1 x2 x3 c4 c5 :=
  ⟨(((h.res.far (by omega) 0 x0).far (by omega) 1 x1).far (by omega) 2 x2).far (by omega) 3 x3, (((h.rd.far (by omega) 0 x0).far (by omega) 1 x1).far (by omega) 2 x2).far (by omega) 3 x3,
    (((h.out.set0 x0).set1 x1).set2 x2).set3 x3, (((h.below.setCell (p := ⟨w.heap.size + 1 + 1, 0, none⟩) (by show _ ≤ w.heap.size + 1 + 1; omega) x0).setCell (p := ⟨w.heap.size + 1 + 1, 1, none⟩) (by show _ ≤ w.heap.size + 1 + 1; omega) x1).setCell (p := ⟨w.heap.size + 1 + 1, 2, none⟩) (by show _ ≤ w.heap.size + 1 + 1; omega) x2).setCell (p := ⟨w.heap.size + 1 + 1, 3, none⟩) (by show _ ≤ w.heap.size + 1 + 1; omega) x3,
    by simpa [World.setCell] using h.size⟩
theorem DecSt.belowB {w W W' : World} {s : ByteArray} {a e : Int} {c0 c1 c2 c3 c4 c5 : Value} (h : DecSt w W s a e c0 c1 c2 c3 c4 c5) (hb : Below (w.heap.size + 1 + 1 + 1) W W') : DecSt w W' s a e c0 c1 c2 c3 c4 c5 :=
  ⟨(hb.block _ (by omega)).trans h.res, (hb.block _ (by omega)).trans h.rd, (hb.block _ (by omega)).trans h.out, h.below.trans (hb.mono (by omega)), Nat.le_trans h.size hb.size⟩
theorem DecSt.later {w W W' : World} {s : ByteArray} {a e : Int} {c0 c1 c2 c3 c4 c5 : Value} (h : DecSt w W s a e c0 c1 c2 c3 c4 c5) (hb : Below W.heap.size W W') : DecSt w W' s a e c0 c1 c2 c3 c4 c5 :=
  ⟨h.res.below hb, h.rd.below hb, h.out.below hb, h.below.trans (hb.mono h.below.size), Nat.le_trans h.size hb.size⟩
theorem DecSt.set4 {w W : World} {s : ByteArray} {a e : Int} {c0 c1 c2 c3 c4 c5 : Value} (h : DecSt w W s a e c0 c1 c2 c3 c4 c5) (x : Value) : DecSt w (W.setCell ⟨w.heap.size + 1 + 1, 4, none⟩ x) s a e c0 c1 c2 c3 x c5 :=
  ⟨h.res.far (by omega) 4 x, h.rd.far (by omega) 4 x, h.out.set4 x, h.below.setCell (p := ⟨w.heap.size + 1 + 1, 4, none⟩) (by show _ ≤ w.heap.size + 1 + 1; omega) x, by simpa [World.setCell] using h.size⟩
theorem DecSt.set5 {w W : World} {s : ByteArray} {a e : Int} {c0 c1 c2 c3 c4 c5 : Value} (h : DecSt w W s a e c0 c1 c2 c3 c4 c5) (x : Value) : DecSt w (W.setCell ⟨w.heap.size + 1 + 1, 5, none⟩ x) s a e c0 c1 c2 c3 c4 x :=
  ⟨h.res.far (by omega) 5 x, h.rd.far (by omega) 5 x, h.out.set5 x, h.below.setCell (p := ⟨w.heap.size + 1 + 1, 5, none⟩) (by show _ ≤ w.heap.size + 1 + 1; omega) x, by simpa [World.setCell] using h.size⟩
theorem DecSt.drewN {w W : World} {s : ByteArray} {a e : Int} {c0 c1 c2 c3 c4 c5 : Value} (h : DecSt w W s a e c0 c1 c2 c3 c4 c5) (q : Nat) : DecSt w (W.drewN q) s a e c0 c1 c2 c3 c4 c5 := ⟨h.res, h.rd, h.out, below_drewN h.below q, h.size⟩
def DRel (w : World) (s : ByteArray) (v1 v2 v3 v4 : Int) (K a5 : Nat) (e5 : Int) (i : Value) (wr : World) : Prop :=
  ∃ (k a : Nat) (e : Int) (v : Value) (ms : List Int), k ≤ K ∧ i = .int .i64 k ∧ DecSt w wr s a e (.int .i64 v1) (.int .i64 v2) (.int .i64 v3) (.int .i64 v4) v (.string (ByteArray.mk #[])) ∧
    OwnI wr (w.heap.size + 1 + 1 + 1) v ms ∧ ms.length = k ∧ a ≤ s.data.toList.length ∧ Hid (idsR s.data.toList K (a5, e5) = (ms ++ (idsR s.data.toList (K - k) (a, e)).1, (idsR s.data.toList (K - k) (a, e)).2))
theorem ids_step (l : List UInt8) (k : Nat) (st : Nat × Int) : idsR l (k + 1) st = (((fourR l st far).1 :: (idsR l k (fourR l st far).2).1), (idsR l k (fourR l st far).2).2) := rfl
theorem hnil {s : ByteArray} (h0 : ¬ 0 < s.size) : s.data.toList = [] := List.eq_nil_of_length_eq_zero (by rw [Array.length_toList]; exact Nat.le_zero.1 (Nat.not_lt.1 h0))
theorem decSt_start (s : ByteArray) (w : World) : DecSt w (((w.alloc (.cells zero6 51)).alloc (.cells #[.string s, .int .i64 1, .int .i64 0] 107)).alloc (.cells zero6 51)) s 1 0
    (.int .i64 0) (.int .i64 0) (.int .i64 0) (.int .i64 0) (.slice none 0 0) (.string (ByteArray.mk #[])) := by
  have a1 := heap_alloc_new w (.cells zero6 51)
  have a2 := heap_alloc_new (w.alloc (.cells zero6 51)) (.cells #[.string s, .int .i64 1, .int .i64 0] 107)
  have a3 := heap_alloc_new ((w.alloc (.cells zero6 51)).alloc (.cells #[.string s, .int .i64 1, .int .i64 0] 107)) (.cells zero6 51)
  have z1 : (w.alloc (.cells zero6 51)).heap.size = w.heap.size + 1 := by simp
  have z2 : ((w.alloc (.cells zero6 51)).alloc (.cells #[.string s, .int .i64 1, .int .i64 0] 107)).heap.size = w.heap.size + 1 + 1 := by simp
  rw [z1] at a2
  rw [z2] at a3
  refine ⟨?_, ?_, a3, (((Below.refl _ _).alloc (Nat.le_refl _) _).alloc (by simp) _).alloc (by simp; omega) _, by simp⟩
  · exact (Below.heap_alloc _ _ _ (by rw [z2]; omega)).trans ((Below.heap_alloc _ _ _ (by rw [z1]; omega)).trans a1)
  · exact (Below.heap_alloc _ _ _ (by rw [z2]; omega)).trans a2

set_option maxRecDepth 100000 in
set_option maxHeartbeats 3200000 in
theorem Decode_any (s : ByteArray) (w : World) (hs : s.size ≤ 4611686018427387904) :
    Calls Try.prog 30 #[.string s] w (DecPost (decL s.data.toList) w) := by
  have hb0 := (Below.refl w.heap.size w).alloc (Nat.le_refl _) (.cells zero6 51)
  by_cases h0 : 0 < s.size
  · have q0 : s.toList.isEmpty = false := by rw [ByteArray.toList_eq]; cases h : s.data.toList with
      | nil => exact absurd (show s.data.toList.length = s.size from by simp) (by rw [h]; simp; omega)
      | cons b t => rfl
    have hd : s.data.toList = s[0] :: s.data.toList.drop 1 := by have := drop_cons s 0 h0; rw [List.drop_zero] at this; exact this
    have hD : Hid (decL s.data.toList = if s[0] ≠ 82 then .inl 4 else r1 s.data.toList (1, 0)) := by
      unfold Hid
      conv => lhs; rw [hd]
      show (if _ then _ else r1 (s[0] :: s.data.toList.drop 1) (1, 0)) = _
      rw [← hd]
    by_cases h1 : s[0] ≠ 82
    · have q1 : ((s[0].toNat : Int) != 82) = true := by rw [bne_iff_ne]; intro e; exact h1 (byte_eq (by rw [e]; rfl))
      have HD : Hid (decL s.data.toList = .inl 4) := by unfold Hid; rw [hD.out, if_pos h1]
      clear hd hD h1
      go_enter Try.func30, Try.ntmps30
      go_wp2_with fail
      exact bodyPost_ret (v := .tuple #[.agg zero6, .int .i64 0, .int .i64 4]) (by simp [results, Try.results30, go_sem, zero6]) rfl (by rw [HD.out]; exact ⟨rfl, hb0⟩)
    · have q1 : ((s[0].toNat : Int) != 82) = false := by rw [Classical.not_not.1 h1]; decide
      have HD : Hid (decL s.data.toList = r1 s.data.toList (1, 0)) := by unfold Hid; rw [hD.out, if_neg h1]
      have hst := decSt_start s w
      obtain ⟨W3, hW3⟩ : ∃ W3, ((w.alloc (.cells zero6 51)).alloc (.cells #[.string s, .int .i64 1, .int .i64 0] 107)).alloc (.cells zero6 51) = W3 := ⟨_, rfl⟩
      rw [hW3] at hst
      have HW3 := Lib.hid hW3
      have hsl : s.data.toList.length = s.size := by simp
      obtain ⟨v1, a1, e1, hq1⟩ : ∃ v a e, fourR s.data.toList (1, 0) far = (v, a, e) := ⟨_, _, _, rfl⟩
      have hn1 := four_rng s.data.toList 1 0 far (by rw [hsl]; omega) (by decide)
      have hc1 := fun W h => read_any W (w.heap.size + 1) s 1 0 far h (by rw [← hsl]; exact (by rw [hsl]; omega)) hs
      unfold RdPost at hc1
      rw [hq1] at hn1 hc1
      dsimp only at hn1 hc1
      have HD := Lib.hid (HD.out.trans (by unfold r1; rw [hq1]))
      have HC1 := Lib.hid hc1
      clear hq1 hc1
      obtain ⟨hl1, hv1, hw1, hm1⟩ := hn1
      obtain ⟨v2, a2, e2, hq2⟩ : ∃ v a e, fourR s.data.toList (a1, e1) far = (v, a, e) := ⟨_, _, _, rfl⟩
      have hn2 := four_rng s.data.toList a1 e1 far hl1 (by decide)
      have hc2 := fun W h => read_any W (w.heap.size + 1) s a1 e1 far h (by rw [← hsl]; exact hl1) hs
      unfold RdPost at hc2
      rw [hq2] at hn2 hc2
      dsimp only at hn2 hc2
      have HD := Lib.hid (HD.out.trans (by unfold r2; rw [hq2]))
      have HC2 := Lib.hid hc2
      clear hq2 hc2
      obtain ⟨hl2, hv2, hw2, hm2⟩ := hn2
      obtain ⟨v3, a3, e3, hq3⟩ : ∃ v a e, fourR s.data.toList (a2, e2) far = (v, a, e) := ⟨_, _, _, rfl⟩
      have hn3 := four_rng s.data.toList a2 e2 far hl2 (by decide)
      have hc3 := fun W h => read_any W (w.heap.size + 1) s a2 e2 far h (by rw [← hsl]; exact hl2) hs
      unfold RdPost at hc3
      rw [hq3] at hn3 hc3
      dsimp only at hn3 hc3
      have HD := Lib.hid (HD.out.trans (by unfold r3; rw [hq3]))
      have HC3 := Lib.hid hc3
      clear hq3 hc3
      obtain ⟨hl3, hv3, hw3, hm3⟩ := hn3
      obtain ⟨v4, a4, e4, hq4⟩ : ∃ v a e, fourR s.data.toList (a3, e3) far = (v, a, e) := ⟨_, _, _, rfl⟩
      have hn4 := four_rng s.data.toList a3 e3 far hl3 (by decide)
      have hc4 := fun W h => read_any W (w.heap.size + 1) s a3 e3 far h (by rw [← hsl]; exact hl3) hs
      unfold RdPost at hc4
      rw [hq4] at hn4 hc4
      dsimp only at hn4 hc4
      have HD := Lib.hid (HD.out.trans (by unfold r4; rw [hq4]))
      have HC4 := Lib.hid hc4
      clear hq4 hc4
      obtain ⟨hl4, hv4, hw4, hm4⟩ := hn4
      obtain ⟨v5, a5, e5, hq5⟩ : ∃ v a e, fourR s.data.toList (a4, e4) 40 = (v, a, e) := ⟨_, _, _, rfl⟩
      have hn5 := four_rng s.data.toList a4 e4 40 hl4 (by decide)
      have hc5 := fun W h => read_any W (w.heap.size + 1) s a4 e4 40 h (by rw [← hsl]; exact hl4) hs
      unfold RdPost at hc5
      rw [hq5] at hn5 hc5
      dsimp only at hn5 hc5
      have HD := Lib.hid (HD.out.trans (by unfold cntR; rw [hq5]))
      have HC5 := Lib.hid hc5
      clear hq5 hc5
      obtain ⟨hl5, hv5, hw5, hm5⟩ := hn5
      clear hd hD h1 hb0 hW3 hsl
      go_enter Try.func30, Try.ntmps30
      go_wp2_with fail
      rw [show (#[.int .i64 0, .int .i64 0, .int .i64 0, .int .i64 0, .slice none 0 0, .string (ByteArray.mk #[])] : Array Value) = zero6 from rfl, HW3.out]
      refine (HC1.out _ hst.rd).mono ?_
      rintro e w4 ⟨rfl, hr, hg⟩
      have hst := hst.read hr hg
      clear hr hg
      go_wp2_with fail
      refine (HC2.out _ hst.rd).mono ?_
      rintro e w5 ⟨rfl, hr, hg⟩
      have hst := hst.read hr hg
      clear hr hg
      go_wp2_with fail
      refine (HC3.out _ hst.rd).mono ?_
      rintro e w6 ⟨rfl, hr, hg⟩
      have hst := hst.read hr hg
      clear hr hg
      go_wp2_with fail
      refine (HC4.out _ hst.rd).mono ?_
      rintro e w7 ⟨rfl, hr, hg⟩
      have hst := hst.read hr hg
      have ⟨b0, b1, b2, b3, _, _⟩ := hst.out.cells
      have ⟨f0, f1, f2, f3, _, _⟩ := hst.out.frees
      clear hr hg
      go_wp2_with fail
      have hst := hst.fill (.int .i64 v1) (.int .i64 v2) (.int .i64 v3) (.int .i64 v4)
      clear b0 b1 b2 b3 f0 f1 f2 f3
      obtain ⟨W8, hW8⟩ : ∃ W8, ((((w7.setCell ⟨w.heap.size + 1 + 1, 0, none⟩ (.int .i64 v1)).setCell ⟨w.heap.size + 1 + 1, 1, none⟩ (.int .i64 v2)).setCell ⟨w.heap.size + 1 + 1, 2, none⟩ (.int .i64 v3)).setCell ⟨w.heap.size + 1 + 1, 3, none⟩ (.int .i64 v4)) = W8 := ⟨_, rfl⟩
      rw [hW8] at hst ⊢
      clear hW8
      obtain ⟨K, rfl⟩ := Int.eq_ofNat_of_zero_le hv5
      refine (HC5.out _ hst.rd).mono ?_
      rintro e w8 ⟨rfl, hr, hg⟩
      have hst := hst.read hr hg
      have HST := Lib.hid hst
      clear hr hg hst HC1 HC2 HC3 HC4 HC5
      go_wp2_with fail
      go_loopw [33] (fun i wr => DRel w s v1 v2 v3 v4 K a5 e5 i wr) (fun i _ => K - (intOf i).toNat)
      case atStart => exact ⟨0, a5, e5, _, [], Nat.zero_le _, rfl, HST.out, World.ownsRow_nil _ _ _ _, rfl, hl5, rfl⟩
      case round =>
        obtain ⟨k, a, e, v, ms, hk, rfl, hst, hO, hmk, hal, hids⟩ := hrel
        obtain ⟨A, c, rfl, hsl⟩ := hO.form
        by_cases hlt : k < K
        · have ⟨_, _, _, _, b4, _⟩ := hst.out.cells
          obtain ⟨n, a', e', hq⟩ : ∃ n a' e', fourR s.data.toList (a, e) far = (n, a', e') := ⟨_, _, _, rfl⟩
          have hn := four_rng s.data.toList a e far hal (by decide)
          have hc := fun W h => read_any W (w.heap.size + 1) s a e far h (by simpa using hal) hs
          unfold RdPost at hc
          rw [hq] at hn hc
          dsimp only at hn hc
          have HIDS : Hid (idsR s.data.toList K (a5, e5) = ((ms ++ [n]) ++ (idsR s.data.toList (K - (k + 1)) (a', e')).1, (idsR s.data.toList (K - (k + 1)) (a', e')).2)) := by
            unfold Hid
            rw [hids.out, show K - k = K - (k + 1) + 1 by omega, ids_step, hq, List.append_assoc]
            rfl
          have HC := Lib.hid hc
          have hal' := hn.1
          have HST2 := Lib.hid hst
          have HO2 := Lib.hid hO
          have hmk2 : ms.length ≤ 40 := by omega
          have HMK := Lib.hid hmk
          clear hq hc hn hids hst hO hmk
          go_wp2_with fail
          go_region_law (first | (refine step_append_i rfl (.tmp 36) (.tmp 39) rfl (w.heap.size + 1 + 1 + 1) (.slice A ms.length c) ms rfl (by exact hO9) (by exact hst9.size) [.int .i64 n] [n] rfl 1 1 rfl rfl (by omega) ?_; intro v' w10 hO10 hb10 hz10; have hst10 := hst9.belowB hb10; have ⟨_, _, _, _, d4, _⟩ := hst10.out.cells; have ⟨_, _, _, _, g4, _⟩ := hst10.out.frees; obtain ⟨A', c', rfl, _⟩ := hO10.form) | (go_simp; go_at_call 68; refine (HC.out _ (by exact HST2.out.rd)).mono ?_; rintro e9 w9 ⟨rfl, hr9, hg9⟩; have hst9 := DecSt.read (W := wr.drew) ⟨HST2.out.res, HST2.out.rd, HST2.out.out, HST2.out.below.drew, HST2.out.size⟩ hr9 hg9; have hO9 := OwnI.only (w := wr.drew) (by exact HO2.out) hg9 (by omega); have ⟨_, _, _, _, c4, _⟩ := hst9.out.cells; have hz9 : w.heap.size + 1 + 1 < w9.heap.size := Nat.lt_of_lt_of_le (Nat.lt_succ_self _) hst9.size))
          all_goals
            have hla : (ms ++ [n]).length = ms.length + 1 := by rw [List.length_append]; rfl
            have hst11 := hst10.set4 (.slice A' (ms.length + 1) c')
            have hO11 := hO10.far (k := w.heap.size + 1 + 1) (by omega) 4 (.slice A' (ms.length + 1) c')
            rw [hla] at hO11
            have hlen11 : (ms ++ [n]).length = k + 1 := by rw [List.length_append, HMK.out]; rfl
            have HLEN := Lib.hid hlen11
            have HST11 := Lib.hid hst11
            have HO11 := Lib.hid hO11
            clear hla hst11 hO11 hlen11 hst10 hO10 hst9 hO9 d4 g4 c4 b4
            go_wp2_with fail
            go_roundw
            case rel => exact ⟨k + 1, a', e', _, ms ++ [n], by omega, by go_num, HST11.out, HO11.out, HLEN.out, hal', HIDS⟩
            case measure => simp [intOf] <;> omega
        · obtain rfl : k = K := by omega
          have HIDS : Hid (idsR s.data.toList k (a5, e5) = (ms, (a, e))) := by
            unfold Hid
            rw [hids.out, Nat.sub_self]
            show (ms ++ [], (a, e)) = _
            rw [List.append_nil]
          have HD := Lib.hid (HD.out.trans (show listR s.data.toList v1 v2 v3 v4 (k : Int) (a5, e5) = tailR s.data.toList v1 v2 v3 v4 ms (a, e) by unfold listR; rw [Int.toNat_natCast, HIDS.out]))
          obtain ⟨n, a', e', hq⟩ : ∃ n a' e', fourR s.data.toList (a, e) 1000 = (n, a', e') := ⟨_, _, _, rfl⟩
          have hn := four_rng s.data.toList a e 1000 hal (by decide)
          have hc := fun W h => read_any W (w.heap.size + 1) s a e 1000 h (by simpa using hal) hs
          unfold RdPost at hc
          rw [hq] at hn hc
          dsimp only at hn hc
          obtain ⟨hal', hn0, _, hn1⟩ := hn
          have HD := Lib.hid (HD.out.trans (show tailR s.data.toList v1 v2 v3 v4 ms (a, e) = endR s.data.toList v1 v2 v3 v4 ms n (a', e') by unfold tailR; rw [hq]))
          have HC := Lib.hid hc
          have HST2 := Lib.hid hst
          have HO2 := Lib.hid hO
          have HMK := Lib.hid hmk
          clear hq hc hids hst hO hmk hsl
          go_wp2_with fail
          refine (HC.out _ (by exact HST2.out.rd)).mono ?_
          rintro e9 w9 ⟨rfl, hr9, hg9⟩
          have hst9 := HST2.out.read hr9 hg9
          have hO9 := OwnI.only HO2.out hg9 (by omega)
          clear hr9 hg9 HST2 HO2
          have c2 := hst9.rd.c2
          by_cases he : e' ≠ 0
          · have qe : (e' != 0) = true := bne_iff_ne.2 he
            have HD := Lib.hid (HD.out.trans (end_stuck s.data.toList v1 v2 v3 v4 ms n a' e' he))
            have ⟨r0, r1, r2, r3, r4, r5⟩ := hst9.res.cells
            have ⟨s0, s1, s2, s3, s4, s5⟩ := hst9.res.frees
            go_wp2_with fail
            go_region_held3 (fun w' => w'.cell? ⟨w.heap.size + 1, 2, none⟩ = some (.int .i64 e')) (go_keep) (fail)
            clear r0 r1 r2 r3 r4 r5 s0 s1 s2 s3 s4 s5 c2
            rw [fillW_eq]
            have hF := hst9.res.fillD (.int .i64 0) (.int .i64 0) (.int .i64 0) (.int .i64 0) (.slice none 0 0) (.string (ByteArray.mk #[]))
            have hBF := below_fillD (g := w.heap.size) hst9.below (Nat.le_refl _) (.int .i64 0) (.int .i64 0) (.int .i64 0) (.int .i64 0) (.slice none 0 0) (.string (ByteArray.mk #[]))
            generalize (fillW w9 w.heap.size (.int .i64 0) (.int .i64 0) (.int .i64 0) (.int .i64 0) (.slice none 0 0) (.string (ByteArray.mk #[]))).drew = WF at *
            have ⟨t0, t1, t2, t3, t4, t5⟩ := hF.cells
            clear hst9 hO9
            go_wp2_with fail
            exact bodyPost_ret (v := .tuple #[.agg zero6, .int .i64 0, .int .i64 e']) (by simp [results, Try.results30, go_sem, zero6, t0, t1, t2, t3, t4, t5]) rfl (by rw [HD.out]; exact ⟨rfl, hBF⟩)
          · have he0 := Classical.not_not.1 he
            subst he0
            clear he
            have c1 := hst9.rd.c1
            have hsl : s.data.toList.length = s.size := by simp
            have ha'' : a' ≤ s.size := by rw [← hsl]; exact hal'
            obtain ⟨n, rfl⟩ := Int.eq_ofNat_of_zero_le hn0
            have hEND : endR s.data.toList v1 v2 v3 v4 ms (n : Int) (a', 0) = if (s.size : Int) - (a' : Int) < (n : Int) then .inl 7 else
                if checkR ⟨v1, v2, v3, v4, ms, (s.data.toList.drop a').take n⟩ ≠ 0 then .inl (checkR ⟨v1, v2, v3, v4, ms, (s.data.toList.drop a').take n⟩) else .inr (⟨v1, v2, v3, v4, ms, (s.data.toList.drop a').take n⟩, a' + n) := by
              unfold endR; rw [if_neg (by simp), hsl, Int.toNat_natCast]
            have HD := Lib.hid (HD.out.trans hEND)
            clear hEND hsl
            have i1 : IntKind.i64.wrap ((s.size : Int) - (a' : Int)) = (s.size : Int) - (a' : Int) := IntWalk.i64_in _ (by omega)
            by_cases hlt3 : (s.size : Int) - (a' : Int) < (n : Int)
            · have HD := Lib.hid (HD.out.trans (if_pos hlt3))
              have d1 : decide ((s.size : Int) - (a' : Int) < (n : Int)) = true := decide_eq_true hlt3
              have ⟨r0, r1, r2, r3, r4, r5⟩ := hst9.res.cells
              have ⟨s0, s1, s2, s3, s4, s5⟩ := hst9.res.frees
              go_wp2_with fail
              rw [fillW_eq]
              have hF := hst9.res.fillN (.int .i64 0) (.int .i64 0) (.int .i64 0) (.int .i64 0) (.slice none 0 0) (.string (ByteArray.mk #[]))
              have hBF := below_fillN (g := w.heap.size) hst9.below (Nat.le_refl _) (.int .i64 0) (.int .i64 0) (.int .i64 0) (.int .i64 0) (.slice none 0 0) (.string (ByteArray.mk #[]))
              generalize fillW w9 w.heap.size (.int .i64 0) (.int .i64 0) (.int .i64 0) (.int .i64 0) (.slice none 0 0) (.string (ByteArray.mk #[])) = WF at *
              have ⟨t0, t1, t2, t3, t4, t5⟩ := hF.cells
              clear r0 r1 r2 r3 r4 r5 s0 s1 s2 s3 s4 s5 c1 c2 hst9 hO9
              exact bodyPost_ret (v := .tuple #[.agg zero6, .int .i64 0, .int .i64 7]) (by simp [results, Try.results30, go_sem, zero6, t0, t1, t2, t3, t4, t5]) rfl (by rw [HD.out]; exact ⟨rfl, hBF⟩)
            · have HD := Lib.hid (HD.out.trans (if_neg hlt3))
              have d1 : decide ((s.size : Int) - (a' : Int) < (n : Int)) = false := decide_eq_false hlt3
              have hn9 : a' + n ≤ s.size := by omega
              have j2 : IntKind.i64.wrap ((a' : Int) + (n : Int)) = (a' : Int) + (n : Int) := IntWalk.i64_in _ (by omega)
              have j3 : (a' : Int) ≤ (a' : Int) + (n : Int) := by omega
              have j4 : (a' : Int) + (n : Int) ≤ (s.size : Int) := by omega
              have j5 : 0 ≤ (a' : Int) := by omega
              have j6 : 0 ≤ (a' : Int) + (n : Int) := by omega
              have j7 : ((a' : Int) + (n : Int)).toNat = a' + n := by omega
              obtain ⟨tl, htl⟩ : ∃ tl : List UInt8, s.extract a' (a' + n) = bs tl := ⟨_, (bs_eta _).symm⟩
              have hdl : (s.data.toList.drop a').take n = tl := by
                have := congrArg (fun b : ByteArray => b.data.toList) htl
                simp only [bs_toList] at this
                rw [← this, Lib.extract_data]
                congr 1
                omega
              rw [hdl] at HD
              have HTL := Lib.hid htl
              clear hdl htl
              have ⟨_, _, _, _, _, o5⟩ := hst9.out.cells
              have ⟨_, _, _, _, _, p5⟩ := hst9.out.frees
              go_wp2_with fail
              go_region_held3 (fun w' => w'.cell? ⟨w.heap.size + 1, 1, none⟩ = some (.int .i64 (a' : Int))) (go_keep) (fail)
              rw [HTL.out]
              have hst10 : DecSt w ((w9.setCell ⟨w.heap.size + 1 + 1, 5, none⟩ (.string (bs tl))).drew) s a' 0 (.int .i64 v1) (.int .i64 v2) (.int .i64 v3) (.int .i64 v4) (.slice A ms.length c) (.string (bs tl)) := by
                have := hst9.set5 (.string (bs tl))
                exact ⟨this.res.drewI, this.rd, this.out.drewI, this.below.drew, this.size⟩
              have hO10 := hO9.far (k := w.heap.size + 1 + 1) (by omega) 5 (.string (bs tl))
              have hs10 : Sl (w9.setCell ⟨w.heap.size + 1 + 1, 5, none⟩ (.string (bs tl))).drew (w9.setCell ⟨w.heap.size + 1 + 1, 5, none⟩ (.string (bs tl))).drew.heap.size 1 A ms.length (ms.map (Value.int .i64)) := by
                obtain ⟨A', c', e, hs⟩ := hO10.form
                injection e with e1 e2 e3
                subst e1
                exact hs.keep (fun _ _ _ => rfl)
              have hOx : OwnI (w9.setCell ⟨w.heap.size + 1 + 1, 5, none⟩ (.string (bs tl))).drew (w.heap.size + 1 + 1 + 1) (.slice A ms.length c) ms := hO10
              generalize (w9.setCell ⟨w.heap.size + 1 + 1, 5, none⟩ (.string (bs tl))).drew = w10 at *
              clear hst9 hO9 hO10 c1 c2 o5 p5
              have ⟨b0, b1, b2, b3, b4, b5⟩ := hst10.out.cells
              have hml : ms.length ≤ 9223372036854775807 := by rw [HMK.out]; omega
              go_wp2_with fail
              refine (Check_any ⟨v1, v2, v3, v4, ms, tl⟩ A c w10 hs10 hml).mono ?_
              rintro e11 w11 ⟨rfl, hb11⟩
              have hst11 := hst10.later hb11
              have hO11 : OwnI w11 (w.heap.size + 1 + 1 + 1) (.slice A ms.length c) ms := ownsRow_below hOx hb11
              clear hOx
              clear hst10 hs10 hb11 b0 b1 b2 b3 b4 b5
              have ⟨r0, r1, r2, r3, r4, r5⟩ := hst11.res.cells
              have ⟨s0, s1, s2, s3, s4, s5⟩ := hst11.res.frees
              by_cases hck : checkR ⟨v1, v2, v3, v4, ms, tl⟩ ≠ 0
              · have HD := Lib.hid (HD.out.trans (if_pos hck))
                have qe : (checkR ⟨v1, v2, v3, v4, ms, tl⟩ != 0) = true := bne_iff_ne.2 hck
                generalize checkR ⟨v1, v2, v3, v4, ms, tl⟩ = ec at *
                clear hck
                go_wp2_with fail
                rw [fillW_eq]
                have hF := hst11.res.fillN (.int .i64 0) (.int .i64 0) (.int .i64 0) (.int .i64 0) (.slice none 0 0) (.string (ByteArray.mk #[]))
                have hBF := below_fillN (g := w.heap.size) hst11.below (Nat.le_refl _) (.int .i64 0) (.int .i64 0) (.int .i64 0) (.int .i64 0) (.slice none 0 0) (.string (ByteArray.mk #[]))
                generalize fillW w11 w.heap.size (.int .i64 0) (.int .i64 0) (.int .i64 0) (.int .i64 0) (.slice none 0 0) (.string (ByteArray.mk #[])) = WF at *
                have ⟨t0, t1, t2, t3, t4, t5⟩ := hF.cells
                clear r0 r1 r2 r3 r4 r5 s0 s1 s2 s3 s4 s5 hst11 hO11
                exact bodyPost_ret (v := .tuple #[.agg zero6, .int .i64 0, .int .i64 ec]) (by simp [results, Try.results30, go_sem, zero6, t0, t1, t2, t3, t4, t5]) rfl (by rw [HD.out]; exact ⟨rfl, hBF⟩)
              · have HD := Lib.hid (HD.out.trans (if_neg hck))
                have hck := Classical.not_not.1 hck
                rw [hck]
                clear hck
                have ⟨b0, b1, b2, b3, b4, b5⟩ := hst11.out.cells
                have g1 := hst11.rd.c1
                have ne1 : ¬ w.heap.size = w.heap.size + 1 + 1 := by omega
                have ne2 : ¬ w.heap.size + 1 + 1 = w.heap.size := by omega
                go_wp2_with fail
                go_region_held3 (fun w' => w'.cell? ⟨w.heap.size + 1, 1, none⟩ = some (.int .i64 (a' : Int)) ∧ w'.cell? ⟨w.heap.size + 1 + 1, 0, none⟩ = some (.int .i64 v1) ∧ w'.cell? ⟨w.heap.size + 1 + 1, 1, none⟩ = some (.int .i64 v2) ∧ w'.cell? ⟨w.heap.size + 1 + 1, 2, none⟩ = some (.int .i64 v3) ∧ w'.cell? ⟨w.heap.size + 1 + 1, 3, none⟩ = some (.int .i64 v4) ∧
                  w'.cell? ⟨w.heap.size + 1 + 1, 4, none⟩ = some (.slice A ms.length c) ∧ w'.cell? ⟨w.heap.size + 1 + 1, 5, none⟩ = some (.string (bs tl))) (go_keep) (fail)
                rw [fillW_eq]
                have hF := hst11.res.fillD (.int .i64 v1) (.int .i64 v2) (.int .i64 v3) (.int .i64 v4) (.slice A ms.length c) (.string (bs tl))
                have hBF := below_fillD (g := w.heap.size) hst11.below (Nat.le_refl _) (.int .i64 v1) (.int .i64 v2) (.int .i64 v3) (.int .i64 v4) (.slice A ms.length c) (.string (bs tl))
                have hsF := hO11.filled (g := w.heap.size) (by omega) (.int .i64 v1) (.int .i64 v2) (.int .i64 v3) (.int .i64 v4) (.slice A ms.length c) (.string (bs tl))
                have hsO := hO11.filledO (g := w.heap.size) (by omega) (.int .i64 v1) (.int .i64 v2) (.int .i64 v3) (.int .i64 v4) (.slice A ms.length c) (.string (bs tl))
                generalize (fillW w11 w.heap.size (.int .i64 v1) (.int .i64 v2) (.int .i64 v3) (.int .i64 v4) (.slice A ms.length c) (.string (bs tl))).drew = WF at *
                have ⟨t0, t1, t2, t3, t4, t5⟩ := hF.cells
                clear r0 r1 r2 r3 r4 r5 s0 s1 s2 s3 s4 s5 b0 b1 b2 b3 b4 b5 g1 hst11 hO11
                go_wp2_with fail
                exact bodyPost_ret (v := .tuple #[.agg #[.int .i64 v1, .int .i64 v2, .int .i64 v3, .int .i64 v4, .slice A ms.length c, .string (bs tl)], .int .i64 ((a' + n : Nat) : Int), .int .i64 0]) (by simp [results, Try.results30, go_sem,  t0, t1, t2, t3, t4, t5]) rfl (by rw [HD.out]; exact ⟨A, c, rfl, hsF, hBF, hsO⟩)
  · have q0 : s.toList.isEmpty = true := by rw [ByteArray.toList_eq, List.isEmpty_iff]; exact hnil h0
    have HD : Hid (decL s.data.toList = .inl 7) := by unfold Hid; rw [hnil h0]; rfl
    clear h0
    go_enter Try.func30, Try.ntmps30
    go_wp2_with fail
    exact bodyPost_ret (v := .tuple #[.agg zero6, .int .i64 0, .int .i64 7]) (by simp [results, Try.results30, go_sem, zero6]) rfl (by rw [HD.out]; exact ⟨rfl, hb0⟩)
end Go.Proofs.Yteinbjopclblaaa
