/- Lists with room behind them at []api.Arg: roomy, kept, spoil. -/
import Derived.Test.YtchoenfclfafiaaDoorMem
import Derived.Test.YtchoenfclfafiaaDoorMem2
import Derived.Laws.MakeOwn
import Derived.Deep.Cut
import Derived.BigQuiet
import Derived.Deep.QuietTactic
namespace Go.Proofs.YtchoenfclfafiaaDoor
open Go.RowKit

theorem info_rmA : (Tryd.prog.info? 37).map (fun i => (i.zero, i.size, i.bytes)) = some (some (.agg #[.string ByteArray.empty, .string ByteArray.empty]), 2, 32) := by kernel_rfl
section
variable {ops : Array Oper} {o : Oper} {a : Act} {Q : Exit → Act → World → Prop} {w : World}
set_option maxRecDepth 100000 in
/-- append of any list that reads as these cells, onto a row of the call's own, as a step of a region. -/
theorem step_append_rmA {K : Act → World → Prop} {E : Prop} (hgd : o.guard = none) (s x : Operand) (ho : o.op = .call { callee := .builtin .append, args := #[s, x], argTypes := #[23, 23] })
    (base : Nat) (v : Value) (n : Nat) (xs : List Value) (hs : a.eval s = v) (A : Option Addr) (m c : Nat) (news : List Value) (hx : a.eval x = .slice A m c) (h1 : ∀ u ∈ news, u.oneCell' = true) (hbytes : (n + m) * 32 ≤ 140737488355328)
    (hown : w.ownsRow base 37 2 v n xs) (hbase : base ≤ w.heap.size) (B : Nat) (hsl : Sl w B 2 A m news)
    (h : ∀ v' w', w'.ownsRow base 37 2 v' (n + m) (xs ++ news) → Below base w w' → w.heap.size ≤ w'.heap.size → (∀ g, g < w.heap.size → v.ownBlock ≠ some g → w'.heap[g]? = w.heap[g]?) → K (a.put o.dst v') w') :
    if Region.wanted o (yielded ops a.tmps) = true then Oper.wp Tryd.prog o a w K Q else E := by
  obtain ⟨i0, hi, hz0, hz1, hz2⟩ := info_parts info_rmA
  have hw : Region.wanted o (yielded ops a.tmps) = true := by simp [Region.wanted, hgd]
  rw [if_pos hw]
  have hl := hsl.len
  cases A with
  | none =>
    have hn0 : news = [] := by
      rcases Nat.eq_zero_or_pos news.length with h0 | h0
      · exact List.eq_nil_of_length_eq_zero h0
      · obtain ⟨b, off, e, _⟩ := hsl.src h0; cases e
    subst hn0
    have hm0 : m = 0 := by simp at hl; omega
    subst hm0
    have hr : (Builtin.append_ #[23, 23] o.type #[v, .slice none 0 c]).run Tryd.prog w = .ok v w := by
      rcases hown.2 with ⟨rfl, rfl⟩ | ⟨g, cap, cur, rfl, _, _, hnc, _⟩
      · simp [Builtin.append_, run_underlying Tryd.underlying23, sizeOf, typeInfo, hi, Builtin.lenOf, Builtin.firstCells]
      · simp [Builtin.append_, run_underlying Tryd.underlying23, sizeOf, typeInfo, hi, Builtin.lenOf, Builtin.firstCells, hnc, storeCells]
    unfold Oper.wp execOp
    simp only [ho, resolve, invoke, builtin, Sem.run_bind, Sem.run_pure, Result.andThen_ok, List.map_toArray, List.map_cons, List.map_nil, hs, hx, hr]
    exact h v w (by rw [List.append_nil]; exact hown) (Below.refl _ _) (Nat.le_refl _) (fun _ _ _ => rfl)
  | some ad =>
    have hcells : ∀ j u, news[j]? = some u → w.cell? (ad.add j) = some u := fun j u hu => by
      have hj := (List.getElem?_eq_some_iff.1 hu).1
      obtain ⟨b, off, e, _, hc⟩ := hsl.src (by omega)
      injection e with e
      subst e
      rw [Go.WideShapes.add_plain, hc j hj, ← hu, List.getElem?_eq_getElem hj]
    refine wp_append_own (P := Tryd.prog) w s x 23 ho base 37 i0 _ 2 32 Tryd.underlying23 hi hz0 hz1 hz2 rfl (by decide) v n xs hs hown ad m c news hx hl hcells h1 (by unfold maxLen; omega) hbytes hbase ?_
    intro v' w' ho' hgr _
    exact h v' w' ho' ((Below.refl _ _).grown hgr hbase (fun k hk => (hown.lt k hk).1)) hgr.size (fun g hg hne => hgr.block g hg (fun e => hne e.symm))
end
theorem sl_of_row {w : World} {g size n : Nat} {cs : Array Value} {t : TypeId} (h : w.heap[g]? = some (.cells cs t (0, 0))) (hl : cs.toList.length = n * size) : Sl w w.heap.size size (some ⟨g, 0, none⟩) n cs.toList :=
  ⟨hl, fun _ => ⟨g, 0, rfl, by rw [Array.getElem?_eq_some_iff] at h; exact h.1, fun j hj => by rw [Nat.zero_add, cell_of_row w g j cs t (0, 0) h]; simp [Array.getElem?_eq_getElem (by simpa using hj : j < cs.size)]⟩⟩
def roomCellsA : Array Value := madeCells (.agg #[.string ByteArray.empty, .string ByteArray.empty] : Value).cells 0
set_option maxRecDepth 100000 in
theorem run_roomA (n : Nat) (hn : n * 32 ≤ 140737488355328) : ∃ Z : Array Value, Z.size = (n + 3) * 2 ∧ ∀ W : World, (Instr.makeSlice 23 (.int .i64 0) (.int .i64 ((n : Int) + 3))).run Tryd.prog W = .ok (.slice (some ⟨W.heap.size, 0, none⟩) 0 (n + 3)) (W.alloc (.cells Z 37)) := by
  obtain ⟨i0, hi, hz0, hz1, hz2⟩ := info_parts info_rmA
  refine ⟨madeCells (.agg #[.string ByteArray.empty, .string ByteArray.empty] : Value).cells ((n + 3) * 2), size_madeCells _ _, fun W => ?_⟩
  have hb : (i0.bytes : Int) * ((n : Int) + 3) ≤ 281474976710656 := by rw [hz2]; omega
  have h := run_make (P := Tryd.prog) W 23 37 i0 _ Tryd.underlying23 hi hz0 .i64 .i64 0 ((n : Int) + 3) (Int.le_refl _) (by omega) hb (by omega)
  have e1 : ((n : Int) + 3).toNat = n + 3 := by omega
  rw [hz1, e1] at h
  simpa using h
set_option maxRecDepth 100000 in
set_option maxHeartbeats 1600000 in
theorem roomyA_any (A : Option Addr) (n c : Nat) (xs : List Value) (f0 f1 : Value) (w : World) (h : Sl w w.heap.size 2 A n xs) (h1 : ∀ u ∈ xs, u.oneCell' = true) (h2 : ∀ u ∈ [f0, f1], u.oneCell' = true) (hn : n * 32 ≤ 70368744177664) :
    Calls Tryd.prog 9 #[.slice A n c, .agg #[f0, f1]] w fun e w' => ∃ g cap, e = .returned (.slice (some ⟨g, 0, none⟩) n cap) ∧ w'.ownsRow w.heap.size 37 2 (.slice (some ⟨g, 0, none⟩) (n + 2) cap) (n + 2) (xs ++ [f0, f1, f0, f1]) ∧ Below w.heap.size w w' := by
  obtain ⟨Z, hZ, hmk⟩ := run_roomA n (by omega)
  have i1 : IntKind.i64.wrap ((n : Int) + 3) = (n : Int) + 3 := IntWalk.i64_in _ (by omega)
  obtain ⟨W0, hW0⟩ : ∃ W0, w.alloc (.cells #[f0, f1] 37) = W0 := ⟨_, rfl⟩
  have hz0 : w.heap.size + 1 ≤ W0.heap.size := by rw [← hW0]; simp
  have hbW : Below w.heap.size w W0 := by rw [← hW0]; exact (Below.refl _ _).alloc (Nat.le_refl _) _
  have hc0 : ∀ j, W0.cell? ⟨w.heap.size, j, none⟩ = (#[f0, f1] : Array Value)[j]? := fun j => by rw [← hW0]; exact cell_of_row _ _ _ _ _ (0, 0) (heap_alloc_new w _)
  have c0 : W0.cell? ⟨w.heap.size, 0, none⟩ = some f0 := hc0 0
  have c1 : W0.cell? ⟨w.heap.size, 1, none⟩ = some f1 := hc0 1
  have own1 : (W0.alloc (.cells Z 37)).ownsRow w.heap.size 37 2 (.slice (some ⟨W0.heap.size, 0, none⟩) 0 (n + 3)) 0 [] := World.ownsRow_made W0 Z (n + 3) (by omega) (by unfold maxLen; omega) hZ
  have own2 : ((W0.alloc (.cells Z 37)).alloc (.cells #[f0, f1, f0, f1] 37)).ownsRow w.heap.size 37 2 (.slice (some ⟨W0.heap.size, 0, none⟩) 0 (n + 3)) 0 [] := own1.alloc _
  have own3 : ((W0.alloc (.cells #[f0, f1, f0, f1] 37)).alloc (.cells Z 37)).ownsRow w.heap.size 37 2 (.slice (some ⟨W0.heap.size + 1, 0, none⟩) 0 (n + 3)) 0 [] := by
    have := World.ownsRow_made (e := 37) (size := 2) (base := w.heap.size) (W0.alloc (.cells #[f0, f1, f0, f1] 37)) Z (n + 3) (by simp; omega) (by unfold maxLen; omega) hZ
    rw [World.size_alloc] at this
    exact this
  have hsl0 : Sl W0 W0.heap.size 2 A n xs := (h.below hbW).more (by omega)
  have hsl1 : Sl (W0.alloc (.cells Z 37)) W0.heap.size 2 A n xs := hsl0.alloc (Nat.le_refl _) _
  have hsl2 : Sl ((W0.alloc (.cells Z 37)).alloc (.cells #[f0, f1, f0, f1] 37)) W0.heap.size 2 A n xs := hsl1.alloc (by simp) _
  have hsl3 : Sl ((W0.alloc (.cells #[f0, f1, f0, f1] 37)).alloc (.cells Z 37)) W0.heap.size 2 A n xs := (hsl0.alloc (Nat.le_refl _) _).alloc (by simp) _
  have hb1 : Below w.heap.size w (W0.alloc (.cells Z 37)) := hbW.alloc (by omega) _
  have hb2 : Below w.heap.size w ((W0.alloc (.cells Z 37)).alloc (.cells #[f0, f1, f0, f1] 37)) := hb1.alloc (by simp; omega) _
  have hb3 : Below w.heap.size w ((W0.alloc (.cells #[f0, f1, f0, f1] 37)).alloc (.cells Z 37)) := (hbW.alloc (by omega) _).alloc (by simp; omega) _
  have h3 : ∀ u ∈ ([f0, f1, f0, f1] : List Value), u.oneCell' = true := fun u hu => h2 u (by simp only [List.mem_cons, List.not_mem_nil, or_false] at hu ⊢; rcases hu with rfl | rfl | rfl | rfl <;> simp)
  have HL2 : Hid (∀ w1 : World, (∀ g, g < ((W0.alloc (.cells Z 37)).alloc (.cells #[f0, f1, f0, f1] 37)).heap.size → (Value.slice (some ⟨W0.heap.size, 0, none⟩) 0 (n + 3)).ownBlock ≠ some g → w1.heap[g]? = ((W0.alloc (.cells Z 37)).alloc (.cells #[f0, f1, f0, f1] 37)).heap[g]?) → Sl w1 w1.heap.size 2 (some ⟨W0.heap.size + 1, 0, none⟩) 2 [f0, f1, f0, f1]) := fun w1 hk => by
    have hn := hk (W0.heap.size + 1) (by simp) (by simp [Value.ownBlock])
    have hh := heap_alloc_new (W0.alloc (.cells Z 37)) (.cells #[f0, f1, f0, f1] 37)
    rw [World.size_alloc] at hh
    exact sl_of_row (hn.trans hh) rfl
  have HL3 : Hid (∀ w1 : World, (∀ g, g < ((W0.alloc (.cells #[f0, f1, f0, f1] 37)).alloc (.cells Z 37)).heap.size → (Value.slice (some ⟨W0.heap.size + 1, 0, none⟩) 0 (n + 3)).ownBlock ≠ some g → w1.heap[g]? = ((W0.alloc (.cells #[f0, f1, f0, f1] 37)).alloc (.cells Z 37)).heap[g]?) → Sl w1 w1.heap.size 2 (some ⟨W0.heap.size, 0, none⟩) 2 [f0, f1, f0, f1]) := fun w1 hk => by
    have hn := hk W0.heap.size (by simp; omega) (by simp [Value.ownBlock])
    have hh := (Below.heap_alloc (W0.alloc (.cells #[f0, f1, f0, f1] 37)) (.cells Z 37) W0.heap.size (by simp)).trans (heap_alloc_new W0 (.cells #[f0, f1, f0, f1] 37))
    exact sl_of_row (hn.trans hh) rfl
  have hx0 : W0.heap[w.heap.size]? = some (.cells #[f0, f1] 37 (0, 0)) := by rw [← hW0]; exact heap_alloc_new w _
  have HBOX : Hid (∀ (W w1 : World) (g0 : Nat), W.heap[w.heap.size]? = W0.heap[w.heap.size]? → w.heap.size < W.heap.size → w.heap.size < g0 → (∀ g, g < W.heap.size → (Value.slice (some ⟨g0, 0, none⟩) 0 (n + 3)).ownBlock ≠ some g → w1.heap[g]? = W.heap[g]?) → w1.cell? ⟨w.heap.size, 0, none⟩ = some f0 ∧ w1.cell? ⟨w.heap.size, 1, none⟩ = some f1) := fun W w1 g0 ha hb hc hk => by
    have h1 := ((hk _ hb (by intro e; simp [Value.ownBlock] at e; omega)).trans ha).trans hx0
    exact ⟨cell_of_row w1 w.heap.size 0 _ _ (0, 0) h1, cell_of_row w1 w.heap.size 1 _ _ (0, 0) h1⟩
  have HX1 : Hid ((W0.alloc (.cells Z 37)).heap[w.heap.size]? = W0.heap[w.heap.size]?) := Below.heap_alloc _ _ _ (by omega)
  have HX2 : Hid (((W0.alloc (.cells Z 37)).alloc (.cells #[f0, f1, f0, f1] 37)).heap[w.heap.size]? = W0.heap[w.heap.size]?) := (Below.heap_alloc _ _ _ (by simp; omega)).trans HX1.out
  have HX3 : Hid (((W0.alloc (.cells #[f0, f1, f0, f1] 37)).alloc (.cells Z 37)).heap[w.heap.size]? = W0.heap[w.heap.size]?) := (Below.heap_alloc _ _ _ (by simp; omega)).trans (Below.heap_alloc _ _ _ (by omega))
  have hz9 : w.heap.size < W0.heap.size := by omega
  have hz8 : w.heap.size < W0.heap.size + 1 := by omega
  have HW0 := Lib.hid hW0
  have HS1 := Lib.hid hsl1
  have HS2 := Lib.hid hsl2
  have HS3 := Lib.hid hsl3
  have HO1 := Lib.hid own1
  have HO2 := Lib.hid own2
  have HO3 := Lib.hid own3
  clear hW0 hsl1 hsl2 hsl3 own1 own2 own3 h hsl0 hc0
  go_enter Tryd.func9, Tryd.ntmps9
  go_upto_region 1 with fail
  rw [HW0.out]
  go_region_law (first
    | (refine step_append_rmA rfl (.tmp 9) (.tmp 10) rfl w.heap.size (.slice (some ⟨W0.heap.size, 0, none⟩) 0 (n + 3)) 0 [] rfl A n c xs rfl h1 (by omega) ?_ ?_ W0.heap.size ?_ ?_; exact HO1.out; exact hb1.size; exact HS1.out.keep (fun _ _ _ => rfl); intro v1 w1 ho1 hb4 hz1 hk1; rw [Nat.zero_add, List.nil_append] at ho1; have hb5 : Below w.heap.size w w1 := hb1.trans (undrew hb4); have ⟨d0, d1⟩ := HBOX.out _ w1 W0.heap.size HX1.out (Nat.lt_of_lt_of_le hz0 (by simp)) hz9 hk1)
    | (refine step_append_rmA rfl (.tmp 9) (.tmp 10) rfl w.heap.size (.slice (some ⟨W0.heap.size, 0, none⟩) 0 (n + 3)) 0 [] rfl A n c xs rfl h1 (by omega) ?_ ?_ W0.heap.size ?_ ?_; exact HO2.out; exact hb2.size; exact HS2.out.keep (fun _ _ _ => rfl); intro v1 w1 ho1 hb4 hz1 hk1; rw [Nat.zero_add, List.nil_append] at ho1; have hb5 : Below w.heap.size w w1 := hb2.trans (undrew hb4); have ⟨d0, d1⟩ := HBOX.out _ w1 W0.heap.size HX2.out (Nat.lt_of_lt_of_le hz0 (by simp; omega)) hz9 hk1; have hL := HL2.out w1 hk1)
    | (refine step_append_rmA rfl (.tmp 9) (.tmp 10) rfl w.heap.size (.slice (some ⟨W0.heap.size + 1, 0, none⟩) 0 (n + 3)) 0 [] rfl A n c xs rfl h1 (by omega) ?_ ?_ W0.heap.size ?_ ?_; exact HO3.out; exact hb3.size; exact HS3.out.keep (fun _ _ _ => rfl); intro v1 w1 ho1 hb4 hz1 hk1; rw [Nat.zero_add, List.nil_append] at ho1; have hb5 : Below w.heap.size w w1 := hb3.trans (undrew hb4); have ⟨d0, d1⟩ := HBOX.out _ w1 (W0.heap.size + 1) HX3.out (Nat.lt_of_lt_of_le hz0 (by simp; omega)) hz8 hk1; have hL := HL3.out w1 hk1)
    | (refine step_append_rmA rfl (.tmp 11) (.tmp 14) rfl w.heap.size v1 n xs rfl (some ⟨w1.heap.size, 0, none⟩) 2 2 [f0, f1, f0, f1] rfl h3 (by omega) ?_ ?_ (w1.heap.size + 1) ?_ ?_; exact ho1.alloc _; exact (hb5.alloc hb5.size _).size; exact Sl.lit rfl (Nat.lt_succ_self _) rfl rfl; intro v2 w2 ho2 hb6 hz2 hk2; have hb7 : Below w.heap.size w w2 := (hb5.alloc hb5.size _).trans hb6)
    | (refine step_append_rmA rfl (.tmp 11) (.tmp 14) rfl w.heap.size v1 n xs rfl (some ⟨W0.heap.size + 1, 0, none⟩) 2 2 [f0, f1, f0, f1] rfl h3 (by omega) ?_ ?_ w1.heap.size ?_ ?_; exact ho1; exact hb5.size; exact hL; intro v2 w2 ho2 hb6 hz2 hk2; have hb7 : Below w.heap.size w w2 := hb5.trans hb6)
    | (refine step_append_rmA rfl (.tmp 11) (.tmp 14) rfl w.heap.size v1 n xs rfl (some ⟨W0.heap.size, 0, none⟩) 2 2 [f0, f1, f0, f1] rfl h3 (by omega) ?_ ?_ w1.heap.size ?_ ?_; exact ho1; exact hb5.size; exact hL; intro v2 w2 ho2 hb6 hz2 hk2; have hb7 : Below w.heap.size w w2 := hb5.trans hb6))
  all_goals
    rcases ho2.2 with ⟨_, e0⟩ | ⟨g, cap, cur, e1, e2, e3, e4, e5, e6⟩
    · omega
    have h4 : (n : Int) ≤ (cap : Int) := by omega
    have h5 : (0 : Int) ≤ (n : Int) := by omega
    subst e1
    have HP := Lib.hid (And.intro ho2 hb7)
    clear ho2 hb7 hb6 hk2 e2 e3 e6
    go_wp2_with fail
    go_ret
    exact ⟨g, cap, rfl, HP.out.1, HP.out.2⟩
set_option maxRecDepth 100000 in
set_option maxHeartbeats 1600000 in
theorem keptA_any (g n cap base : Nat) (xs : List Value) (f0 : ByteArray) (f1 : ByteArray) (w : World) (h : w.ownsRow base 37 2 (.slice (some ⟨g, 0, none⟩) (n + 2) cap) (n + 2) (xs ++ [.string f0, .string f1, .string f0, .string f1])) (hx : xs.length = n * 2) (hn : n ≤ 140737488355328) :
    Calls Tryd.prog 13 #[.slice (some ⟨g, 0, none⟩) n cap, .agg #[.string f0, .string f1]] w fun e w' => e = .returned (.bool true) ∧ Below w.heap.size w w' := by
  have hcap : n + 2 ≤ cap ∧ cap ≤ maxLen := by
    rcases h.2 with ⟨e, _⟩ | ⟨g', cap', cur, e, _, _, h1, h2, _⟩
    · cases e
    · injection e with e1 e2 e3
      subst e3
      exact ⟨h1, h2⟩
  have hg : g < w.heap.size := (h.lt g rfl).2
  have hcell : ∀ j v, (xs ++ [.string f0, .string f1, .string f0, .string f1])[j]? = some v → w.cell? ⟨g, j, none⟩ = some v := fun j v hv => by
    have hj := (List.getElem?_eq_some_iff.1 hv).1
    rw [h.cellAt j (by rw [← h.1]; exact hj)]; exact hv
  have k0 : w.cell? ⟨g, n * 2, none⟩ = some (.string f0) := hcell _ _ (by rw [List.getElem?_append_right (by omega), show n * 2 - xs.length = 0 by omega]; rfl)
  have k1 : w.cell? ⟨g, n * 2 + 1, none⟩ = some (.string f1) := hcell _ _ (by rw [List.getElem?_append_right (by omega), show n * 2 + 1 - xs.length = 1 by omega]; rfl)
  have k2 : w.cell? ⟨g, (n + 1) * 2, none⟩ = some (.string f0) := hcell _ _ (by rw [List.getElem?_append_right (by omega), show (n + 1) * 2 - xs.length = 2 by omega]; rfl)
  have k3 : w.cell? ⟨g, (n + 1) * 2 + 1, none⟩ = some (.string f1) := hcell _ _ (by rw [List.getElem?_append_right (by omega), show (n + 1) * 2 + 1 - xs.length = 3 by omega]; rfl)
  have i0 : (n : Int) + 2 ≤ (cap : Int) := by omega
  have i1 : IntKind.i64.wrap ((n : Int) + 2) = (n : Int) + 2 := IntWalk.i64_in _ (by omega)
  have i2 : IntKind.i64.wrap ((n : Int) + 1) = (n : Int) + 1 := IntWalk.i64_in _ (by omega)
  have i3 : (0 : Int) ≤ (n : Int) + 2 := by omega
  have i4 : (0 : Int) ≤ (n : Int) := by omega
  have i5 : (n : Int) < (n : Int) + 2 := by omega
  have i6 : (0 : Int) ≤ (n : Int) + 1 := by omega
  have i7 : (n : Int) + 1 < (n : Int) + 2 := by omega
  have i8 : ((n : Int) + 2).toNat = n + 2 := by omega
  have i9 : ((n : Int) + 1).toNat = n + 1 := by omega
  have e0 : (f0.toList == f0.toList) = true := by simp
  have e1 : (f1.toList == f1.toList) = true := by simp
  clear hcell h hx
  go_enter Tryd.func13, Tryd.ntmps13
  go_wp2_with fail
  go_quiet (fail)
  go_wp2_with fail
  go_ret
  exact ⟨rfl, below_drewN ((Below.refl _ _).alloc (Nat.le_refl _) _) nq⟩
theorem rmRow_setA {w : World} {g : Nat} {cur : Array Value} {t : TypeId} (h : w.heap[g]? = some (.cells cur t (0, 0))) (j : Nat) (v : Value) : ∃ cur' : Array Value, cur'.size = cur.size ∧ (w.setCell ⟨g, j, none⟩ v).heap[g]? = some (.cells cur' t (0, 0)) := by
  refine ⟨cur.setIfInBounds j v, by simp, ?_⟩
  simp [World.setCell, Array.getElem?_modify, h]
/-- A block of so many cells of elements that may be written. -/
structure RmRowA (w : World) (g cap : Nat) : Prop where
  row : ∃ cur : Array Value, cur.size = cap * 2 ∧ w.heap[g]? = some (.cells cur 37 (0, 0))
theorem RmRowA.free {w : World} {g cap : Nat} (h : RmRowA w g cap) (j : Nat) : w.frozen? ⟨g, j, none⟩ = false := by
  obtain ⟨cur, _, h2⟩ := h.row
  simp [World.frozen?, h2]
theorem RmRowA.cell {w : World} {g cap : Nat} (h : RmRowA w g cap) (j : Nat) (hj : j < cap * 2) : ∃ v, w.cell? ⟨g, j, none⟩ = some v := by
  obtain ⟨cur, h1, h2⟩ := h.row
  exact ⟨cur[j], by rw [cell_of_row w g j cur _ (0, 0) h2, Array.getElem?_eq_getElem (by omega)]⟩
theorem RmRowA.set {w : World} {g cap : Nat} (h : RmRowA w g cap) (j : Nat) (v : Value) : RmRowA (w.setCell ⟨g, j, none⟩ v) g cap := by
  obtain ⟨cur, h1, h2⟩ := h.row
  obtain ⟨cur', h3, h4⟩ := rmRow_setA h2 j v
  exact ⟨cur', h3.trans h1, h4⟩
theorem RmRowA.lt {w : World} {g cap : Nat} (h : RmRowA w g cap) : g < w.heap.size := by
  obtain ⟨cur, _, h2⟩ := h.row
  rw [Array.getElem?_eq_some_iff] at h2
  exact h2.1
theorem RmRowA.below {w w' : World} {g cap : Nat} (h : RmRowA w g cap) (hb : Below w.heap.size w w') : RmRowA w' g cap := by
  obtain ⟨cur, h1, h2⟩ := h.row
  exact ⟨cur, h1, (hb.block g h.lt).trans h2⟩
theorem rmRow_ofA {w : World} {base g n cap : Nat} {xs : List Value} (h : w.ownsRow base 37 2 (.slice (some ⟨g, 0, none⟩) n cap) n xs) : RmRowA w g cap ∧ n ≤ cap ∧ cap ≤ maxLen ∧ base ≤ g := by
  rcases h.2 with ⟨e, _⟩ | ⟨g', cap', cur, e, h0, h1, h2, h3, h4, _⟩
  · cases e
  · injection e with e1 e2 e3
    injection e1 with e1
    injection e1 with e1
    subst e1; subst e3
    exact ⟨⟨cur, h4, h1⟩, h2, h3, h0⟩
set_option maxRecDepth 100000 in
set_option maxHeartbeats 1600000 in
theorem spoilA_any (g n cap : Nat) (f0 : ByteArray) (f1 : ByteArray) (w : World) (h : RmRowA w g cap) (hn : n ≤ cap) (hm : cap ≤ maxLen) :
    Calls Tryd.prog 15 #[.slice (some ⟨g, 0, none⟩) n cap, .agg #[.string f0, .string f1]] w fun e w' => e = .returned (.tuple #[]) ∧ RmRowA w' g cap ∧ w.grownBy w' (some g) := by
  have hm2 : cap ≤ 9223372036854775807 := hm
  have hg := h.lt
  have i0 : (n : Int) ≤ (cap : Int) := by omega
  have i1 : (0 : Int) ≤ (cap : Int) := by omega
  have HR := Lib.hid h
  have hbx := (Below.refl w.heap.size w).alloc (Nat.le_refl _) (.cells #[.string f0, .string f1] 37)
  have hb0 : ∀ j, (w.alloc (.cells #[.string f0, .string f1] 37)).cell? ⟨w.heap.size, j, none⟩ = (#[.string f0, .string f1] : Array Value)[j]? := fun j => cell_of_row _ _ _ _ _ (0, 0) (heap_alloc_new w _)
  have HG0 : Hid (∀ W, w.grownBy W (some g) → Below w.heap.size w w) := fun _ _ => Below.refl _ _
  obtain ⟨W0, hW0⟩ : ∃ W0, w.alloc (.cells #[.string f0, .string f1] 37) = W0 := ⟨_, rfl⟩
  rw [hW0] at hbx hb0
  have hz0 : w.heap.size < W0.heap.size := by rw [← hW0]; simp
  have hgr : w.grownBy W0 (some g) := by rw [← hW0]; exact World.grownBy_alloc w _ _
  have HS : Hid (∀ W, W0.grownBy W (some g) → W.cell? ⟨w.heap.size, 0, none⟩ = some (.string f0) ∧ W.cell? ⟨w.heap.size, 1, none⟩ = some (.string f1)) := fun W hW => by
    have hk : W.heap[w.heap.size]? = W0.heap[w.heap.size]? := hW.block _ hz0 (fun e => by injection e with e; omega)
    have hh : W0.heap[w.heap.size]? = some (.cells #[.string f0, .string f1] 37 (0, 0)) := by rw [← hW0]; exact heap_alloc_new w _
    have h1 := hk.trans hh
    exact ⟨cell_of_row W w.heap.size 0 _ _ (0, 0) h1, cell_of_row W w.heap.size 1 _ _ (0, 0) h1⟩
  have HGR := Lib.hid hgr
  have HW0 := Lib.hid hW0
  have HRR : Hid (RmRowA W0 g cap) := h.below hbx
  clear h hbx hb0 hW0 hgr HG0
  go_enter Tryd.func15, Tryd.ntmps15
  go_upto_region 1 with fail
  rw [HW0.out]
  go_wp2_with fail
  go_loopw [4, 11] (fun _ i wr => ∃ k : Nat, k ≤ cap ∧ i = .int .i64 k ∧ RmRowA wr g cap ∧ W0.grownBy wr (some g)) (fun _ i _ => cap - (intOf i).toNat)
  case atStart => exact ⟨0, Nat.zero_le _, rfl, HRR.out, World.grownBy.refl _ _⟩
  case round =>
    obtain ⟨k, hk, rfl, hR, hG⟩ := hrel
    have ⟨d0, d1⟩ := HS.out _ hG
    by_cases hlt : k < cap
    · have d1 : decide ((k : Int) < (cap : Int)) = true := by simp; omega
      have i7 : IntKind.i64.wrap ((k : Int) + 1) = (k : Int) + 1 := IntWalk.i64_in _ (by omega)
      have i8 : (0 : Int) ≤ (k : Int) := by omega
      have i9 : (k : Int) < (cap : Int) := by omega
      obtain ⟨v0, y0⟩ := hR.cell (k * 2) (by omega)
      have z0 := hR.free (k * 2)
      obtain ⟨v1, y1⟩ := hR.cell (k * 2 + 1) (by omega)
      have z1 := hR.free (k * 2 + 1)
      have HN : Hid (RmRowA ((wr.setCell ⟨g, k * 2, none⟩ (.string f0)).setCell ⟨g, k * 2 + 1, none⟩ (.string f1)) g cap ∧ W0.grownBy ((wr.setCell ⟨g, k * 2, none⟩ (.string f0)).setCell ⟨g, k * 2 + 1, none⟩ (.string f1)) (some g)) := ⟨((hR.set _ _).set _ _), (only_setCell (only_setCell hG _ _) _ _)⟩
      clear hR hG
      go_wp2_with fail
      go_roundw
      case rel => exact ⟨k + 1, by omega, by go_num, HN.out.1, HN.out.2⟩
      case measure => simp [intOf] <;> omega
    · obtain rfl : k = cap := by omega
      have d1 : decide ((k : Int) < (k : Int)) = false := by simp
      go_wp2_with fail
      exact bodyPost_end (v := .tuple #[]) (by simp [results, Tryd.results15, go_sem]) rfl ⟨rfl, hR, only_trans HGR.out hG⟩
end Go.Proofs.YtchoenfclfafiaaDoor
