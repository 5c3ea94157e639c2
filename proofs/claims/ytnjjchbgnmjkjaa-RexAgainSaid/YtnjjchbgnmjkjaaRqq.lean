/- A letter's tree, SameRex of a tree and itself, none. -/
import Derived.Test.YtnjjchbgnmjkjaaRexA
import Derived.Test.YtnjjchbgnmjkjaaRpy
import Derived.Test.YtnjjchbgnmjkjaaRqp
import Derived.Deep.RegionHeld3
namespace Go.Proofs.Ytnjjchbgnmjkjaa
open Go.RowKit

theorem zero_wf : Set4.zero.Wf := ⟨⟨by decide, by decide⟩, ⟨by decide, by decide⟩, ⟨by decide, by decide⟩, ⟨by decide, by decide⟩⟩
/-- A tree that a function hands back. -/
def TreePost (t : Tree) (w : World) (e : Ending) (w' : World) : Prop :=
  ∃ A c, e = .returned (argX t A c) ∧ LT w' w'.heap.size t (cellsX t.kind t.set A t.kids.length c) ∧ Below w.heap.size w w'
set_option maxRecDepth 100000 in
set_option maxHeartbeats 800000 in
theorem two_any (k : Int) (ta tb : Tree) (A1 A2 : Option Addr) (c1 c2 : Nat) (w : World) (h1 : LT w w.heap.size ta (cellsX ta.kind ta.set A1 ta.kids.length c1)) (h2 : LT w w.heap.size tb (cellsX tb.kind tb.set A2 tb.kids.length c2)) :
    Calls Try.prog 10 #[.int .i64 k, argX ta A1 c1, argX tb A2 c2] w (TreePost (.node k .zero [ta, tb]) w) := by
  have HT : Hid (∀ o1 o2 o3, ∀ W, W = (((w.alloc o1).alloc o2).alloc o3).alloc (.cells #[.int .i64 ta.kind, .int .u64 ta.set.a, .int .u64 ta.set.b, .int .u64 ta.set.c, .int .u64 ta.set.d, .slice A1 ta.kids.length c1, .int .i64 tb.kind, .int .u64 tb.set.a, .int .u64 tb.set.b, .int .u64 tb.set.c, .int .u64 tb.set.d, .slice A2 tb.kids.length c2] 27) →
      LK W W.heap.size [ta, tb] (some ⟨w.heap.size + 1 + 1 + 1, 0, none⟩) ∧ Below w.heap.size w W) := fun o1 o2 o3 W hW => by
    have hbw : Below w.heap.size w W := by rw [hW]; exact (((((Below.refl _ _).alloc (Nat.le_refl _) o1).alloc (by simp) o2).alloc (by simp; omega) o3).alloc (by simp; omega) _)
    have hsz : W.heap.size = w.heap.size + 1 + 1 + 1 + 1 := by rw [hW]; simp
    have hheap : W.heap[w.heap.size + 1 + 1 + 1]? = some (.cells #[.int .i64 ta.kind, .int .u64 ta.set.a, .int .u64 ta.set.b, .int .u64 ta.set.c, .int .u64 ta.set.d, .slice A1 ta.kids.length c1, .int .i64 tb.kind, .int .u64 tb.set.a, .int .u64 tb.set.b, .int .u64 tb.set.c, .int .u64 tb.set.d, .slice A2 tb.kids.length c2] 27 (0, 0)) := by
      rw [hW]
      have := heap_alloc_new (((w.alloc o1).alloc o2).alloc o3) (.cells #[.int .i64 ta.kind, .int .u64 ta.set.a, .int .u64 ta.set.b, .int .u64 ta.set.c, .int .u64 ta.set.d, .slice A1 ta.kids.length c1, .int .i64 tb.kind, .int .u64 tb.set.a, .int .u64 tb.set.b, .int .u64 tb.set.c, .int .u64 tb.set.d, .slice A2 tb.kids.length c2] 27)
      simpa using this
    refine ⟨?_, hbw⟩
    rw [LK]
    refine ⟨_, 0, _, rfl, by omega, rfl, fun j hj => ?_, (h1.below hbw).more hbw.size, ?_⟩
    · rw [Nat.zero_add, cell_of_row W _ j _ _ _ hheap]
      match j, hj with
      | 0, _ => rfl
      | 1, _ => rfl
      | 2, _ => rfl
      | 3, _ => rfl
      | 4, _ => rfl
      | 5, _ => rfl
    · rw [LK]
      refine ⟨_, 6, _, rfl, by omega, rfl, fun j hj => ?_, (h2.below hbw).more hbw.size, LK.nil _ _ _⟩
      rw [cell_of_row W _ (6 + j) _ _ _ hheap]
      match j, hj with
      | 0, _ => rfl
      | 1, _ => rfl
      | 2, _ => rfl
      | 3, _ => rfl
      | 4, _ => rfl
      | 5, _ => rfl
  unfold argX
  go_enter Try.func10, Try.ntmps10
  go_wp2_with fail
  refine bodyPost_ret (v := argX (.node k .zero [ta, tb]) (some ⟨w.heap.size + 1 + 1 + 1, 0, none⟩) 2) (by simp [results, Try.results10, go_sem, argX, Tree.kind, Tree.set, Tree.kids, Set4.zero]) rfl ⟨_, _, rfl, ?_, (HT.out _ _ _ _ rfl).2⟩
  rw [LT]
  exact ⟨_, _, rfl, zero_wf, (HT.out _ _ _ _ rfl).1⟩

set_option maxRecDepth 100000 in
set_option maxHeartbeats 800000 in
theorem star_any (ta : Tree) (A1 : Option Addr) (c1 : Nat) (w : World) (h1 : LT w w.heap.size ta (cellsX ta.kind ta.set A1 ta.kids.length c1)) :
    Calls Try.prog 12 #[argX ta A1 c1] w (TreePost (starT ta) w) := by
  have HT : Hid (∀ o1 o2, ∀ W, W = ((w.alloc o1).alloc o2).alloc (.cells #[.int .i64 ta.kind, .int .u64 ta.set.a, .int .u64 ta.set.b, .int .u64 ta.set.c, .int .u64 ta.set.d, .slice A1 ta.kids.length c1] 27) →
      LK W W.heap.size [ta] (some ⟨w.heap.size + 1 + 1, 0, none⟩) ∧ Below w.heap.size w W) := fun o1 o2 W hW => by
    have hbw : Below w.heap.size w W := by rw [hW]; exact ((((Below.refl _ _).alloc (Nat.le_refl _) o1).alloc (by simp) o2).alloc (by simp; omega) _)
    have hsz : W.heap.size = w.heap.size + 1 + 1 + 1 := by rw [hW]; simp
    have hheap : W.heap[w.heap.size + 1 + 1]? = some (.cells #[.int .i64 ta.kind, .int .u64 ta.set.a, .int .u64 ta.set.b, .int .u64 ta.set.c, .int .u64 ta.set.d, .slice A1 ta.kids.length c1] 27 (0, 0)) := by
      rw [hW]
      have := heap_alloc_new ((w.alloc o1).alloc o2) (.cells #[.int .i64 ta.kind, .int .u64 ta.set.a, .int .u64 ta.set.b, .int .u64 ta.set.c, .int .u64 ta.set.d, .slice A1 ta.kids.length c1] 27)
      simpa using this
    refine ⟨?_, hbw⟩
    rw [LK]
    refine ⟨_, 0, _, rfl, by omega, rfl, fun j hj => ?_, (h1.below hbw).more hbw.size, LK.nil _ _ _⟩
    rw [Nat.zero_add, cell_of_row W _ j _ _ _ hheap]
    match j, hj with
    | 0, _ => rfl
    | 1, _ => rfl
    | 2, _ => rfl
    | 3, _ => rfl
    | 4, _ => rfl
    | 5, _ => rfl
  unfold argX
  go_enter Try.func12, Try.ntmps12
  go_wp2_with fail
  refine bodyPost_ret (v := argX (starT ta) (some ⟨w.heap.size + 1 + 1, 0, none⟩) 1) (by simp [results, Try.results12, go_sem, argX, starT, Tree.kind, Tree.set, Tree.kids, Set4.zero]) rfl ⟨_, _, rfl, ?_, (HT.out _ _ _ rfl).2⟩
  unfold starT
  rw [LT]
  exact ⟨_, _, rfl, zero_wf, (HT.out _ _ _ rfl).1⟩
theorem let1F (x k g : Nat) (W : World) (hc : W.cell? ⟨g, 0, none⟩ = some (.int .i64 (x : Int))) : Calls Try.prog 28 #[.int .i64 (k : Int), .pointer (some ⟨g, 0, none⟩)] W (BoolPost (k == x) W) := by
  have HE : Hid (((k : Int) == (x : Int)) = (k == x)) := by
    unfold Hid
    by_cases h : k = x
    · subst h; simp
    · rw [beq_eq_false_iff_ne.2 h, beq_eq_false_iff_ne.2 (by omega)]
  obtain ⟨K, hK⟩ : ∃ K : Int, (k : Int) = K := ⟨_, rfl⟩
  obtain ⟨X, hX⟩ : ∃ X : Int, (x : Int) = X := ⟨_, rfl⟩
  rw [hK, hX] at HE
  rw [hX] at hc
  rw [hK]
  clear hK hX
  go_enter Try.func28, Try.ntmps28
  go_wp2_with fail
  exact bodyPost_ret (v := .bool (K == X)) (by simp [results, Try.results28, go_sem]) rfl ⟨by rw [HE.out], Below.refl _ _⟩
def leF (x : Nat) : Nat → Bool := fun k => k == x

set_option maxRecDepth 100000 in
set_option maxHeartbeats 800000 in
theorem letterF_any (x : Nat) (w : World) : Calls Try.prog 11 #[.int .i64 (x : Int)] w (TreePost (byT (leF x)) w) := by
  have HW : Hid (∀ o, Calls Try.prog 27 #[.func (.func 28) #[] #[.pointer (some ⟨w.heap.size, 0, none⟩)]] ((w.alloc (.cells #[.int .i64 (x : Int)] 3)).alloc o) (SetPostW (setF (leF x)) ((w.alloc (.cells #[.int .i64 (x : Int)] 3)).alloc o))) := fun o =>
    WhereF_any 28 #[.pointer (some ⟨w.heap.size, 0, none⟩)] (enters_of Try.func28 (by kernel_rfl) rfl) (leF x) _ (fun W k _ hW => by
      refine let1F x k w.heap.size W ?_
      rw [hW.cell (p := ⟨w.heap.size, 0, none⟩) (by simp; omega)]
      have h1 := ((Below.refl _ _).alloc (Nat.le_refl (w.alloc (.cells #[.int .i64 (x : Int)] 3)).heap.size) o).cell (p := ⟨w.heap.size, 0, none⟩) (by simp)
      rw [h1, cell_of_row _ w.heap.size 0 #[.int .i64 (x : Int)] 3 (0, 0) (heap_alloc_new w _)]
      rfl)
  obtain ⟨S, hS⟩ : ∃ S, setF (leF x) = S := ⟨_, rfl⟩
  have hwf : S.Wf := by rw [← hS]; exact setF_wf _
  have HL : Hid (∀ W, LT W W.heap.size (byT (leF x)) (cellsX 3 S none 0 0)) := fun W => by unfold byT; rw [hS, LT]; exact ⟨none, 0, rfl, hwf, LK.nil _ _ _⟩
  have HBT : Hid (byT (leF x) = .node 3 S []) := by unfold Hid byT; rw [hS]
  rw [hS] at HW
  clear hS hwf
  go_enter Try.func11, Try.ntmps11
  go_wp2_with fail
  refine (HW.out _).mono ?_
  rintro e w1 ⟨rfl, hb1⟩
  have hbw := below_new (below_new hb1 (Nat.le_refl _)) (Nat.le_refl _)
  have hz : ZeroX w1 (w.heap.size + 1) := by
    have h1 := hb1.block (w.heap.size + 1) (by simp)
    have h2 := ZeroX.new (w.alloc (.cells #[.int .i64 (x : Int)] 3))
    rw [World.size_alloc] at h2
    exact h1.trans h2
  have ⟨z0, z1, z2, z3, z4, z5⟩ := hz.cells
  have y0 := hz.free 0
  have y1 := hz.free 1
  have y2 := hz.free 2
  have y3 := hz.free 3
  have y4 := hz.free 4
  have y5 := hz.free 5
  have HX := Lib.hid (hz.fill (.int .i64 3) (.int .u64 S.a) (.int .u64 S.b) (.int .u64 S.c) (.int .u64 S.d) (.slice none 0 0))
  have HBW : Hid (Below w.heap.size w (fill6 w1 (w.heap.size + 1) (.int .i64 3) (.int .u64 S.a) (.int .u64 S.b) (.int .u64 S.c) (.int .u64 S.d) (.slice none 0 0))) := hbw.trans (fill6_below (Below.refl _ _) (Nat.le_succ _) _ _ _ _ _ _)
  unfold setA
  clear hb1 hz hbw HW
  go_wp2_with fail
  have ⟨s0, s1, s2, s3, s4, s5⟩ := HX.out.cells
  unfold fill6 at s0 s1 s2 s3 s4 s5
  refine bodyPost_ret (v := argX (.node 3 S []) none 0) (by simp [results, Try.results11, go_sem, s0, s1, s2, s3, s4, s5, argX, Tree.kind, Tree.set, Tree.kids]) rfl ⟨none, 0, by rw [HBT.out], ?_, HBW.out⟩
  have := HL.out (fill6 w1 (w.heap.size + 1) (.int .i64 3) (.int .u64 S.a) (.int .u64 S.b) (.int .u64 S.c) (.int .u64 S.d) (.slice none 0 0))
  rw [HBT.out] at this ⊢
  exact this

/-! SameRex of one tree. -/
def SmC (t : Tree) : Prop := ∀ (A1 A2 : Option Addr) (c1 c2 : Nat) (w : World), LT w w.heap.size t (cellsX t.kind t.set A1 t.kids.length c1) → LT w w.heap.size t (cellsX t.kind t.set A2 t.kids.length c2) →
  Calls Try.prog 9 #[argX t A1 c1, argX t A2 c2] w (BoolPost true w)
def SmRel (n : Nat) (W0 : World) (v5 : Value) (wr : World) : Prop := ∃ j : Nat, j ≤ n ∧ v5 = .int .i64 j ∧ Below W0.heap.size W0 wr

set_option maxRecDepth 100000 in
set_option maxHeartbeats 3200000 in
theorem same_node (k : Int) (S : Set4) (ts : List Tree) (hts : ts.length ≤ 2) (ih : ∀ (i : Nat) (h : i < ts.length), SmC ts[i]) : SmC (.node k S ts) := by
  intro A1 A2 c1 c2 w h1 h2
  have IH := Lib.hid ih
  rw [LT] at h1 h2
  obtain ⟨A1', c1', he1, _, hk1⟩ := h1
  have hA : A1' = A1 := by unfold cellsX at he1; simp only [List.cons.injEq, Value.slice.injEq] at he1; exact he1.2.2.2.2.2.1.1.symm
  subst hA
  obtain ⟨A2', c2', he2, _, hk2⟩ := h2
  have hA : A2' = A2 := by unfold cellsX at he2; simp only [List.cons.injEq, Value.slice.injEq] at he2; exact he2.2.2.2.2.2.1.1.symm
  subst hA
  obtain ⟨Wa, hWa⟩ : ∃ Wa, w.alloc (.cells #[.int .i64 k, .int .u64 S.a, .int .u64 S.b, .int .u64 S.c, .int .u64 S.d, .slice A1' ts.length c1] 27) = Wa := ⟨_, rfl⟩
  obtain ⟨W0, hW0⟩ : ∃ W0, Wa.alloc (.cells #[.int .i64 k, .int .u64 S.a, .int .u64 S.b, .int .u64 S.c, .int .u64 S.d, .slice A2' ts.length c2] 27) = W0 := ⟨_, rfl⟩
  have hza : Wa.heap.size = w.heap.size + 1 := by rw [← hWa]; simp
  have hz0 : W0.heap.size = w.heap.size + 1 + 1 := by rw [← hW0, World.size_alloc, hza]
  have hba : Below w.heap.size w Wa := by rw [← hWa]; exact (Below.refl _ _).alloc (Nat.le_refl _) _
  have hb0 : Below w.heap.size w W0 := by rw [← hW0]; exact hba.alloc (by omega) _
  have hp1 : PutX W0 w.heap.size [.int .i64 k, .int .u64 S.a, .int .u64 S.b, .int .u64 S.c, .int .u64 S.d, .slice A1' ts.length c1] := by
    rw [← hW0]
    exact (Below.heap_alloc _ _ _ (by omega)).trans (by rw [← hWa]; exact PutX.new w _)
  have hp2 : PutX W0 (w.heap.size + 1) [.int .i64 k, .int .u64 S.a, .int .u64 S.b, .int .u64 S.c, .int .u64 S.d, .slice A2' ts.length c2] := by
    rw [← hW0, ← hza]
    exact PutX.new Wa _
  have HB : Hid (∀ W, Below W0.heap.size W0 W → PutX W w.heap.size [.int .i64 k, .int .u64 S.a, .int .u64 S.b, .int .u64 S.c, .int .u64 S.d, .slice A1' ts.length c1] ∧ PutX W (w.heap.size + 1) [.int .i64 k, .int .u64 S.a, .int .u64 S.b, .int .u64 S.c, .int .u64 S.d, .slice A2' ts.length c2] ∧ Below w.heap.size w W ∧ LK W w.heap.size ts A1' ∧ LK W w.heap.size ts A2') := fun W hW => by
    have hbw := hb0.trans (hW.mono (by omega))
    exact ⟨(hW.block _ hp1.lt).trans hp1, (hW.block _ hp2.lt).trans hp2, hbw, hk1.below hbw, hk2.below hbw⟩
  have HS0 : Hid (SmRel ts.length W0 (.int .i64 (0 : Nat)) W0) := ⟨0, Nat.zero_le _, rfl, Below.refl _ _⟩
  have HZ0 := Lib.hid hz0
  have hse : ∀ W, _ := fun W => run_set_neq S S W
  unfold setV at hse
  rw [show sameB S S = true from by unfold sameB; exact decide_eq_true rfl] at hse
  have d0 : (k != k) = false := by simp
  have d1 : ((ts.length : Int) != (ts.length : Int)) = false := by simp
  have ⟨a0, a1, a2, a3, a4, a5⟩ := hp1.cells
  have ⟨b0, b1, b2, b3, b4, b5⟩ := hp2.cells
  have HWA := Lib.hid hWa
  have HW0 := Lib.hid hW0
  unfold argX Tree.kind Tree.set Tree.kids
  dsimp only
  clear ih he1 he2 hk1 hk2 hWa hW0 hza hz0 hba hb0 hp1 hp2
  go_enter Try.func9, Try.ntmps9
  go_upto_region 1 with fail
  rw [HWA.out, HW0.out]
  go_wp2_with fail
  go_loopw [5] (fun v5 wr => SmRel ts.length W0 v5 wr) (fun v5 _ => ts.length - (intOf v5).toNat)
  case atStart => exact HS0.out
  case round =>
    obtain ⟨j, hj, rfl, hb⟩ := hrel
    obtain ⟨q1, q2, hbw, hl1, hl2⟩ := HB.out wr hb
    have ⟨x0, x1, x2, x3, x4, x5⟩ := q1.cells
    have ⟨y0, y1, y2, y3, y4, y5⟩ := q2.cells
    have HBR := Lib.hid hb
    have HBW := Lib.hid hbw
    by_cases hlt : j < ts.length
    · have e1 : decide ((j : Int) < (ts.length : Int)) = true := decide_eq_true (by omega)
      have i7 : IntKind.i64.wrap ((j : Int) + 1) = (j : Int) + 1 := IntWalk.i64_in _ (by omega)
      obtain ⟨bb, off, cs, rfl, hbB, hca, hlt1⟩ := hl1.at j hlt
      obtain ⟨bb2, off2, cs2, rfl, hbB2, hca2, hlt2⟩ := hl2.at j hlt
      have IHj := IH.out j hlt
      generalize ts[j] = t2 at *
      obtain ⟨Aa, ca, hcs, _⟩ := hlt1.parts
      subst hcs
      obtain ⟨Ab, cb, hcs, _⟩ := hlt2.parts
      subst hcs
      have ⟨u0, u1, u2, u3, u4, u5⟩ := (show CellsAt wr bb (off + j * 6) [_, _, _, _, _, _] from hca).six
      have ⟨v0, v1, v2, v3, v4, v5⟩ := (show CellsAt wr bb2 (off2 + j * 6) [_, _, _, _, _, _] from hca2).six
      have HCL : Hid (∀ W, Below wr.heap.size wr W → Calls Try.prog 9 #[.agg #[.int .i64 t2.kind, .int .u64 t2.set.a, .int .u64 t2.set.b, .int .u64 t2.set.c, .int .u64 t2.set.d, .slice Aa t2.kids.length ca], .agg #[.int .i64 t2.kind, .int .u64 t2.set.a, .int .u64 t2.set.b, .int .u64 t2.set.c, .int .u64 t2.set.d, .slice Ab t2.kids.length cb]] W fun e w' => e = .returned (.bool true) ∧ Below wr.heap.size wr w') := fun W hW =>
        (IHj Aa Ab ca cb W (LT.keep (Nat.le_trans HBW.out.size hW.size) (fun b2 o2 hp => hW.cell (p := ⟨b2, o2, none⟩) (Nat.lt_of_lt_of_le hp HBW.out.size)) _ _ hlt1) (LT.keep (Nat.le_trans HBW.out.size hW.size) (fun b2 o2 hp => hW.cell (p := ⟨b2, o2, none⟩) (Nat.lt_of_lt_of_le hp HBW.out.size)) _ _ hlt2)).mono (fun e w' ⟨h1, h2⟩ => ⟨h1, hW.trans (h2.mono hW.size)⟩)
      have HSW : Hid (∀ w', Below wr.heap.size wr w' → (w'.cell? ⟨w.heap.size, 5, none⟩ = some (.slice (some ⟨bb, off, none⟩) ts.length c1) ∧ w'.cell? ⟨w.heap.size + 1, 5, none⟩ = some (.slice (some ⟨bb2, off2, none⟩) ts.length c2) ∧
          w'.cell? ⟨bb, off + j * 6, none⟩ = some (.int .i64 t2.kind) ∧ w'.cell? ⟨bb, off + j * 6 + 1, none⟩ = some (.int .u64 t2.set.a) ∧ w'.cell? ⟨bb, off + j * 6 + 2, none⟩ = some (.int .u64 t2.set.b) ∧ w'.cell? ⟨bb, off + j * 6 + 3, none⟩ = some (.int .u64 t2.set.c) ∧ w'.cell? ⟨bb, off + j * 6 + 4, none⟩ = some (.int .u64 t2.set.d) ∧ w'.cell? ⟨bb, off + j * 6 + 5, none⟩ = some (.slice Aa t2.kids.length ca) ∧
          w'.cell? ⟨bb2, off2 + j * 6, none⟩ = some (.int .i64 t2.kind) ∧ w'.cell? ⟨bb2, off2 + j * 6 + 1, none⟩ = some (.int .u64 t2.set.a) ∧ w'.cell? ⟨bb2, off2 + j * 6 + 2, none⟩ = some (.int .u64 t2.set.b) ∧ w'.cell? ⟨bb2, off2 + j * 6 + 3, none⟩ = some (.int .u64 t2.set.c) ∧ w'.cell? ⟨bb2, off2 + j * 6 + 4, none⟩ = some (.int .u64 t2.set.d) ∧ w'.cell? ⟨bb2, off2 + j * 6 + 5, none⟩ = some (.slice Ab t2.kids.length cb))) := fun w' h =>
        ⟨cell_kept h x5, cell_kept h y5, cell_kept h u0, cell_kept h u1, cell_kept h u2, cell_kept h u3, cell_kept h u4, cell_kept h u5, cell_kept h v0, cell_kept h v1, cell_kept h v2, cell_kept h v3, cell_kept h v4, cell_kept h v5⟩
      clear q1 q2 hbw hl1 hl2 hca hca2 hlt1 hlt2 IHj hb a0 a1 a2 a3 a4 a5 b0 b1 b2 b3 b4 b5 hse
      go_upto_region 6 with fail
      go_region_held3 (fun w' => (w'.cell? ⟨w.heap.size, 5, none⟩ = some (.slice (some ⟨bb, off, none⟩) ts.length c1) ∧ w'.cell? ⟨w.heap.size + 1, 5, none⟩ = some (.slice (some ⟨bb2, off2, none⟩) ts.length c2) ∧
          w'.cell? ⟨bb, off + j * 6, none⟩ = some (.int .i64 t2.kind) ∧ w'.cell? ⟨bb, off + j * 6 + 1, none⟩ = some (.int .u64 t2.set.a) ∧ w'.cell? ⟨bb, off + j * 6 + 2, none⟩ = some (.int .u64 t2.set.b) ∧ w'.cell? ⟨bb, off + j * 6 + 3, none⟩ = some (.int .u64 t2.set.c) ∧ w'.cell? ⟨bb, off + j * 6 + 4, none⟩ = some (.int .u64 t2.set.d) ∧ w'.cell? ⟨bb, off + j * 6 + 5, none⟩ = some (.slice Aa t2.kids.length ca) ∧
          w'.cell? ⟨bb2, off2 + j * 6, none⟩ = some (.int .i64 t2.kind) ∧ w'.cell? ⟨bb2, off2 + j * 6 + 1, none⟩ = some (.int .u64 t2.set.a) ∧ w'.cell? ⟨bb2, off2 + j * 6 + 2, none⟩ = some (.int .u64 t2.set.b) ∧ w'.cell? ⟨bb2, off2 + j * 6 + 3, none⟩ = some (.int .u64 t2.set.c) ∧ w'.cell? ⟨bb2, off2 + j * 6 + 4, none⟩ = some (.int .u64 t2.set.d) ∧ w'.cell? ⟨bb2, off2 + j * 6 + 5, none⟩ = some (.slice Ab t2.kids.length cb)))
        (first | go_keep | exact HSW.out _ hb8 | exact HSW.out _ (Below.refl _ _) | exact HSW.out _ (Below.refl _ _).drew)
        (first | (go_at_call 9; (with_reducible refine (HCL.out _ ?_).mono ?_); (first | exact Below.refl _ _ | exact (Below.refl _ _).drew | fail "below"); rintro e w8 ⟨rfl, hb8⟩))
      all_goals
        have hb9 : Below W0.heap.size W0 w8 := HBR.out.trans (hb8.mono HBR.out.size)
        have HN : Hid (SmRel ts.length W0 (.int .i64 ((j : Int) + 1)) w8) := ⟨j + 1, hlt, by rw [Int.natCast_succ], hb9⟩
        clear hb8 hb9 HSW HCL x0 x1 x2 x3 x4 x5 y0 y1 y2 y3 y4 y5 u0 u1 u2 u3 u4 u5 v0 v1 v2 v3 v4 v5
        go_wp2_with fail
        go_roundw
        case measure => dsimp only [intOf]; omega
        case rel => exact HN.out
    · obtain rfl : j = ts.length := by omega
      have e1 : decide ((ts.length : Int) < (ts.length : Int)) = false := by simp
      clear q1 q2 hbw hl1 hl2
      go_wp2_with fail
      exact bodyPost_ret (v := .bool true) (by simp [results, Try.results9, go_sem]) rfl ⟨rfl, HBW.out⟩
theorem same_any (t : Tree) (hf : Fine t) : SmC t :=
  match t, hf with
  | .node k S ts, hf => by
    have hf2 := hf
    rw [Fine] at hf2
    have hn : ts.length ≤ 2 := by rcases fine_cases hf2.1 with ⟨_, h⟩ | ⟨_, h⟩ | ⟨_, h⟩ <;> omega
    exact same_node k S ts hn fun i h => same_any ts[i] (fineL_at hf2.2 i h)
termination_by SizeOf.sizeOf t
decreasing_by
  have := List.sizeOf_lt_of_mem (List.getElem_mem h)
  simp only [Tree.node.sizeOf_spec]
  omega
end Go.Proofs.Ytnjjchbgnmjkjaa
