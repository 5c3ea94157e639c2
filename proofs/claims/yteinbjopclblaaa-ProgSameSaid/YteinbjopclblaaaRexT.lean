/- The walks of two, star, found: the law's own makers of trees. -/
import Derived.Test.YteinbjopclblaaaRexF
import Derived.Test.YteinbjopclblaaaRexA
namespace Go.Proofs.Yteinbjopclblaaa
open Go.RowKit

theorem zero_wf : Set4.zero.Wf := ⟨⟨by decide, by decide⟩, ⟨by decide, by decide⟩, ⟨by decide, by decide⟩, ⟨by decide, by decide⟩⟩
/-- A tree that a function hands back. -/
def TreePost (t : Tree) (w : World) (e : Ending) (w' : World) : Prop :=
  ∃ A c, e = .returned (argX t A c) ∧ LT w' w'.heap.size t (cellsX t.kind t.set A t.kids.length c) ∧ Below w.heap.size w w'
def FoundPost (t : Tree) (s : ByteArray) (w : World) (e : Ending) (w' : World) : Prop :=
  ∃ is i j, e = .returned (.tuple #[spanV (i : Nat) (j : Nat), .bool is, .bool (errF t s.size == 0)]) ∧ FindIs t s.data.toList is i j ∧ Below w.heap.size w w'

set_option maxRecDepth 100000 in
set_option maxHeartbeats 800000 in
theorem found_any (t : Tree) (A : Option Addr) (c : Nat) (s : ByteArray) (w : World) (h : LT w w.heap.size t (cellsX t.kind t.set A t.kids.length c)) :
    Calls Try.prog 34 #[argX t A c, .string s] w (FoundPost t s w) := by
  have HF : Hid (∀ o o', Calls Try.prog 57 #[argX t A c, .string s] ((w.alloc o).alloc o') (FindPost t s ((w.alloc o).alloc o'))) := fun o o' =>
    Find_any t A c s _ ((h.below (((Below.refl _ _).alloc (Nat.le_refl _) o).alloc (by simp) _)).more (by simp; omega))
  unfold argX at *
  clear h
  go_enter Try.func34, Try.ntmps34
  go_wp2_with fail
  refine (HF.out _ _).mono ?_
  rintro e w1 ⟨is, i, j, rfl, hfi, hb1⟩
  obtain ⟨_, hT1, hbw1, hz1⟩ := find_boxes hb1
  have ⟨t0, t1⟩ := hT1.cells
  have ⟨u0, u1⟩ := hT1.frees
  have HFI := Lib.hid hfi
  have hz2 : w.heap.size + 1 < w1.heap.size := hz1
  clear hb1 hfi
  unfold spanV
  have HP : Hid (∀ W, Below w.heap.size w W → FoundPost t s w (.returned (.tuple #[spanV (i : Nat) (j : Nat), .bool is, .bool (errF t s.size == 0)])) W) := fun W h => ⟨is, i, j, rfl, HFI.out, h⟩
  generalize errF t s.size = ee at *
  go_wp2_with fail
  have hW1 := ((hbw1.setCell (p := ⟨w.heap.size + 1, 0, none⟩) (Nat.le_succ _) (.int .i64 (i : Int))).setCell (p := ⟨w.heap.size + 1, 1, none⟩) (Nat.le_succ _) (.int .i64 (j : Int))).alloc (by simp [World.setCell]; omega) (.cells #[.int .i64 (i : Int), .int .i64 (j : Int)] 66)
  have hT2 := (hT1.set0 (.int .i64 (i : Int))).set1 (.int .i64 (j : Int))
  have hT3 := hT2.below ((Below.refl _ _).alloc (Nat.le_refl _) (.cells #[.int .i64 (i : Int), .int .i64 (j : Int)] 66)) (by simp [World.setCell]; omega)
  generalize (((w1.setCell ⟨w.heap.size + 1, 0, none⟩ (.int .i64 (i : Int))).setCell ⟨w.heap.size + 1, 1, none⟩ (.int .i64 (j : Int))).alloc (.cells #[.int .i64 (i : Int), .int .i64 (j : Int)] 66)) = WF at *
  obtain ⟨s0, s1⟩ := hT3.cells
  exact bodyPost_ret (v := .tuple #[spanV (i : Nat) (j : Nat), .bool is, .bool (ee == 0)]) (by simp [results, Try.results34, go_sem, s0, s1, spanV]) rfl (HP.out WF hW1)

set_option maxRecDepth 100000 in
set_option maxHeartbeats 800000 in
theorem two_any (k : Int) (ta tb : Tree) (A1 A2 : Option Addr) (c1 c2 : Nat) (w : World) (h1 : LT w w.heap.size ta (cellsX ta.kind ta.set A1 ta.kids.length c1)) (h2 : LT w w.heap.size tb (cellsX tb.kind tb.set A2 tb.kids.length c2)) :
    Calls Try.prog 35 #[.int .i64 k, argX ta A1 c1, argX tb A2 c2] w (TreePost (.node k .zero [ta, tb]) w) := by
  have HT : Hid (∀ o1 o2 o3, ∀ W, W = (((w.alloc o1).alloc o2).alloc o3).alloc (.cells #[.int .i64 ta.kind, .int .u64 ta.set.a, .int .u64 ta.set.b, .int .u64 ta.set.c, .int .u64 ta.set.d, .slice A1 ta.kids.length c1, .int .i64 tb.kind, .int .u64 tb.set.a, .int .u64 tb.set.b, .int .u64 tb.set.c, .int .u64 tb.set.d, .slice A2 tb.kids.length c2] 64) →
      LK W W.heap.size [ta, tb] (some ⟨w.heap.size + 1 + 1 + 1, 0, none⟩) ∧ Below w.heap.size w W) := fun o1 o2 o3 W hW => by
    have hbw : Below w.heap.size w W := by rw [hW]; exact (((((Below.refl _ _).alloc (Nat.le_refl _) o1).alloc (by simp) o2).alloc (by simp; omega) o3).alloc (by simp; omega) _)
    have hsz : W.heap.size = w.heap.size + 1 + 1 + 1 + 1 := by rw [hW]; simp
    have hheap : W.heap[w.heap.size + 1 + 1 + 1]? = some (.cells #[.int .i64 ta.kind, .int .u64 ta.set.a, .int .u64 ta.set.b, .int .u64 ta.set.c, .int .u64 ta.set.d, .slice A1 ta.kids.length c1, .int .i64 tb.kind, .int .u64 tb.set.a, .int .u64 tb.set.b, .int .u64 tb.set.c, .int .u64 tb.set.d, .slice A2 tb.kids.length c2] 64 (0, 0)) := by
      rw [hW]
      have := heap_alloc_new (((w.alloc o1).alloc o2).alloc o3) (.cells #[.int .i64 ta.kind, .int .u64 ta.set.a, .int .u64 ta.set.b, .int .u64 ta.set.c, .int .u64 ta.set.d, .slice A1 ta.kids.length c1, .int .i64 tb.kind, .int .u64 tb.set.a, .int .u64 tb.set.b, .int .u64 tb.set.c, .int .u64 tb.set.d, .slice A2 tb.kids.length c2] 64)
      simpa using this
    refine ⟨?_, hbw⟩
    rw [LK]
    refine ⟨_, 0, _, rfl, by omega, rfl, fun j hj => ?_, (h1.below hbw).more hbw.size, ?_⟩
    · rw [Nat.zero_add, cell_of_row W _ j _ _ _ hheap]
      match j, hj with
      | 0, _ => rfl
      | 1, _ => rfl
      | 2, _ => rfl
      | 3, _ => rfl
      | 4, _ => rfl
      | 5, _ => rfl
    · rw [LK]
      refine ⟨_, 6, _, rfl, by omega, rfl, fun j hj => ?_, (h2.below hbw).more hbw.size, LK.nil _ _ _⟩
      rw [cell_of_row W _ (6 + j) _ _ _ hheap]
      match j, hj with
      | 0, _ => rfl
      | 1, _ => rfl
      | 2, _ => rfl
      | 3, _ => rfl
      | 4, _ => rfl
      | 5, _ => rfl
  unfold argX
  go_enter Try.func35, Try.ntmps35
  go_wp2_with fail
  refine bodyPost_ret (v := argX (.node k .zero [ta, tb]) (some ⟨w.heap.size + 1 + 1 + 1, 0, none⟩) 2) (by simp [results, Try.results35, go_sem, argX, Tree.kind, Tree.set, Tree.kids, Set4.zero]) rfl ⟨_, _, rfl, ?_, (HT.out _ _ _ _ rfl).2⟩
  rw [LT]
  exact ⟨_, _, rfl, zero_wf, (HT.out _ _ _ _ rfl).1⟩

set_option maxRecDepth 100000 in
set_option maxHeartbeats 800000 in
theorem star_any (ta : Tree) (A1 : Option Addr) (c1 : Nat) (w : World) (h1 : LT w w.heap.size ta (cellsX ta.kind ta.set A1 ta.kids.length c1)) :
    Calls Try.prog 37 #[argX ta A1 c1] w (TreePost (starT ta) w) := by
  have HT : Hid (∀ o1 o2, ∀ W, W = ((w.alloc o1).alloc o2).alloc (.cells #[.int .i64 ta.kind, .int .u64 ta.set.a, .int .u64 ta.set.b, .int .u64 ta.set.c, .int .u64 ta.set.d, .slice A1 ta.kids.length c1] 64) →
      LK W W.heap.size [ta] (some ⟨w.heap.size + 1 + 1, 0, none⟩) ∧ Below w.heap.size w W) := fun o1 o2 W hW => by
    have hbw : Below w.heap.size w W := by rw [hW]; exact ((((Below.refl _ _).alloc (Nat.le_refl _) o1).alloc (by simp) o2).alloc (by simp; omega) _)
    have hsz : W.heap.size = w.heap.size + 1 + 1 + 1 := by rw [hW]; simp
    have hheap : W.heap[w.heap.size + 1 + 1]? = some (.cells #[.int .i64 ta.kind, .int .u64 ta.set.a, .int .u64 ta.set.b, .int .u64 ta.set.c, .int .u64 ta.set.d, .slice A1 ta.kids.length c1] 64 (0, 0)) := by
      rw [hW]
      have := heap_alloc_new ((w.alloc o1).alloc o2) (.cells #[.int .i64 ta.kind, .int .u64 ta.set.a, .int .u64 ta.set.b, .int .u64 ta.set.c, .int .u64 ta.set.d, .slice A1 ta.kids.length c1] 64)
      simpa using this
    refine ⟨?_, hbw⟩
    rw [LK]
    refine ⟨_, 0, _, rfl, by omega, rfl, fun j hj => ?_, (h1.below hbw).more hbw.size, LK.nil _ _ _⟩
    rw [Nat.zero_add, cell_of_row W _ j _ _ _ hheap]
    match j, hj with
    | 0, _ => rfl
    | 1, _ => rfl
    | 2, _ => rfl
    | 3, _ => rfl
    | 4, _ => rfl
    | 5, _ => rfl
  unfold argX
  go_enter Try.func37, Try.ntmps37
  go_wp2_with fail
  refine bodyPost_ret (v := argX (starT ta) (some ⟨w.heap.size + 1 + 1, 0, none⟩) 1) (by simp [results, Try.results37, go_sem, argX, starT, Tree.kind, Tree.set, Tree.kids, Set4.zero]) rfl ⟨_, _, rfl, ?_, (HT.out _ _ _ rfl).2⟩
  unfold starT
  rw [LT]
  exact ⟨_, _, rfl, zero_wf, (HT.out _ _ _ rfl).1⟩
end Go.Proofs.Yteinbjopclblaaa
