/- rex.two and rex.one. -/
import Derived.Test.YtnjjchbgnmjkjaaRdt
import Derived.Test.YtnjjchbgnmjkjaaRexN4
namespace Go.Proofs.Ytnjjchbgnmjkjaa
open Go.RowKit

theorem zero_wfR : Set4.zero.Wf := ⟨⟨by decide, by decide⟩, ⟨by decide, by decide⟩, ⟨by decide, by decide⟩, ⟨by decide, by decide⟩⟩
def TreeP (t : Tree) (w : World) (e : Ending) (w' : World) : Prop :=
  ∃ A c, e = .returned (argX t A c) ∧ LT w' w'.heap.size t (cellsX t.kind t.set A t.kids.length c) ∧ Below w.heap.size w w'

set_option maxRecDepth 100000 in
set_option maxHeartbeats 800000 in
theorem rtwo_any (k : Int) (ta tb : Tree) (A1 A2 : Option Addr) (c1 c2 : Nat) (w : World) (h1 : LT w w.heap.size ta (cellsX ta.kind ta.set A1 ta.kids.length c1)) (h2 : LT w w.heap.size tb (cellsX tb.kind tb.set A2 tb.kids.length c2)) :
    Calls Try.prog 43 #[.int .i64 k, argX ta A1 c1, argX tb A2 c2] w (TreeP (.node k .zero [ta, tb]) w) := by
  have HT : Hid (∀ o1 o2 o3, ∀ W, W = (((w.alloc o1).alloc o2).alloc o3).alloc (.cells #[.int .i64 ta.kind, .int .u64 ta.set.a, .int .u64 ta.set.b, .int .u64 ta.set.c, .int .u64 ta.set.d, .slice A1 ta.kids.length c1, .int .i64 tb.kind, .int .u64 tb.set.a, .int .u64 tb.set.b, .int .u64 tb.set.c, .int .u64 tb.set.d, .slice A2 tb.kids.length c2] 27) →
      LK W W.heap.size [ta, tb] (some ⟨w.heap.size + 1 + 1 + 1, 0, none⟩) ∧ Below w.heap.size w W) := fun o1 o2 o3 W hW => by
    have hbw : Below w.heap.size w W := by rw [hW]; exact (((((Below.refl _ _).alloc (Nat.le_refl _) o1).alloc (by simp) o2).alloc (by simp; omega) o3).alloc (by simp; omega) _)
    have hsz : W.heap.size = w.heap.size + 1 + 1 + 1 + 1 := by rw [hW]; simp
    have hheap : W.heap[w.heap.size + 1 + 1 + 1]? = some (.cells #[.int .i64 ta.kind, .int .u64 ta.set.a, .int .u64 ta.set.b, .int .u64 ta.set.c, .int .u64 ta.set.d, .slice A1 ta.kids.length c1, .int .i64 tb.kind, .int .u64 tb.set.a, .int .u64 tb.set.b, .int .u64 tb.set.c, .int .u64 tb.set.d, .slice A2 tb.kids.length c2] 27 (0, 0)) := by
      rw [hW]
      have := heap_alloc_new (((w.alloc o1).alloc o2).alloc o3) (.cells #[.int .i64 ta.kind, .int .u64 ta.set.a, .int .u64 ta.set.b, .int .u64 ta.set.c, .int .u64 ta.set.d, .slice A1 ta.kids.length c1, .int .i64 tb.kind, .int .u64 tb.set.a, .int .u64 tb.set.b, .int .u64 tb.set.c, .int .u64 tb.set.d, .slice A2 tb.kids.length c2] 27)
      simpa using this
    refine ⟨?_, hbw⟩
    rw [LK]
    refine ⟨_, 0, _, rfl, by omega, rfl, fun j hj => ?_, (h1.below hbw).more hbw.size, ?_⟩
    · rw [Nat.zero_add, cell_of_row W _ j _ _ _ hheap]
      match j, hj with
      | 0, _ => rfl
      | 1, _ => rfl
      | 2, _ => rfl
      | 3, _ => rfl
      | 4, _ => rfl
      | 5, _ => rfl
    · rw [LK]
      refine ⟨_, 6, _, rfl, by omega, rfl, fun j hj => ?_, (h2.below hbw).more hbw.size, LK.nil _ _ _⟩
      rw [cell_of_row W _ (6 + j) _ _ _ hheap]
      match j, hj with
      | 0, _ => rfl
      | 1, _ => rfl
      | 2, _ => rfl
      | 3, _ => rfl
      | 4, _ => rfl
      | 5, _ => rfl
  unfold argX
  go_enter Try.func43, Try.ntmps43
  go_wp2_with fail
  refine bodyPost_ret (v := argX (.node k .zero [ta, tb]) (some ⟨w.heap.size + 1 + 1 + 1, 0, none⟩) 2) (by simp [results, Try.results43, go_sem, argX, Tree.kind, Tree.set, Tree.kids, Set4.zero]) rfl ⟨_, _, rfl, ?_, (HT.out _ _ _ _ rfl).2⟩
  rw [LT]
  exact ⟨_, _, rfl, zero_wfR, (HT.out _ _ _ _ rfl).1⟩


set_option maxRecDepth 100000 in
set_option maxHeartbeats 800000 in
theorem rone_any (k : Int) (w : World) : Calls Try.prog 102 #[.int .i64 k] w (TreeP (.node k .zero []) w) := by
  have HB : Hid (∀ o, Below w.heap.size w (w.alloc o)) := fun o => (Below.refl _ _).alloc (Nat.le_refl _) o
  go_enter Try.func102, Try.ntmps102
  go_wp2_with fail
  refine bodyPost_ret (v := argX (.node k .zero []) none 0) (by simp [results, Try.results102, go_sem, argX, Tree.kind, Tree.set, Tree.kids, Set4.zero]) rfl ⟨none, 0, rfl, ?_, HB.out _⟩
  rw [LT]
  exact ⟨_, _, rfl, zero_wfR, LK.nil _ _ _⟩
end Go.Proofs.Ytnjjchbgnmjkjaa
