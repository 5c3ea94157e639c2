/- slices.Contains at no edges. -/
import Derived.Test.YtipkelbbfgidhaaGreatDoorPhT
import Derived.Lib.AppendIntMem
namespace Go.Proofs.YtipkelbbfgidhaaGreatDoor
open Go.RowKit Go.Shelf Go.Lib Go.Sort

theorem edge_idx_nil (v : EdgeK) (w : World) : Calls Tryz.prog 94 #[.slice none 0 0, keyV v] w fun e w' => e = .returned (.int .i64 (-1)) ∧ ∃ q os, w' = grow (w.drewN q) os := by
  unfold keyV
  go_enter Tryz.func94, Tryz.ntmps94
  go_wp2_with fail
  go_loop [8] (fun i => i = .int .i64 0) (fun _ => 0)
  case atStart => rfl
  case round =>
    subst hrel
    go_wp2_with fail
    go_ret
    exact ⟨rfl, 0, _, by rw [alloc_eq_grow]; rfl⟩
theorem edge_in_nil (v : EdgeK) (w : World) : Calls Tryz.prog 72 #[.slice none 0 0, keyV v] w fun e w' => e = .returned (.bool false) ∧ Below w.heap.size w w' := by
  have hcon := fun W => edge_idx_nil v W
  unfold keyV at hcon ⊢
  go_enter Tryz.func72, Tryz.ntmps72
  go_wp2_with (go_at_call 94; refine (hcon _).mono ?_; rintro e w' ⟨rfl, q, os, rfl⟩)
  go_ret
  refine ⟨rfl, ?_⟩
  rw [alloc_eq_grow]
  exact Below.trans (below_grow w.heap.size w (Nat.le_refl _) 0 #[.cells #[.int .i64 v.1, .int .u8 v.2.toNat] 122]) (below_grow _ _ (by simp [grow]) q os)
end Go.Proofs.YtipkelbbfgidhaaGreatDoor
