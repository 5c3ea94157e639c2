/- slices.SortFunc at no edges. -/
import Derived.Test.YtipkelbbfgidhaaGreatDoorPhT
import Derived.Test.YtipkelbbfgidhaaGreatDoorShelf
namespace Go.Proofs.YtipkelbbfgidhaaGreatDoor
open Go.RowKit

theorem ins_nil (f : Value) (w : World) : Calls Tryz.prog 115 #[.slice none 0 0, .int .i64 0, .int .i64 0, f] w fun e w' => e = .returned (.tuple #[]) ∧ w' = w := by
  go_enter Tryz.func115, Tryz.ntmps115
  go_wp2_with fail
  refine wp_loop_rounds 1 ?_
  rw [rounds_succ]
  go_wp2_with fail
  go_end0
  exact ⟨rfl, rfl⟩
theorem pdq_nil (f : Value) (m : Int) (w : World) : Calls Tryz.prog 95 #[.slice none 0 0, .int .i64 0, .int .i64 0, .int .i64 m, f] w fun e w' => e = .returned (.tuple #[]) ∧ w' = w := by
  have hi := fun W => ins_nil f W
  go_enter Tryz.func95, Tryz.ntmps95
  go_wp2_with fail
  refine wp_loop_rounds 1 ?_
  rw [rounds_succ]
  go_wp2_with (go_at_call 115; refine (hi _).mono ?_; rintro e w' ⟨rfl, rfl⟩)
  (try simp only [Exit.inBlock, Exit.then]); refine bodyPost_ret (results_none rfl _ _ _) rfl ?_
  exact ⟨rfl, rfl⟩
theorem sort_nil (f : Value) (w : World) : Calls Tryz.prog 73 #[.slice none 0 0, f] w fun e w' => e = .returned (.tuple #[]) ∧ w' = w := by
  have hp := fun m W => pdq_nil f m W
  have hl := fun W => Tryz.bits_Len 0 W (by omega) (by omega)
  go_enter Tryz.func73, Tryz.ntmps73
  go_wp2_with (first | (go_at_call 77; refine (hl _).mono ?_; rintro e w' ⟨rfl, rfl⟩) | (go_at_call 95; refine (hp _ _).mono ?_; rintro e w' ⟨rfl, rfl⟩))
  go_end0
  exact ⟨rfl, rfl⟩
end Go.Proofs.YtipkelbbfgidhaaGreatDoor
