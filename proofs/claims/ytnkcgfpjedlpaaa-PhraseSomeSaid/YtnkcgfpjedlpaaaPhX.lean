/- slices.SortFunc at no edges. -/
import Derived.Test.YtnkcgfpjedlpaaaPhT
import Derived.Test.YtnkcgfpjedlpaaaShelf
namespace Go.Proofs.Ytnkcgfpjedlpaaa
open Go.RowKit

theorem ins_nil (f : Value) (w : World) : Calls Try.prog 52 #[.slice none 0 0, .int .i64 0, .int .i64 0, f] w fun e w' => e = .returned (.tuple #[]) ∧ w' = w := by
  go_enter Try.func52, Try.ntmps52
  go_wp2_with fail
  refine wp_loop_rounds 1 ?_
  rw [rounds_succ]
  go_wp2_with fail
  go_end0
  exact ⟨rfl, rfl⟩
theorem pdq_nil (f : Value) (m : Int) (w : World) : Calls Try.prog 36 #[.slice none 0 0, .int .i64 0, .int .i64 0, .int .i64 m, f] w fun e w' => e = .returned (.tuple #[]) ∧ w' = w := by
  have hi := fun W => ins_nil f W
  go_enter Try.func36, Try.ntmps36
  go_wp2_with fail
  refine wp_loop_rounds 1 ?_
  rw [rounds_succ]
  go_wp2_with (go_at_call 52; refine (hi _).mono ?_; rintro e w' ⟨rfl, rfl⟩)
  (try simp only [Exit.inBlock, Exit.then]); refine bodyPost_ret (results_none rfl _ _ _) rfl ?_
  exact ⟨rfl, rfl⟩
theorem sort_nil (f : Value) (w : World) : Calls Try.prog 27 #[.slice none 0 0, f] w fun e w' => e = .returned (.tuple #[]) ∧ w' = w := by
  have hp := fun m W => pdq_nil f m W
  have hl := fun W => Try.bits_Len 0 W (by omega) (by omega)
  go_enter Try.func27, Try.ntmps27
  go_wp2_with (first | (go_at_call 31; refine (hl _).mono ?_; rintro e w' ⟨rfl, rfl⟩) | (go_at_call 36; refine (hp _ _).mono ?_; rintro e w' ⟨rfl, rfl⟩))
  go_end0
  exact ⟨rfl, rfl⟩
end Go.Proofs.Ytnkcgfpjedlpaaa
