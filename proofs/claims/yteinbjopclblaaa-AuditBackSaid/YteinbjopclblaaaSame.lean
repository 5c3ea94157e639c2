/- SameRecord at equal records. -/
import Derived.Test.YteinbjopclblaaaAudD
import Derived.Test.YteinbjopclblaaaSlI
namespace Go.Proofs.Yteinbjopclblaaa
open Go.RowKit

set_option maxRecDepth 100000 in
set_option maxHeartbeats 1600000 in
theorem SameRecord_yes (r : Rec) (A A2 : Option Addr) (c c2 : Nat) (w : World) (h : Sl w w.heap.size 1 A r.matched.length (r.matched.map (Value.int .i64))) (h2 : Sl w w.heap.size 1 A2 r.matched.length (r.matched.map (Value.int .i64))) (hl : r.matched.length ≤ 9223372036854775807) :
    Calls Try.prog 31 #[recV r A c, recV r A2 c2] w (BoolPost true w) := by
  obtain ⟨co, ou, b, sc, ms, tg⟩ := r
  unfold recV
  dsimp only at h h2 hl ⊢
  go_enter Try.func31, Try.ntmps31
  go_wp2_with fail
  refine (EqualI_any _ _ (((h.alloc (Nat.le_refl _) _).more (by simp)).alloc (Nat.le_refl _) _) (((h2.alloc (Nat.le_refl _) _).more (by simp)).alloc (Nat.le_refl _) _) hl hl).mono ?_
  rintro e w1 ⟨rfl, q, rfl⟩
  go_wp2_with fail
  go_ret
  exact ⟨rfl, below_drewN (((Below.refl _ _).alloc (Nat.le_refl _) _).alloc (by simp) _) q⟩
end Go.Proofs.Yteinbjopclblaaa
