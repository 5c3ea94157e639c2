/- The walk of Rest. -/
import Derived.Test.YtchoenfclfafiaaDoorBase
namespace Go.Proofs.YtchoenfclfafiaaDoor
open Go.RowKit

set_option maxRecDepth 100000 in
set_option maxHeartbeats 800000 in
theorem RestN_any (n m : Int) (w : World) (h0 : 0 < m) (h1 : m ≤ 4611686018427387904) :
    Calls Tryd.prog 19 #[.int .i64 n, .int .i64 m] w fun e w' => ∃ j : Nat, e = .returned (.int .i64 (j : Int)) ∧ (j : Int) < m ∧ w' = w := by
  have a1 : n.tmod m < m := Int.tmod_lt_of_pos n h0
  have a2 : -m < n.tmod m := by
    have := Int.neg_tmod n m
    have := Int.tmod_lt_of_pos (-n) h0
    omega
  have hm0 : ¬ m = 0 := by omega
  obtain ⟨r, hr⟩ : ∃ r, n.tmod m = r := ⟨_, rfl⟩
  rw [hr] at a1 a2
  by_cases c : r < 0
  · go_enter Tryd.func19, Tryd.ntmps19
    go_wp2_with fail
    go_ret
    exact ⟨(r + m).toNat, by rw [Int.toNat_of_nonneg (by omega)]; rfl, by omega, rfl⟩
  · go_enter Tryd.func19, Tryd.ntmps19
    go_wp2_with fail
    go_ret
    exact ⟨r.toNat, by rw [Int.toNat_of_nonneg (by omega)]; rfl, by omega, rfl⟩

end Go.Proofs.YtchoenfclfafiaaDoor
