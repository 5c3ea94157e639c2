/- The walks of octet: digits, numbers, sequences of UTF-8. -/
import Derived.Test.YtchoenfclfafiaaDoorBase
namespace Go.Proofs.YtchoenfclfafiaaDoor
open Go.RowKit

def digitI (b : UInt8) : Int :=
  if 48 ≤ b.toNat ∧ b.toNat ≤ 57 then (b.toNat : Int) - 48 else if 97 ≤ b.toNat ∧ b.toNat ≤ 102 then (b.toNat : Int) - 87 else if 65 ≤ b.toNat ∧ b.toNat ≤ 70 then (b.toNat : Int) - 55 else -1

set_option maxHeartbeats 400000 in
theorem digit_any (b : UInt8) (w : World) :
    Calls Tryd.prog 75 #[.int .u8 b.toNat] w fun e w' => e = .returned (.int .i64 (digitI b)) ∧ w' = w := by
  have hb : (b.toNat : Int) ≤ 255 := by have := b.toNat_lt; omega
  unfold digitI
  generalize b.toNat = n at *
  go_enter Tryd.func75, Tryd.ntmps75
  go_wp2
  all_goals
    go_ret
    exact ⟨ret_int (by (repeat' split) <;> omega), rfl⟩

theorem Digit_any (b : UInt8) (w : World) :
    Calls Tryd.prog 110 #[.int .u8 b.toNat] w fun e w' => e = .returned (.int .i64 (digitI b)) ∧ w' = w := by
  go_enter Tryd.func110, Tryd.ntmps110
  go_wp2_with (go_at_call 75; refine (digit_any _ _).mono ?_; rintro e w' ⟨rfl, rfl⟩)
  go_ret
  exact ⟨rfl, rfl⟩

end Go.Proofs.YtchoenfclfafiaaDoor
