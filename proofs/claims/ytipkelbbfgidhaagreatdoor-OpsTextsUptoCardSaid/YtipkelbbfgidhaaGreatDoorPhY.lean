/- phrase.Make where the phrases are refused. -/
import Derived.Test.YtipkelbbfgidhaaGreatDoorPhW
namespace Go.Proofs.YtipkelbbfgidhaaGreatDoor
open Go.RowKit

theorem codeW_small (ws : List ByteArray) : codeW ws ≤ 2 := by
  unfold codeW
  repeat' split
  all_goals omega
theorem make_refused (A : Option Addr) (c n : Nat) (ws : List ByteArray) (w : World) (hn : ws.length = n) (h : Sl w w.heap.size 1 A n (ws.map Value.string)) (h0 : codeW ws ≠ 0) :
    Calls Tryz.prog 24 #[.slice A n c] w fun e w' => e = .returned (.tuple #[.slice none 0 0, .int .i64 (codeW ws : Nat)]) ∧ Below w.heap.size w w' := by
  have HC := Lib.hid (check_calls A c n ws w hn h)
  generalize codeW ws = r at *
  clear h
  go_enter Tryz.func24, Tryz.ntmps24
  go_wp2_with (go_at_call 49; refine HC.out.mono ?_; rintro e w1 ⟨rfl, hb⟩)
  go_ret2
  exact ⟨rfl, hb⟩
end Go.Proofs.YtipkelbbfgidhaaGreatDoor
