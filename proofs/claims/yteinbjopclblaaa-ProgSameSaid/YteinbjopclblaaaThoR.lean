/- The walk of prog.ready. -/
import Derived.Test.YteinbjopclblaaaThoG
namespace Go.Proofs.Yteinbjopclblaaa
open Go.RowKit

set_option maxRecDepth 100000 in
theorem ready_any (P : List Ins) (A : Option Addr) (c : Nat) (s : ByteArray) (w : World) (h : Sl w w.heap.size 7 A P.length (P.flatMap cellsP)) (hok : OkP P) (h0 : 0 < P.length) (h4 : P.length ≤ 400) :
    Calls Try.prog 88 #[.slice A P.length c, .string s] w fun e w' => e = .returned (.int .i64 (if 8192 < s.size then 2 else 0)) ∧ Below w.heap.size w w' := by
  have HC := Lib.hid (PCheck_any P A c w h hok h0 h4)
  clear hok h
  by_cases hs : 8192 < s.size
  · have d1 : decide (8192 < (s.size : Int)) = true := by simp; omega
    rw [if_pos hs]
    go_enter Try.func88, Try.ntmps88
    go_wp2_with fail
    refine HC.out.mono ?_
    rintro e w1 ⟨rfl, hb⟩
    go_wp2_with fail
    go_ret
    exact ⟨rfl, hb⟩
  · have d1 : decide (8192 < (s.size : Int)) = false := by simp; omega
    rw [if_neg hs]
    go_enter Try.func88, Try.ntmps88
    go_wp2_with fail
    refine HC.out.mono ?_
    rintro e w1 ⟨rfl, hb⟩
    go_wp2_with fail
    go_ret
    exact ⟨rfl, hb⟩
end Go.Proofs.Yteinbjopclblaaa
