/- ops.Holds at parts of texts. -/
import Derived.Test.YtipkelbbfgidhaaGreatDoorOpsU
namespace Go.Proofs.YtipkelbbfgidhaaGreatDoor
open Go.RowKit

def tstT (op : Int) (arg v : ByteArray) : Bool := if op = 4 then Lib.contains v.data.toList arg.data.toList else if op = 5 then Lib.hasPrefix v.data.toList arg.data.toList else if op = 6 then Lib.hasSuffix v.data.toList arg.data.toList else v.toList == arg.toList
set_option maxRecDepth 100000 in
set_option maxHeartbeats 1600000 in
theorem textTest_any (op : Int) (hop : op = 3 ∨ op = 4 ∨ op = 5 ∨ op = 6) (arg v : ByteArray) (hv : v.size ≤ 8192) (g1 g2 : Nat) (w : World) (hlib : LibOk w) (h1 : w.cell? ⟨g1, 0, none⟩ = some (.int .i64 op)) (h2 : w.cell? ⟨g2, 0, none⟩ = some (.string arg)) :
    Calls Tryz.prog 14 #[.string v, .pointer (some ⟨g1, 0, none⟩), .pointer (some ⟨g2, 0, none⟩)] w fun e w' => e = .returned (.bool (tstT op arg v)) ∧ Below w.heap.size w w' := by
  obtain ⟨m, hm⟩ := hlib
  have HC := Lib.hid (Tryz.strings_Contains v arg m w (by omega) hm)
  have HP := Lib.hid (Tryz.strings_HasPrefix v arg w)
  have HS := Lib.hid (Tryz.strings_HasSuffix v arg w (by omega))
  unfold tstT
  rcases hop with rfl | rfl | rfl | rfl
  all_goals
    go_enter Tryz.func14, Tryz.ntmps14
    go_wp2_with (first | (go_at_call 15; refine HC.out.mono ?_; rintro e w1 ⟨rfl, rfl⟩) | (go_at_call 16; refine HP.out.mono ?_; rintro e w1 ⟨rfl, rfl⟩) | (go_at_call 17; refine HS.out.mono ?_; rintro e w1 ⟨rfl, rfl⟩))
    go_ret
    exact ⟨rfl, Below.refl _ _⟩
set_option maxRecDepth 100000 in
set_option maxHeartbeats 1600000 in
theorem holdsT_any (op : Int) (hop : op = 3 ∨ op = 4 ∨ op = 5 ∨ op = 6) (arg v : ByteArray) (w : World) (hlib : LibOk w) (is ok : Bool) (hyes : arg.size ≤ 200 ∧ v.size ≤ 8192 → is = tstT op arg v ∧ ok = true) (hno : ¬ (arg.size ≤ 200 ∧ v.size ≤ 8192) → is = false ∧ ok = false) :
    Calls Tryz.prog 6 #[.int .i64 op, .string arg, .string v] w (HeldPost is ok w) := by
  have hb : Below w.heap.size w ((w.alloc (.cells #[.int .i64 op] 3)).alloc (.cells #[.string arg] 9)) := ((Below.refl _ _).alloc (Nat.le_refl _) _).alloc (by simp) _
  have c1 : ((w.alloc (.cells #[.int .i64 op] 3)).alloc (.cells #[.string arg] 9)).cell? ⟨w.heap.size, 0, none⟩ = some (.int .i64 op) :=
    cell_of_row _ _ 0 _ _ _ ((Below.heap_alloc _ _ _ (by simp)).trans (heap_alloc_new w _))
  have c2 : ((w.alloc (.cells #[.int .i64 op] 3)).alloc (.cells #[.string arg] 9)).cell? ⟨w.heap.size + 1, 0, none⟩ = some (.string arg) := by
    have := heap_alloc_new (w.alloc (.cells #[.int .i64 op] 3)) (.cells #[.string arg] 9)
    rw [World.size_alloc] at this
    exact cell_of_row _ _ 0 _ _ _ this
  have hlo : decide (op < 1) = false := decide_eq_false (by omega)
  have hhi : decide (12 < op) = false := decide_eq_false (by omega)
  by_cases ha : arg.size ≤ 200
  · have HM : Hid (Calls Tryz.prog 7 #[.int .i64 op, .string arg] w fun e w' => e = .returned (.tuple #[.func (.func 14) #[] #[.pointer (some ⟨w.heap.size, 0, none⟩), .pointer (some ⟨w.heap.size + 1, 0, none⟩)], .int .i64 0]) ∧ w' = (w.alloc (.cells #[.int .i64 op] 3)).alloc (.cells #[.string arg] 9)) := by
      have d1 : decide ((200 : Int) < (arg.size : Int)) = false := by simp; omega
      unfold Hid
      clear hyes hno hlib
      rcases hop with rfl | rfl | rfl | rfl
      all_goals
        go_enter Tryz.func7, Tryz.ntmps7
        go_wp2_with fail
        go_ret2
        exact ⟨rfl, rfl⟩
    by_cases hbig : 8192 < v.size
    · obtain ⟨rfl, rfl⟩ := hno (fun h => by omega)
      have d0 : decide ((8192 : Int) < (v.size : Int)) = true := by simp; omega
      clear hyes hno hlib c1 c2
      go_enter Tryz.func6, Tryz.ntmps6
      go_wp2_with (go_at_call 7; apply Hid.out)
      unfold Hid
      refine HM.out.mono ?_
      rintro e w1 ⟨rfl, rfl⟩
      go_wp2_with fail
      go_ret2
      exact ⟨2, by decide, rfl, hb⟩
    · obtain ⟨rfl, rfl⟩ := hyes ⟨ha, by omega⟩
      have d0 : decide ((8192 : Int) < (v.size : Int)) = false := by simp; omega
      have HT := Lib.hid (textTest_any op hop arg v (by omega) w.heap.size (w.heap.size + 1) ((w.alloc (.cells #[.int .i64 op] 3)).alloc (.cells #[.string arg] 9)) (hlib.below hb) c1 c2)
      generalize tstT op arg v = b at *
      clear hyes hno hlib c1 c2
      go_enter Tryz.func6, Tryz.ntmps6
      go_wp2_with (go_at_call 7; apply Hid.out)
      unfold Hid
      refine HM.out.mono ?_
      rintro e w1 ⟨rfl, rfl⟩
      go_wp2_with (go_at_call 14; apply Hid.out)
      unfold Hid
      refine HT.out.mono ?_
      rintro e w2 ⟨rfl, hb2⟩
      go_wp2_with fail
      go_ret2
      exact ⟨0, by simp, rfl, hb.trans (hb2.mono hb.size)⟩
  · obtain ⟨rfl, rfl⟩ := hno (fun h => ha h.1)
    have HM : Hid (Calls Tryz.prog 7 #[.int .i64 op, .string arg] w fun e w' => e = .returned (.tuple #[Value.nilFunc, .int .i64 2]) ∧ w' = (w.alloc (.cells #[.int .i64 op] 3)).alloc (.cells #[.string arg] 9)) := by
      have d1 : decide ((200 : Int) < (arg.size : Int)) = true := by simp; omega
      unfold Hid
      clear hyes hno hlib
      rcases hop with rfl | rfl | rfl | rfl
      all_goals
        go_enter Tryz.func7, Tryz.ntmps7
        go_wp2_with fail
        go_ret2
        exact ⟨rfl, rfl⟩
    clear hyes hno hlib c1 c2
    go_enter Tryz.func6, Tryz.ntmps6
    go_wp2_with (go_at_call 7; apply Hid.out)
    unfold Hid
    refine HM.out.mono ?_
    rintro e w1 ⟨rfl, rfl⟩
    go_wp2_with fail
    go_ret2
    exact ⟨2, by decide, rfl, hb⟩
end Go.Proofs.YtipkelbbfgidhaaGreatDoor
