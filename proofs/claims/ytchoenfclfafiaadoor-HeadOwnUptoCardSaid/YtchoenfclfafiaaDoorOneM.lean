/- The walks of one.One, wickref.SameRequest (the same requests), wickkeep.wide. -/
import Derived.Test.YtchoenfclfafiaaDoorOneX
namespace Go.Proofs.YtchoenfclfafiaaDoor
open Go.RowKit

theorem bounds_in {H B A0 : Int} (hb : boundsB H B A0 = true) : (30 ≤ H ∧ H ≤ 4096) ∧ (0 ≤ B ∧ B ≤ 4096) := by
  unfold boundsB at hb
  simp only [Bool.and_eq_true, decide_eq_true_eq] at hb
  exact ⟨hb.1.1, hb.1.2⟩
set_option maxRecDepth 100000 in
set_option maxHeartbeats 800000 in
theorem SameReq_yes (m t b : ByteArray) (l : List PairV) (A1 A2 : Option Addr) (c1 c2 : Nat) (w : World) (h1 : Sl w w.heap.size 2 A1 l.length (l.flatMap cellsV)) (h2 : Sl w w.heap.size 2 A2 l.length (l.flatMap cellsV)) (hl : l.length ≤ 4398046511104) :
    Calls Tryd.prog 21 #[.agg #[.string m, .string t, .slice A1 l.length c1, .string b], .agg #[.string m, .string t, .slice A2 l.length c2, .string b]] w fun e w' => e = .returned (.bool true) ∧ Below w.heap.size w w' := by
  obtain ⟨W0, hW0⟩ : ∃ W0, (w.alloc (.cells #[.string m, .string t, .slice A1 l.length c1, .string b] 31)).alloc (.cells #[.string m, .string t, .slice A2 l.length c2, .string b] 31) = W0 := ⟨_, rfl⟩
  have hb0 : Below w.heap.size w W0 := by rw [← hW0]; exact ((Below.refl _ _).alloc (Nat.le_refl _) _).alloc (by simp) _
  have ha : W0.heap[w.heap.size]? = some (.cells #[.string m, .string t, .slice A1 l.length c1, .string b] 31 (0, 0)) := by
    rw [← hW0]
    exact (Below.heap_alloc _ _ _ (by simp)).trans (heap_alloc_new w _)
  have hb : W0.heap[w.heap.size + 1]? = some (.cells #[.string m, .string t, .slice A2 l.length c2, .string b] 31 (0, 0)) := by
    rw [← hW0]
    have := heap_alloc_new (w.alloc (.cells #[.string m, .string t, .slice A1 l.length c1, .string b] 31)) (.cells #[.string m, .string t, .slice A2 l.length c2, .string b] 31)
    rw [World.size_alloc] at this
    exact this
  have HQ := Lib.hid (SameHead_yes m t l A1 A2 c1 c2 W0 ((h1.below hb0).more hb0.size) ((h2.below hb0).more hb0.size) hl)
  have a0 : W0.cell? ⟨w.heap.size, 0, none⟩ = some (.string m) := cell_of_row W0 _ 0 _ _ _ ha
  have a1 : W0.cell? ⟨w.heap.size, 1, none⟩ = some (.string t) := cell_of_row W0 _ 1 _ _ _ ha
  have a2 : W0.cell? ⟨w.heap.size, 2, none⟩ = some (.slice A1 l.length c1) := cell_of_row W0 _ 2 _ _ _ ha
  have a3 : W0.cell? ⟨w.heap.size, 3, none⟩ = some (.string b) := cell_of_row W0 _ 3 _ _ _ ha
  have d0 : W0.cell? ⟨w.heap.size + 1, 0, none⟩ = some (.string m) := cell_of_row W0 _ 0 _ _ _ hb
  have d1 : W0.cell? ⟨w.heap.size + 1, 1, none⟩ = some (.string t) := cell_of_row W0 _ 1 _ _ _ hb
  have d2 : W0.cell? ⟨w.heap.size + 1, 2, none⟩ = some (.slice A2 l.length c2) := cell_of_row W0 _ 2 _ _ _ hb
  have d3 : W0.cell? ⟨w.heap.size + 1, 3, none⟩ = some (.string b) := cell_of_row W0 _ 3 _ _ _ hb
  have e1 : (b.toList == b.toList) = true := by simp
  have HW0 := Lib.hid hW0
  clear h1 h2 ha hb hW0 hl
  go_enter Tryd.func21, Tryd.ntmps21
  go_upto_region 1 with fail
  rw [HW0.out]
  go_wp2_with fail
  refine HQ.out.mono ?_
  rintro e w2 ⟨rfl, hb2⟩
  have x0 := cell_kept hb2 a3
  have x1 := cell_kept hb2 d3
  have hb3 := hb0.trans (hb2.mono hb0.size)
  clear a0 a1 a2 a3 d0 d1 d2 d3
  go_wp2_with fail
  go_ret
  exact ⟨rfl, hb3⟩

set_option maxRecDepth 100000 in
set_option maxHeartbeats 800000 in
theorem wide_any (w : World) : Calls Tryd.prog 18 #[] w fun e w' => e = .returned (.agg #[.int .i64 4096, .int .i64 4096, .int .i64 40]) ∧ Below w.heap.size w w' := by
  have hb : Below w.heap.size w (w.alloc (.cells #[.int .i64 4096, .int .i64 4096, .int .i64 40] 47)) := (Below.refl _ _).alloc (Nat.le_refl _) _
  go_enter Tryd.func18, Tryd.ntmps18
  go_wp2_with fail
  exact bodyPost_ret (v := .agg #[.int .i64 4096, .int .i64 4096, .int .i64 40]) (by simp [results, Tryd.results18, go_sem]) rfl ⟨rfl, hb⟩
end Go.Proofs.YtchoenfclfafiaaDoor
