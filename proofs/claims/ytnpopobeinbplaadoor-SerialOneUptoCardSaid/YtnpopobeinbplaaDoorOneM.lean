/- The walks of one.One, wickref.SameRequest (the same requests), wickkeep.wide. -/
import Derived.Test.YtnpopobeinbplaaDoorOneX
namespace Go.Proofs.YtnpopobeinbplaaDoor
open Go.RowKit

set_option maxRecDepth 100000 in
set_option maxHeartbeats 1600000 in
theorem One_bad (s : ByteArray) (H B A0 : Int) (w : World) (hb : boundsB H B A0 = false) :
    Calls Tryd.prog 21 #[.string s, .agg #[.int .i64 H, .int .i64 B, .int .i64 A0]] w fun e w' => e = .returned (.tuple #[zReq, .int .i64 0, .int .i64 1]) ∧ Below w.heap.size w w' := by
  obtain ⟨W0, hW0⟩ : ∃ W0, (w.alloc (.cells #[.int .i64 H, .int .i64 B, .int .i64 A0] 36)).alloc (.cells #[.string (ByteArray.mk #[]), .string (ByteArray.mk #[]), .slice none 0 0, .string (ByteArray.mk #[])] 50) = W0 := ⟨_, rfl⟩
  have hal : Below (w.heap.size + 1) (w.alloc (.cells #[.int .i64 H, .int .i64 B, .int .i64 A0] 36)) W0 := by rw [← hW0]; exact (Below.refl _ _).alloc (by simp) _
  have hr0 : ReqAt (w.heap.size + 1) W0 := by
    rw [← hW0]
    have := heap_alloc_new (w.alloc (.cells #[.int .i64 H, .int .i64 B, .int .i64 A0] 36)) (.cells #[.string (ByteArray.mk #[]), .string (ByteArray.mk #[]), .slice none 0 0, .string (ByteArray.mk #[])] 50)
    rw [World.size_alloc] at this
    exact this
  have hz0 : w.heap.size + 2 ≤ W0.heap.size := by rw [← hW0]; simp
  obtain ⟨h1, h2⟩ := box_facts hal
  have b0 : W0.cell? ⟨w.heap.size, 0, none⟩ = some (.int .i64 H) := h1 0
  have b1 : W0.cell? ⟨w.heap.size, 1, none⟩ = some (.int .i64 B) := h1 1
  have b2 : W0.cell? ⟨w.heap.size, 2, none⟩ = some (.int .i64 A0) := h1 2
  have hck := OCheck_any H B A0 W0
  unfold bndE at hck
  rw [if_neg (by rw [hb]; decide)] at hck
  have HC := Lib.hid hck
  have HW0 := Lib.hid hW0
  clear hal hW0 hck h1
  unfold zReq
  go_enter Tryd.func21, Tryd.ntmps21
  go_upto_region 1 with fail
  rw [HW0.out]
  go_wp2_with fail
  refine HC.out.mono ?_
  rintro e w1 ⟨rfl, hb1⟩
  have hRR := hr0.below hb1 (by omega)
  have r0 := hRR.cells.1
  have r1 := hRR.cells.2.1
  have r2 := hRR.cells.2.2.1
  have r3 := hRR.cells.2.2.2
  have f0 := hRR.free 0
  have f1 := hRR.free 1
  have f2 := hRR.free 2
  have f3 := hRR.free 3
  have hbw := h2.trans (hb1.mono (show w.heap.size ≤ W0.heap.size by omega))
  clear b0 b1 b2 hRR hr0
  go_wp2_with fail
  have t := four_set (.string (ByteArray.mk #[])) (.string (ByteArray.mk #[])) (.slice none 0 0) (.string (ByteArray.mk #[])) r0 r1 r2 r3
  exact bodyPost_ret (v := .tuple #[.agg #[.string (ByteArray.mk #[]), .string (ByteArray.mk #[]), .slice none 0 0, .string (ByteArray.mk #[])], .int .i64 0, .int .i64 1]) (by simp [results, Tryd.results21, go_sem, t.1, t.2.1, t.2.2.1, t.2.2.2]) rfl ⟨rfl, putReq_below hbw (Nat.le_succ _) _ _ _ _⟩

theorem bounds_in {H B A0 : Int} (hb : boundsB H B A0 = true) : (30 ≤ H ∧ H ≤ 4096) ∧ (0 ≤ B ∧ B ≤ 4096) := by
  unfold boundsB at hb
  simp only [Bool.and_eq_true, decide_eq_true_eq] at hb
  exact ⟨hb.1.1, hb.1.2⟩
set_option maxRecDepth 100000 in
set_option maxHeartbeats 1600000 in
theorem One_any (s : ByteArray) (H B A0 : Int) (w : World) (hb : boundsB H B A0 = true) (hlib : LibOk w) (hs : s.size ≤ 4611686018427387904) :
    Calls Tryd.prog 21 #[.string s, .agg #[.int .i64 H, .int .i64 B, .int .i64 A0]] w (OnePost s.data.toList H B w) := by
  obtain ⟨hH, hB⟩ := bounds_in hb
  obtain ⟨W0, hW0⟩ : ∃ W0, (w.alloc (.cells #[.int .i64 H, .int .i64 B, .int .i64 A0] 36)).alloc (.cells #[.string (ByteArray.mk #[]), .string (ByteArray.mk #[]), .slice none 0 0, .string (ByteArray.mk #[])] 50) = W0 := ⟨_, rfl⟩
  have hal : Below (w.heap.size + 1) (w.alloc (.cells #[.int .i64 H, .int .i64 B, .int .i64 A0] 36)) W0 := by rw [← hW0]; exact (Below.refl _ _).alloc (by simp) _
  have hr0 : ReqAt (w.heap.size + 1) W0 := by
    rw [← hW0]
    have := heap_alloc_new (w.alloc (.cells #[.int .i64 H, .int .i64 B, .int .i64 A0] 36)) (.cells #[.string (ByteArray.mk #[]), .string (ByteArray.mk #[]), .slice none 0 0, .string (ByteArray.mk #[])] 50)
    rw [World.size_alloc] at this
    exact this
  have hz0 : w.heap.size + 2 ≤ W0.heap.size := by rw [← hW0]; simp
  have hbx : ∀ W, Below (w.heap.size + 2) W0 W → (W.cell? ⟨w.heap.size, 0, none⟩ = some (.int .i64 H) ∧ W.cell? ⟨w.heap.size, 1, none⟩ = some (.int .i64 B) ∧ W.cell? ⟨w.heap.size, 2, none⟩ = some (.int .i64 A0)) ∧ ReqAt (w.heap.size + 1) W ∧ Below w.heap.size w W := fun W hb => by
    obtain ⟨h1, h2⟩ := box_facts (hal.trans (hb.mono (Nat.le_succ _)))
    exact ⟨⟨h1 0, h1 1, h1 2⟩, hr0.below hb (Nat.lt_succ_self _), h2⟩
  have HBX := Lib.hid hbx
  have ⟨⟨b0, b1, b2⟩, _, _⟩ := hbx W0 (Below.refl _ _)
  have hck := OCheck_any H B A0 W0
  unfold bndE at hck
  rw [if_pos hb] at hck
  have HC := Lib.hid hck
  have HONE : Hid (∀ W, Below w.heap.size w W → _) := fun W hb => one_any s H B A0 W ⟨by omega, hH.2⟩ hB (hlib.below hb) hs
  have HW0 := Lib.hid hW0
  clear hal hW0 hck hbx hr0 hlib hs hb hH hB
  go_enter Tryd.func21, Tryd.ntmps21
  go_upto_region 1 with fail
  rw [HW0.out]
  go_wp2_with fail
  refine HC.out.mono ?_
  rintro e w1 ⟨rfl, hb1⟩
  have hb1 := hb1.mono hz0
  have ⟨⟨c0, c1, c2⟩, _, hw1⟩ := HBX.out w1 hb1
  have HON := Lib.hid (HONE.out w1 hw1)
  have hz1 : w.heap.size + 2 ≤ w1.heap.size := Nat.le_trans hz0 hb1.size
  clear b0 b1 b2 hw1
  go_wp2_with fail
  refine HON.out.mono ?_
  rintro e w2 (⟨x, hx, rfl, hb2⟩ | ⟨q, n, A, c, hx, rfl, hO, hb2⟩)
  · have hb3 := hb1.trans (hb2.mono hz1)
    have ⟨_, hRR, hbw⟩ := HBX.out w2 hb3
    have HP : Hid (OnePost s.data.toList H B w (.returned (.tuple #[.agg #[.string (ByteArray.mk #[]), .string (ByteArray.mk #[]), .slice none 0 0, .string (ByteArray.mk #[])], .int .i64 0, .int .i64 x])) (putReq w2 (w.heap.size + 1) (.string (ByteArray.mk #[])) (.string (ByteArray.mk #[])) (.slice none 0 0) (.string (ByteArray.mk #[])))) :=
      .inl ⟨x, hx, rfl, putReq_below hbw (Nat.le_succ _) _ _ _ _⟩
    have r0 := hRR.cells.1
    have r1 := hRR.cells.2.1
    have r2 := hRR.cells.2.2.1
    have r3 := hRR.cells.2.2.2
    have f0 := hRR.free 0
    have f1 := hRR.free 1
    have f2 := hRR.free 2
    have f3 := hRR.free 3
    unfold zReq
    clear c0 c1 c2 hRR hbw hb1 hb2 hb3 hx
    go_wp2_with fail
    have t := four_set (.string (ByteArray.mk #[])) (.string (ByteArray.mk #[])) (.slice none 0 0) (.string (ByteArray.mk #[])) r0 r1 r2 r3
    exact bodyPost_ret (v := .tuple #[.agg #[.string (ByteArray.mk #[]), .string (ByteArray.mk #[]), .slice none 0 0, .string (ByteArray.mk #[])], .int .i64 0, .int .i64 x]) (by simp [results, Tryd.results21, go_sem, t.1, t.2.1, t.2.2.1, t.2.2.2]) rfl HP.out
  · have hb3 := hb1.trans (hb2.mono hz1)
    have ⟨_, hRR, hbw⟩ := HBX.out w2 hb3
    have hO2 : OwnV (putReq w2 (w.heap.size + 1) (.string q.h.m) (.string q.h.t) (.slice A q.h.fs.length c) (.string (bs q.b))) w.heap.size (.slice A q.h.fs.length c) q.h.fs := by
      refine (hO.keep fun g hg => ?_).low (by omega)
      exact putReq_heap (fun e => by have := (World.ownsRow.lt hO g hg).1; omega) _ _ _ _
    have HP : Hid (OnePost s.data.toList H B w (.returned (.tuple #[.agg #[.string q.h.m, .string q.h.t, .slice A q.h.fs.length c, .string (bs q.b)], .int .i64 (n : Int), .int .i64 0])) (putReq w2 (w.heap.size + 1) (.string q.h.m) (.string q.h.t) (.slice A q.h.fs.length c) (.string (bs q.b)))) :=
      .inr ⟨q, n, A, c, hx, rfl, hO2, putReq_below hbw (Nat.le_succ _) _ _ _ _⟩
    have r0 := hRR.cells.1
    have r1 := hRR.cells.2.1
    have r2 := hRR.cells.2.2.1
    have r3 := hRR.cells.2.2.2
    have f0 := hRR.free 0
    have f1 := hRR.free 1
    have f2 := hRR.free 2
    have f3 := hRR.free 3
    unfold reqV
    clear c0 c1 c2 hRR hbw hb1 hb2 hb3 hx hO hO2
    go_wp2_with fail
    have t := four_set (.string q.h.m) (.string q.h.t) (.slice A q.h.fs.length c) (.string (bs q.b)) r0 r1 r2 r3
    exact bodyPost_ret (v := .tuple #[.agg #[.string q.h.m, .string q.h.t, .slice A q.h.fs.length c, .string (bs q.b)], .int .i64 (n : Int), .int .i64 0]) (by simp [results, Tryd.results21, go_sem, t.1, t.2.1, t.2.2.1, t.2.2.2]) rfl HP.out

set_option maxRecDepth 100000 in
set_option maxHeartbeats 800000 in
theorem SameReq_yes (m t b : ByteArray) (l : List PairV) (A1 A2 : Option Addr) (c1 c2 : Nat) (w : World) (h1 : Sl w w.heap.size 2 A1 l.length (l.flatMap cellsV)) (h2 : Sl w w.heap.size 2 A2 l.length (l.flatMap cellsV)) (hl : l.length ≤ 4398046511104) :
    Calls Tryd.prog 20 #[.agg #[.string m, .string t, .slice A1 l.length c1, .string b], .agg #[.string m, .string t, .slice A2 l.length c2, .string b]] w fun e w' => e = .returned (.bool true) ∧ Below w.heap.size w w' := by
  obtain ⟨W0, hW0⟩ : ∃ W0, (w.alloc (.cells #[.string m, .string t, .slice A1 l.length c1, .string b] 50)).alloc (.cells #[.string m, .string t, .slice A2 l.length c2, .string b] 50) = W0 := ⟨_, rfl⟩
  have hb0 : Below w.heap.size w W0 := by rw [← hW0]; exact ((Below.refl _ _).alloc (Nat.le_refl _) _).alloc (by simp) _
  have ha : W0.heap[w.heap.size]? = some (.cells #[.string m, .string t, .slice A1 l.length c1, .string b] 50 (0, 0)) := by
    rw [← hW0]
    exact (Below.heap_alloc _ _ _ (by simp)).trans (heap_alloc_new w _)
  have hb : W0.heap[w.heap.size + 1]? = some (.cells #[.string m, .string t, .slice A2 l.length c2, .string b] 50 (0, 0)) := by
    rw [← hW0]
    have := heap_alloc_new (w.alloc (.cells #[.string m, .string t, .slice A1 l.length c1, .string b] 50)) (.cells #[.string m, .string t, .slice A2 l.length c2, .string b] 50)
    rw [World.size_alloc] at this
    exact this
  have HQ := Lib.hid (SameHead_yes m t l A1 A2 c1 c2 W0 ((h1.below hb0).more hb0.size) ((h2.below hb0).more hb0.size) hl)
  have a0 : W0.cell? ⟨w.heap.size, 0, none⟩ = some (.string m) := cell_of_row W0 _ 0 _ _ _ ha
  have a1 : W0.cell? ⟨w.heap.size, 1, none⟩ = some (.string t) := cell_of_row W0 _ 1 _ _ _ ha
  have a2 : W0.cell? ⟨w.heap.size, 2, none⟩ = some (.slice A1 l.length c1) := cell_of_row W0 _ 2 _ _ _ ha
  have a3 : W0.cell? ⟨w.heap.size, 3, none⟩ = some (.string b) := cell_of_row W0 _ 3 _ _ _ ha
  have d0 : W0.cell? ⟨w.heap.size + 1, 0, none⟩ = some (.string m) := cell_of_row W0 _ 0 _ _ _ hb
  have d1 : W0.cell? ⟨w.heap.size + 1, 1, none⟩ = some (.string t) := cell_of_row W0 _ 1 _ _ _ hb
  have d2 : W0.cell? ⟨w.heap.size + 1, 2, none⟩ = some (.slice A2 l.length c2) := cell_of_row W0 _ 2 _ _ _ hb
  have d3 : W0.cell? ⟨w.heap.size + 1, 3, none⟩ = some (.string b) := cell_of_row W0 _ 3 _ _ _ hb
  have e1 : (b.toList == b.toList) = true := by simp
  have HW0 := Lib.hid hW0
  clear h1 h2 ha hb hW0 hl
  go_enter Tryd.func20, Tryd.ntmps20
  go_upto_region 1 with fail
  rw [HW0.out]
  go_wp2_with fail
  refine HQ.out.mono ?_
  rintro e w2 ⟨rfl, hb2⟩
  have x0 := cell_kept hb2 a3
  have x1 := cell_kept hb2 d3
  have hb3 := hb0.trans (hb2.mono hb0.size)
  clear a0 a1 a2 a3 d0 d1 d2 d3
  go_wp2_with fail
  go_ret
  exact ⟨rfl, hb3⟩

set_option maxRecDepth 100000 in
set_option maxHeartbeats 800000 in
theorem wide_any (w : World) : Calls Tryd.prog 17 #[] w fun e w' => e = .returned (.agg #[.int .i64 4096, .int .i64 4096, .int .i64 40]) ∧ Below w.heap.size w w' := by
  have hb : Below w.heap.size w (w.alloc (.cells #[.int .i64 4096, .int .i64 4096, .int .i64 40] 36)) := (Below.refl _ _).alloc (Nat.le_refl _) _
  go_enter Tryd.func17, Tryd.ntmps17
  go_wp2_with fail
  exact bodyPost_ret (v := .agg #[.int .i64 4096, .int .i64 4096, .int .i64 40]) (by simp [results, Tryd.results17, go_sem]) rfl ⟨rfl, hb⟩
end Go.Proofs.YtnpopobeinbplaaDoor
