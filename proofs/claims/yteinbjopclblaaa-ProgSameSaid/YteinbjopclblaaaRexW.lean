/- The walks of R.Where at a set of one byte, and of letter. -/
import Derived.Test.YteinbjopclblaaaRexT
namespace Go.Proofs.Yteinbjopclblaaa
open Go.RowKit

/-- Four cells that are known whole. -/
def Four (w : World) (g : Nat) (s : Set4) : Prop := w.heap[g]? = some (.cells #[.int .u64 s.a, .int .u64 s.b, .int .u64 s.c, .int .u64 s.d] 61 (0, 0))
section
variable {w w' : World} {g : Nat} {s : Set4}
theorem Four.cells (h : Four w g s) : w.cell? ⟨g, 0, none⟩ = some (.int .u64 s.a) ∧ w.cell? ⟨g, 1, none⟩ = some (.int .u64 s.b) ∧ w.cell? ⟨g, 2, none⟩ = some (.int .u64 s.c) ∧ w.cell? ⟨g, 3, none⟩ = some (.int .u64 s.d) :=
  ⟨cell_of_row w g 0 _ _ (0, 0) h, cell_of_row w g 1 _ _ (0, 0) h, cell_of_row w g 2 _ _ (0, 0) h, cell_of_row w g 3 _ _ (0, 0) h⟩
theorem Four.frees (h : Four w g s) : w.frozen? ⟨g, 0, none⟩ = false ∧ w.frozen? ⟨g, 1, none⟩ = false ∧ w.frozen? ⟨g, 2, none⟩ = false ∧ w.frozen? ⟨g, 3, none⟩ = false := by unfold Four at h; simp [World.frozen?, h]
theorem Four.far (h : Four w g s) {k : Nat} (hne : g ≠ k) (j : Nat) (u : Value) : Four (w.setCell ⟨k, j, none⟩ u) g s := (Below.heap_setCell w ⟨k, j, none⟩ u g hne).trans h
theorem Four.drew (h : Four w g s) : Four w.drew g s := h
theorem Four.set1 (h : Four w g s) (u : Int) : Four (w.setCell ⟨g, 1, none⟩ (.int .u64 u)) g ⟨s.a, u, s.c, s.d⟩ := by unfold Four at h ⊢; simp [World.setCell, Array.getElem?_modify, h]
theorem Four.fill (h : Four w g s) (t : Set4) : Four ((((w.setCell ⟨g, 0, none⟩ (.int .u64 t.a)).setCell ⟨g, 1, none⟩ (.int .u64 t.b)).setCell ⟨g, 2, none⟩ (.int .u64 t.c)).setCell ⟨g, 3, none⟩ (.int .u64 t.d)) g t := by unfold Four at h ⊢; simp [World.setCell, Array.getElem?_modify, h]
end

theorem letter1_any (b x : Int) (g : Nat) (w : World) (hc : w.cell? ⟨g, 0, none⟩ = some (.int .i64 x)) : Calls Try.prog 73 #[.int .i64 b, .pointer (some ⟨g, 0, none⟩)] w fun e w' => e = .returned (.bool (b == x)) ∧ w' = w := by
  go_enter Try.func73, Try.ntmps73
  go_wp2_with fail
  go_ret
  exact ⟨rfl, rfl⟩

def upS (x k : Nat) : Set4 := if x < k then oneS x else .zero
def SetPost (s : Set4) (w : World) (e : Ending) (w' : World) : Prop := e = .returned (setV s) ∧ Below w.heap.size w w'
def WhRel (x gx : Nat) (w : World) (b : Value) (wr : World) : Prop :=
  ∃ k : Nat, k ≤ 256 ∧ b = .int .i64 k ∧ Four wr (w.heap.size + 1) (upS x k) ∧ Four wr w.heap.size .zero ∧ wr.cell? ⟨gx, 0, none⟩ = some (.int .i64 (x : Int)) ∧ Below w.heap.size w wr
theorem one97 : oneS 97 = ⟨0, 8589934592, 0, 0⟩ := by decide
theorem one98 : oneS 98 = ⟨0, 17179869184, 0, 0⟩ := by decide

set_option maxRecDepth 100000 in
set_option maxHeartbeats 1600000 in
theorem Where_any (x : Nat) (hx : x = 97 ∨ x = 98) (gx : Nat) (w : World) (hg : gx < w.heap.size) (hc : w.cell? ⟨gx, 0, none⟩ = some (.int .i64 (x : Int))) :
    Calls Try.prog 72 #[.func (.func 73) #[] #[.pointer (some ⟨gx, 0, none⟩)]] w (SetPost (oneS x) w) := by
  have h0 : ∀ W, W = (w.alloc (.cells #[.int .u64 0, .int .u64 0, .int .u64 0, .int .u64 0] 61)).alloc (.cells #[.int .u64 0, .int .u64 0, .int .u64 0, .int .u64 0] 61) → Four W (w.heap.size + 1) (upS x 0) ∧ Four W w.heap.size .zero ∧ W.cell? ⟨gx, 0, none⟩ = some (.int .i64 (x : Int)) ∧ Below w.heap.size w W := fun W hW => by
    have hb : Below w.heap.size w W := by rw [hW]; exact ((Below.refl _ _).alloc (Nat.le_refl _) _).alloc (by simp) _
    refine ⟨?_, ?_, (hb.cell (p := ⟨gx, 0, none⟩) hg).trans hc, hb⟩
    · have := heap_alloc_new (w.alloc (.cells #[.int .u64 0, .int .u64 0, .int .u64 0, .int .u64 0] 61)) (.cells #[.int .u64 0, .int .u64 0, .int .u64 0, .int .u64 0] 61)
      rw [World.size_alloc] at this
      unfold Four upS
      rw [if_neg (by omega), hW]
      exact this
    · unfold Four
      rw [hW]
      exact (Below.heap_alloc _ _ _ (by simp)).trans (heap_alloc_new w _)
  have H0 := Lib.hid h0
  clear h0 hc
  go_enter Try.func72, Try.ntmps72
  go_wp2_with fail
  go_loopw [4] (fun b wr => WhRel x gx w b wr) (fun b _ => 256 - (intOf b).toNat)
  case atStart => exact ⟨0, by omega, rfl, H0.out _ rfl⟩
  case round =>
    obtain ⟨k, hk, rfl, hF, hZ, hcx, hb⟩ := hrel
    by_cases hlt : k < 256
    · have hl1 := fun W h => letter1_any (k : Int) (x : Int) gx W h
      by_cases hit : k = x
      · subst hit
        have HU : Hid (upS k k = ⟨0, 0, 0, 0⟩) := by unfold Hid upS; rw [if_neg (Nat.lt_irrefl _)]; rfl
        have HU2 : Hid (upS k (k + 1) = oneS k) := by unfold Hid upS; rw [if_pos (Nat.lt_succ_self _)]
        rw [HU.out] at hF
        have ⟨c0, c1, c2, c3⟩ := hF.cells
        have ⟨d0, d1, d2, d3⟩ := hF.frees
        dsimp only at c0 c1 c2 c3
        rcases hx with rfl | rfl
        · have HL := Lib.hid (hl1 wr hcx)
          have HF := Lib.hid hF
          clear hl1
          go_wp2_with fail
          refine HL.out.mono ?_
          rintro e w2 ⟨rfl, rfl⟩
          go_wp2_with fail
          go_region
          go_wp2_with fail
          go_roundw
          case rel => exact ⟨98, by omega, rfl, by rw [HU2.out, one97]; exact (HF.out.set1 _).drew, (hZ.far (by omega) 1 _).drew, (by show World.cell? (World.setCell _ _ _) _ = _; rw [World.cell?_setCell_other _ _ _ _ (by intro e; cases e)]; exact hcx), (hb.setCell (by simp) _).drew⟩
          case measure => simp [intOf] <;> omega
        · have HL := Lib.hid (hl1 wr hcx)
          have HF := Lib.hid hF
          clear hl1
          go_wp2_with fail
          refine HL.out.mono ?_
          rintro e w2 ⟨rfl, rfl⟩
          go_wp2_with fail
          go_region
          go_wp2_with fail
          go_roundw
          case rel => exact ⟨99, by omega, rfl, by rw [HU2.out, one98]; exact (HF.out.set1 _).drew, (hZ.far (by omega) 1 _).drew, (by show World.cell? (World.setCell _ _ _) _ = _; rw [World.cell?_setCell_other _ _ _ _ (by intro e; cases e)]; exact hcx), (hb.setCell (by simp) _).drew⟩
          case measure => simp [intOf] <;> omega
      · have HU2 : Hid (upS x (k + 1) = upS x k) := by
          unfold Hid upS
          by_cases h : x < k
          · rw [if_pos h, if_pos (by omega)]
          · rw [if_neg h, if_neg (by omega)]
        have hq : ((k : Int) == (x : Int)) = false := by rw [beq_eq_false_iff_ne]; omega
        have hl2 := hl1 wr hcx
        rw [hq] at hl2
        have HL := Lib.hid hl2
        clear hl1 hl2 hq
        go_wp2_with fail
        refine HL.out.mono ?_
        rintro e w2 ⟨rfl, rfl⟩
        go_wp2_with fail
        go_roundw
        case rel => exact ⟨k + 1, by omega, by go_num, by rw [HU2.out]; exact hF, hZ, hcx, hb⟩
        case measure => simp [intOf] <;> omega
    · obtain rfl : k = 256 := by omega
      have HU2 : Hid (upS x 256 = oneS x) := by unfold Hid upS; rw [if_pos (by omega)]
      rw [HU2.out] at hF
      have ⟨c0, c1, c2, c3⟩ := hF.cells
      have ⟨z0, z1, z2, z3⟩ := hZ.cells
      have ⟨y0, y1, y2, y3⟩ := hZ.frees
      go_wp2_with fail
      have hFW := hZ.fill (oneS x)
      have hbW := (((hb.setCell (p := ⟨w.heap.size, 0, none⟩) (Nat.le_refl _) (.int .u64 (oneS x).a)).setCell (p := ⟨w.heap.size, 1, none⟩) (Nat.le_refl _) (.int .u64 (oneS x).b)).setCell (p := ⟨w.heap.size, 2, none⟩) (Nat.le_refl _) (.int .u64 (oneS x).c)).setCell (p := ⟨w.heap.size, 3, none⟩) (Nat.le_refl _) (.int .u64 (oneS x).d)
      generalize ((((wr.setCell ⟨w.heap.size, 0, none⟩ (.int .u64 (oneS x).a)).setCell ⟨w.heap.size, 1, none⟩ (.int .u64 (oneS x).b)).setCell ⟨w.heap.size, 2, none⟩ (.int .u64 (oneS x).c)).setCell ⟨w.heap.size, 3, none⟩ (.int .u64 (oneS x).d)) = WF at *
      obtain ⟨s0, s1, s2, s3⟩ := hFW.cells
      exact bodyPost_ret (v := setV (oneS x)) (by simp [results, Try.results72, go_sem, s0, s1, s2, s3, setV]) rfl ⟨rfl, hbW⟩

theorem six_fill {w : World} {g : Nat} {t : TypeId} {c0 c1 c2 c3 c4 c5 : Value} (h : w.heap[g]? = some (.cells #[c0, c1, c2, c3, c4, c5] t (0, 0))) (x0 x1 x2 x3 x4 x5 : Value) :
    ((((((w.setCell ⟨g, 0, none⟩ x0).setCell ⟨g, 1, none⟩ x1).setCell ⟨g, 2, none⟩ x2).setCell ⟨g, 3, none⟩ x3).setCell ⟨g, 4, none⟩ x4).setCell ⟨g, 5, none⟩ x5).heap[g]? = some (.cells #[x0, x1, x2, x3, x4, x5] t (0, 0)) := by
  simp [World.setCell, Array.getElem?_modify, h]
theorem below_six {B g : Nat} {a w : World} (h : Below B a w) (hB : B ≤ g) (x0 x1 x2 x3 x4 x5 : Value) :
    Below B a ((((((w.setCell ⟨g, 0, none⟩ x0).setCell ⟨g, 1, none⟩ x1).setCell ⟨g, 2, none⟩ x2).setCell ⟨g, 3, none⟩ x3).setCell ⟨g, 4, none⟩ x4).setCell ⟨g, 5, none⟩ x5) :=
  (((((h.setCell (p := ⟨g, 0, none⟩) hB x0).setCell (p := ⟨g, 1, none⟩) hB x1).setCell (p := ⟨g, 2, none⟩) hB x2).setCell (p := ⟨g, 3, none⟩) hB x3).setCell (p := ⟨g, 4, none⟩) hB x4).setCell (p := ⟨g, 5, none⟩) hB x5
theorem oneS_wf (x : Nat) (hx : x = 97 ∨ x = 98) : (oneS x).Wf := by
  rcases hx with rfl | rfl
  · rw [one97]; exact ⟨⟨by decide, by decide⟩, ⟨by decide, by decide⟩, ⟨by decide, by decide⟩, ⟨by decide, by decide⟩⟩
  · rw [one98]; exact ⟨⟨by decide, by decide⟩, ⟨by decide, by decide⟩, ⟨by decide, by decide⟩, ⟨by decide, by decide⟩⟩
set_option maxRecDepth 100000 in
set_option maxHeartbeats 800000 in
theorem letter_any (x : Nat) (hx : x = 97 ∨ x = 98) (w : World) : Calls Try.prog 36 #[.int .i64 (x : Int)] w (TreePost (letT x) w) := by
  have HW : Hid (∀ o, Calls Try.prog 72 #[.func (.func 73) #[] #[.pointer (some ⟨w.heap.size, 0, none⟩)]] ((w.alloc (.cells #[.int .i64 (x : Int)] 3)).alloc o) (SetPost (oneS x) ((w.alloc (.cells #[.int .i64 (x : Int)] 3)).alloc o))) := fun o =>
    Where_any x hx w.heap.size _ (by simp; omega) (by
      have h1 := ((Below.refl _ _).alloc (Nat.le_refl (w.alloc (.cells #[.int .i64 (x : Int)] 3)).heap.size) o).cell (p := ⟨w.heap.size, 0, none⟩) (by simp)
      rw [h1, cell_of_row _ w.heap.size 0 #[.int .i64 (x : Int)] 3 (0, 0) (heap_alloc_new w _)]
      rfl)
  have hwf := Lib.hid (oneS_wf x hx)
  have HL : Hid (∀ W, LT W W.heap.size (letT x) (cellsX 3 (oneS x) none 0 0)) := fun W => by unfold letT; rw [LT]; exact ⟨none, 0, rfl, hwf.out, LK.nil _ _ _⟩
  go_enter Try.func36, Try.ntmps36
  go_wp2_with fail
  refine (HW.out _).mono ?_
  rintro e w1 ⟨rfl, hb1⟩
  have hbw := below_new (below_new hb1 (Nat.le_refl _)) (Nat.le_refl _)
  have g0 := new_cell hb1 0
  have g1 := new_cell hb1 1
  have g2 := new_cell hb1 2
  have g3 := new_cell hb1 3
  have g4 := new_cell hb1 4
  have g5 := new_cell hb1 5
  have u0 := new_free hb1 0
  have u1 := new_free hb1 1
  have u2 := new_free hb1 2
  have u3 := new_free hb1 3
  have u4 := new_free hb1 4
  have u5 := new_free hb1 5
  simp only [World.size_alloc] at g0 g1 g2 g3 g4 g5 u0 u1 u2 u3 u4 u5
  have hblk : w1.heap[w.heap.size + 1]? = some (.cells #[.int .i64 0, .int .u64 0, .int .u64 0, .int .u64 0, .int .u64 0, .slice none 0 0] 64 (0, 0)) := by
    have h1 := hb1.block (w.heap.size + 1) (by simp)
    have h2 := heap_alloc_new (w.alloc (.cells #[.int .i64 (x : Int)] 3)) (.cells #[.int .i64 0, .int .u64 0, .int .u64 0, .int .u64 0, .int .u64 0, .slice none 0 0] 64)
    rw [World.size_alloc] at h2
    exact h1.trans h2
  have HBK := Lib.hid hblk
  unfold setV
  clear hb1 hblk
  go_wp2_with fail
  have hF := six_fill HBK.out (.int .i64 3) (.int .u64 (oneS x).a) (.int .u64 (oneS x).b) (.int .u64 (oneS x).c) (.int .u64 (oneS x).d) (.slice none 0 0)
  have hbF := below_six (g := w.heap.size + 1) hbw (Nat.le_succ _) (.int .i64 3) (.int .u64 (oneS x).a) (.int .u64 (oneS x).b) (.int .u64 (oneS x).c) (.int .u64 (oneS x).d) (.slice none 0 0)
  generalize ((((((w1.setCell ⟨w.heap.size + 1, 0, none⟩ (.int .i64 3)).setCell ⟨w.heap.size + 1, 1, none⟩ (.int .u64 (oneS x).a)).setCell ⟨w.heap.size + 1, 2, none⟩ (.int .u64 (oneS x).b)).setCell ⟨w.heap.size + 1, 3, none⟩ (.int .u64 (oneS x).c)).setCell ⟨w.heap.size + 1, 4, none⟩ (.int .u64 (oneS x).d)).setCell ⟨w.heap.size + 1, 5, none⟩ (.slice none 0 0)) = WF at *
  have s0 := cell_of_row WF (w.heap.size + 1) 0 _ _ (0, 0) hF
  have s1 := cell_of_row WF (w.heap.size + 1) 1 _ _ (0, 0) hF
  have s2 := cell_of_row WF (w.heap.size + 1) 2 _ _ (0, 0) hF
  have s3 := cell_of_row WF (w.heap.size + 1) 3 _ _ (0, 0) hF
  have s4 := cell_of_row WF (w.heap.size + 1) 4 _ _ (0, 0) hF
  have s5 := cell_of_row WF (w.heap.size + 1) 5 _ _ (0, 0) hF
  exact bodyPost_ret (v := argX (letT x) none 0) (by simp [results, Try.results36, go_sem, s0, s1, s2, s3, s4, s5, argX, letT, Tree.kind, Tree.set, Tree.kids]) rfl ⟨none, 0, rfl, HL.out WF, hbF⟩
end Go.Proofs.Yteinbjopclblaaa
