/- rex.Range at any two bytes. -/
import Derived.Test.YtnjjchbgnmjkjaaRdl
namespace Go.Proofs.Ytnjjchbgnmjkjaa
open Go.RowKit

def RgRel0 (lo : Nat) (w : World) (b : Value) (wr : World) : Prop :=
  b = .int .i64 lo ∧ FourW wr (w.heap.size + 1) (setF fun _ => false) ∧ FourW wr w.heap.size (setF fun _ => false) ∧ Below w.heap.size w wr

set_option maxRecDepth 100000 in
set_option maxHeartbeats 1600000 in
theorem Range_off (lo hi : Nat) (h1 : hi < lo) (w : World) :
    Calls Try.prog 101 #[.int .i64 lo, .int .i64 hi] w (SetPostW (setF fun _ => false) w) := by
  have h0 : ∀ W, W = (w.alloc (.cells #[.int .u64 0, .int .u64 0, .int .u64 0, .int .u64 0] 24)).alloc (.cells #[.int .u64 0, .int .u64 0, .int .u64 0, .int .u64 0] 24) → FourW W (w.heap.size + 1) (setF fun _ => false) ∧ FourW W w.heap.size (setF fun _ => false) ∧ Below w.heap.size w W := fun W hW => by
    have hb : Below w.heap.size w W := by rw [hW]; exact ((Below.refl _ _).alloc (Nat.le_refl _) _).alloc (by simp) _
    refine ⟨?_, ?_, hb⟩
    · have := FourW.new (w.alloc (.cells #[.int .u64 0, .int .u64 0, .int .u64 0, .int .u64 0] 24))
      rw [World.size_alloc] at this
      rw [hW]
      exact this
    · rw [hW]
      exact (Below.heap_alloc _ _ _ (by simp)).trans (FourW.new w)
  have H0 := Lib.hid h0
  clear h0
  go_enter Try.func101, Try.ntmps101
  go_wp2_with fail
  go_loopw [6] (fun b wr => RgRel0 lo w b wr) (fun b _ => 256 - (intOf b).toNat)
  case atStart => exact ⟨rfl, H0.out _ rfl⟩
  case round =>
      obtain ⟨rfl, hF, hZ, hb⟩ := hrel
      have d1 : decide ((lo : Int) ≤ (hi : Int)) = false := by simp; omega
      obtain ⟨S, hS⟩ : ∃ S, S = setF fun _ => false := ⟨_, rfl⟩
      rw [← hS] at hF hZ
      have HS := Lib.hid hS
      clear hS
      have ⟨c0, c1, c2, c3⟩ := hF.cells
      have ⟨z0, z1, z2, z3⟩ := hZ.cells
      have y0 := hZ.free 0
      have y1 := hZ.free 1
      have y2 := hZ.free 2
      have y3 := hZ.free 3
      go_wp2_with fail
      have hFW := hZ.fill S
      have hbW := (((hb.setCell (p := ⟨w.heap.size, 0, none⟩) (Nat.le_refl _) (.int .u64 S.a)).setCell (p := ⟨w.heap.size, 1, none⟩) (Nat.le_refl _) (.int .u64 S.b)).setCell (p := ⟨w.heap.size, 2, none⟩) (Nat.le_refl _) (.int .u64 S.c)).setCell (p := ⟨w.heap.size, 3, none⟩) (Nat.le_refl _) (.int .u64 S.d)
      generalize ((((wr.setCell ⟨w.heap.size, 0, none⟩ (.int .u64 S.a)).setCell ⟨w.heap.size, 1, none⟩ (.int .u64 S.b)).setCell ⟨w.heap.size, 2, none⟩ (.int .u64 S.c)).setCell ⟨w.heap.size, 3, none⟩ (.int .u64 S.d)) = WF at *
      obtain ⟨s0, s1, s2, s3⟩ := hFW.cells
      exact bodyPost_ret (v := setA S) (by simp [results, Try.results101, go_sem, s0, s1, s2, s3, setA]) rfl ⟨by rw [HS.out], hbW⟩
theorem Range_all (lo hi : Nat) (h2 : hi < 256) (w : World) :
    Calls Try.prog 101 #[.int .i64 lo, .int .i64 hi] w (SetPostW (setF (rgF lo hi)) w) := by
  rcases Nat.lt_or_ge hi lo with h | h
  · have e : setF (rgF lo hi) = setF fun _ => false := setF_congr fun x _ => by
      unfold rgF
      by_cases e : lo ≤ x
      · have : ¬ x ≤ hi := by omega
        simp [this]
      · simp [e]
    rw [e]
    exact Range_off lo hi h w
  · exact Range_any lo hi h h2 w
end Go.Proofs.Ytnjjchbgnmjkjaa
