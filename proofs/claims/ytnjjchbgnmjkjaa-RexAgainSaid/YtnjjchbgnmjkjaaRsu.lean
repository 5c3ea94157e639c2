/- rex.union and rex.not. -/
import Derived.Test.YtnjjchbgnmjkjaaSetW
import Derived.Laws.Bits64
namespace Go.Proofs.Ytnjjchbgnmjkjaa
open Go.RowKit

theorem wdF_if (f h : Nat → Bool) (k j : Nat) : wdF (fun x => if x / 64 = k then h x else f x) j = if j = k then wdF h j else wdF f j := by
  have e : ∀ i, i < 64 → (64 * j + i) / 64 = j := fun i hi => by omega
  by_cases hjk : j = k
  · rw [if_pos hjk]
    refine Nat.eq_of_testBit_eq fun i => ?_
    rw [wdF_test, wdF_test]
    by_cases hi : i < 64
    · rw [e i hi, if_pos hjk]
    · simp [hi]
  · rw [if_neg hjk]
    refine Nat.eq_of_testBit_eq fun i => ?_
    rw [wdF_test, wdF_test]
    by_cases hi : i < 64
    · rw [e i hi, if_neg hjk]
    · simp [hi]
theorem putW_if (f h : Nat → Bool) (k : Nat) (hk : k < 4) : putW (setF f) k ((wdF h k : Nat) : Int) = setF (fun x => if x / 64 = k then h x else f x) := by
  unfold setF
  rw [wdF_if, wdF_if, wdF_if, wdF_if]
  have : k = 0 ∨ k = 1 ∨ k = 2 ∨ k = 3 := by omega
  rcases this with rfl | rfl | rfl | rfl <;> rfl
def upW (f h : Nat → Bool) (k : Nat) (x : Nat) : Bool := if x / 64 < k then h x else f x
theorem upW_step (f h : Nat → Bool) (k : Nat) (hk : k < 4) : putW (setF (upW f h k)) k ((wdF h k : Nat) : Int) = setF (upW f h (k + 1)) := by
  rw [putW_if _ _ _ hk]
  refine setF_congr fun x _ => ?_
  unfold upW
  by_cases e : x / 64 = k
  · rw [if_pos e, if_pos (by omega)]
  · rw [if_neg e]
    by_cases e2 : x / 64 < k
    · rw [if_pos e2, if_pos (by omega)]
    · rw [if_neg e2, if_neg (by omega)]
theorem upW_word (f h : Nat → Bool) (k : Nat) : wdF (upW f h k) k = wdF f k := by
  refine Nat.eq_of_testBit_eq fun i => ?_
  rw [wdF_test, wdF_test]
  by_cases hi : i < 64
  · unfold upW; rw [if_neg (by omega)]
  · simp [hi]
theorem upW_zero (f h : Nat → Bool) : setF (upW f h 0) = setF f := setF_congr fun x _ => by unfold upW; rw [if_neg (by omega)]
theorem upW_all (f h : Nat → Bool) : setF (upW f h 4) = setF h := setF_congr fun x hx => by unfold upW; rw [if_pos (by omega)]
theorem or_words (f h : Nat → Bool) (j : Nat) : bits .or .u64 ((wdF f j : Nat) : Int) ((wdF h j : Nat) : Int) = ((wdF (fun x => f x || h x) j : Nat) : Int) := by
  rw [bits_or_u64_nat (wdF f j) (wdF h j) (wdF_lt _ _) (wdF_lt _ _), wdF_or]
def UnRel (f h : Nat → Bool) (w : World) (i : Value) (wr : World) : Prop :=
  ∃ k : Nat, k ≤ 4 ∧ i = .int .i64 k ∧ FourW wr w.heap.size (setF (upW f (fun x => f x || h x) k)) ∧ FourW wr (w.heap.size + 1) (setF h) ∧ FourW wr (w.heap.size + 2) (setF fun _ => false) ∧ Below w.heap.size w wr

set_option maxRecDepth 100000 in
set_option maxHeartbeats 1600000 in
theorem union_any (f h : Nat → Bool) (w : World) :
    Calls Try.prog 111 #[setA (setF f), setA (setF h)] w (SetPostW (setF fun x => f x || h x) w) := by
  have h0 : ∀ W, W = ((w.alloc (.cells #[.int .u64 (setF f).a, .int .u64 (setF f).b, .int .u64 (setF f).c, .int .u64 (setF f).d] 24)).alloc (.cells #[.int .u64 (setF h).a, .int .u64 (setF h).b, .int .u64 (setF h).c, .int .u64 (setF h).d] 24)).alloc (.cells #[.int .u64 0, .int .u64 0, .int .u64 0, .int .u64 0] 24) → UnRel f h w (.int .i64 0) W := fun W hW => by
    refine ⟨0, by omega, rfl, ?_, ?_, ?_, ?_⟩
    · rw [upW_zero, hW]
      exact (Below.heap_alloc _ _ _ (by simp; omega)).trans ((Below.heap_alloc _ _ _ (by simp)).trans (heap_alloc_new w _))
    · rw [hW]
      have := heap_alloc_new (w.alloc (.cells #[.int .u64 (setF f).a, .int .u64 (setF f).b, .int .u64 (setF f).c, .int .u64 (setF f).d] 24)) (.cells #[.int .u64 (setF h).a, .int .u64 (setF h).b, .int .u64 (setF h).c, .int .u64 (setF h).d] 24)
      rw [World.size_alloc] at this
      exact (Below.heap_alloc _ _ _ (by simp)).trans this
    · have := FourW.new ((w.alloc (.cells #[.int .u64 (setF f).a, .int .u64 (setF f).b, .int .u64 (setF f).c, .int .u64 (setF f).d] 24)).alloc (.cells #[.int .u64 (setF h).a, .int .u64 (setF h).b, .int .u64 (setF h).c, .int .u64 (setF h).d] 24))
      rw [World.size_alloc, World.size_alloc] at this
      rw [hW]
      exact this
    · rw [hW]
      exact (((Below.refl _ _).alloc (Nat.le_refl _) _).alloc (by simp) _).alloc (by simp; omega) _
  have H0 := Lib.hid h0
  clear h0
  have HU : Hid (setF (upW f (fun x => f x || h x) 4) = setF fun x => f x || h x) := upW_all _ _
  unfold setA
  go_enter Try.func111, Try.ntmps111
  go_wp2_with fail
  go_loopw [5, 6] (fun _ i wr => UnRel f h w i wr) (fun _ i _ => 4 - (intOf i).toNat)
  case atStart => exact H0.out _ rfl
  case round =>
    obtain ⟨k, hk, rfl, hF, hG, hZ, hb⟩ := hrel
    by_cases hlt : k < 4
    · have d1 : decide ((k : Int) < 4) = true := by simp; omega
      have i7 : IntKind.i64.wrap ((k : Int) + 1) = (k : Int) + 1 := IntWalk.i64_in _ (by omega)
      have hc1 := hF.cell k hlt
      have hc2 := hG.cell k hlt
      rw [setF_word _ _ hlt] at hc1 hc2
      rw [upW_word] at hc1
      have hfr := hF.free k
      have hor := or_words f h k
      have HST := Lib.hid (upW_step f (fun x => f x || h x) k hlt)
      have hF3 := hF.put k hlt ((wdF (fun x => f x || h x) k : Nat) : Int)
      rw [HST.out] at hF3
      have hG3 := hG.far (k := w.heap.size) (by omega) k (.int .u64 ((wdF (fun x => f x || h x) k : Nat) : Int))
      have hZ3 := hZ.far (k := w.heap.size) (by omega) k (.int .u64 ((wdF (fun x => f x || h x) k : Nat) : Int))
      have hB3 := hb.setCell (p := ⟨w.heap.size, k, none⟩) (Nat.le_refl _) (.int .u64 ((wdF (fun x => f x || h x) k : Nat) : Int))
      generalize wdF (fun x => f x || h x) k = wu at *
      generalize wdF f k = w1 at *
      generalize wdF h k = w2 at *
      have HX := Lib.hid (And.intro hF3 (And.intro hG3 (And.intro hZ3 hB3)))
      clear hF hG hZ hb hF3 hG3 hZ3 hB3 HST HU H0
      go_wp2_with fail
      go_region
      generalize hws : wr.setCell ⟨w.heap.size, k, none⟩ (.int .u64 (wu : Int)) = w3 at *
      clear hws hc1 hc2 hfr
      go_wp2_with fail
      exact ⟨⟨k + 1, by omega, rfl, HX.out.1.drew, HX.out.2.1.drew, HX.out.2.2.1.drew, HX.out.2.2.2.drew⟩, by dsimp only [intOf]; omega⟩
    · obtain rfl : k = 4 := by omega
      have d1 : decide (((4 : Nat) : Int) < 4) = false := by decide
      rw [HU.out] at hF
      generalize hS : setF (fun x => f x || h x) = S at *
      have HS := Lib.hid hS
      clear hS
      have ⟨c0, c1, c2, c3⟩ := hF.cells
      have ⟨z0, z1, z2, z3⟩ := hZ.cells
      have y0 := hZ.free 0
      have y1 := hZ.free 1
      have y2 := hZ.free 2
      have y3 := hZ.free 3
      have HZ := Lib.hid (hZ.fill S)
      have HB := Lib.hid ((((hb.setCell (p := ⟨w.heap.size + 2, 0, none⟩) (by show w.heap.size ≤ w.heap.size + 2; omega) (.int .u64 S.a)).setCell (p := ⟨w.heap.size + 2, 1, none⟩) (by show w.heap.size ≤ w.heap.size + 2; omega) (.int .u64 S.b)).setCell (p := ⟨w.heap.size + 2, 2, none⟩) (by show w.heap.size ≤ w.heap.size + 2; omega) (.int .u64 S.c)).setCell (p := ⟨w.heap.size + 2, 3, none⟩) (by show w.heap.size ≤ w.heap.size + 2; omega) (.int .u64 S.d))
      clear hF hG hZ hb HU H0
      go_wp2_with fail
      have ⟨s0, s1, s2, s3⟩ := HZ.out.cells
      exact bodyPost_ret (v := setA S) (by simp [results, Try.results111, go_sem, s0, s1, s2, s3, setA]) rfl ⟨by rw [HS.out], HB.out⟩

theorem not_word (f : Nat → Bool) (j : Nat) : bits .xor .u64 (if IntKind.u64.signed = true then -1 else IntKind.u64.max) ((wdF f j : Nat) : Int) = ((wdF (fun x => !f x) j : Nat) : Int) := by
  have e : (if IntKind.u64.signed = true then -1 else IntKind.u64.max) = ((18446744073709551615 : Nat) : Int) := rfl
  rw [e, bits_xor_u64_nat _ _ (by decide) (wdF_lt _ _)]
  congr 1
  refine Nat.eq_of_testBit_eq fun i => ?_
  rw [Nat.testBit_xor, show (18446744073709551615 : Nat) = 2 ^ 64 - 1 from rfl, Nat.testBit_two_pow_sub_one, wdF_test, wdF_test]
  by_cases hi : i < 64
  · simp [hi]
  · simp [hi]
def NoRel (f : Nat → Bool) (w : World) (i : Value) (wr : World) : Prop :=
  ∃ k : Nat, k ≤ 4 ∧ i = .int .i64 k ∧ FourW wr w.heap.size (setF (upW f (fun x => !f x) k)) ∧ FourW wr (w.heap.size + 1) (setF fun _ => false) ∧ Below w.heap.size w wr

set_option maxRecDepth 100000 in
set_option maxHeartbeats 1600000 in
theorem rnot_any (f : Nat → Bool) (w : World) :
    Calls Try.prog 62 #[setA (setF f)] w (SetPostW (setF fun x => !f x) w) := by
  have h0 : ∀ W, W = (w.alloc (.cells #[.int .u64 (setF f).a, .int .u64 (setF f).b, .int .u64 (setF f).c, .int .u64 (setF f).d] 24)).alloc (.cells #[.int .u64 0, .int .u64 0, .int .u64 0, .int .u64 0] 24) → NoRel f w (.int .i64 0) W := fun W hW => by
    refine ⟨0, by omega, rfl, ?_, ?_, ?_⟩
    · rw [upW_zero, hW]
      exact (Below.heap_alloc _ _ _ (by simp)).trans (heap_alloc_new w _)
    · have := FourW.new (w.alloc (.cells #[.int .u64 (setF f).a, .int .u64 (setF f).b, .int .u64 (setF f).c, .int .u64 (setF f).d] 24))
      rw [World.size_alloc] at this
      rw [hW]
      exact this
    · rw [hW]
      exact ((Below.refl _ _).alloc (Nat.le_refl _) _).alloc (by simp) _
  have H0 := Lib.hid h0
  clear h0
  have HU : Hid (setF (upW f (fun x => !f x) 4) = setF fun x => !f x) := upW_all _ _
  unfold setA
  go_enter Try.func62, Try.ntmps62
  go_wp2_with fail
  go_loopw [3, 4] (fun _ i wr => NoRel f w i wr) (fun _ i _ => 4 - (intOf i).toNat)
  case atStart => exact H0.out _ rfl
  case round =>
    obtain ⟨k, hk, rfl, hF, hZ, hb⟩ := hrel
    by_cases hlt : k < 4
    · have d1 : decide ((k : Int) < 4) = true := by simp; omega
      have i7 : IntKind.i64.wrap ((k : Int) + 1) = (k : Int) + 1 := IntWalk.i64_in _ (by omega)
      have hc1 := hF.cell k hlt
      rw [setF_word _ _ hlt, upW_word] at hc1
      have hfr := hF.free k
      have hnw := not_word f k
      have HST := Lib.hid (upW_step f (fun x => !f x) k hlt)
      have hF3 := hF.put k hlt ((wdF (fun x => !f x) k : Nat) : Int)
      rw [HST.out] at hF3
      have hZ3 := hZ.far (k := w.heap.size) (by omega) k (.int .u64 ((wdF (fun x => !f x) k : Nat) : Int))
      have hB3 := hb.setCell (p := ⟨w.heap.size, k, none⟩) (Nat.le_refl _) (.int .u64 ((wdF (fun x => !f x) k : Nat) : Int))
      generalize wdF (fun x => !f x) k = wu at *
      generalize wdF f k = w1 at *
      have HX := Lib.hid (And.intro hF3 (And.intro hZ3 hB3))
      clear hF hZ hb hF3 hZ3 hB3 HST HU H0
      go_wp2_with fail
      exact ⟨⟨k + 1, by omega, rfl, HX.out.1, HX.out.2.1, HX.out.2.2⟩, by dsimp only [intOf]; omega⟩
    · obtain rfl : k = 4 := by omega
      have d1 : decide (((4 : Nat) : Int) < 4) = false := by decide
      rw [HU.out] at hF
      generalize hS : setF (fun x => !f x) = S at *
      have HS := Lib.hid hS
      clear hS
      have ⟨c0, c1, c2, c3⟩ := hF.cells
      have ⟨z0, z1, z2, z3⟩ := hZ.cells
      have y0 := hZ.free 0
      have y1 := hZ.free 1
      have y2 := hZ.free 2
      have y3 := hZ.free 3
      have HZ := Lib.hid (hZ.fill S)
      have HB := Lib.hid ((((hb.setCell (p := ⟨w.heap.size + 1, 0, none⟩) (by show w.heap.size ≤ w.heap.size + 1; omega) (.int .u64 S.a)).setCell (p := ⟨w.heap.size + 1, 1, none⟩) (by show w.heap.size ≤ w.heap.size + 1; omega) (.int .u64 S.b)).setCell (p := ⟨w.heap.size + 1, 2, none⟩) (by show w.heap.size ≤ w.heap.size + 1; omega) (.int .u64 S.c)).setCell (p := ⟨w.heap.size + 1, 3, none⟩) (by show w.heap.size ≤ w.heap.size + 1; omega) (.int .u64 S.d))
      clear hF hZ hb HU H0
      go_wp2_with fail
      have ⟨s0, s1, s2, s3⟩ := HZ.out.cells
      exact bodyPost_ret (v := setA S) (by simp [results, Try.results62, go_sem, s0, s1, s2, s3, setA]) rfl ⟨by rw [HS.out], HB.out⟩
end Go.Proofs.Ytnjjchbgnmjkjaa
