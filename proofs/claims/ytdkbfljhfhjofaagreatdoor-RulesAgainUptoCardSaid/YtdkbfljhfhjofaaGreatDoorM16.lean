/- Part 16 of the proof: lemmas and walks that the last texts use. -/
import Derived.Test.YtdkbfljhfhjofaaGreatDoorM15
import Derived.Laws.Bits64
namespace Go.Proofs.YtdkbfljhfhjofaaGreatDoor
open Go.RowKit
theorem wdF_if (f h : Nat → Bool) (k j : Nat) : wdF (fun x => if x / 64 = k then h x else f x) j = if j = k then wdF h j else wdF f j := by
  have e : ∀ i, i < 64 → (64 * j + i) / 64 = j := fun i hi => by omega
  by_cases hjk : j = k
  · rw [if_pos hjk]
    refine Nat.eq_of_testBit_eq fun i => ?_
    rw [wdF_test, wdF_test]
    by_cases hi : i < 64
    · rw [e i hi, if_pos hjk]
    · simp [hi]
  · rw [if_neg hjk]
    refine Nat.eq_of_testBit_eq fun i => ?_
    rw [wdF_test, wdF_test]
    by_cases hi : i < 64
    · rw [e i hi, if_neg hjk]
    · simp [hi]
theorem putW_if (f h : Nat → Bool) (k : Nat) (hk : k < 4) : putW (setF f) k ((wdF h k : Nat) : Int) = setF (fun x => if x / 64 = k then h x else f x) := by
  unfold setF
  rw [wdF_if, wdF_if, wdF_if, wdF_if]
  have : k = 0 ∨ k = 1 ∨ k = 2 ∨ k = 3 := by omega
  rcases this with rfl | rfl | rfl | rfl <;> rfl
def upW (f h : Nat → Bool) (k : Nat) (x : Nat) : Bool := if x / 64 < k then h x else f x
theorem upW_step (f h : Nat → Bool) (k : Nat) (hk : k < 4) : putW (setF (upW f h k)) k ((wdF h k : Nat) : Int) = setF (upW f h (k + 1)) := by
  rw [putW_if _ _ _ hk]
  refine setF_congr fun x _ => ?_
  unfold upW
  by_cases e : x / 64 = k
  · rw [if_pos e, if_pos (by omega)]
  · rw [if_neg e]
    by_cases e2 : x / 64 < k
    · rw [if_pos e2, if_pos (by omega)]
    · rw [if_neg e2, if_neg (by omega)]
theorem upW_word (f h : Nat → Bool) (k : Nat) : wdF (upW f h k) k = wdF f k := by
  refine Nat.eq_of_testBit_eq fun i => ?_
  rw [wdF_test, wdF_test]
  by_cases hi : i < 64
  · unfold upW; rw [if_neg (by omega)]
  · simp [hi]
theorem upW_zero (f h : Nat → Bool) : setF (upW f h 0) = setF f := setF_congr fun x _ => by unfold upW; rw [if_neg (by omega)]
theorem upW_all (f h : Nat → Bool) : setF (upW f h 4) = setF h := setF_congr fun x hx => by unfold upW; rw [if_pos (by omega)]
theorem or_words (f h : Nat → Bool) (j : Nat) : bits .or .u64 ((wdF f j : Nat) : Int) ((wdF h j : Nat) : Int) = ((wdF (fun x => f x || h x) j : Nat) : Int) := by
  rw [bits_or_u64_nat (wdF f j) (wdF h j) (wdF_lt _ _) (wdF_lt _ _), wdF_or]
def UnRel (f h : Nat → Bool) (w : World) (i : Value) (wr : World) : Prop :=
  ∃ k : Nat, k ≤ 4 ∧ i = .int .i64 k ∧ FourW wr w.heap.size (setF (upW f (fun x => f x || h x) k)) ∧ FourW wr (w.heap.size + 1) (setF h) ∧ FourW wr (w.heap.size + 2) (setF fun _ => false) ∧ Below w.heap.size w wr
set_option maxRecDepth 100000 in
set_option maxHeartbeats 1600000 in
theorem union_any (f h : Nat → Bool) (w : World) :
    Calls Tryz.prog 271 #[setA (setF f), setA (setF h)] w (SetPostW (setF fun x => f x || h x) w) := by
  have h0 : ∀ W, W = ((w.alloc (.cells #[.int .u64 (setF f).a, .int .u64 (setF f).b, .int .u64 (setF f).c, .int .u64 (setF f).d] 150)).alloc (.cells #[.int .u64 (setF h).a, .int .u64 (setF h).b, .int .u64 (setF h).c, .int .u64 (setF h).d] 150)).alloc (.cells #[.int .u64 0, .int .u64 0, .int .u64 0, .int .u64 0] 150) → UnRel f h w (.int .i64 0) W := fun W hW => by
    refine ⟨0, by omega, rfl, ?_, ?_, ?_, ?_⟩
    · rw [upW_zero, hW]
      exact (Below.heap_alloc _ _ _ (by simp; omega)).trans ((Below.heap_alloc _ _ _ (by simp)).trans (heap_alloc_new w _))
    · rw [hW]
      have := heap_alloc_new (w.alloc (.cells #[.int .u64 (setF f).a, .int .u64 (setF f).b, .int .u64 (setF f).c, .int .u64 (setF f).d] 150)) (.cells #[.int .u64 (setF h).a, .int .u64 (setF h).b, .int .u64 (setF h).c, .int .u64 (setF h).d] 150)
      rw [World.size_alloc] at this
      exact (Below.heap_alloc _ _ _ (by simp)).trans this
    · have := FourW.new ((w.alloc (.cells #[.int .u64 (setF f).a, .int .u64 (setF f).b, .int .u64 (setF f).c, .int .u64 (setF f).d] 150)).alloc (.cells #[.int .u64 (setF h).a, .int .u64 (setF h).b, .int .u64 (setF h).c, .int .u64 (setF h).d] 150))
      rw [World.size_alloc, World.size_alloc] at this
      rw [hW]
      exact this
    · rw [hW]
      exact (((Below.refl _ _).alloc (Nat.le_refl _) _).alloc (by simp) _).alloc (by simp; omega) _
  have H0 := Lib.hid h0
  clear h0
  have HU : Hid (setF (upW f (fun x => f x || h x) 4) = setF fun x => f x || h x) := upW_all _ _
  unfold setA
  go_enter Tryz.func271, Tryz.ntmps271
  go_wp2_with fail
  go_loopw [5, 6] (fun _ i wr => UnRel f h w i wr) (fun _ i _ => 4 - (intOf i).toNat)
  case atStart => exact H0.out _ rfl
  case round =>
    obtain ⟨k, hk, rfl, hF, hG, hZ, hb⟩ := hrel
    by_cases hlt : k < 4
    · have d1 : decide ((k : Int) < 4) = true := by simp; omega
      have i7 : IntKind.i64.wrap ((k : Int) + 1) = (k : Int) + 1 := IntWalk.i64_in _ (by omega)
      have hc1 := hF.cell k hlt
      have hc2 := hG.cell k hlt
      rw [setF_word _ _ hlt] at hc1 hc2
      rw [upW_word] at hc1
      have hfr := hF.free k
      have hor := or_words f h k
      have HST := Lib.hid (upW_step f (fun x => f x || h x) k hlt)
      have hF3 := hF.put k hlt ((wdF (fun x => f x || h x) k : Nat) : Int)
      rw [HST.out] at hF3
      have hG3 := hG.far (k := w.heap.size) (by omega) k (.int .u64 ((wdF (fun x => f x || h x) k : Nat) : Int))
      have hZ3 := hZ.far (k := w.heap.size) (by omega) k (.int .u64 ((wdF (fun x => f x || h x) k : Nat) : Int))
      have hB3 := hb.setCell (p := ⟨w.heap.size, k, none⟩) (Nat.le_refl _) (.int .u64 ((wdF (fun x => f x || h x) k : Nat) : Int))
      generalize wdF (fun x => f x || h x) k = wu at *
      generalize wdF f k = w1 at *
      generalize wdF h k = w2 at *
      have HX := Lib.hid (And.intro hF3 (And.intro hG3 (And.intro hZ3 hB3)))
      clear hF hG hZ hb hF3 hG3 hZ3 hB3 HST HU H0
      go_wp2_with fail
      go_region
      generalize hws : wr.setCell ⟨w.heap.size, k, none⟩ (.int .u64 (wu : Int)) = w3 at *
      clear hws hc1 hc2 hfr
      go_wp2_with fail
      exact ⟨⟨k + 1, by omega, rfl, HX.out.1.drew, HX.out.2.1.drew, HX.out.2.2.1.drew, HX.out.2.2.2.drew⟩, by dsimp only [intOf]; omega⟩
    · obtain rfl : k = 4 := by omega
      have d1 : decide (((4 : Nat) : Int) < 4) = false := by decide
      rw [HU.out] at hF
      generalize hS : setF (fun x => f x || h x) = S at *
      have HS := Lib.hid hS
      clear hS
      have ⟨c0, c1, c2, c3⟩ := hF.cells
      have ⟨z0, z1, z2, z3⟩ := hZ.cells
      have y0 := hZ.free 0
      have y1 := hZ.free 1
      have y2 := hZ.free 2
      have y3 := hZ.free 3
      have HZ := Lib.hid (hZ.fill S)
      have HB := Lib.hid ((((hb.setCell (p := ⟨w.heap.size + 2, 0, none⟩) (by show w.heap.size ≤ w.heap.size + 2; omega) (.int .u64 S.a)).setCell (p := ⟨w.heap.size + 2, 1, none⟩) (by show w.heap.size ≤ w.heap.size + 2; omega) (.int .u64 S.b)).setCell (p := ⟨w.heap.size + 2, 2, none⟩) (by show w.heap.size ≤ w.heap.size + 2; omega) (.int .u64 S.c)).setCell (p := ⟨w.heap.size + 2, 3, none⟩) (by show w.heap.size ≤ w.heap.size + 2; omega) (.int .u64 S.d))
      clear hF hG hZ hb HU H0
      go_wp2_with fail
      have ⟨s0, s1, s2, s3⟩ := HZ.out.cells
      exact bodyPost_ret (v := setA S) (by simp [results, Tryz.results271, go_sem, s0, s1, s2, s3, setA]) rfl ⟨by rw [HS.out], HB.out⟩
theorem not_word (f : Nat → Bool) (j : Nat) : bits .xor .u64 (if IntKind.u64.signed = true then -1 else IntKind.u64.max) ((wdF f j : Nat) : Int) = ((wdF (fun x => !f x) j : Nat) : Int) := by
  have e : (if IntKind.u64.signed = true then -1 else IntKind.u64.max) = ((18446744073709551615 : Nat) : Int) := rfl
  rw [e, bits_xor_u64_nat _ _ (by decide) (wdF_lt _ _)]
  congr 1
  refine Nat.eq_of_testBit_eq fun i => ?_
  rw [Nat.testBit_xor, show (18446744073709551615 : Nat) = 2 ^ 64 - 1 from rfl, Nat.testBit_two_pow_sub_one, wdF_test, wdF_test]
  by_cases hi : i < 64
  · simp [hi]
  · simp [hi]
def NoRel (f : Nat → Bool) (w : World) (i : Value) (wr : World) : Prop :=
  ∃ k : Nat, k ≤ 4 ∧ i = .int .i64 k ∧ FourW wr w.heap.size (setF (upW f (fun x => !f x) k)) ∧ FourW wr (w.heap.size + 1) (setF fun _ => false) ∧ Below w.heap.size w wr
set_option maxRecDepth 100000 in
set_option maxHeartbeats 1600000 in
theorem rnot_any (f : Nat → Bool) (w : World) :
    Calls Tryz.prog 254 #[setA (setF f)] w (SetPostW (setF fun x => !f x) w) := by
  have h0 : ∀ W, W = (w.alloc (.cells #[.int .u64 (setF f).a, .int .u64 (setF f).b, .int .u64 (setF f).c, .int .u64 (setF f).d] 150)).alloc (.cells #[.int .u64 0, .int .u64 0, .int .u64 0, .int .u64 0] 150) → NoRel f w (.int .i64 0) W := fun W hW => by
    refine ⟨0, by omega, rfl, ?_, ?_, ?_⟩
    · rw [upW_zero, hW]
      exact (Below.heap_alloc _ _ _ (by simp)).trans (heap_alloc_new w _)
    · have := FourW.new (w.alloc (.cells #[.int .u64 (setF f).a, .int .u64 (setF f).b, .int .u64 (setF f).c, .int .u64 (setF f).d] 150))
      rw [World.size_alloc] at this
      rw [hW]
      exact this
    · rw [hW]
      exact ((Below.refl _ _).alloc (Nat.le_refl _) _).alloc (by simp) _
  have H0 := Lib.hid h0
  clear h0
  have HU : Hid (setF (upW f (fun x => !f x) 4) = setF fun x => !f x) := upW_all _ _
  unfold setA
  go_enter Tryz.func254, Tryz.ntmps254
  go_wp2_with fail
  go_loopw [3, 4] (fun _ i wr => NoRel f w i wr) (fun _ i _ => 4 - (intOf i).toNat)
  case atStart => exact H0.out _ rfl
  case round =>
    obtain ⟨k, hk, rfl, hF, hZ, hb⟩ := hrel
    by_cases hlt : k < 4
    · have d1 : decide ((k : Int) < 4) = true := by simp; omega
      have i7 : IntKind.i64.wrap ((k : Int) + 1) = (k : Int) + 1 := IntWalk.i64_in _ (by omega)
      have hc1 := hF.cell k hlt
      rw [setF_word _ _ hlt, upW_word] at hc1
      have hfr := hF.free k
      have hnw := not_word f k
      have HST := Lib.hid (upW_step f (fun x => !f x) k hlt)
      have hF3 := hF.put k hlt ((wdF (fun x => !f x) k : Nat) : Int)
      rw [HST.out] at hF3
      have hZ3 := hZ.far (k := w.heap.size) (by omega) k (.int .u64 ((wdF (fun x => !f x) k : Nat) : Int))
      have hB3 := hb.setCell (p := ⟨w.heap.size, k, none⟩) (Nat.le_refl _) (.int .u64 ((wdF (fun x => !f x) k : Nat) : Int))
      generalize wdF (fun x => !f x) k = wu at *
      generalize wdF f k = w1 at *
      have HX := Lib.hid (And.intro hF3 (And.intro hZ3 hB3))
      clear hF hZ hb hF3 hZ3 hB3 HST HU H0
      go_wp2_with fail
      exact ⟨⟨k + 1, by omega, rfl, HX.out.1, HX.out.2.1, HX.out.2.2⟩, by dsimp only [intOf]; omega⟩
    · obtain rfl : k = 4 := by omega
      have d1 : decide (((4 : Nat) : Int) < 4) = false := by decide
      rw [HU.out] at hF
      generalize hS : setF (fun x => !f x) = S at *
      have HS := Lib.hid hS
      clear hS
      have ⟨c0, c1, c2, c3⟩ := hF.cells
      have ⟨z0, z1, z2, z3⟩ := hZ.cells
      have y0 := hZ.free 0
      have y1 := hZ.free 1
      have y2 := hZ.free 2
      have y3 := hZ.free 3
      have HZ := Lib.hid (hZ.fill S)
      have HB := Lib.hid ((((hb.setCell (p := ⟨w.heap.size + 1, 0, none⟩) (by show w.heap.size ≤ w.heap.size + 1; omega) (.int .u64 S.a)).setCell (p := ⟨w.heap.size + 1, 1, none⟩) (by show w.heap.size ≤ w.heap.size + 1; omega) (.int .u64 S.b)).setCell (p := ⟨w.heap.size + 1, 2, none⟩) (by show w.heap.size ≤ w.heap.size + 1; omega) (.int .u64 S.c)).setCell (p := ⟨w.heap.size + 1, 3, none⟩) (by show w.heap.size ≤ w.heap.size + 1; omega) (.int .u64 S.d))
      clear hF hZ hb HU H0
      go_wp2_with fail
      have ⟨s0, s1, s2, s3⟩ := HZ.out.cells
      exact bodyPost_ret (v := setA S) (by simp [results, Tryz.results254, go_sem, s0, s1, s2, s3, setA]) rfl ⟨by rw [HS.out], HB.out⟩
end Go.Proofs.YtdkbfljhfhjofaaGreatDoor
namespace Go.Proofs.YtdkbfljhfhjofaaGreatDoor
open Go.RowKit
theorem only_low {a w w' : World} {row : Option Nat} (h : a.grownBy w row) (hb : Below a.heap.size w w') : a.grownBy w' row :=
  ⟨hb.os.trans h.os, hb.tape.trans h.tape, hb.output.trans h.output, Nat.le_trans h.size hb.size, fun i hi hne => (hb.block i hi).trans (h.block i hi hne)⟩
theorem rd_end {g : Nat} {s : ByteArray} {r : RS} {w W : World} (h : RdAt g s r w) (hb : Below w.heap.size w W) : RdEnd g s r w W := ⟨h.below hb, only_low (grown_refl w _) hb⟩
theorem RdEnd.low {g : Nat} {s : ByteArray} {r : RS} {w W W' : World} (hg : g < w.heap.size) (h : RdEnd g s r w W) (hb : Below w.heap.size W W') : RdEnd g s r w W' := ⟨(hb.block g hg).trans h.1, only_low h.2 hb⟩
def fill4 (W : World) (k : Nat) (S : Set4) : World := (((W.setCell ⟨k, 0, none⟩ (.int .u64 S.a)).setCell ⟨k, 1, none⟩ (.int .u64 S.b)).setCell ⟨k, 2, none⟩ (.int .u64 S.c)).setCell ⟨k, 3, none⟩ (.int .u64 S.d)
theorem fill4_below {W w : World} {B k : Nat} (h : Below B w W) (hk : B ≤ k) (S : Set4) : Below B w (fill4 W k S) :=
  (((h.setCell (p := ⟨k, 0, none⟩) hk _).setCell (p := ⟨k, 1, none⟩) hk _).setCell (p := ⟨k, 2, none⟩) hk _).setCell (p := ⟨k, 3, none⟩) hk _
theorem fill4_four {W : World} {k : Nat} {Z : Set4} (h : FourW W k Z) (S : Set4) : FourW (fill4 W k S) k S := h.fill S
def rgF (lo hi : Nat) : Nat → Bool := fun x => decide (lo ≤ x) && decide (x ≤ hi)
def wordF : Nat → Bool := fun x => (rgF 97 122 x || rgF 65 90 x) || (rgF 48 57 x || rgF 95 95 x)
def spcF : Nat → Bool := fun x => rgF 9 13 x || rgF 32 32 x
def groupF (b : UInt8) : Option (Nat → Bool) := if b = 100 then some (rgF 48 57) else if b = 119 then some wordF else if b = 115 then some spcF else none
def groupR (s : List UInt8) (r : RS) : Option (Nat → Bool) × RS :=
  if nextR s r = 92 then match s[r.pos + 1]? with
    | none => (none, r)
    | some b => match groupF b with
      | none => (none, r)
      | some f => (some f, { r with pos := r.pos + 2 })
  else (none, r)
def GroupPost (g : Nat) (s : ByteArray) (R : Option (Nat → Bool) × RS) (w : World) (e : Ending) (w' : World) : Prop :=
  e = .returned (.tuple #[setA (match R.1 with | some f => setF f | none => .zero), .bool R.1.isSome]) ∧ RdEnd g s R.2 w w'
set_option maxRecDepth 100000 in
set_option maxHeartbeats 6400000 in
theorem group_any (g : Nat) (s : ByteArray) (r : RS) (w : World) (h : RdAt g s r w) (hp : r.pos ≤ s.size) (hs : s.size ≤ 4096) :
    Calls Tryz.prog 257 #[.pointer (some ⟨g, 0, none⟩)] w (GroupPost g s (groupR s.data.toList r) w) := by
  have hnb := nextR_byte (s := s.data.toList) (r := r)
  have hsl : s.data.toList.length = s.size := by simp
  have hpos : 0 ≤ nextR s.data.toList r → r.pos < s.size := fun h => by have := (nextR_pos rfl h).1; omega
  obtain ⟨W0, hW0⟩ : ∃ W0, w.alloc (.cells #[.int .u64 0, .int .u64 0, .int .u64 0, .int .u64 0] 150) = W0 := ⟨_, rfl⟩
  have hz : FourW W0 w.heap.size .zero := by rw [← hW0]; have := FourW.new w; rw [setF_none] at this; exact this
  have hb0 : Below w.heap.size w W0 := by rw [← hW0]; exact (Below.refl _ _).alloc (Nat.le_refl _) _
  have h0 : RdAt g s r W0 := h.below hb0
  have HN : Hid (∀ n, Calls Tryz.prog 202 #[.pointer (some ⟨g, 0, none⟩)] (W0.drewN n) fun e w' => e = .returned (.int .i64 (nextR s.data.toList r)) ∧ ∃ m, w' = (W0.drewN n).drewN m) := fun n => next_quiet g s r _ (h0.drew n) hp
  have HGR : Hid (groupR s.data.toList r = if nextR s.data.toList r = 92 then match s.data.toList[r.pos + 1]? with
    | none => (none, r)
    | some b => match groupF b with
      | none => (none, r)
      | some f => (some f, { r with pos := r.pos + 2 })
  else (none, r)) := rfl
  generalize groupR s.data.toList r = R at *
  generalize nextR s.data.toList r = N at *
  have ⟨c0, c1, c2, c3⟩ := h0.cells
  have i7 : IntKind.i64.wrap ((r.pos : Int) + 1) = ((r.pos + 1 : Nat) : Int) := IntWalk.i64_in _ (by omega)
  have HW0 := Lib.hid hW0
  have H := Lib.hid (And.intro h (And.intro h0 (And.intro hz hb0)))
  clear hW0 h h0 hz hb0
  go_enter Tryz.func257, Tryz.ntmps257
  go_upto_region 1 with fail
  rw [HW0.out]
  by_cases q0 : N = 92
  rotate_left
  · have d0 : (N != 92) = true := bne_iff_ne.2 q0
    have HD : Hid (R = (none, r)) := by unfold Hid; rw [HGR.out, if_neg q0]
    clear HGR q0
    go_quiet ((go_at_call 202; exact Calls.quiet_of (HN.out _)))
    obtain ⟨wq, hwq⟩ : ∃ wq, W0.drewN nq = wq := ⟨_, rfl⟩
    have hq : FourW wq w.heap.size .zero ∧ Below w.heap.size w wq := by rw [← hwq]; exact ⟨H.out.2.2.1, below_drewN H.out.2.2.2 nq⟩
    rw [hwq]
    have HZ := Lib.hid (fill4_four hq.1 .zero)
    have HE := Lib.hid (rd_end H.out.1 (fill4_below hq.2 (Nat.le_refl _) .zero))
    have ⟨z0, z1, z2, z3⟩ := hq.1.cells
    have y0 := hq.1.free 0
    have y1 := hq.1.free 1
    have y2 := hq.1.free 2
    have y3 := hq.1.free 3
    clear hwq hq H c0 c1 c2 c3
    go_wp2_with fail
    have ⟨s0, s1, s2, s3⟩ := HZ.out.cells
    unfold fill4 Set4.zero at s0 s1 s2 s3
    exact bodyPost_ret (v := .tuple #[setA .zero, .bool false]) (by simp [results, Tryz.results257, go_sem, s0, s1, s2, s3, setA, Set4.zero]) rfl (by rw [HD.out]; exact ⟨rfl, HE.out⟩)
  · subst q0
    have hlt := hpos (by omega)
    by_cases hend : r.pos + 1 = s.size
    · have d1 : (((r.pos + 1 : Nat) : Int) == (s.size : Int)) = true := by rw [beq_iff_eq]; omega
      have HD : Hid (R = (none, r)) := by unfold Hid; rw [HGR.out, if_pos rfl, List.getElem?_eq_none (by omega)]
      clear HGR hend
      go_quiet ((go_at_call 202; exact Calls.quiet_of (HN.out _)))
      obtain ⟨wq, hwq⟩ : ∃ wq, W0.drewN nq = wq := ⟨_, rfl⟩
      have hq : FourW wq w.heap.size .zero ∧ Below w.heap.size w wq := by rw [← hwq]; exact ⟨H.out.2.2.1, below_drewN H.out.2.2.2 nq⟩
      rw [hwq]
      have HZ := Lib.hid (fill4_four hq.1 .zero)
      have HE := Lib.hid (rd_end H.out.1 (fill4_below hq.2 (Nat.le_refl _) .zero))
      have ⟨z0, z1, z2, z3⟩ := hq.1.cells
      have y0 := hq.1.free 0
      have y1 := hq.1.free 1
      have y2 := hq.1.free 2
      have y3 := hq.1.free 3
      clear hwq hq H c0 c1 c2 c3
      go_wp2_with fail
      have ⟨s0, s1, s2, s3⟩ := HZ.out.cells
      unfold fill4 Set4.zero at s0 s1 s2 s3
      exact bodyPost_ret (v := .tuple #[setA .zero, .bool false]) (by simp [results, Tryz.results257, go_sem, s0, s1, s2, s3, setA, Set4.zero]) rfl (by rw [HD.out]; exact ⟨rfl, HE.out⟩)
    · have hlt2 : r.pos + 1 < s.size := by omega
      have d1 : (((r.pos + 1 : Nat) : Int) == (s.size : Int)) = false := by rw [beq_eq_false_iff_ne]; omega
      have HD0 : Hid (R = match groupF s[r.pos + 1] with
        | none => (none, r)
        | some f => (some f, { r with pos := r.pos + 2 })) := by unfold Hid; rw [HGR.out, if_pos rfl, Lib.data_getElem? s (r.pos + 1) hlt2]
      clear HGR hend
      go_quiet ((go_at_call 202; exact Calls.quiet_of (HN.out _)))
      obtain ⟨wq, hwq⟩ : ∃ wq, W0.drewN nq = wq := ⟨_, rfl⟩
      have hq : FourW wq w.heap.size .zero ∧ Below w.heap.size w wq ∧ RdAt g s r wq ∧ w.heap.size < wq.heap.size := by
        have hz : w.heap.size < W0.heap.size := by rw [← HW0.out]; simp
        rw [← hwq]; exact ⟨H.out.2.2.1, below_drewN H.out.2.2.2 nq, H.out.2.1.drew nq, hz⟩
      rw [hwq]
      obtain ⟨hq1, hq2, hq3, hq4⟩ := hq
      have ⟨c0, c1, c2, c3⟩ := hq3.cells
      clear hwq HN
      generalize hb : s[r.pos + 1] = b at *
      obtain ⟨W1, hW1⟩ : ∃ W1, wq.alloc (.cells #[.int .u64 0, .int .u64 0, .int .u64 0, .int .u64 0] 150) = W1 := ⟨_, rfl⟩
      have hal : Below wq.heap.size wq W1 := by rw [← hW1]; exact (Below.refl _ _).alloc (Nat.le_refl _) _
      have hg4 : FourW W1 wq.heap.size .zero := by rw [← hW1]; have := FourW.new wq; rw [setF_none] at this; exact this
      have hg1 : FourW W1 w.heap.size .zero := hq1.below hal hq4
      have hg3 : RdAt g s r W1 := hq3.below hal
      have HW1 := Lib.hid hW1
      clear hW1
      go_upto_region 4 with fail
      rw [HW1.out]
      have i7b : ((r.pos + 1 : Nat) : Int).toNat = r.pos + 1 := by omega
      have ⟨c0, c1, c2, c3⟩ := hg3.cells
      go_quiet (fail)
      obtain ⟨wr, hwr⟩ : ∃ wr, W1.drewN nq = wr := ⟨_, rfl⟩
      have hr : FourW wr wq.heap.size .zero ∧ FourW wr w.heap.size .zero ∧ RdAt g s r wr ∧ Below w.heap.size w wr ∧ wq.heap.size < wr.heap.size := by
        have hz : wq.heap.size < W1.heap.size := by rw [← HW1.out]; simp
        rw [← hwr]; exact ⟨hg4, hg1, hg3.drew nq, below_drewN (hq2.trans (hal.mono (Nat.le_of_lt hq4))) nq, hz⟩
      rw [hwr]
      clear hwr HW1 hal hg4 hg1 hg3 hq1 hq2 hq3 c0 c1 c2 c3 HW0
      obtain ⟨hg4, hg1, hg3, hBq, hkk⟩ := hr
      have hzq := hBq.size
      have hB_wr := Below.refl wr.heap.size wr
      have H1 : Hid (∀ W, Calls Tryz.prog 136 #[.int .i64 48, .int .i64 57] W (SetPostW (setF (rgF 48 57)) W)) := fun W => Range_any 48 57 (by decide) (by decide) W
      have H2 : Hid (∀ W, Calls Tryz.prog 136 #[.int .i64 97, .int .i64 122] W (SetPostW (setF (rgF 97 122)) W)) := fun W => Range_any 97 122 (by decide) (by decide) W
      have H3 : Hid (∀ W, Calls Tryz.prog 136 #[.int .i64 65, .int .i64 90] W (SetPostW (setF (rgF 65 90)) W)) := fun W => Range_any 65 90 (by decide) (by decide) W
      have H4 : Hid (∀ W, Calls Tryz.prog 136 #[.int .i64 95, .int .i64 95] W (SetPostW (setF (rgF 95 95)) W)) := fun W => Range_any 95 95 (by decide) (by decide) W
      have H5 : Hid (∀ W, Calls Tryz.prog 136 #[.int .i64 9, .int .i64 13] W (SetPostW (setF (rgF 9 13)) W)) := fun W => Range_any 9 13 (by decide) (by decide) W
      have H6 : Hid (∀ W, Calls Tryz.prog 136 #[.int .i64 32, .int .i64 32] W (SetPostW (setF (rgF 32 32)) W)) := fun W => Range_any 32 32 (by decide) (by decide) W
      by_cases b1 : b = 100
      · subst b1
        have q1 : (((100 : UInt8).toNat : Int) == 100) = true := rfl
        go_wp2_with (go_at_call 136; apply Hid.out)
        unfold Hid
        refine (H1.out wr).mono ?_
        rintro e wa ⟨rfl, hb_wa⟩
        have hB_wa := hB_wr.trans (hb_wa.mono hB_wr.size)
        clear hb_wa
        have hX0 : FourW wa wq.heap.size .zero := (hB_wa.block _ hkk).trans hg4
        have hX1 : FourW wa w.heap.size .zero := (hB_wa.block _ (Nat.lt_trans hq4 hkk)).trans hg1
        have hX3 : RdAt g s r wa := hg3.below hB_wa
        have ⟨x0, x1, x2, x3⟩ := hX0.cells
        have v0 := hX0.free 0
        have v1 := hX0.free 1
        have v2 := hX0.free 2
        have v3 := hX0.free 3
        obtain ⟨S, hS⟩ : ∃ S, setF (rgF 48 57) = S := ⟨_, rfl⟩
        have HS := Lib.hid hS
        have HD : Hid (R = (some (rgF 48 57), { r with pos := r.pos + 2 })) := by unfold Hid; rw [HD0.out]; rfl
        rw [show setA (setF (rgF 48 57)) = setA S from by rw [hS]]
        unfold setA
        have hBW := hBq.trans (hB_wa.mono hzq)
        have hX4 : FourW (fill4 wa wq.heap.size S) wq.heap.size S := fill4_four hX0 S
        have hX5 : FourW (fill4 wa wq.heap.size S) w.heap.size .zero := (((hX1.far (by omega) 0 _).far (by omega) 1 _).far (by omega) 2 _).far (by omega) 3 _
        have hX6 : Below w.heap.size w (fill4 wa wq.heap.size S) := fill4_below hBW (Nat.le_of_lt hq4) S
        clear hS hX0 hX1 hX3 hBW HD0 hB_wa
        go_upto_region 12 with fail
        rw [show (((wa.setCell ⟨wq.heap.size, 0, none⟩ (.int .u64 S.a)).setCell ⟨wq.heap.size, 1, none⟩ (.int .u64 S.b)).setCell ⟨wq.heap.size, 2, none⟩ (.int .u64 S.c)).setCell ⟨wq.heap.size, 3, none⟩ (.int .u64 S.d) = fill4 wa wq.heap.size S from rfl]
        generalize fill4 wa wq.heap.size S = X1 at *
        have hE1 := rd_end H.out.1 hX6
        have ⟨c0, c1, c2, c3⟩ := hE1.1.cells
        have f1 := hE1.1.free 1
        have hE2 : RdEnd g s { r with pos := r.pos + 2 } w (X1.setCell ⟨g, 1, none⟩ (.int .i64 ((r.pos + 2 : Nat) : Int))) := ⟨hE1.1.setPos _, only_setCell hE1.2 1 _⟩
        have hY4 := hX4.far (k := g) (by have := H.out.1.lt; omega) 1 (.int .i64 ((r.pos + 2 : Nat) : Int))
        have hY5 := hX5.far (k := g) (by have := H.out.1.lt; omega) 1 (.int .i64 ((r.pos + 2 : Nat) : Int))
        have i2 : IntKind.i64.wrap ((r.pos : Int) + 2) = (r.pos : Int) + 2 := IntWalk.i64_in _ (by omega)
        have e2 : ((r.pos + 2 : Nat) : Int) = (r.pos : Int) + 2 := by omega
        rw [e2] at hE2 hY4 hY5
        clear e2
        clear hX4 hX5 hX6 hE1 x0 x1 x2 x3 v0 v1 v2 v3
        go_upto_region 13 with fail
        generalize X1.setCell ⟨g, 1, none⟩ (.int .i64 ((r.pos : Int) + 2)) = X2 at *
        have ⟨x0, x1, x2, x3⟩ := hY4.cells
        have ⟨z0, z1, z2, z3⟩ := hY5.cells
        have y0 := hY5.free 0
        have y1 := hY5.free 1
        have y2 := hY5.free 2
        have y3 := hY5.free 3
        have HZ := Lib.hid (fill4_four hY5 S)
        have HE := Lib.hid (RdEnd.low H.out.1.lt hE2 (fill4_below (Below.refl _ X2) (Nat.le_refl _) S))
        clear hY4 hY5 hE2 c0 c1 c2 c3 f1
        go_wp2_with fail
        have ⟨s0, s1, s2, s3⟩ := HZ.out.cells
        unfold fill4 at s0 s1 s2 s3
        exact bodyPost_ret (v := .tuple #[setA S, .bool true]) (by simp [results, Tryz.results257, go_sem, s0, s1, s2, s3, setA]) rfl (by rw [HD.out]; exact ⟨by show _ = Ending.returned (.tuple #[setA (setF (rgF 48 57)), .bool true]); rw [HS.out], HE.out⟩)
      by_cases b2 : b = 119
      · subst b2
        have q0 : (((119 : UInt8).toNat : Int) == 100) = false := rfl
        have q1 : (((119 : UInt8).toNat : Int) == 119) = true := rfl
        go_wp2_with (go_at_call 136; apply Hid.out)
        unfold Hid
        refine (H2.out wr).mono ?_
        rintro e wa ⟨rfl, hb_wa⟩
        have hB_wa := hB_wr.trans (hb_wa.mono hB_wr.size)
        clear hb_wa
        go_wp2_with (go_at_call 136; apply Hid.out)
        unfold Hid
        refine (H3.out wa).mono ?_
        rintro e wb ⟨rfl, hb_wb⟩
        have hB_wb := hB_wa.trans (hb_wb.mono hB_wa.size)
        clear hb_wb
        go_wp2_with (go_at_call 271; apply Hid.out)
        unfold Hid
        refine (union_any (rgF 97 122) (rgF 65 90) wb).mono ?_
        rintro e wc ⟨rfl, hb_wc⟩
        have hB_wc := hB_wb.trans (hb_wc.mono hB_wb.size)
        clear hb_wc
        go_wp2_with (go_at_call 136; apply Hid.out)
        unfold Hid
        refine (H1.out wc).mono ?_
        rintro e wd ⟨rfl, hb_wd⟩
        have hB_wd := hB_wc.trans (hb_wd.mono hB_wc.size)
        clear hb_wd
        go_wp2_with (go_at_call 136; apply Hid.out)
        unfold Hid
        refine (H4.out wd).mono ?_
        rintro e we ⟨rfl, hb_we⟩
        have hB_we := hB_wd.trans (hb_we.mono hB_wd.size)
        clear hb_we
        go_wp2_with (go_at_call 271; apply Hid.out)
        unfold Hid
        refine (union_any (rgF 48 57) (rgF 95 95) we).mono ?_
        rintro e wf ⟨rfl, hb_wf⟩
        have hB_wf := hB_we.trans (hb_wf.mono hB_we.size)
        clear hb_wf
        go_wp2_with (go_at_call 271; apply Hid.out)
        unfold Hid
        refine (union_any (fun x => rgF 97 122 x || rgF 65 90 x) (fun x => rgF 48 57 x || rgF 95 95 x) wf).mono ?_
        rintro e wg ⟨rfl, hb_wg⟩
        have hB_wg := hB_wf.trans (hb_wg.mono hB_wf.size)
        clear hb_wg
        have hX0 : FourW wg wq.heap.size .zero := (hB_wg.block _ hkk).trans hg4
        have hX1 : FourW wg w.heap.size .zero := (hB_wg.block _ (Nat.lt_trans hq4 hkk)).trans hg1
        have hX3 : RdAt g s r wg := hg3.below hB_wg
        have ⟨x0, x1, x2, x3⟩ := hX0.cells
        have v0 := hX0.free 0
        have v1 := hX0.free 1
        have v2 := hX0.free 2
        have v3 := hX0.free 3
        obtain ⟨S, hS⟩ : ∃ S, setF (wordF) = S := ⟨_, rfl⟩
        have HS := Lib.hid hS
        have HD : Hid (R = (some (wordF), { r with pos := r.pos + 2 })) := by unfold Hid; rw [HD0.out]; rfl
        rw [show setA (setF (fun x => (rgF 97 122 x || rgF 65 90 x) || (rgF 48 57 x || rgF 95 95 x))) = setA S from by rw [← hS]; rfl]
        unfold setA
        have hBW := hBq.trans (hB_wg.mono hzq)
        have hX4 : FourW (fill4 wg wq.heap.size S) wq.heap.size S := fill4_four hX0 S
        have hX5 : FourW (fill4 wg wq.heap.size S) w.heap.size .zero := (((hX1.far (by omega) 0 _).far (by omega) 1 _).far (by omega) 2 _).far (by omega) 3 _
        have hX6 : Below w.heap.size w (fill4 wg wq.heap.size S) := fill4_below hBW (Nat.le_of_lt hq4) S
        clear hS hX0 hX1 hX3 hBW HD0 hB_wg
        go_upto_region 12 with fail
        rw [show (((wg.setCell ⟨wq.heap.size, 0, none⟩ (.int .u64 S.a)).setCell ⟨wq.heap.size, 1, none⟩ (.int .u64 S.b)).setCell ⟨wq.heap.size, 2, none⟩ (.int .u64 S.c)).setCell ⟨wq.heap.size, 3, none⟩ (.int .u64 S.d) = fill4 wg wq.heap.size S from rfl]
        generalize fill4 wg wq.heap.size S = X1 at *
        have hE1 := rd_end H.out.1 hX6
        have ⟨c0, c1, c2, c3⟩ := hE1.1.cells
        have f1 := hE1.1.free 1
        have hE2 : RdEnd g s { r with pos := r.pos + 2 } w (X1.setCell ⟨g, 1, none⟩ (.int .i64 ((r.pos + 2 : Nat) : Int))) := ⟨hE1.1.setPos _, only_setCell hE1.2 1 _⟩
        have hY4 := hX4.far (k := g) (by have := H.out.1.lt; omega) 1 (.int .i64 ((r.pos + 2 : Nat) : Int))
        have hY5 := hX5.far (k := g) (by have := H.out.1.lt; omega) 1 (.int .i64 ((r.pos + 2 : Nat) : Int))
        have i2 : IntKind.i64.wrap ((r.pos : Int) + 2) = (r.pos : Int) + 2 := IntWalk.i64_in _ (by omega)
        have e2 : ((r.pos + 2 : Nat) : Int) = (r.pos : Int) + 2 := by omega
        rw [e2] at hE2 hY4 hY5
        clear e2
        clear hX4 hX5 hX6 hE1 x0 x1 x2 x3 v0 v1 v2 v3
        go_upto_region 13 with fail
        generalize X1.setCell ⟨g, 1, none⟩ (.int .i64 ((r.pos : Int) + 2)) = X2 at *
        have ⟨x0, x1, x2, x3⟩ := hY4.cells
        have ⟨z0, z1, z2, z3⟩ := hY5.cells
        have y0 := hY5.free 0
        have y1 := hY5.free 1
        have y2 := hY5.free 2
        have y3 := hY5.free 3
        have HZ := Lib.hid (fill4_four hY5 S)
        have HE := Lib.hid (RdEnd.low H.out.1.lt hE2 (fill4_below (Below.refl _ X2) (Nat.le_refl _) S))
        clear hY4 hY5 hE2 c0 c1 c2 c3 f1
        go_wp2_with fail
        have ⟨s0, s1, s2, s3⟩ := HZ.out.cells
        unfold fill4 at s0 s1 s2 s3
        exact bodyPost_ret (v := .tuple #[setA S, .bool true]) (by simp [results, Tryz.results257, go_sem, s0, s1, s2, s3, setA]) rfl (by rw [HD.out]; exact ⟨by show _ = Ending.returned (.tuple #[setA (setF (wordF)), .bool true]); rw [HS.out], HE.out⟩)
      by_cases b3 : b = 115
      · subst b3
        have q0 : (((115 : UInt8).toNat : Int) == 100) = false := rfl
        have q1 : (((115 : UInt8).toNat : Int) == 119) = false := rfl
        have q2 : (((115 : UInt8).toNat : Int) == 115) = true := rfl
        go_wp2_with (go_at_call 136; apply Hid.out)
        unfold Hid
        refine (H5.out wr).mono ?_
        rintro e wa ⟨rfl, hb_wa⟩
        have hB_wa := hB_wr.trans (hb_wa.mono hB_wr.size)
        clear hb_wa
        go_wp2_with (go_at_call 136; apply Hid.out)
        unfold Hid
        refine (H6.out wa).mono ?_
        rintro e wb ⟨rfl, hb_wb⟩
        have hB_wb := hB_wa.trans (hb_wb.mono hB_wa.size)
        clear hb_wb
        go_wp2_with (go_at_call 271; apply Hid.out)
        unfold Hid
        refine (union_any (rgF 9 13) (rgF 32 32) wb).mono ?_
        rintro e wc ⟨rfl, hb_wc⟩
        have hB_wc := hB_wb.trans (hb_wc.mono hB_wb.size)
        clear hb_wc
        have hX0 : FourW wc wq.heap.size .zero := (hB_wc.block _ hkk).trans hg4
        have hX1 : FourW wc w.heap.size .zero := (hB_wc.block _ (Nat.lt_trans hq4 hkk)).trans hg1
        have hX3 : RdAt g s r wc := hg3.below hB_wc
        have ⟨x0, x1, x2, x3⟩ := hX0.cells
        have v0 := hX0.free 0
        have v1 := hX0.free 1
        have v2 := hX0.free 2
        have v3 := hX0.free 3
        obtain ⟨S, hS⟩ : ∃ S, setF (spcF) = S := ⟨_, rfl⟩
        have HS := Lib.hid hS
        have HD : Hid (R = (some (spcF), { r with pos := r.pos + 2 })) := by unfold Hid; rw [HD0.out]; rfl
        rw [show setA (setF (fun x => rgF 9 13 x || rgF 32 32 x)) = setA S from by rw [← hS]; rfl]
        unfold setA
        have hBW := hBq.trans (hB_wc.mono hzq)
        have hX4 : FourW (fill4 wc wq.heap.size S) wq.heap.size S := fill4_four hX0 S
        have hX5 : FourW (fill4 wc wq.heap.size S) w.heap.size .zero := (((hX1.far (by omega) 0 _).far (by omega) 1 _).far (by omega) 2 _).far (by omega) 3 _
        have hX6 : Below w.heap.size w (fill4 wc wq.heap.size S) := fill4_below hBW (Nat.le_of_lt hq4) S
        clear hS hX0 hX1 hX3 hBW HD0 hB_wc
        go_upto_region 12 with fail
        rw [show (((wc.setCell ⟨wq.heap.size, 0, none⟩ (.int .u64 S.a)).setCell ⟨wq.heap.size, 1, none⟩ (.int .u64 S.b)).setCell ⟨wq.heap.size, 2, none⟩ (.int .u64 S.c)).setCell ⟨wq.heap.size, 3, none⟩ (.int .u64 S.d) = fill4 wc wq.heap.size S from rfl]
        generalize fill4 wc wq.heap.size S = X1 at *
        have hE1 := rd_end H.out.1 hX6
        have ⟨c0, c1, c2, c3⟩ := hE1.1.cells
        have f1 := hE1.1.free 1
        have hE2 : RdEnd g s { r with pos := r.pos + 2 } w (X1.setCell ⟨g, 1, none⟩ (.int .i64 ((r.pos + 2 : Nat) : Int))) := ⟨hE1.1.setPos _, only_setCell hE1.2 1 _⟩
        have hY4 := hX4.far (k := g) (by have := H.out.1.lt; omega) 1 (.int .i64 ((r.pos + 2 : Nat) : Int))
        have hY5 := hX5.far (k := g) (by have := H.out.1.lt; omega) 1 (.int .i64 ((r.pos + 2 : Nat) : Int))
        have i2 : IntKind.i64.wrap ((r.pos : Int) + 2) = (r.pos : Int) + 2 := IntWalk.i64_in _ (by omega)
        have e2 : ((r.pos + 2 : Nat) : Int) = (r.pos : Int) + 2 := by omega
        rw [e2] at hE2 hY4 hY5
        clear e2
        clear hX4 hX5 hX6 hE1 x0 x1 x2 x3 v0 v1 v2 v3
        go_upto_region 13 with fail
        generalize X1.setCell ⟨g, 1, none⟩ (.int .i64 ((r.pos : Int) + 2)) = X2 at *
        have ⟨x0, x1, x2, x3⟩ := hY4.cells
        have ⟨z0, z1, z2, z3⟩ := hY5.cells
        have y0 := hY5.free 0
        have y1 := hY5.free 1
        have y2 := hY5.free 2
        have y3 := hY5.free 3
        have HZ := Lib.hid (fill4_four hY5 S)
        have HE := Lib.hid (RdEnd.low H.out.1.lt hE2 (fill4_below (Below.refl _ X2) (Nat.le_refl _) S))
        clear hY4 hY5 hE2 c0 c1 c2 c3 f1
        go_wp2_with fail
        have ⟨s0, s1, s2, s3⟩ := HZ.out.cells
        unfold fill4 at s0 s1 s2 s3
        exact bodyPost_ret (v := .tuple #[setA S, .bool true]) (by simp [results, Tryz.results257, go_sem, s0, s1, s2, s3, setA]) rfl (by rw [HD.out]; exact ⟨by show _ = Ending.returned (.tuple #[setA (setF (spcF)), .bool true]); rw [HS.out], HE.out⟩)
      have hbn : ∀ c : UInt8, b ≠ c → ((b.toNat : Int) == (c.toNat : Int)) = false := fun c hc => beq_eq_false_iff_ne.2 fun e => hc (UInt8.toNat_inj.1 (by omega))
      have q0 : ((b.toNat : Int) == 100) = false := hbn 100 b1
      have q1 : ((b.toNat : Int) == 119) = false := hbn 119 b2
      have q2 : ((b.toNat : Int) == 115) = false := hbn 115 b3
      have HD : Hid (R = (none, r)) := by unfold Hid; rw [HD0.out]; unfold groupF; rw [if_neg b1, if_neg b2, if_neg b3]
      have HZ := Lib.hid (fill4_four hg1 .zero)
      have HE := Lib.hid (rd_end H.out.1 (fill4_below hBq (Nat.le_refl _) .zero))
      have ⟨z0, z1, z2, z3⟩ := hg1.cells
      have y0 := hg1.free 0
      have y1 := hg1.free 1
      have y2 := hg1.free 2
      have y3 := hg1.free 3
      clear H H1 H2 H3 H4 H5 H6 HD0 hbn b1 b2 b3 hg4 hg1 hg3 hBq hB_wr
      go_wp2_with fail
      have ⟨s0, s1, s2, s3⟩ := HZ.out.cells
      unfold fill4 Set4.zero at s0 s1 s2 s3
      exact bodyPost_ret (v := .tuple #[setA .zero, .bool false]) (by simp [results, Tryz.results257, go_sem, s0, s1, s2, s3, setA, Set4.zero]) rfl (by rw [HD.out]; exact ⟨rfl, HE.out⟩)
end Go.Proofs.YtdkbfljhfhjofaaGreatDoor
