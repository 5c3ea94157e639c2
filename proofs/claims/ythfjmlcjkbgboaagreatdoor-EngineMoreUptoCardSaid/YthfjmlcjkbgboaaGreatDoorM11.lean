/- Part 11 of the proof: lemmas and walks that the last texts use. -/
import Derived.Test.YthfjmlcjkbgboaaGreatDoorM09
import Derived.Test.YthfjmlcjkbgboaaGreatDoorM10
namespace Go.Proofs.YthfjmlcjkbgboaaGreatDoor
open Go.RowKit
theorem only_low {a w w' : World} {row : Option Nat} (h : a.grownBy w row) (hb : Below a.heap.size w w') : a.grownBy w' row :=
  ⟨hb.os.trans h.os, hb.tape.trans h.tape, hb.output.trans h.output, Nat.le_trans h.size hb.size, fun i hi hne => (hb.block i hi).trans (h.block i hi hne)⟩
theorem rd_end {g : Nat} {s : ByteArray} {r : RS} {w W : World} (h : RdAt g s r w) (hb : Below w.heap.size w W) : RdEnd g s r w W := ⟨h.below hb, only_low (grown_refl w _) hb⟩
theorem RdEnd.low {g : Nat} {s : ByteArray} {r : RS} {w W W' : World} (hg : g < w.heap.size) (h : RdEnd g s r w W) (hb : Below w.heap.size W W') : RdEnd g s r w W' := ⟨(hb.block g hg).trans h.1, only_low h.2 hb⟩
def fill4 (W : World) (k : Nat) (S : Set4) : World := (((W.setCell ⟨k, 0, none⟩ (.int .u64 S.a)).setCell ⟨k, 1, none⟩ (.int .u64 S.b)).setCell ⟨k, 2, none⟩ (.int .u64 S.c)).setCell ⟨k, 3, none⟩ (.int .u64 S.d)
theorem fill4_below {W w : World} {B k : Nat} (h : Below B w W) (hk : B ≤ k) (S : Set4) : Below B w (fill4 W k S) :=
  (((h.setCell (p := ⟨k, 0, none⟩) hk _).setCell (p := ⟨k, 1, none⟩) hk _).setCell (p := ⟨k, 2, none⟩) hk _).setCell (p := ⟨k, 3, none⟩) hk _
theorem fill4_four {W : World} {k : Nat} {Z : Set4} (h : FourW W k Z) (S : Set4) : FourW (fill4 W k S) k S := h.fill S
def rgF (lo hi : Nat) : Nat → Bool := fun x => decide (lo ≤ x) && decide (x ≤ hi)
def wordF : Nat → Bool := fun x => (rgF 97 122 x || rgF 65 90 x) || (rgF 48 57 x || rgF 95 95 x)
def spcF : Nat → Bool := fun x => rgF 9 13 x || rgF 32 32 x
def groupF (b : UInt8) : Option (Nat → Bool) := if b = 100 then some (rgF 48 57) else if b = 119 then some wordF else if b = 115 then some spcF else none
def groupR (s : List UInt8) (r : RS) : Option (Nat → Bool) × RS :=
  if nextR s r = 92 then match s[r.pos + 1]? with
    | none => (none, r)
    | some b => match groupF b with
      | none => (none, r)
      | some f => (some f, { r with pos := r.pos + 2 })
  else (none, r)
def GroupPost (g : Nat) (s : ByteArray) (R : Option (Nat → Bool) × RS) (w : World) (e : Ending) (w' : World) : Prop :=
  e = .returned (.tuple #[setA (match R.1 with | some f => setF f | none => .zero), .bool R.1.isSome]) ∧ RdEnd g s R.2 w w'
set_option maxRecDepth 100000 in
set_option maxHeartbeats 6400000 in
theorem group_any (g : Nat) (s : ByteArray) (r : RS) (w : World) (h : RdAt g s r w) (hp : r.pos ≤ s.size) (hs : s.size ≤ 4096) :
    Calls Tryz.prog 312 #[.pointer (some ⟨g, 0, none⟩)] w (GroupPost g s (groupR s.data.toList r) w) := by
  have hnb := nextR_byte (s := s.data.toList) (r := r)
  have hsl : s.data.toList.length = s.size := by simp
  have hpos : 0 ≤ nextR s.data.toList r → r.pos < s.size := fun h => by have := (nextR_pos rfl h).1; omega
  obtain ⟨W0, hW0⟩ : ∃ W0, w.alloc (.cells #[.int .u64 0, .int .u64 0, .int .u64 0, .int .u64 0] 214) = W0 := ⟨_, rfl⟩
  have hz : FourW W0 w.heap.size .zero := by rw [← hW0]; have := FourW.new w; rw [setF_none] at this; exact this
  have hb0 : Below w.heap.size w W0 := by rw [← hW0]; exact (Below.refl _ _).alloc (Nat.le_refl _) _
  have h0 : RdAt g s r W0 := h.below hb0
  have HN : Hid (∀ n, Calls Tryz.prog 254 #[.pointer (some ⟨g, 0, none⟩)] (W0.drewN n) fun e w' => e = .returned (.int .i64 (nextR s.data.toList r)) ∧ ∃ m, w' = (W0.drewN n).drewN m) := fun n => next_quiet g s r _ (h0.drew n) hp
  have HGR : Hid (groupR s.data.toList r = if nextR s.data.toList r = 92 then match s.data.toList[r.pos + 1]? with
    | none => (none, r)
    | some b => match groupF b with
      | none => (none, r)
      | some f => (some f, { r with pos := r.pos + 2 })
  else (none, r)) := rfl
  generalize groupR s.data.toList r = R at *
  generalize nextR s.data.toList r = N at *
  have ⟨c0, c1, c2, c3⟩ := h0.cells
  have i7 : IntKind.i64.wrap ((r.pos : Int) + 1) = ((r.pos + 1 : Nat) : Int) := IntWalk.i64_in _ (by omega)
  have HW0 := Lib.hid hW0
  have H := Lib.hid (And.intro h (And.intro h0 (And.intro hz hb0)))
  clear hW0 h h0 hz hb0
  go_enter Tryz.func312, Tryz.ntmps312
  go_upto_region 1 with fail
  rw [HW0.out]
  by_cases q0 : N = 92
  rotate_left
  · have d0 : (N != 92) = true := bne_iff_ne.2 q0
    have HD : Hid (R = (none, r)) := by unfold Hid; rw [HGR.out, if_neg q0]
    clear HGR q0
    go_quiet ((go_at_call 254; exact Calls.quiet_of (HN.out _)))
    obtain ⟨wq, hwq⟩ : ∃ wq, W0.drewN nq = wq := ⟨_, rfl⟩
    have hq : FourW wq w.heap.size .zero ∧ Below w.heap.size w wq := by rw [← hwq]; exact ⟨H.out.2.2.1, below_drewN H.out.2.2.2 nq⟩
    rw [hwq]
    have HZ := Lib.hid (fill4_four hq.1 .zero)
    have HE := Lib.hid (rd_end H.out.1 (fill4_below hq.2 (Nat.le_refl _) .zero))
    have ⟨z0, z1, z2, z3⟩ := hq.1.cells
    have y0 := hq.1.free 0
    have y1 := hq.1.free 1
    have y2 := hq.1.free 2
    have y3 := hq.1.free 3
    clear hwq hq H c0 c1 c2 c3
    go_wp2_with fail
    have ⟨s0, s1, s2, s3⟩ := HZ.out.cells
    unfold fill4 Set4.zero at s0 s1 s2 s3
    exact bodyPost_ret (v := .tuple #[setA .zero, .bool false]) (by simp [results, Tryz.results312, go_sem, s0, s1, s2, s3, setA, Set4.zero]) rfl (by rw [HD.out]; exact ⟨rfl, HE.out⟩)
  · subst q0
    have hlt := hpos (by omega)
    by_cases hend : r.pos + 1 = s.size
    · have d1 : (((r.pos + 1 : Nat) : Int) == (s.size : Int)) = true := by rw [beq_iff_eq]; omega
      have HD : Hid (R = (none, r)) := by unfold Hid; rw [HGR.out, if_pos rfl, List.getElem?_eq_none (by omega)]
      clear HGR hend
      go_quiet ((go_at_call 254; exact Calls.quiet_of (HN.out _)))
      obtain ⟨wq, hwq⟩ : ∃ wq, W0.drewN nq = wq := ⟨_, rfl⟩
      have hq : FourW wq w.heap.size .zero ∧ Below w.heap.size w wq := by rw [← hwq]; exact ⟨H.out.2.2.1, below_drewN H.out.2.2.2 nq⟩
      rw [hwq]
      have HZ := Lib.hid (fill4_four hq.1 .zero)
      have HE := Lib.hid (rd_end H.out.1 (fill4_below hq.2 (Nat.le_refl _) .zero))
      have ⟨z0, z1, z2, z3⟩ := hq.1.cells
      have y0 := hq.1.free 0
      have y1 := hq.1.free 1
      have y2 := hq.1.free 2
      have y3 := hq.1.free 3
      clear hwq hq H c0 c1 c2 c3
      go_wp2_with fail
      have ⟨s0, s1, s2, s3⟩ := HZ.out.cells
      unfold fill4 Set4.zero at s0 s1 s2 s3
      exact bodyPost_ret (v := .tuple #[setA .zero, .bool false]) (by simp [results, Tryz.results312, go_sem, s0, s1, s2, s3, setA, Set4.zero]) rfl (by rw [HD.out]; exact ⟨rfl, HE.out⟩)
    · have hlt2 : r.pos + 1 < s.size := by omega
      have d1 : (((r.pos + 1 : Nat) : Int) == (s.size : Int)) = false := by rw [beq_eq_false_iff_ne]; omega
      have HD0 : Hid (R = match groupF s[r.pos + 1] with
        | none => (none, r)
        | some f => (some f, { r with pos := r.pos + 2 })) := by unfold Hid; rw [HGR.out, if_pos rfl, Lib.data_getElem? s (r.pos + 1) hlt2]
      clear HGR hend
      go_quiet ((go_at_call 254; exact Calls.quiet_of (HN.out _)))
      obtain ⟨wq, hwq⟩ : ∃ wq, W0.drewN nq = wq := ⟨_, rfl⟩
      have hq : FourW wq w.heap.size .zero ∧ Below w.heap.size w wq ∧ RdAt g s r wq ∧ w.heap.size < wq.heap.size := by
        have hz : w.heap.size < W0.heap.size := by rw [← HW0.out]; simp
        rw [← hwq]; exact ⟨H.out.2.2.1, below_drewN H.out.2.2.2 nq, H.out.2.1.drew nq, hz⟩
      rw [hwq]
      obtain ⟨hq1, hq2, hq3, hq4⟩ := hq
      have ⟨c0, c1, c2, c3⟩ := hq3.cells
      clear hwq HN
      generalize hb : s[r.pos + 1] = b at *
      obtain ⟨W1, hW1⟩ : ∃ W1, wq.alloc (.cells #[.int .u64 0, .int .u64 0, .int .u64 0, .int .u64 0] 214) = W1 := ⟨_, rfl⟩
      have hal : Below wq.heap.size wq W1 := by rw [← hW1]; exact (Below.refl _ _).alloc (Nat.le_refl _) _
      have hg4 : FourW W1 wq.heap.size .zero := by rw [← hW1]; have := FourW.new wq; rw [setF_none] at this; exact this
      have hg1 : FourW W1 w.heap.size .zero := hq1.below hal hq4
      have hg3 : RdAt g s r W1 := hq3.below hal
      have HW1 := Lib.hid hW1
      clear hW1
      go_upto_region 4 with fail
      rw [HW1.out]
      have i7b : ((r.pos + 1 : Nat) : Int).toNat = r.pos + 1 := by omega
      have ⟨c0, c1, c2, c3⟩ := hg3.cells
      go_quiet (fail)
      obtain ⟨wr, hwr⟩ : ∃ wr, W1.drewN nq = wr := ⟨_, rfl⟩
      have hr : FourW wr wq.heap.size .zero ∧ FourW wr w.heap.size .zero ∧ RdAt g s r wr ∧ Below w.heap.size w wr ∧ wq.heap.size < wr.heap.size := by
        have hz : wq.heap.size < W1.heap.size := by rw [← HW1.out]; simp
        rw [← hwr]; exact ⟨hg4, hg1, hg3.drew nq, below_drewN (hq2.trans (hal.mono (Nat.le_of_lt hq4))) nq, hz⟩
      rw [hwr]
      clear hwr HW1 hal hg4 hg1 hg3 hq1 hq2 hq3 c0 c1 c2 c3 HW0
      obtain ⟨hg4, hg1, hg3, hBq, hkk⟩ := hr
      have hzq := hBq.size
      have hB_wr := Below.refl wr.heap.size wr
      have H1 : Hid (∀ W, Calls Tryz.prog 193 #[.int .i64 48, .int .i64 57] W (SetPostW (setF (rgF 48 57)) W)) := fun W => Range_any 48 57 (by decide) (by decide) W
      have H2 : Hid (∀ W, Calls Tryz.prog 193 #[.int .i64 97, .int .i64 122] W (SetPostW (setF (rgF 97 122)) W)) := fun W => Range_any 97 122 (by decide) (by decide) W
      have H3 : Hid (∀ W, Calls Tryz.prog 193 #[.int .i64 65, .int .i64 90] W (SetPostW (setF (rgF 65 90)) W)) := fun W => Range_any 65 90 (by decide) (by decide) W
      have H4 : Hid (∀ W, Calls Tryz.prog 193 #[.int .i64 95, .int .i64 95] W (SetPostW (setF (rgF 95 95)) W)) := fun W => Range_any 95 95 (by decide) (by decide) W
      have H5 : Hid (∀ W, Calls Tryz.prog 193 #[.int .i64 9, .int .i64 13] W (SetPostW (setF (rgF 9 13)) W)) := fun W => Range_any 9 13 (by decide) (by decide) W
      have H6 : Hid (∀ W, Calls Tryz.prog 193 #[.int .i64 32, .int .i64 32] W (SetPostW (setF (rgF 32 32)) W)) := fun W => Range_any 32 32 (by decide) (by decide) W
      by_cases b1 : b = 100
      · subst b1
        have q1 : (((100 : UInt8).toNat : Int) == 100) = true := rfl
        go_wp2_with (go_at_call 193; apply Hid.out)
        unfold Hid
        refine (H1.out wr).mono ?_
        rintro e wa ⟨rfl, hb_wa⟩
        have hB_wa := hB_wr.trans (hb_wa.mono hB_wr.size)
        clear hb_wa
        have hX0 : FourW wa wq.heap.size .zero := (hB_wa.block _ hkk).trans hg4
        have hX1 : FourW wa w.heap.size .zero := (hB_wa.block _ (Nat.lt_trans hq4 hkk)).trans hg1
        have hX3 : RdAt g s r wa := hg3.below hB_wa
        have ⟨x0, x1, x2, x3⟩ := hX0.cells
        have v0 := hX0.free 0
        have v1 := hX0.free 1
        have v2 := hX0.free 2
        have v3 := hX0.free 3
        obtain ⟨S, hS⟩ : ∃ S, setF (rgF 48 57) = S := ⟨_, rfl⟩
        have HS := Lib.hid hS
        have HD : Hid (R = (some (rgF 48 57), { r with pos := r.pos + 2 })) := by unfold Hid; rw [HD0.out]; rfl
        rw [show setA (setF (rgF 48 57)) = setA S from by rw [hS]]
        unfold setA
        have hBW := hBq.trans (hB_wa.mono hzq)
        have hX4 : FourW (fill4 wa wq.heap.size S) wq.heap.size S := fill4_four hX0 S
        have hX5 : FourW (fill4 wa wq.heap.size S) w.heap.size .zero := (((hX1.far (by omega) 0 _).far (by omega) 1 _).far (by omega) 2 _).far (by omega) 3 _
        have hX6 : Below w.heap.size w (fill4 wa wq.heap.size S) := fill4_below hBW (Nat.le_of_lt hq4) S
        clear hS hX0 hX1 hX3 hBW HD0 hB_wa
        go_upto_region 12 with fail
        rw [show (((wa.setCell ⟨wq.heap.size, 0, none⟩ (.int .u64 S.a)).setCell ⟨wq.heap.size, 1, none⟩ (.int .u64 S.b)).setCell ⟨wq.heap.size, 2, none⟩ (.int .u64 S.c)).setCell ⟨wq.heap.size, 3, none⟩ (.int .u64 S.d) = fill4 wa wq.heap.size S from rfl]
        generalize fill4 wa wq.heap.size S = X1 at *
        have hE1 := rd_end H.out.1 hX6
        have ⟨c0, c1, c2, c3⟩ := hE1.1.cells
        have f1 := hE1.1.free 1
        have hE2 : RdEnd g s { r with pos := r.pos + 2 } w (X1.setCell ⟨g, 1, none⟩ (.int .i64 ((r.pos + 2 : Nat) : Int))) := ⟨hE1.1.setPos _, only_setCell hE1.2 1 _⟩
        have hY4 := hX4.far (k := g) (by have := H.out.1.lt; omega) 1 (.int .i64 ((r.pos + 2 : Nat) : Int))
        have hY5 := hX5.far (k := g) (by have := H.out.1.lt; omega) 1 (.int .i64 ((r.pos + 2 : Nat) : Int))
        have i2 : IntKind.i64.wrap ((r.pos : Int) + 2) = (r.pos : Int) + 2 := IntWalk.i64_in _ (by omega)
        have e2 : ((r.pos + 2 : Nat) : Int) = (r.pos : Int) + 2 := by omega
        rw [e2] at hE2 hY4 hY5
        clear e2
        clear hX4 hX5 hX6 hE1 x0 x1 x2 x3 v0 v1 v2 v3
        go_upto_region 13 with fail
        generalize X1.setCell ⟨g, 1, none⟩ (.int .i64 ((r.pos : Int) + 2)) = X2 at *
        have ⟨x0, x1, x2, x3⟩ := hY4.cells
        have ⟨z0, z1, z2, z3⟩ := hY5.cells
        have y0 := hY5.free 0
        have y1 := hY5.free 1
        have y2 := hY5.free 2
        have y3 := hY5.free 3
        have HZ := Lib.hid (fill4_four hY5 S)
        have HE := Lib.hid (RdEnd.low H.out.1.lt hE2 (fill4_below (Below.refl _ X2) (Nat.le_refl _) S))
        clear hY4 hY5 hE2 c0 c1 c2 c3 f1
        go_wp2_with fail
        have ⟨s0, s1, s2, s3⟩ := HZ.out.cells
        unfold fill4 at s0 s1 s2 s3
        exact bodyPost_ret (v := .tuple #[setA S, .bool true]) (by simp [results, Tryz.results312, go_sem, s0, s1, s2, s3, setA]) rfl (by rw [HD.out]; exact ⟨by show _ = Ending.returned (.tuple #[setA (setF (rgF 48 57)), .bool true]); rw [HS.out], HE.out⟩)
      by_cases b2 : b = 119
      · subst b2
        have q0 : (((119 : UInt8).toNat : Int) == 100) = false := rfl
        have q1 : (((119 : UInt8).toNat : Int) == 119) = true := rfl
        go_wp2_with (go_at_call 193; apply Hid.out)
        unfold Hid
        refine (H2.out wr).mono ?_
        rintro e wa ⟨rfl, hb_wa⟩
        have hB_wa := hB_wr.trans (hb_wa.mono hB_wr.size)
        clear hb_wa
        go_wp2_with (go_at_call 193; apply Hid.out)
        unfold Hid
        refine (H3.out wa).mono ?_
        rintro e wb ⟨rfl, hb_wb⟩
        have hB_wb := hB_wa.trans (hb_wb.mono hB_wa.size)
        clear hb_wb
        go_wp2_with (go_at_call 318; apply Hid.out)
        unfold Hid
        refine (union_any (rgF 97 122) (rgF 65 90) wb).mono ?_
        rintro e wc ⟨rfl, hb_wc⟩
        have hB_wc := hB_wb.trans (hb_wc.mono hB_wb.size)
        clear hb_wc
        go_wp2_with (go_at_call 193; apply Hid.out)
        unfold Hid
        refine (H1.out wc).mono ?_
        rintro e wd ⟨rfl, hb_wd⟩
        have hB_wd := hB_wc.trans (hb_wd.mono hB_wc.size)
        clear hb_wd
        go_wp2_with (go_at_call 193; apply Hid.out)
        unfold Hid
        refine (H4.out wd).mono ?_
        rintro e we ⟨rfl, hb_we⟩
        have hB_we := hB_wd.trans (hb_we.mono hB_wd.size)
        clear hb_we
        go_wp2_with (go_at_call 318; apply Hid.out)
        unfold Hid
        refine (union_any (rgF 48 57) (rgF 95 95) we).mono ?_
        rintro e wf ⟨rfl, hb_wf⟩
        have hB_wf := hB_we.trans (hb_wf.mono hB_we.size)
        clear hb_wf
        go_wp2_with (go_at_call 318; apply Hid.out)
        unfold Hid
        refine (union_any (fun x => rgF 97 122 x || rgF 65 90 x) (fun x => rgF 48 57 x || rgF 95 95 x) wf).mono ?_
        rintro e wg ⟨rfl, hb_wg⟩
        have hB_wg := hB_wf.trans (hb_wg.mono hB_wf.size)
        clear hb_wg
        have hX0 : FourW wg wq.heap.size .zero := (hB_wg.block _ hkk).trans hg4
        have hX1 : FourW wg w.heap.size .zero := (hB_wg.block _ (Nat.lt_trans hq4 hkk)).trans hg1
        have hX3 : RdAt g s r wg := hg3.below hB_wg
        have ⟨x0, x1, x2, x3⟩ := hX0.cells
        have v0 := hX0.free 0
        have v1 := hX0.free 1
        have v2 := hX0.free 2
        have v3 := hX0.free 3
        obtain ⟨S, hS⟩ : ∃ S, setF (wordF) = S := ⟨_, rfl⟩
        have HS := Lib.hid hS
        have HD : Hid (R = (some (wordF), { r with pos := r.pos + 2 })) := by unfold Hid; rw [HD0.out]; rfl
        rw [show setA (setF (fun x => (rgF 97 122 x || rgF 65 90 x) || (rgF 48 57 x || rgF 95 95 x))) = setA S from by rw [← hS]; rfl]
        unfold setA
        have hBW := hBq.trans (hB_wg.mono hzq)
        have hX4 : FourW (fill4 wg wq.heap.size S) wq.heap.size S := fill4_four hX0 S
        have hX5 : FourW (fill4 wg wq.heap.size S) w.heap.size .zero := (((hX1.far (by omega) 0 _).far (by omega) 1 _).far (by omega) 2 _).far (by omega) 3 _
        have hX6 : Below w.heap.size w (fill4 wg wq.heap.size S) := fill4_below hBW (Nat.le_of_lt hq4) S
        clear hS hX0 hX1 hX3 hBW HD0 hB_wg
        go_upto_region 12 with fail
        rw [show (((wg.setCell ⟨wq.heap.size, 0, none⟩ (.int .u64 S.a)).setCell ⟨wq.heap.size, 1, none⟩ (.int .u64 S.b)).setCell ⟨wq.heap.size, 2, none⟩ (.int .u64 S.c)).setCell ⟨wq.heap.size, 3, none⟩ (.int .u64 S.d) = fill4 wg wq.heap.size S from rfl]
        generalize fill4 wg wq.heap.size S = X1 at *
        have hE1 := rd_end H.out.1 hX6
        have ⟨c0, c1, c2, c3⟩ := hE1.1.cells
        have f1 := hE1.1.free 1
        have hE2 : RdEnd g s { r with pos := r.pos + 2 } w (X1.setCell ⟨g, 1, none⟩ (.int .i64 ((r.pos + 2 : Nat) : Int))) := ⟨hE1.1.setPos _, only_setCell hE1.2 1 _⟩
        have hY4 := hX4.far (k := g) (by have := H.out.1.lt; omega) 1 (.int .i64 ((r.pos + 2 : Nat) : Int))
        have hY5 := hX5.far (k := g) (by have := H.out.1.lt; omega) 1 (.int .i64 ((r.pos + 2 : Nat) : Int))
        have i2 : IntKind.i64.wrap ((r.pos : Int) + 2) = (r.pos : Int) + 2 := IntWalk.i64_in _ (by omega)
        have e2 : ((r.pos + 2 : Nat) : Int) = (r.pos : Int) + 2 := by omega
        rw [e2] at hE2 hY4 hY5
        clear e2
        clear hX4 hX5 hX6 hE1 x0 x1 x2 x3 v0 v1 v2 v3
        go_upto_region 13 with fail
        generalize X1.setCell ⟨g, 1, none⟩ (.int .i64 ((r.pos : Int) + 2)) = X2 at *
        have ⟨x0, x1, x2, x3⟩ := hY4.cells
        have ⟨z0, z1, z2, z3⟩ := hY5.cells
        have y0 := hY5.free 0
        have y1 := hY5.free 1
        have y2 := hY5.free 2
        have y3 := hY5.free 3
        have HZ := Lib.hid (fill4_four hY5 S)
        have HE := Lib.hid (RdEnd.low H.out.1.lt hE2 (fill4_below (Below.refl _ X2) (Nat.le_refl _) S))
        clear hY4 hY5 hE2 c0 c1 c2 c3 f1
        go_wp2_with fail
        have ⟨s0, s1, s2, s3⟩ := HZ.out.cells
        unfold fill4 at s0 s1 s2 s3
        exact bodyPost_ret (v := .tuple #[setA S, .bool true]) (by simp [results, Tryz.results312, go_sem, s0, s1, s2, s3, setA]) rfl (by rw [HD.out]; exact ⟨by show _ = Ending.returned (.tuple #[setA (setF (wordF)), .bool true]); rw [HS.out], HE.out⟩)
      by_cases b3 : b = 115
      · subst b3
        have q0 : (((115 : UInt8).toNat : Int) == 100) = false := rfl
        have q1 : (((115 : UInt8).toNat : Int) == 119) = false := rfl
        have q2 : (((115 : UInt8).toNat : Int) == 115) = true := rfl
        go_wp2_with (go_at_call 193; apply Hid.out)
        unfold Hid
        refine (H5.out wr).mono ?_
        rintro e wa ⟨rfl, hb_wa⟩
        have hB_wa := hB_wr.trans (hb_wa.mono hB_wr.size)
        clear hb_wa
        go_wp2_with (go_at_call 193; apply Hid.out)
        unfold Hid
        refine (H6.out wa).mono ?_
        rintro e wb ⟨rfl, hb_wb⟩
        have hB_wb := hB_wa.trans (hb_wb.mono hB_wa.size)
        clear hb_wb
        go_wp2_with (go_at_call 318; apply Hid.out)
        unfold Hid
        refine (union_any (rgF 9 13) (rgF 32 32) wb).mono ?_
        rintro e wc ⟨rfl, hb_wc⟩
        have hB_wc := hB_wb.trans (hb_wc.mono hB_wb.size)
        clear hb_wc
        have hX0 : FourW wc wq.heap.size .zero := (hB_wc.block _ hkk).trans hg4
        have hX1 : FourW wc w.heap.size .zero := (hB_wc.block _ (Nat.lt_trans hq4 hkk)).trans hg1
        have hX3 : RdAt g s r wc := hg3.below hB_wc
        have ⟨x0, x1, x2, x3⟩ := hX0.cells
        have v0 := hX0.free 0
        have v1 := hX0.free 1
        have v2 := hX0.free 2
        have v3 := hX0.free 3
        obtain ⟨S, hS⟩ : ∃ S, setF (spcF) = S := ⟨_, rfl⟩
        have HS := Lib.hid hS
        have HD : Hid (R = (some (spcF), { r with pos := r.pos + 2 })) := by unfold Hid; rw [HD0.out]; rfl
        rw [show setA (setF (fun x => rgF 9 13 x || rgF 32 32 x)) = setA S from by rw [← hS]; rfl]
        unfold setA
        have hBW := hBq.trans (hB_wc.mono hzq)
        have hX4 : FourW (fill4 wc wq.heap.size S) wq.heap.size S := fill4_four hX0 S
        have hX5 : FourW (fill4 wc wq.heap.size S) w.heap.size .zero := (((hX1.far (by omega) 0 _).far (by omega) 1 _).far (by omega) 2 _).far (by omega) 3 _
        have hX6 : Below w.heap.size w (fill4 wc wq.heap.size S) := fill4_below hBW (Nat.le_of_lt hq4) S
        clear hS hX0 hX1 hX3 hBW HD0 hB_wc
        go_upto_region 12 with fail
        rw [show (((wc.setCell ⟨wq.heap.size, 0, none⟩ (.int .u64 S.a)).setCell ⟨wq.heap.size, 1, none⟩ (.int .u64 S.b)).setCell ⟨wq.heap.size, 2, none⟩ (.int .u64 S.c)).setCell ⟨wq.heap.size, 3, none⟩ (.int .u64 S.d) = fill4 wc wq.heap.size S from rfl]
        generalize fill4 wc wq.heap.size S = X1 at *
        have hE1 := rd_end H.out.1 hX6
        have ⟨c0, c1, c2, c3⟩ := hE1.1.cells
        have f1 := hE1.1.free 1
        have hE2 : RdEnd g s { r with pos := r.pos + 2 } w (X1.setCell ⟨g, 1, none⟩ (.int .i64 ((r.pos + 2 : Nat) : Int))) := ⟨hE1.1.setPos _, only_setCell hE1.2 1 _⟩
        have hY4 := hX4.far (k := g) (by have := H.out.1.lt; omega) 1 (.int .i64 ((r.pos + 2 : Nat) : Int))
        have hY5 := hX5.far (k := g) (by have := H.out.1.lt; omega) 1 (.int .i64 ((r.pos + 2 : Nat) : Int))
        have i2 : IntKind.i64.wrap ((r.pos : Int) + 2) = (r.pos : Int) + 2 := IntWalk.i64_in _ (by omega)
        have e2 : ((r.pos + 2 : Nat) : Int) = (r.pos : Int) + 2 := by omega
        rw [e2] at hE2 hY4 hY5
        clear e2
        clear hX4 hX5 hX6 hE1 x0 x1 x2 x3 v0 v1 v2 v3
        go_upto_region 13 with fail
        generalize X1.setCell ⟨g, 1, none⟩ (.int .i64 ((r.pos : Int) + 2)) = X2 at *
        have ⟨x0, x1, x2, x3⟩ := hY4.cells
        have ⟨z0, z1, z2, z3⟩ := hY5.cells
        have y0 := hY5.free 0
        have y1 := hY5.free 1
        have y2 := hY5.free 2
        have y3 := hY5.free 3
        have HZ := Lib.hid (fill4_four hY5 S)
        have HE := Lib.hid (RdEnd.low H.out.1.lt hE2 (fill4_below (Below.refl _ X2) (Nat.le_refl _) S))
        clear hY4 hY5 hE2 c0 c1 c2 c3 f1
        go_wp2_with fail
        have ⟨s0, s1, s2, s3⟩ := HZ.out.cells
        unfold fill4 at s0 s1 s2 s3
        exact bodyPost_ret (v := .tuple #[setA S, .bool true]) (by simp [results, Tryz.results312, go_sem, s0, s1, s2, s3, setA]) rfl (by rw [HD.out]; exact ⟨by show _ = Ending.returned (.tuple #[setA (setF (spcF)), .bool true]); rw [HS.out], HE.out⟩)
      have hbn : ∀ c : UInt8, b ≠ c → ((b.toNat : Int) == (c.toNat : Int)) = false := fun c hc => beq_eq_false_iff_ne.2 fun e => hc (UInt8.toNat_inj.1 (by omega))
      have q0 : ((b.toNat : Int) == 100) = false := hbn 100 b1
      have q1 : ((b.toNat : Int) == 119) = false := hbn 119 b2
      have q2 : ((b.toNat : Int) == 115) = false := hbn 115 b3
      have HD : Hid (R = (none, r)) := by unfold Hid; rw [HD0.out]; unfold groupF; rw [if_neg b1, if_neg b2, if_neg b3]
      have HZ := Lib.hid (fill4_four hg1 .zero)
      have HE := Lib.hid (rd_end H.out.1 (fill4_below hBq (Nat.le_refl _) .zero))
      have ⟨z0, z1, z2, z3⟩ := hg1.cells
      have y0 := hg1.free 0
      have y1 := hg1.free 1
      have y2 := hg1.free 2
      have y3 := hg1.free 3
      clear H H1 H2 H3 H4 H5 H6 HD0 hbn b1 b2 b3 hg4 hg1 hg3 hBq hB_wr
      go_wp2_with fail
      have ⟨s0, s1, s2, s3⟩ := HZ.out.cells
      unfold fill4 Set4.zero at s0 s1 s2 s3
      exact bodyPost_ret (v := .tuple #[setA .zero, .bool false]) (by simp [results, Tryz.results312, go_sem, s0, s1, s2, s3, setA, Set4.zero]) rfl (by rw [HD.out]; exact ⟨rfl, HE.out⟩)
end Go.Proofs.YthfjmlcjkbgboaaGreatDoor
namespace Go.Proofs.YthfjmlcjkbgboaaGreatDoor
open Go.RowKit
theorem failR_facts (r : RS) (x : Int) (hx : x ≠ 0) : (failR r x).pos = r.pos ∧ (failR r x).op = r.op ∧ (failR r x).e ≠ 0 := by
  unfold failR
  by_cases h : r.e = 0
  · rw [if_pos h]; exact ⟨rfl, rfl, hx⟩
  · rw [if_neg h]; exact ⟨rfl, rfl, h⟩
/-- A step of the reader: it stays in the text; it goes on or has failed; an error stays. -/
structure Step (s : List UInt8) (r r' : RS) : Prop where
  inn : r'.pos ≤ s.length
  le : r.pos ≤ r'.pos
  op : r'.op = r.op
  keep : r.e ≠ 0 → r'.e ≠ 0
theorem Step.refl {s : List UInt8} {r : RS} (h : r.pos ≤ s.length) : Step s r r := ⟨h, Nat.le_refl _, rfl, id⟩
theorem Step.trans {s : List UInt8} {a b c : RS} (h : Step s a b) (k : Step s b c) : Step s a c := ⟨k.inn, Nat.le_trans h.le k.le, k.op.trans h.op, fun e => k.keep (h.keep e)⟩
theorem step_fail {s : List UInt8} {r : RS} (h : r.pos ≤ s.length) (x : Int) (hx : x ≠ 0) : Step s r (failR r x) := by
  obtain ⟨h1, h2, h3⟩ := failR_facts r x hx
  exact ⟨by omega, by omega, h2, fun _ => h3⟩
theorem step_on {s : List UInt8} {r : RS} (h : r.pos < s.length) : Step s r { r with pos := r.pos + 1 } := ⟨h, Nat.le_succ _, rfl, id⟩
theorem take_step {s : List UInt8} {r : RS} (h : r.pos ≤ s.length) {b : Int} (hb : 0 ≤ b) : Step s r (takeR s r b).2 ∧ ((takeR s r b).1 = true → r.pos < (takeR s r b).2.pos ∧ r.e = 0) := by
  unfold takeR
  by_cases he : nextR s r = b
  · rw [if_pos he]
    have := nextR_pos he hb
    exact ⟨step_on this.1, fun _ => ⟨Nat.lt_succ_self _, this.2⟩⟩
  · rw [if_neg he]
    exact ⟨Step.refl h, fun h => by cases h⟩
theorem index_below {l : List UInt8} {b : UInt8} : Lib.indexByte l b < 0 ∨ Lib.indexByte l b < l.length := by
  rcases Int.lt_or_le (Lib.indexByte l b) 0 with h | h
  · exact .inl h
  · obtain ⟨o, ho⟩ : ∃ o : Nat, Lib.indexByte l b = o := ⟨(Lib.indexByte l b).toNat, by omega⟩
    have := (List.getElem?_eq_some_iff.1 (Lib.indexByte_some ho).1).1
    exact .inr (by omega)
theorem digit_step {s : List UInt8} {r : RS} (h : r.pos ≤ s.length) : Step s r (digitR s r).2 ∧ 0 ≤ (digitR s r).1 ∧ (digitR s r).1 ≤ 15 := by
  unfold digitR
  by_cases h1 : nextR s r < 0
  · rw [if_pos h1]
    exact ⟨step_fail h 3 (by decide), Int.le_refl _, by show (0 : Int) ≤ 15; decide⟩
  rw [if_neg h1]
  by_cases h2 : Lib.indexByte hexL (nextR s r).toNat.toUInt8 < 0
  · rw [if_pos h2]
    exact ⟨step_fail h 3 (by decide), Int.le_refl _, by show (0 : Int) ≤ 15; decide⟩
  rw [if_neg h2]
  refine ⟨step_on (nextR_pos rfl (by omega)).1, by show 0 ≤ Lib.indexByte hexL _; omega, ?_⟩
  rcases index_below (l := hexL) (b := (nextR s r).toNat.toUInt8) with h3 | h3
  · exact absurd h3 h2
  · have e : ((hexL.length : Nat) : Int) = 16 := rfl
    rw [e] at h3
    show Lib.indexByte hexL _ ≤ 15
    omega
theorem char_step {s : List UInt8} {r : RS} (h : r.pos ≤ s.length) : Step s r (charR s r).2 ∧ (r.pos < (charR s r).2.pos ∨ (charR s r).2.e ≠ 0) ∧ 0 ≤ (charR s r).1 ∧ (charR s r).1 ≤ 255 := by
  have hf : ∀ q : RS, q.pos ≤ s.length → Step s q (failR q 3) ∧ (failR q 3).e ≠ 0 := fun q hq => ⟨step_fail hq 3 (by decide), (failR_facts q 3 (by decide)).2.2⟩
  have z : (0 : Int) ≤ 255 := by decide
  unfold charR
  by_cases h0 : nextR s r = 92
  · rw [if_pos h0]
    have hlt := (nextR_pos h0 (by decide)).1
    have s1 := step_on hlt
    generalize hq : ({ r with pos := r.pos + 1 } : RS) = q at *
    have hqp : q.pos = r.pos + 1 := by rw [← hq]
    have hq1 : q.pos ≤ s.length := s1.inn
    have on : ∀ v : Int, 0 ≤ nextR s q → 0 ≤ v → v ≤ 255 → Step s r { q with pos := q.pos + 1 } ∧ (r.pos < ({ q with pos := q.pos + 1 } : RS).pos ∨ ({ q with pos := q.pos + 1 } : RS).e ≠ 0) ∧ 0 ≤ v ∧ v ≤ 255 := fun v hn h1 h2 =>
      ⟨s1.trans (step_on (nextR_pos rfl hn).1), .inl (by show r.pos < q.pos + 1; omega), h1, h2⟩
    unfold escR
    by_cases h1 : nextR s q = 110
    · rw [if_pos h1]; exact on 10 (by omega) (by decide) (by decide)
    rw [if_neg h1]
    by_cases h2 : nextR s q = 116
    · rw [if_pos h2]; exact on 9 (by omega) (by decide) (by decide)
    rw [if_neg h2]
    by_cases h3 : nextR s q = 114
    · rw [if_pos h3]; exact on 13 (by omega) (by decide) (by decide)
    rw [if_neg h3]
    by_cases h4 : nextR s q = 120
    · rw [if_pos h4]
      have s2 := step_on (nextR_pos h4 (by decide)).1
      obtain ⟨s3, a1, a2⟩ := digit_step s2.inn
      obtain ⟨s4, b1, b2⟩ := digit_step s3.inn
      have l3 := s3.le
      have l4 := s4.le
      have e1 : r.pos < ({ q with pos := q.pos + 1 } : RS).pos := by show r.pos < q.pos + 1; omega
      exact ⟨s1.trans (s2.trans (s3.trans s4)), .inl (Nat.lt_of_lt_of_le e1 (Nat.le_trans l3 l4)), by dsimp only; omega, by dsimp only; omega⟩
    rw [if_neg h4]
    have fl := hf q hq1
    have fail1 : Step s r (failR q 3) ∧ (r.pos < (failR q 3).pos ∨ (failR q 3).e ≠ 0) ∧ (0 : Int) ≤ 0 ∧ (0 : Int) ≤ 255 := ⟨s1.trans fl.1, .inr fl.2, Int.le_refl _, z⟩
    by_cases h5 : nextR s q < 0
    · rw [if_pos h5]; exact fail1
    rw [if_neg h5]
    by_cases h6 : isSign (nextR s q) = true
    · rw [if_pos h6]; exact on _ (by omega) (by omega) (nextR_byte (s := s) (r := q)).2
    · rw [if_neg h6]; exact fail1
  · rw [if_neg h0]
    have fl := hf r h
    have fail1 : Step s r (failR r 3) ∧ (r.pos < (failR r 3).pos ∨ (failR r 3).e ≠ 0) ∧ (0 : Int) ≤ 0 ∧ (0 : Int) ≤ 255 := ⟨fl.1, .inr fl.2, Int.le_refl _, z⟩
    unfold plainR
    by_cases h1 : nextR s r < 33
    · rw [if_pos h1]; exact fail1
    rw [if_neg h1]
    by_cases h2 : 126 < nextR s r
    · rw [if_pos h2]; exact fail1
    rw [if_neg h2]
    by_cases h3 : isSign (nextR s r) = true
    · rw [if_pos h3]; exact fail1
    rw [if_neg h3]
    exact ⟨step_on (nextR_pos rfl (by omega)).1, .inl (Nat.lt_succ_self _), by dsimp only; omega, by dsimp only; omega⟩
theorem group_step {s : List UInt8} {r : RS} (h : r.pos ≤ s.length) : Step s r (groupR s r).2 ∧ ((groupR s r).1 = none → (groupR s r).2 = r) ∧ ∀ f, (groupR s r).1 = some f → r.pos < (groupR s r).2.pos ∧ r.e = 0 := by
  have hn : Step s r ((none, r) : Option (Nat → Bool) × RS).2 ∧ (((none, r) : Option (Nat → Bool) × RS).1 = none → ((none, r) : Option (Nat → Bool) × RS).2 = r) ∧ ∀ f, ((none, r) : Option (Nat → Bool) × RS).1 = some f → r.pos < ((none, r) : Option (Nat → Bool) × RS).2.pos ∧ r.e = 0 :=
    ⟨Step.refl h, fun _ => rfl, fun f hf => by cases hf⟩
  unfold groupR
  by_cases h0 : nextR s r = 92
  · rw [if_pos h0]
    have h1 := nextR_pos h0 (by decide)
    cases hc : s[r.pos + 1]? with
    | none => exact hn
    | some b =>
      dsimp only
      have h2 := (List.getElem?_eq_some_iff.1 hc).1
      cases groupF b with
      | none => exact hn
      | some f =>
        dsimp only
        exact ⟨⟨h2, by show r.pos ≤ r.pos + 2; omega, rfl, fun e => e⟩, fun e => absurd e (by simp), fun _ _ => ⟨by show r.pos < r.pos + 2; omega, h1.2⟩⟩
  · rw [if_neg h0]; exact hn
end Go.Proofs.YthfjmlcjkbgboaaGreatDoor
