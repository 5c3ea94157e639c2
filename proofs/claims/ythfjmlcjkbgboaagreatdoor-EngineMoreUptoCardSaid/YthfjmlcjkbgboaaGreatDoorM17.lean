/- Part 17 of the proof: lemmas and walks that the last texts use. -/
import Derived.Test.YthfjmlcjkbgboaaGreatDoorM15
import Derived.Test.YthfjmlcjkbgboaaGreatDoorM16
namespace Go.Proofs.YthfjmlcjkbgboaaGreatDoor
open Go.RowKit
/-- The end of a function that puts a tree into the result's block. -/
theorem put_end {g : Nat} {s : ByteArray} {w wr : World} {q : RS} {t : Tree} {A : Option Addr} {c : Nat} (hg : g < w.heap.size) (hr : RdAt g s q wr) (hz : ZeroX wr w.heap.size) (hf : w.grownBy wr (some g))
    (ht : LX wr (fun b => w.heap.size < b ∧ b < wr.heap.size) t (cellsX t.kind t.set A t.kids.length c)) :
    PutX (fill6 wr w.heap.size (.int .i64 t.kind) (.int .u64 t.set.a) (.int .u64 t.set.b) (.int .u64 t.set.c) (.int .u64 t.set.d) (.slice A t.kids.length c)) w.heap.size (cellsX t.kind t.set A t.kids.length c) ∧
    NewX w (fill6 wr w.heap.size (.int .i64 t.kind) (.int .u64 t.set.a) (.int .u64 t.set.b) (.int .u64 t.set.c) (.int .u64 t.set.d) (.slice A t.kids.length c)) t A c ∧
    RdEnd g s q w (fill6 wr w.heap.size (.int .i64 t.kind) (.int .u64 t.set.a) (.int .u64 t.set.b) (.int .u64 t.set.c) (.int .u64 t.set.d) (.slice A t.kids.length c)) := by
  have hb : Below w.heap.size wr (fill6 wr w.heap.size (.int .i64 t.kind) (.int .u64 t.set.a) (.int .u64 t.set.b) (.int .u64 t.set.c) (.int .u64 t.set.d) (.slice A t.kids.length c)) := fill6_below (Below.refl _ _) (Nat.le_refl _) _ _ _ _ _ _
  have hot : ∀ i, i ≠ w.heap.size → (fill6 wr w.heap.size (.int .i64 t.kind) (.int .u64 t.set.a) (.int .u64 t.set.b) (.int .u64 t.set.c) (.int .u64 t.set.d) (.slice A t.kids.length c)).heap[i]? = wr.heap[i]? := fun i hi => by
    unfold fill6
    rw [Below.heap_setCell _ _ _ _ hi, Below.heap_setCell _ _ _ _ hi, Below.heap_setCell _ _ _ _ hi, Below.heap_setCell _ _ _ _ hi, Below.heap_setCell _ _ _ _ hi, Below.heap_setCell _ _ _ _ hi]
  refine ⟨hz.fill _ _ _ _ _ _, LX.keep (fun b hb2 => ⟨Nat.le_of_lt hb2.1, Nat.lt_of_lt_of_le hb2.2 hb.size⟩) (fun b o hb2 => ?_) _ _ ht, (hb.block g hg).trans hr, grown_set hf (Nat.le_refl _) hb⟩
  simp only [World.cell?, hot b (show b ≠ w.heap.size by have := hb2.1; omega)]
/-- Where an atom stands: the reader, the result's block. -/
structure AtSt (g : Nat) (s : ByteArray) (w : World) (q : RS) (wr : World) : Prop where
  rd : RdAt g s q wr
  zero : ZeroX wr w.heap.size
  frame : w.grownBy wr (some g)
theorem AtSt.call {g : Nat} {s : ByteArray} {w : World} {q q' : RS} {wr w' : World} (hg : g < w.heap.size) (h : AtSt g s w q wr) (e : RdEnd g s q' wr w') : AtSt g s w q' w' :=
  ⟨e.1, h.zero.grown e.2 (by omega), only_trans h.frame e.2⟩
theorem AtSt.low {g : Nat} {s : ByteArray} {w : World} {q : RS} {wr w' : World} (hg : g < w.heap.size) (h : AtSt g s w q wr) (hb : Below wr.heap.size wr w') : AtSt g s w q w' := h.call hg (rd_end h.rd hb)
set_option maxRecDepth 100000 in
set_option maxHeartbeats 6400000 in
theorem atom_any (s : ByteArray) (op : Nat) (AF : RS → TR) (hs : s.size ≤ 4096) (hop20 : op ≤ 20) (hA : GoodF s.data.toList AF) (hC : op < 20 → ReadsT 182 s (op + 1) AF) :
    ReadsT 283 s op (atomR s.data.toList AF) := by
  intro g r w h hp hop
  subst hop
  have hsl : s.data.toList.length = s.size := by simp
  have hg := h.lt
  obtain ⟨W0, hW0⟩ : ∃ W0, w.alloc (.cells #[.int .i64 0, .int .u64 0, .int .u64 0, .int .u64 0, .int .u64 0, .slice none 0 0] 217) = W0 := ⟨_, rfl⟩
  have hb0 : Below w.heap.size w W0 := by rw [← hW0]; exact (Below.refl _ _).alloc (Nat.le_refl _) _
  have hz0 : ZeroX W0 w.heap.size := by rw [← hW0]; exact ZeroX.new w
  have hs1 : w.heap.size < W0.heap.size := hz0.lt
  have hS0 : AtSt g s w r W0 := ⟨h.below hb0, hz0, only_low (grown_refl w _) hb0⟩
  have HS0 := Lib.hid hS0
  have HNX : Hid (Calls Tryz.prog 254 #[.pointer (some ⟨g, 0, none⟩)] W0 fun e w' => e = .returned (.int .i64 (nextR s.data.toList r)) ∧ AtSt g s w r w') :=
    (next_any g s r W0 hS0.rd hp).mono (fun e w' ⟨h1, h2⟩ => ⟨h1, hS0.call hg h2⟩)
  have HTK : Hid (∀ (b : Int) W, AtSt g s w r W → Calls Tryz.prog 226 #[.pointer (some ⟨g, 0, none⟩), .int .i64 b] W fun e w' => e = .returned (.bool (decide (nextR s.data.toList r = b))) ∧ AtSt g s w (if nextR s.data.toList r = b then onR r else r) w') := fun b W hW =>
      (take_any g s r b W hW.rd hp hs).mono (fun e w' ⟨h1, h2⟩ => by
        have hcall := hW.call hg h2
        unfold takeR at h1 hcall
        by_cases hb : nextR s.data.toList r = b
        · rw [if_pos hb] at h1 hcall
          rw [if_pos hb]
          exact ⟨by rw [h1, decide_eq_true hb], hcall⟩
        · rw [if_neg hb] at h1 hcall
          rw [if_neg hb]
          exact ⟨by rw [h1, decide_eq_false hb], hcall⟩)
  have HTY : Hid (∀ (b : Int) W, nextR s.data.toList r = b → AtSt g s w r W → Calls Tryz.prog 226 #[.pointer (some ⟨g, 0, none⟩), .int .i64 b] W fun e w' => e = .returned (.bool true) ∧ AtSt g s w (onR r) w') := fun b W hb hW =>
    (HTK.out b W hW).mono fun e w' ⟨h1, h2⟩ => ⟨by rw [h1, decide_eq_true hb], by rw [if_pos hb] at h2; exact h2⟩
  have HTN : Hid (∀ (b : Int) W, nextR s.data.toList r ≠ b → AtSt g s w r W → Calls Tryz.prog 226 #[.pointer (some ⟨g, 0, none⟩), .int .i64 b] W fun e w' => e = .returned (.bool false) ∧ AtSt g s w r w') := fun b W hb hW =>
    (HTK.out b W hW).mono fun e w' ⟨h1, h2⟩ => ⟨by rw [h1, decide_eq_false hb], by rw [if_neg hb] at h2; exact h2⟩
  have HAT : Hid (atomR s.data.toList AF r = if nextR s.data.toList r = 40 then (if r.op = 20 then (kT 0, failR r 11) else closeR s.data.toList (AF { r with pos := r.pos + 1, op := r.op + 1 }))
    else if nextR s.data.toList r = 46 then (byT (fun x => !(rgF 10 10 x)), onR r)
    else if nextR s.data.toList r = 94 then (kT 7, onR r)
    else if nextR s.data.toList r = 36 then (kT 8, onR r)
    else if nextR s.data.toList r = 91 then (byT (classR s.data.toList (onR r)).1, (classR s.data.toList (onR r)).2)
    else baseR s.data.toList r) := rfl
  obtain ⟨R, hR⟩ : ∃ R, atomR s.data.toList AF r = R := ⟨_, rfl⟩
  rw [hR] at HAT ⊢
  have HCC := Lib.hid hC
  have HGA := Lib.hid hA
  have HW0 := Lib.hid hW0
  have HH := Lib.hid h
  clear h hC hA hb0 hW0 hz0 hR hS0 HTK
  go_enter Tryz.func283, Tryz.ntmps283
  go_upto_region 1 with fail
  rw [HW0.out]
  go_wp2_with (go_at_call 254; apply Hid.out)
  unfold Hid
  refine HNX.out.mono ?_
  rintro e w1 ⟨rfl, hS1⟩
  have HS1 := Lib.hid hS1
  have ⟨c0, c1, c2, c3⟩ := hS1.rd.cells
  have ⟨z0, z1, z2, z3, z4, z5⟩ := hS1.zero.cells
  have y0 := hS1.zero.free 0
  have y1 := hS1.zero.free 1
  have y2 := hS1.zero.free 2
  have y3 := hS1.zero.free 3
  have y4 := hS1.zero.free 4
  have y5 := hS1.zero.free 5
  clear HNX HS0 hS1
  -- WAYS
  clear z0 z1 z2 z3 z4 z5 y0 y1 y2 y3 y4 y5
  by_cases h40 : nextR s.data.toList r = 40
  · have d0 : (nextR s.data.toList r == 40) = true := by rw [h40]; rfl
    rw [if_pos h40] at HAT
    have hpl := (nextR_pos h40 (by decide)).1
    by_cases ho : r.op = 20
    · have d1 : ((r.op : Int) == 20) = true := by rw [ho]; rfl
      rw [if_pos ho] at HAT
      have HFL : Hid (Calls Tryz.prog 183 #[.pointer (some ⟨g, 0, none⟩), .int .i64 11] w1 fun e w' => e = .returned (.tuple #[]) ∧ AtSt g s w (failR r 11) w') := (fail_any g s r 11 w1 HS1.out.rd).mono (fun e w' ⟨h1, h2⟩ => ⟨h1, HS1.out.call hg h2⟩)
      clear h40 ho
      go_wp2_with (go_at_call 183; apply Hid.out)
      unfold Hid
      refine HFL.out.mono ?_
      rintro e w2 ⟨rfl, hS2⟩
      have HD : Hid (PutX (fill6 w2 w.heap.size (.int .i64 0) (.int .u64 0) (.int .u64 0) (.int .u64 0) (.int .u64 0) (.slice none 0 0)) w.heap.size [.int .i64 0, .int .u64 0, .int .u64 0, .int .u64 0, .int .u64 0, .slice none 0 0] ∧ NewX w (fill6 w2 w.heap.size (.int .i64 0) (.int .u64 0) (.int .u64 0) (.int .u64 0) (.int .u64 0) (.slice none 0 0)) (kT 0) none 0 ∧ RdEnd g s _ w (fill6 w2 w.heap.size (.int .i64 0) (.int .u64 0) (.int .u64 0) (.int .u64 0) (.int .u64 0) (.slice none 0 0))) := put_end (t := (kT 0)) (A := none) (c := 0) hg hS2.rd hS2.zero hS2.frame (LX.leaf _ _ _ _ _ _ zero_wfR)
      have ⟨z0, z1, z2, z3, z4, z5⟩ := hS2.zero.cells
      have y0 := hS2.zero.free 0
      have y1 := hS2.zero.free 1
      have y2 := hS2.zero.free 2
      have y3 := hS2.zero.free 3
      have y4 := hS2.zero.free 4
      have y5 := hS2.zero.free 5
      go_wp2_with fail
      obtain ⟨d1, d2, d3⟩ := HD.out
      have ⟨s0, s1, s2, s3, s4, s5⟩ := d1.cells
      unfold fill6 at s0 s1 s2 s3 s4 s5
      exact bodyPost_ret (v := argX (kT 0) none 0) (by simp [results, Tryz.results283, go_sem, s0, s1, s2, s3, s4, s5, argX, kT, Tree.kind, Tree.set, Tree.kids, Set4.zero]) rfl (by rw [HAT.out]; exact ⟨none, 0, rfl, d2, d3⟩)
    · have d1 : ((r.op : Int) == 20) = false := beq_eq_false_iff_ne.2 (by omega)
      rw [if_neg ho] at HAT
      have hop1 : r.op < 20 := by omega
      have f1 := HS1.out.rd.free 1
      have f2 := HS1.out.rd.free 2
      have i1 : IntKind.i64.wrap ((r.pos : Int) + 1) = (r.pos : Int) + 1 := IntWalk.i64_in _ (by omega)
      have i2 : IntKind.i64.wrap ((r.op : Int) + 1) = (r.op : Int) + 1 := IntWalk.i64_in _ (by omega)
      have hS2 : AtSt g s w { r with pos := r.pos + 1, op := r.op + 1 } ((w1.setCell ⟨g, 1, none⟩ (.int .i64 ((r.pos : Int) + 1))).setCell ⟨g, 2, none⟩ (.int .i64 ((r.op : Int) + 1))) := by
        have e1 := HS1.out.rd.setPos (r.pos + 1)
        have e2 := e1.setOp (r.op + 1)
        exact HS1.out.call hg ⟨e2, only_setCell (only_setCell (grown_refl w1 _) 1 _) 2 _⟩
      have HS2 := Lib.hid hS2
      clear hS2 h40
      go_upto_region 7 with fail
      generalize (w1.setCell ⟨g, 1, none⟩ (.int .i64 ((r.pos : Int) + 1))).setCell ⟨g, 2, none⟩ (.int .i64 ((r.op : Int) + 1)) = w2 at *
      have hga : GoodT s.data.toList { r with pos := r.pos + 1, op := r.op + 1 } (AF { r with pos := r.pos + 1, op := r.op + 1 }) := HGA.out _ (show r.pos + 1 ≤ s.data.toList.length by omega)
      have HCA := Lib.hid (HCC.out hop1 g { r with pos := r.pos + 1, op := r.op + 1 } w2 HS2.out.rd (show r.pos + 1 ≤ s.size by omega) (rfl))
      obtain ⟨T, hT⟩ : ∃ T, AF { r with pos := r.pos + 1, op := r.op + 1 } = T := ⟨_, rfl⟩
      rw [hT] at hga HCA HAT
      have hTo : T.2.op = r.op + 1 := hga.step.op
      have hTo1 : 1 ≤ T.2.op := by omega
      have hTo2 : T.2.op ≤ 21 := by omega
      have hTp : T.2.pos ≤ s.size := by have := hga.step.inn; omega
      clear c0 c1 c2 c3 f1 f2 hga hT i1 i2 d0 d1 hTo
      go_wp2_with (go_at_call 182; apply Hid.out)
      unfold Hid
      refine HCA.out.mono ?_
      rintro e w3 ⟨A, c, rfl, hn3, h3⟩
      have hS3 := HS2.out.call hg h3
      have hw2 : w.heap.size < w2.heap.size := HS2.out.zero.lt
      have hg3 : g < w3.heap.size := hS3.rd.lt
      have ⟨c0, c1, c2, c3⟩ := hS3.rd.cells
      have f2 := hS3.rd.free 2
      have i3 : IntKind.i64.wrap ((T.2.op : Int) - 1) = (T.2.op : Int) - 1 := IntWalk.i64_in _ (by omega)
      have hS4 : AtSt g s w { T.2 with op := T.2.op - 1 } ((w3.setCell ⟨g, 2, none⟩ (.int .i64 ((T.2.op : Int) - 1))).alloc (.cells #[.int .i64 T.1.kind, .int .u64 T.1.set.a, .int .u64 T.1.set.b, .int .u64 T.1.set.c, .int .u64 T.1.set.d, .slice A T.1.kids.length c] 217)) := by
        have e1 := hS3.rd.setOp (T.2.op - 1)
        rw [show ((T.2.op - 1 : Nat) : Int) = (T.2.op : Int) - 1 by omega] at e1
        have hS4 := hS3.call hg ⟨e1, only_setCell (grown_refl w3 _) 2 _⟩
        exact hS4.low hg ((Below.refl _ _).alloc (Nat.le_refl _) _)
      have hp4 : PutX ((w3.setCell ⟨g, 2, none⟩ (.int .i64 ((T.2.op : Int) - 1))).alloc (.cells #[.int .i64 T.1.kind, .int .u64 T.1.set.a, .int .u64 T.1.set.b, .int .u64 T.1.set.c, .int .u64 T.1.set.d, .slice A T.1.kids.length c] 217)) w3.heap.size [.int .i64 T.1.kind, .int .u64 T.1.set.a, .int .u64 T.1.set.b, .int .u64 T.1.set.c, .int .u64 T.1.set.d, .slice A T.1.kids.length c] := by
        have := PutX.new (w3.setCell ⟨g, 2, none⟩ (.int .i64 ((T.2.op : Int) - 1))) [.int .i64 T.1.kind, .int .u64 T.1.set.a, .int .u64 T.1.set.b, .int .u64 T.1.set.c, .int .u64 T.1.set.d, .slice A T.1.kids.length c]
        rw [show (w3.setCell ⟨g, 2, none⟩ (.int .i64 ((T.2.op : Int) - 1))).heap.size = w3.heap.size by simp [World.setCell]] at this
        exact this
      have hl4 : LX ((w3.setCell ⟨g, 2, none⟩ (.int .i64 ((T.2.op : Int) - 1))).alloc (.cells #[.int .i64 T.1.kind, .int .u64 T.1.set.a, .int .u64 T.1.set.b, .int .u64 T.1.set.c, .int .u64 T.1.set.d, .slice A T.1.kids.length c] 217)) (fun b => w.heap.size < b ∧ b < w3.heap.size) T.1 (cellsX T.1.kind T.1.set A T.1.kids.length c) := by
        refine LX.keep (fun b hb => ⟨Nat.lt_of_lt_of_le hw2 hb.1, hb.2⟩) (fun b o hb => ?_) _ _ hn3
        have hne : b ≠ g := by have := hb.1; omega
        have h5 : ((w3.setCell ⟨g, 2, none⟩ (.int .i64 ((T.2.op : Int) - 1))).alloc (.cells #[.int .i64 T.1.kind, .int .u64 T.1.set.a, .int .u64 T.1.set.b, .int .u64 T.1.set.c, .int .u64 T.1.set.d, .slice A T.1.kids.length c] 217)).heap[b]? = w3.heap[b]? :=
          (Below.heap_alloc _ _ _ (by have := hb.2; simp only [World.setCell, Array.size_modify]; exact this)).trans (Below.heap_setCell _ _ _ _ hne)
        simp only [World.cell?, h5]
      have hsz4 : w3.heap.size < ((w3.setCell ⟨g, 2, none⟩ (.int .i64 ((T.2.op : Int) - 1))).alloc (.cells #[.int .i64 T.1.kind, .int .u64 T.1.set.a, .int .u64 T.1.set.b, .int .u64 T.1.set.c, .int .u64 T.1.set.d, .slice A T.1.kids.length c] 217)).heap.size := hp4.lt
      clear hn3 h3 hS3
      unfold argX
      go_upto_region 9 with fail
      generalize (w3.setCell ⟨g, 2, none⟩ (.int .i64 ((T.2.op : Int) - 1))).alloc (.cells #[.int .i64 T.1.kind, .int .u64 T.1.set.a, .int .u64 T.1.set.b, .int .u64 T.1.set.c, .int .u64 T.1.set.d, .slice A T.1.kids.length c] 217) = w4 at *
      obtain ⟨q4, hq4⟩ : ∃ q4 : RS, q4 = { T.2 with op := T.2.op - 1 } := ⟨_, rfl⟩
      have hq4p : q4.pos ≤ s.size := by rw [hq4]; exact hTp
      rw [← hq4] at hS4
      have HCL : Hid (R = (T.1, if (takeR s.data.toList q4 41).1 = true then (takeR s.data.toList q4 41).2 else failR q4 3)) := by unfold Hid; rw [HAT.out, hq4]; rfl
      have HKEEP : Hid (∀ w', w4.grownBy w' (some g) → PutX w' w3.heap.size [.int .i64 T.1.kind, .int .u64 T.1.set.a, .int .u64 T.1.set.b, .int .u64 T.1.set.c, .int .u64 T.1.set.d, .slice A T.1.kids.length c] ∧ LX w' (fun b => w.heap.size < b ∧ b < w'.heap.size) T.1 (cellsX T.1.kind T.1.set A T.1.kids.length c)) := fun w' hw' =>
        ⟨hp4.grown hw' (by omega), LX.keep (fun b hb => ⟨hb.1, Nat.lt_of_lt_of_le (Nat.lt_trans hb.2 hsz4) hw'.size⟩) (fun b o hb => cell_grown hw' (Nat.lt_trans hb.2 hsz4) (by have := hb.1; omega)) _ _ hl4⟩
      have HT4 : Hid (Calls Tryz.prog 226 #[.pointer (some ⟨g, 0, none⟩), .int .i64 41] w4 fun e w' => e = .returned (.bool (takeR s.data.toList q4 41).1) ∧ AtSt g s w (takeR s.data.toList q4 41).2 w' ∧ w4.grownBy w' (some g)) :=
        (take_any g s q4 41 w4 hS4.rd hq4p hs).mono (fun e w' ⟨h1, h2⟩ => ⟨h1, hS4.call hg h2, h2.2⟩)
      clear hp4 hl4 hS4 hq4 c0 c1 c2 c3 f2 HAT
      cases htk : (takeR s.data.toList q4 41).1 with
      | true =>
        rw [htk] at HT4 HCL
        rw [if_pos rfl] at HCL
        go_wp2_with (go_at_call 226; apply Hid.out)
        unfold Hid
        refine HT4.out.mono ?_
        rintro e w5 ⟨rfl, hS5, hg5⟩
        obtain ⟨hp5, hl5⟩ := HKEEP.out w5 hg5
        have ⟨b0, b1, b2, b3, b4, b5⟩ := hp5.cells
        have HD : Hid (PutX (fill6 w5 w.heap.size (.int .i64 T.1.kind) (.int .u64 T.1.set.a) (.int .u64 T.1.set.b) (.int .u64 T.1.set.c) (.int .u64 T.1.set.d) (.slice A T.1.kids.length c)) w.heap.size [.int .i64 T.1.kind, .int .u64 T.1.set.a, .int .u64 T.1.set.b, .int .u64 T.1.set.c, .int .u64 T.1.set.d, .slice A T.1.kids.length c] ∧ NewX w (fill6 w5 w.heap.size (.int .i64 T.1.kind) (.int .u64 T.1.set.a) (.int .u64 T.1.set.b) (.int .u64 T.1.set.c) (.int .u64 T.1.set.d) (.slice A T.1.kids.length c)) T.1 A c ∧ RdEnd g s _ w (fill6 w5 w.heap.size (.int .i64 T.1.kind) (.int .u64 T.1.set.a) (.int .u64 T.1.set.b) (.int .u64 T.1.set.c) (.int .u64 T.1.set.d) (.slice A T.1.kids.length c))) := put_end (t := T.1) (A := A) (c := c) hg hS5.rd hS5.zero hS5.frame hl5
        have ⟨z0, z1, z2, z3, z4, z5⟩ := hS5.zero.cells
        have y0 := hS5.zero.free 0
        have y1 := hS5.zero.free 1
        have y2 := hS5.zero.free 2
        have y3 := hS5.zero.free 3
        have y4 := hS5.zero.free 4
        have y5 := hS5.zero.free 5
        go_wp2_with fail
        obtain ⟨d1, d2, d3⟩ := HD.out
        have ⟨s0, s1, s2, s3, s4, s5⟩ := d1.cells
        unfold fill6 at s0 s1 s2 s3 s4 s5
        exact bodyPost_ret (v := argX T.1 A c) (by simp [results, Tryz.results283, go_sem, s0, s1, s2, s3, s4, s5, argX]) rfl (by rw [HCL.out]; exact ⟨A, c, rfl, d2, d3⟩)
      | false =>
        have h41 : (takeR s.data.toList q4 41).2 = q4 := by
          unfold takeR at htk ⊢
          by_cases h : nextR s.data.toList q4 = 41
          · rw [if_pos h] at htk; cases htk
          · rw [if_neg h]
        rw [htk] at HT4 HCL
        rw [if_neg (by decide)] at HCL
        rw [h41] at HT4
        go_wp2_with (go_at_call 226; apply Hid.out)
        unfold Hid
        refine HT4.out.mono ?_
        rintro e w5 ⟨rfl, hS5, hg5⟩
        have HF5 : Hid (Calls Tryz.prog 183 #[.pointer (some ⟨g, 0, none⟩), .int .i64 3] w5 fun e w' => e = .returned (.tuple #[]) ∧ AtSt g s w (failR q4 3) w' ∧ w4.grownBy w' (some g)) :=
          (fail_any g s q4 3 w5 hS5.rd).mono (fun e w' ⟨h1, h2⟩ => ⟨h1, hS5.call hg h2, only_trans hg5 h2.2⟩)
        clear hS5 hg5
        go_wp2_with (go_at_call 183; apply Hid.out)
        unfold Hid
        refine HF5.out.mono ?_
        rintro e w6 ⟨rfl, hS6, hg6⟩
        obtain ⟨hp6, hl6⟩ := HKEEP.out w6 hg6
        have ⟨b0, b1, b2, b3, b4, b5⟩ := hp6.cells
        have HD : Hid (PutX (fill6 w6 w.heap.size (.int .i64 T.1.kind) (.int .u64 T.1.set.a) (.int .u64 T.1.set.b) (.int .u64 T.1.set.c) (.int .u64 T.1.set.d) (.slice A T.1.kids.length c)) w.heap.size [.int .i64 T.1.kind, .int .u64 T.1.set.a, .int .u64 T.1.set.b, .int .u64 T.1.set.c, .int .u64 T.1.set.d, .slice A T.1.kids.length c] ∧ NewX w (fill6 w6 w.heap.size (.int .i64 T.1.kind) (.int .u64 T.1.set.a) (.int .u64 T.1.set.b) (.int .u64 T.1.set.c) (.int .u64 T.1.set.d) (.slice A T.1.kids.length c)) T.1 A c ∧ RdEnd g s _ w (fill6 w6 w.heap.size (.int .i64 T.1.kind) (.int .u64 T.1.set.a) (.int .u64 T.1.set.b) (.int .u64 T.1.set.c) (.int .u64 T.1.set.d) (.slice A T.1.kids.length c))) := put_end (t := T.1) (A := A) (c := c) hg hS6.rd hS6.zero hS6.frame hl6
        have ⟨z0, z1, z2, z3, z4, z5⟩ := hS6.zero.cells
        have y0 := hS6.zero.free 0
        have y1 := hS6.zero.free 1
        have y2 := hS6.zero.free 2
        have y3 := hS6.zero.free 3
        have y4 := hS6.zero.free 4
        have y5 := hS6.zero.free 5
        go_wp2_with fail
        obtain ⟨d1, d2, d3⟩ := HD.out
        have ⟨s0, s1, s2, s3, s4, s5⟩ := d1.cells
        unfold fill6 at s0 s1 s2 s3 s4 s5
        exact bodyPost_ret (v := argX T.1 A c) (by simp [results, Tryz.results283, go_sem, s0, s1, s2, s3, s4, s5, argX]) rfl (by rw [HCL.out]; exact ⟨A, c, rfl, d2, d3⟩)
  have d0 : (nextR s.data.toList r == 40) = false := beq_eq_false_iff_ne.2 h40
  rw [if_neg h40] at HAT
  clear c0 c1 c2 c3
  by_cases h46 : nextR s.data.toList r = 46
  · rw [if_pos h46] at HAT
    have HT := Lib.hid (HTY.out 46 w1 h46 HS1.out)
    clear h40 h46
    go_wp2_with (go_at_call 226; apply Hid.out)
    unfold Hid
    refine HT.out.mono ?_
    rintro e w2 ⟨rfl, hS2⟩
    obtain ⟨Sr, hSr⟩ : ∃ Sr, setF (rgF 10 10) = Sr := ⟨_, rfl⟩
    obtain ⟨Sn, hSn⟩ : ∃ Sn, setF (fun x => !(rgF 10 10 x)) = Sn := ⟨_, rfl⟩
    have HRG : Hid (Calls Tryz.prog 193 #[.int .i64 10, .int .i64 10] w2 fun e w' => e = .returned (.agg #[.int .u64 Sr.a, .int .u64 Sr.b, .int .u64 Sr.c, .int .u64 Sr.d]) ∧ AtSt g s w (onR r) w') := by
      have := Range_all 10 10 (by decide) w2
      rw [hSr] at this
      exact this.mono (fun e w' ⟨h1, h2⟩ => ⟨h1, hS2.low hg h2⟩)
    have HNT : Hid (∀ W, AtSt g s w (onR r) W → Calls Tryz.prog 309 #[.agg #[.int .u64 Sr.a, .int .u64 Sr.b, .int .u64 Sr.c, .int .u64 Sr.d]] W fun e w' => e = .returned (.agg #[.int .u64 Sn.a, .int .u64 Sn.b, .int .u64 Sn.c, .int .u64 Sn.d]) ∧ AtSt g s w (onR r) w') := fun W hW => by
      have := rnot_any (rgF 10 10) W
      rw [hSr, hSn] at this
      exact this.mono (fun e w' ⟨h1, h2⟩ => ⟨h1, hW.low hg h2⟩)
    have HRR : Hid (R = (.node 3 Sn [], onR r)) := by unfold Hid; rw [HAT.out]; unfold byT; rw [hSn]
    have hwf : Sn.Wf := by rw [← hSn]; exact setF_wf _
    clear hS2 hSr hSn
    go_wp2_with (go_at_call 193; apply Hid.out)
    unfold Hid
    refine HRG.out.mono ?_
    rintro e w3 ⟨rfl, hS3⟩
    have HN3 := Lib.hid (HNT.out w3 hS3)
    clear hS3
    go_wp2_with (go_at_call 309; apply Hid.out)
    unfold Hid
    refine HN3.out.mono ?_
    rintro e w4 ⟨rfl, hS4⟩
    have HD : Hid (PutX (fill6 w4 w.heap.size (.int .i64 3) (.int .u64 Sn.a) (.int .u64 Sn.b) (.int .u64 Sn.c) (.int .u64 Sn.d) (.slice none 0 0)) w.heap.size [.int .i64 3, .int .u64 Sn.a, .int .u64 Sn.b, .int .u64 Sn.c, .int .u64 Sn.d, .slice none 0 0] ∧ NewX w (fill6 w4 w.heap.size (.int .i64 3) (.int .u64 Sn.a) (.int .u64 Sn.b) (.int .u64 Sn.c) (.int .u64 Sn.d) (.slice none 0 0)) (.node 3 Sn []) none 0 ∧ RdEnd g s _ w (fill6 w4 w.heap.size (.int .i64 3) (.int .u64 Sn.a) (.int .u64 Sn.b) (.int .u64 Sn.c) (.int .u64 Sn.d) (.slice none 0 0))) := put_end (t := (.node 3 Sn [])) (A := none) (c := 0) hg hS4.rd hS4.zero hS4.frame (LX.leaf _ _ _ _ _ _ hwf)
    have ⟨z0, z1, z2, z3, z4, z5⟩ := hS4.zero.cells
    have y0 := hS4.zero.free 0
    have y1 := hS4.zero.free 1
    have y2 := hS4.zero.free 2
    have y3 := hS4.zero.free 3
    have y4 := hS4.zero.free 4
    have y5 := hS4.zero.free 5
    go_wp2_with fail
    obtain ⟨d1, d2, d3⟩ := HD.out
    have ⟨s0, s1, s2, s3, s4, s5⟩ := d1.cells
    unfold fill6 at s0 s1 s2 s3 s4 s5
    exact bodyPost_ret (v := argX (.node 3 Sn []) none 0) (by simp [results, Tryz.results283, go_sem, s0, s1, s2, s3, s4, s5, argX, Tree.kind, Tree.set, Tree.kids]) rfl (by rw [HRR.out]; exact ⟨none, 0, rfl, d2, d3⟩)
  rw [if_neg h46] at HAT
  have HT1 := Lib.hid (HTN.out 46 w1 h46 HS1.out)
  go_wp2_with (go_at_call 226; apply Hid.out)
  unfold Hid
  refine HT1.out.mono ?_
  rintro e w2 ⟨rfl, hS2⟩
  by_cases h94 : nextR s.data.toList r = 94
  · rw [if_pos h94] at HAT
    have HT := Lib.hid (HTY.out 94 w2 h94 hS2)
    clear hS2
    go_wp2_with (go_at_call 226; apply Hid.out)
    unfold Hid
    refine HT.out.mono ?_
    rintro e w3 ⟨rfl, hS3⟩
    have HON : Hid (Calls Tryz.prog 310 #[.int .i64 7] w3 fun e w' => ∃ A c, e = .returned (.agg #[.int .i64 7, .int .u64 0, .int .u64 0, .int .u64 0, .int .u64 0, .slice A 0 c]) ∧ AtSt g s w (onR r) w') :=
      (rone_any 7 w3).mono (fun e w' ⟨A, c, h1, _, h2⟩ => ⟨A, c, h1, hS3.low hg h2⟩)
    clear hS3
    go_wp2_with (go_at_call 310; apply Hid.out)
    unfold Hid
    refine HON.out.mono ?_
    rintro e w8 ⟨A, c, rfl, hS8⟩
    have HD : Hid (PutX (fill6 w8 w.heap.size (.int .i64 7) (.int .u64 0) (.int .u64 0) (.int .u64 0) (.int .u64 0) (.slice A 0 c)) w.heap.size [.int .i64 7, .int .u64 0, .int .u64 0, .int .u64 0, .int .u64 0, .slice A 0 c] ∧ NewX w (fill6 w8 w.heap.size (.int .i64 7) (.int .u64 0) (.int .u64 0) (.int .u64 0) (.int .u64 0) (.slice A 0 c)) (kT 7) A c ∧ RdEnd g s _ w (fill6 w8 w.heap.size (.int .i64 7) (.int .u64 0) (.int .u64 0) (.int .u64 0) (.int .u64 0) (.slice A 0 c))) := put_end (t := (kT 7)) (A := A) (c := c) hg hS8.rd hS8.zero hS8.frame (LX.leaf _ _ _ _ _ _ zero_wfR)
    have ⟨z0, z1, z2, z3, z4, z5⟩ := hS8.zero.cells
    have y0 := hS8.zero.free 0
    have y1 := hS8.zero.free 1
    have y2 := hS8.zero.free 2
    have y3 := hS8.zero.free 3
    have y4 := hS8.zero.free 4
    have y5 := hS8.zero.free 5
    go_wp2_with fail
    obtain ⟨d1, d2, d3⟩ := HD.out
    have ⟨s0, s1, s2, s3, s4, s5⟩ := d1.cells
    unfold fill6 at s0 s1 s2 s3 s4 s5
    exact bodyPost_ret (v := argX (kT 7) A c) (by simp [results, Tryz.results283, go_sem, s0, s1, s2, s3, s4, s5, argX, kT, Tree.kind, Tree.set, Tree.kids, Set4.zero]) rfl (by rw [HAT.out]; exact ⟨A, c, rfl, d2, d3⟩)
  rw [if_neg h94] at HAT
  have HT2 := Lib.hid (HTN.out 94 w2 h94 hS2)
  clear hS2
  go_wp2_with (go_at_call 226; apply Hid.out)
  unfold Hid
  refine HT2.out.mono ?_
  rintro e w3 ⟨rfl, hS3⟩
  by_cases h36 : nextR s.data.toList r = 36
  · rw [if_pos h36] at HAT
    have HT := Lib.hid (HTY.out 36 w3 h36 hS3)
    clear hS3
    go_wp2_with (go_at_call 226; apply Hid.out)
    unfold Hid
    refine HT.out.mono ?_
    rintro e w4 ⟨rfl, hS4⟩
    have HON : Hid (Calls Tryz.prog 310 #[.int .i64 8] w4 fun e w' => ∃ A c, e = .returned (.agg #[.int .i64 8, .int .u64 0, .int .u64 0, .int .u64 0, .int .u64 0, .slice A 0 c]) ∧ AtSt g s w (onR r) w') :=
      (rone_any 8 w4).mono (fun e w' ⟨A, c, h1, _, h2⟩ => ⟨A, c, h1, hS4.low hg h2⟩)
    clear hS4
    go_wp2_with (go_at_call 310; apply Hid.out)
    unfold Hid
    refine HON.out.mono ?_
    rintro e w8 ⟨A, c, rfl, hS8⟩
    have HD : Hid (PutX (fill6 w8 w.heap.size (.int .i64 8) (.int .u64 0) (.int .u64 0) (.int .u64 0) (.int .u64 0) (.slice A 0 c)) w.heap.size [.int .i64 8, .int .u64 0, .int .u64 0, .int .u64 0, .int .u64 0, .slice A 0 c] ∧ NewX w (fill6 w8 w.heap.size (.int .i64 8) (.int .u64 0) (.int .u64 0) (.int .u64 0) (.int .u64 0) (.slice A 0 c)) (kT 8) A c ∧ RdEnd g s _ w (fill6 w8 w.heap.size (.int .i64 8) (.int .u64 0) (.int .u64 0) (.int .u64 0) (.int .u64 0) (.slice A 0 c))) := put_end (t := (kT 8)) (A := A) (c := c) hg hS8.rd hS8.zero hS8.frame (LX.leaf _ _ _ _ _ _ zero_wfR)
    have ⟨z0, z1, z2, z3, z4, z5⟩ := hS8.zero.cells
    have y0 := hS8.zero.free 0
    have y1 := hS8.zero.free 1
    have y2 := hS8.zero.free 2
    have y3 := hS8.zero.free 3
    have y4 := hS8.zero.free 4
    have y5 := hS8.zero.free 5
    go_wp2_with fail
    obtain ⟨d1, d2, d3⟩ := HD.out
    have ⟨s0, s1, s2, s3, s4, s5⟩ := d1.cells
    unfold fill6 at s0 s1 s2 s3 s4 s5
    exact bodyPost_ret (v := argX (kT 8) A c) (by simp [results, Tryz.results283, go_sem, s0, s1, s2, s3, s4, s5, argX, kT, Tree.kind, Tree.set, Tree.kids, Set4.zero]) rfl (by rw [HAT.out]; exact ⟨A, c, rfl, d2, d3⟩)
  rw [if_neg h36] at HAT
  have HT3 := Lib.hid (HTN.out 36 w3 h36 hS3)
  clear hS3
  go_wp2_with (go_at_call 226; apply Hid.out)
  unfold Hid
  refine HT3.out.mono ?_
  rintro e w4 ⟨rfl, hS4⟩
  by_cases h91 : nextR s.data.toList r = 91
  · rw [if_pos h91] at HAT
    have HT := Lib.hid (HTY.out 91 w4 h91 hS4)
    have hon : (onR r).pos ≤ s.size := by have := (on_step h91 (by decide)).1.inn; omega
    clear hS4
    go_wp2_with (go_at_call 226; apply Hid.out)
    unfold Hid
    refine HT.out.mono ?_
    rintro e w5 ⟨rfl, hS5⟩
    obtain ⟨K, hK⟩ : ∃ K, classR s.data.toList (onR r) = K := ⟨_, rfl⟩
    rw [hK] at HAT
    have HCS : Hid (Calls Tryz.prog 311 #[.pointer (some ⟨g, 0, none⟩)] w5 (TxPost g s (byT K.1, K.2) w5)) := by
      have := class_any g s (onR r) w5 hS5.rd hon hs
      rw [hK] at this
      exact this
    have HS5 := Lib.hid hS5
    clear hS5 hK
    go_wp2_with (go_at_call 311; apply Hid.out)
    unfold Hid
    refine HCS.out.mono ?_
    rintro e w6 ⟨A, c, rfl, hn6, h6⟩
    have hS6 := HS5.out.call hg h6
    have hw5 : w.heap.size < w5.heap.size := HS5.out.zero.lt
    have hl6 : LX w6 (fun b => w.heap.size < b ∧ b < w6.heap.size) (byT K.1) (cellsX (byT K.1).kind (byT K.1).set A (byT K.1).kids.length c) := LX.keep (fun b hb => ⟨Nat.lt_of_lt_of_le hw5 hb.1, hb.2⟩) (fun _ _ _ => rfl) _ _ hn6
    clear hn6 h6
    obtain ⟨tb, htb⟩ : ∃ tb, byT K.1 = tb := ⟨_, rfl⟩
    rw [htb] at hl6 HAT ⊢
    clear htb
    unfold argX
    have HD : Hid (PutX (fill6 w6 w.heap.size (.int .i64 tb.kind) (.int .u64 tb.set.a) (.int .u64 tb.set.b) (.int .u64 tb.set.c) (.int .u64 tb.set.d) (.slice A tb.kids.length c)) w.heap.size [.int .i64 tb.kind, .int .u64 tb.set.a, .int .u64 tb.set.b, .int .u64 tb.set.c, .int .u64 tb.set.d, .slice A tb.kids.length c] ∧ NewX w (fill6 w6 w.heap.size (.int .i64 tb.kind) (.int .u64 tb.set.a) (.int .u64 tb.set.b) (.int .u64 tb.set.c) (.int .u64 tb.set.d) (.slice A tb.kids.length c)) tb A c ∧ RdEnd g s _ w (fill6 w6 w.heap.size (.int .i64 tb.kind) (.int .u64 tb.set.a) (.int .u64 tb.set.b) (.int .u64 tb.set.c) (.int .u64 tb.set.d) (.slice A tb.kids.length c))) := put_end (t := tb) (A := A) (c := c) hg hS6.rd hS6.zero hS6.frame hl6
    have ⟨z0, z1, z2, z3, z4, z5⟩ := hS6.zero.cells
    have y0 := hS6.zero.free 0
    have y1 := hS6.zero.free 1
    have y2 := hS6.zero.free 2
    have y3 := hS6.zero.free 3
    have y4 := hS6.zero.free 4
    have y5 := hS6.zero.free 5
    go_wp2_with fail
    obtain ⟨d1, d2, d3⟩ := HD.out
    have ⟨s0, s1, s2, s3, s4, s5⟩ := d1.cells
    unfold fill6 at s0 s1 s2 s3 s4 s5
    exact bodyPost_ret (v := argX tb A c) (by simp [results, Tryz.results283, go_sem, s0, s1, s2, s3, s4, s5, argX]) rfl (by rw [HAT.out]; exact ⟨A, c, rfl, d2, d3⟩)
  rw [if_neg h91] at HAT
  have HT4 := Lib.hid (HTN.out 91 w4 h91 hS4)
  clear hS4 h40 h46 h94 h36 h91
  go_wp2_with (go_at_call 226; apply Hid.out)
  unfold Hid
  refine HT4.out.mono ?_
  rintro e w5 ⟨rfl, hS5⟩
  have hgs := group_step (s := s.data.toList) (r := r) (by omega)
  have HBA : Hid (baseR s.data.toList r = match (groupR s.data.toList r).1 with
    | some f => (byT f, (groupR s.data.toList r).2)
    | none => (byT (rgF (charR s.data.toList r).1.toNat (charR s.data.toList r).1.toNat), (charR s.data.toList r).2)) := rfl
  cases hgr : (groupR s.data.toList r).1 with
  | some f =>
    rw [hgr] at HBA
    obtain ⟨Sf, hSf⟩ : ∃ Sf, setF f = Sf := ⟨_, rfl⟩
    have HG : Hid (Calls Tryz.prog 312 #[.pointer (some ⟨g, 0, none⟩)] w5 fun e w' => e = .returned (.tuple #[.agg #[.int .u64 Sf.a, .int .u64 Sf.b, .int .u64 Sf.c, .int .u64 Sf.d], .bool true]) ∧ AtSt g s w (groupR s.data.toList r).2 w') :=
      (group_any g s r w5 hS5.rd hp hs).mono (fun e w' ⟨h1, h2⟩ => ⟨by rw [h1, hgr]; dsimp only; rw [hSf]; rfl, hS5.call hg h2⟩)
    have HRR : Hid (R = (.node 3 Sf [], (groupR s.data.toList r).2)) := by unfold Hid; rw [HAT.out, HBA.out]; dsimp only; unfold byT; rw [hSf]
    have hwf : Sf.Wf := by rw [← hSf]; exact setF_wf _
    clear hgs hgr hSf hS5
    go_wp2_with (go_at_call 312; apply Hid.out)
    unfold Hid
    refine HG.out.mono ?_
    rintro e w6 ⟨rfl, hS6⟩
    have hS7 := hS6.low hg ((Below.refl w6.heap.size w6).alloc (Nat.le_refl _) (.cells #[.int .u64 Sf.a, .int .u64 Sf.b, .int .u64 Sf.c, .int .u64 Sf.d] 214))
    have hF7 : FourW (w6.alloc (.cells #[.int .u64 Sf.a, .int .u64 Sf.b, .int .u64 Sf.c, .int .u64 Sf.d] 214)) w6.heap.size Sf := heap_alloc_new w6 _
    clear hS6
    go_upto_region 22 with fail
    generalize w6.alloc (.cells #[.int .u64 Sf.a, .int .u64 Sf.b, .int .u64 Sf.c, .int .u64 Sf.d] 214) = w7 at *
    have ⟨x0, x1, x2, x3⟩ := hF7.cells
    have HD : Hid (PutX (fill6 w7 w.heap.size (.int .i64 3) (.int .u64 Sf.a) (.int .u64 Sf.b) (.int .u64 Sf.c) (.int .u64 Sf.d) (.slice none 0 0)) w.heap.size [.int .i64 3, .int .u64 Sf.a, .int .u64 Sf.b, .int .u64 Sf.c, .int .u64 Sf.d, .slice none 0 0] ∧ NewX w (fill6 w7 w.heap.size (.int .i64 3) (.int .u64 Sf.a) (.int .u64 Sf.b) (.int .u64 Sf.c) (.int .u64 Sf.d) (.slice none 0 0)) (.node 3 Sf []) none 0 ∧ RdEnd g s _ w (fill6 w7 w.heap.size (.int .i64 3) (.int .u64 Sf.a) (.int .u64 Sf.b) (.int .u64 Sf.c) (.int .u64 Sf.d) (.slice none 0 0))) := put_end (t := (.node 3 Sf [])) (A := none) (c := 0) hg hS7.rd hS7.zero hS7.frame (LX.leaf _ _ _ _ _ _ hwf)
    have ⟨z0, z1, z2, z3, z4, z5⟩ := hS7.zero.cells
    have y0 := hS7.zero.free 0
    have y1 := hS7.zero.free 1
    have y2 := hS7.zero.free 2
    have y3 := hS7.zero.free 3
    have y4 := hS7.zero.free 4
    have y5 := hS7.zero.free 5
    go_wp2_with fail
    obtain ⟨d1, d2, d3⟩ := HD.out
    have ⟨s0, s1, s2, s3, s4, s5⟩ := d1.cells
    unfold fill6 at s0 s1 s2 s3 s4 s5
    exact bodyPost_ret (v := argX (.node 3 Sf []) none 0) (by simp [results, Tryz.results283, go_sem, s0, s1, s2, s3, s4, s5, argX, Tree.kind, Tree.set, Tree.kids]) rfl (by rw [HRR.out]; exact ⟨none, 0, rfl, d2, d3⟩)
  | none =>
    rw [hgr] at HBA
    have hgq : (groupR s.data.toList r).2 = r := hgs.2.1 hgr
    have hch := (char_step (s := s.data.toList) (r := r) (by omega)).2.2
    obtain ⟨C, hC⟩ : ∃ C, charR s.data.toList r = C := ⟨_, rfl⟩
    rw [hC] at hch HBA
    obtain ⟨lo, hlo⟩ : ∃ lo : Nat, C.1 = lo := ⟨C.1.toNat, by omega⟩
    have hlo2 : lo < 256 := by omega
    obtain ⟨Sf, hSf⟩ : ∃ Sf, setF (rgF lo lo) = Sf := ⟨_, rfl⟩
    have HG : Hid (Calls Tryz.prog 312 #[.pointer (some ⟨g, 0, none⟩)] w5 fun e w' => e = .returned (.tuple #[.agg #[.int .u64 0, .int .u64 0, .int .u64 0, .int .u64 0], .bool false]) ∧ AtSt g s w r w') :=
      (group_any g s r w5 hS5.rd hp hs).mono (fun e w' ⟨h1, h2⟩ => ⟨by rw [h1, hgr]; rfl, by rw [hgq] at h2; exact hS5.call hg h2⟩)
    have HCH : Hid (∀ W, AtSt g s w r W → Calls Tryz.prog 313 #[.pointer (some ⟨g, 0, none⟩)] W fun e w' => e = .returned (.int .i64 (lo : Int)) ∧ AtSt g s w C.2 w') := fun W hW =>
      (rchar_any g s r W hW.rd hp hs).mono (fun e w' ⟨h1, h2⟩ => ⟨by rw [h1, hC, hlo], by rw [hC] at h2; exact hW.call hg h2⟩)
    have HRG : Hid (∀ W, AtSt g s w C.2 W → Calls Tryz.prog 193 #[.int .i64 (lo : Int), .int .i64 (lo : Int)] W fun e w' => e = .returned (.agg #[.int .u64 Sf.a, .int .u64 Sf.b, .int .u64 Sf.c, .int .u64 Sf.d]) ∧ AtSt g s w C.2 w') := fun W hW => by
      have := Range_all lo lo hlo2 W
      rw [hSf] at this
      exact this.mono (fun e w' ⟨h1, h2⟩ => ⟨h1, hW.low hg h2⟩)
    have HRR : Hid (R = (.node 3 Sf [], C.2)) := by unfold Hid; rw [HAT.out, HBA.out]; dsimp only; unfold byT; rw [show C.1.toNat = lo by omega, hSf]
    have hwf : Sf.Wf := by rw [← hSf]; exact setF_wf _
    clear hgs hgr hgq hch hC hlo hSf hS5
    go_wp2_with (go_at_call 312; apply Hid.out)
    unfold Hid
    refine HG.out.mono ?_
    rintro e w6 ⟨rfl, hS6⟩
    have HS7 := Lib.hid (hS6.low hg ((Below.refl w6.heap.size w6).alloc (Nat.le_refl _) (.cells #[.int .u64 0, .int .u64 0, .int .u64 0, .int .u64 0] 214)))
    clear hS6
    go_upto_region 23 with fail
    generalize w6.alloc (.cells #[.int .u64 0, .int .u64 0, .int .u64 0, .int .u64 0] 214) = w7 at *
    have HC7 := Lib.hid (HCH.out w7 HS7.out)
    go_wp2_with (go_at_call 313; apply Hid.out)
    unfold Hid
    refine HC7.out.mono ?_
    rintro e w8 ⟨rfl, hS8⟩
    have HR8 := Lib.hid (HRG.out w8 hS8)
    clear hS8
    go_wp2_with (go_at_call 193; apply Hid.out)
    unfold Hid
    refine HR8.out.mono ?_
    rintro e w9 ⟨rfl, hS9⟩
    have HD : Hid (PutX (fill6 w9 w.heap.size (.int .i64 3) (.int .u64 Sf.a) (.int .u64 Sf.b) (.int .u64 Sf.c) (.int .u64 Sf.d) (.slice none 0 0)) w.heap.size [.int .i64 3, .int .u64 Sf.a, .int .u64 Sf.b, .int .u64 Sf.c, .int .u64 Sf.d, .slice none 0 0] ∧ NewX w (fill6 w9 w.heap.size (.int .i64 3) (.int .u64 Sf.a) (.int .u64 Sf.b) (.int .u64 Sf.c) (.int .u64 Sf.d) (.slice none 0 0)) (.node 3 Sf []) none 0 ∧ RdEnd g s _ w (fill6 w9 w.heap.size (.int .i64 3) (.int .u64 Sf.a) (.int .u64 Sf.b) (.int .u64 Sf.c) (.int .u64 Sf.d) (.slice none 0 0))) := put_end (t := (.node 3 Sf [])) (A := none) (c := 0) hg hS9.rd hS9.zero hS9.frame (LX.leaf _ _ _ _ _ _ hwf)
    have ⟨z0, z1, z2, z3, z4, z5⟩ := hS9.zero.cells
    have y0 := hS9.zero.free 0
    have y1 := hS9.zero.free 1
    have y2 := hS9.zero.free 2
    have y3 := hS9.zero.free 3
    have y4 := hS9.zero.free 4
    have y5 := hS9.zero.free 5
    go_wp2_with fail
    obtain ⟨d1, d2, d3⟩ := HD.out
    have ⟨s0, s1, s2, s3, s4, s5⟩ := d1.cells
    unfold fill6 at s0 s1 s2 s3 s4 s5
    exact bodyPost_ret (v := argX (.node 3 Sf []) none 0) (by simp [results, Tryz.results283, go_sem, s0, s1, s2, s3, s4, s5, argX, Tree.kind, Tree.set, Tree.kids]) rfl (by rw [HRR.out]; exact ⟨none, 0, rfl, d2, d3⟩)
end Go.Proofs.YthfjmlcjkbgboaaGreatDoor
