/- The walks of frame's reader. -/
import Derived.Test.YtchoenfclfafiaaDoorFrmL
import Derived.Test.YtchoenfclfafiaaDoorUnqW
import Derived.Lib.OwnKind
import Derived.Lib.SlBytesConst
import Derived.OneCell
import Derived.Lib.AppendStr
namespace Go.Proofs.YtchoenfclfafiaaDoor
open Go.RowKit

theorem OwnB.keep {w w' : World} {base : Nat} {v : Value} {l : List UInt8} (h : OwnB w base v l) (hb : Below w.heap.size w w') : OwnB w' base v l :=
  h.kept (row := none) ⟨hb.os, hb.tape, hb.output, hb.size, fun k hk _ => hb.block k hk⟩ (by cases hv : v.ownBlock <;> simp)

/-- The reader's block, and the bytes that it has gathered. -/
structure Rd (w : World) (g B : Nat) (s : ByteArray) (a m : Int) (v : Value) (acc : List UInt8) : Prop where
  blk : w.heap[g]? = some (.cells #[.string s, .int .i64 a, .int .i64 m, v] 141 (0, 0))
  own : OwnB w B v acc
  hB : B ≤ g

section
variable {w w' : World} {g B : Nat} {s : ByteArray} {a m : Int} {v : Value} {acc : List UInt8}
theorem Rd.lt (h : Rd w g B s a m v acc) : g < w.heap.size := by
  rcases Nat.lt_or_ge g w.heap.size with hlt | hge
  · exact hlt
  · have := h.blk; rw [Array.getElem?_eq_none hge] at this; cases this
theorem Rd.c0 (h : Rd w g B s a m v acc) : w.cell? ⟨g, 0, none⟩ = some (.string s) := cell_of_row w g 0 _ _ (0, 0) h.blk
theorem Rd.c1 (h : Rd w g B s a m v acc) : w.cell? ⟨g, 1, none⟩ = some (.int .i64 a) := cell_of_row w g 1 _ _ (0, 0) h.blk
theorem Rd.c2 (h : Rd w g B s a m v acc) : w.cell? ⟨g, 2, none⟩ = some (.int .i64 m) := cell_of_row w g 2 _ _ (0, 0) h.blk
theorem Rd.c3 (h : Rd w g B s a m v acc) : w.cell? ⟨g, 3, none⟩ = some v := cell_of_row w g 3 _ _ (0, 0) h.blk
theorem Rd.free (h : Rd w g B s a m v acc) (i : Nat) : w.frozen? ⟨g, i, none⟩ = false := by simp [World.frozen?, h.blk]
theorem Rd.apart (h : Rd w g B s a m v acc) : v.ownBlock ≠ some g := by
  intro he
  obtain ⟨c, fz, hc⟩ := Lib.ownsRow_kind h.own g he
  rw [h.blk] at hc
  injection hc with hc
  injection hc with _ ht
  exact absurd ht (by decide)
theorem Rd.eq (h : Rd w g B s a m v acc) {b : Int} (e : a = b) : Rd w g B s b m v acc := e ▸ h
theorem Rd.alloc (h : Rd w g B s a m v acc) (o : Obj) : Rd (w.alloc o) g B s a m v acc := ⟨(Below.heap_alloc w o g h.lt).trans h.blk, h.own.alloc o, h.hB⟩
theorem Rd.drewN (h : Rd w g B s a m v acc) (n : Nat) : Rd (w.drewN n) g B s a m v acc := ⟨h.blk, h.own, h.hB⟩
theorem Rd.below (h : Rd w g B s a m v acc) (hb : Below w.heap.size w w') : Rd w' g B s a m v acc :=
  ⟨(hb.block g h.lt).trans h.blk, h.own.keep hb, h.hB⟩
theorem Rd.at_ (h : Rd w g B s a m v acc) (b : Int) : Rd (w.setCell ⟨g, 1, none⟩ (.int .i64 b)) g B s b m v acc := by
  refine ⟨?_, ownsRow_setCell_other h.own h.apart _, h.hB⟩
  have := h.blk
  simp [World.setCell, Array.getElem?_modify, this]
end

theorem drop_nil (s : ByteArray) (k : Nat) (h : s.size ≤ k) : s.data.toList.drop k = [] := List.drop_eq_nil_of_le (by rw [Array.length_toList]; exact h)

theorem lineR_13 (b : UInt8) (r : List UInt8) : lineR (13 :: b :: r) = if b = 10 then (0, 2) else (4, 1) := rfl
theorem lineR_cons (a : UInt8) (r : List UInt8) (h : a ≠ 13) : lineR (a :: r) = (4, 0) := by unfold lineR; exact if_neg h

def LinePost (w : World) (g B : Nat) (s : ByteArray) (k : Nat) (m : Int) (v : Value) (acc : List UInt8) (e : Ending) (w' : World) : Prop :=
  e = .returned (.int .i64 (lineR (s.data.toList.drop k)).1) ∧ Rd w' g B s ((k + (lineR (s.data.toList.drop k)).2 : Nat) : Int) m v acc ∧ Below B w w'

set_option maxRecDepth 100000 in
set_option maxHeartbeats 1600000 in
theorem line_any (w : World) (g B : Nat) (s : ByteArray) (k : Nat) (m : Int) (v : Value) (acc : List UInt8) (h : Rd w g B s (k : Int) m v acc) (hs : s.size ≤ maxLen) (hk : k ≤ s.size) (hB : B ≤ w.heap.size) :
    Calls Tryd.prog 105 #[.pointer (some ⟨g, 0, none⟩)] w (LinePost w g B s k m v acc) := by
  unfold maxLen at hs
  have kc := fun (w : World) (C : Array Value) (n c : Nat) => Lib.run_convert_bytes_const (P := Tryd.prog) w 107 5 C n c Tryd.underlying107 Tryd.underlying5
  by_cases c0 : k < s.size
  · have HD := Lib.hid (drop_cons s k c0)
    have q0 : ((k : Int) == (s.size : Int)) = false := beq_eq_false_iff_ne.2 (by omega)
    have i0 : (k : Int) < (s.size : Int) := by omega
    by_cases c1 : s[k] = 13
    · have q1 : ((s[k].toNat : Int) != 13) = false := by rw [c1]; decide
      by_cases c2 : k + 1 < s.size
      · have HD2 := Lib.hid (drop_cons s (k + 1) c2)
        have q2 : ((k : Int) + 1 == (s.size : Int)) = false := beq_eq_false_iff_ne.2 (by omega)
        have i2 : (k : Int) + 1 < (s.size : Int) := by omega
        have i3 : 0 ≤ (k : Int) + 1 := by omega
        have i5 : ((k : Int) + 1).toNat = k + 1 := by omega
        by_cases c3 : s[k + 1] = 10
        · have q3 : ((s[k + 1].toNat : Int) != 10) = false := by rw [c3]; decide
          have HL : Hid (lineR (s.data.toList.drop k) = (0, 2)) := by unfold Hid; rw [HD.out, HD2.out, c1, c3]; rfl
          clear c1 c3
          go_enter Tryd.func105, Tryd.ntmps105
          go_wp2_with fail
          have hr := h.alloc (.cells #[.int .u8 13, .int .u8 10] 5 (2, 3))
          have hbl : Below B w (w.alloc (.cells #[.int .u8 13, .int .u8 10] 5 (2, 3))) := (Below.refl _ _).alloc hB _
          have b0 : (w.alloc (.cells #[.int .u8 13, .int .u8 10] 5 (2, 3))).cell? ⟨w.heap.size, 0, none⟩ = some (.int .u8 13) := cell_of_row _ _ 0 _ _ (2, 3) (heap_alloc_new w _)
          have b1 : (w.alloc (.cells #[.int .u8 13, .int .u8 10] 5 (2, 3))).cell? ⟨w.heap.size, 1, none⟩ = some (.int .u8 10) := cell_of_row _ _ 1 _ _ (2, 3) (heap_alloc_new w _)
          have hne : g ≠ w.heap.size := Nat.ne_of_lt h.lt
          generalize w.alloc (.cells #[.int .u8 13, .int .u8 10] 5 (2, 3)) = W1 at *
          have h0 := hr.c0
          have h1 := hr.c1
          have hf := hr.free 1
          have hgB := h.hB
          clear h kc
          refine wp_loop_rounds 3 ?_
          rw [rounds_succ]
          go_wp2_with (first | rw [rounds_succ] | fail)
          have hr1 := hr
          have hbl1 := hbl
          clear hr hbl
          go_quiet (fail)
          have hr2 := hr1.drewN nq
          have hbl2 := below_drewN hbl1 nq
          have b1 : (W1.drewN nq).cell? ⟨w.heap.size, 1, none⟩ = some (.int .u8 10) := b1
          clear h0 h1 hf
          generalize W1.drewN nq = W2 at *
          have h0 := hr2.c0
          have h1 := hr2.c1
          have hf := hr2.free 1
          go_wp2_with (first | rw [rounds_succ] | fail)
          go_quiet (fail)
          have hr3 := hr2.drewN nq
          have hbl3 := below_drewN hbl2 nq
          have b1 : (W2.drewN nq).cell? ⟨w.heap.size, 1, none⟩ = some (.int .u8 10) := b1
          clear h0 h1 hf
          generalize W2.drewN nq = W3 at *
          have h0 := hr3.c0
          have h1 := hr3.c1
          have hf := hr3.free 1
          go_wp2_with (first | rw [rounds_succ] | fail)
          have hr4 := hr3.at_ ((k : Int) + 1)
          have hbl4 := hbl3.setCell (p := ⟨g, 1, none⟩) hgB (.int .i64 ((k : Int) + 1))
          have b1 : (W3.setCell ⟨g, 1, none⟩ (.int .i64 ((k : Int) + 1))).cell? ⟨w.heap.size, 1, none⟩ = some (.int .u8 10) := (World.cell?_setCell_other W3 ⟨g, 1, none⟩ ⟨w.heap.size, 1, none⟩ _ (fun e => hne (by injection e))).trans b1
          clear h0 h1 hf
          generalize W3.setCell ⟨g, 1, none⟩ (.int .i64 ((k : Int) + 1)) = W4 at *
          have h0 := hr4.c0
          have h1 := hr4.c1
          have hf := hr4.free 1
          go_quiet (fail)
          have hr5 := hr4.drewN nq
          have hbl5 := below_drewN hbl4 nq
          have b1 : (W4.drewN nq).cell? ⟨w.heap.size, 1, none⟩ = some (.int .u8 10) := b1
          clear h0 h1 hf
          generalize W4.drewN nq = W5 at *
          have h0 := hr5.c0
          have h1 := hr5.c1
          have hf := hr5.free 1
          go_wp2_with (first | rw [rounds_succ] | fail)
          go_quiet (fail)
          have hr6 := hr5.drewN nq
          have hbl6 := below_drewN hbl5 nq
          have b1 : (W5.drewN nq).cell? ⟨w.heap.size, 1, none⟩ = some (.int .u8 10) := b1
          clear h0 h1 hf
          generalize W5.drewN nq = W6 at *
          have h0 := hr6.c0
          have h1 := hr6.c1
          have hf := hr6.free 1
          go_wp2_with (first | rw [rounds_succ] | fail)
          go_ret
          unfold LinePost
          rw [HL.out]
          exact ⟨rfl, (hr6.at_ _).eq (by omega), hbl6.setCell (p := ⟨g, 1, none⟩) hgB _⟩
        · have q3 : ((s[k + 1].toNat : Int) != 10) = true := bne_iff_ne.2 (fun e => c3 (UInt8.toNat_inj.1 (by show s[k + 1].toNat = 10; omega)))
          have HL : Hid (lineR (s.data.toList.drop k) = (4, 1)) := by unfold Hid; rw [HD.out, HD2.out, c1]; rw [lineR_13, if_neg c3]
          clear c1 c3
          go_enter Tryd.func105, Tryd.ntmps105
          go_wp2_with fail
          have hr := h.alloc (.cells #[.int .u8 13, .int .u8 10] 5 (2, 3))
          have hbl : Below B w (w.alloc (.cells #[.int .u8 13, .int .u8 10] 5 (2, 3))) := (Below.refl _ _).alloc hB _
          have b0 : (w.alloc (.cells #[.int .u8 13, .int .u8 10] 5 (2, 3))).cell? ⟨w.heap.size, 0, none⟩ = some (.int .u8 13) := cell_of_row _ _ 0 _ _ (2, 3) (heap_alloc_new w _)
          have b1 : (w.alloc (.cells #[.int .u8 13, .int .u8 10] 5 (2, 3))).cell? ⟨w.heap.size, 1, none⟩ = some (.int .u8 10) := cell_of_row _ _ 1 _ _ (2, 3) (heap_alloc_new w _)
          have hne : g ≠ w.heap.size := Nat.ne_of_lt h.lt
          generalize w.alloc (.cells #[.int .u8 13, .int .u8 10] 5 (2, 3)) = W1 at *
          have h0 := hr.c0
          have h1 := hr.c1
          have hf := hr.free 1
          have hgB := h.hB
          clear h kc
          refine wp_loop_rounds 3 ?_
          rw [rounds_succ]
          go_wp2_with (first | rw [rounds_succ] | fail)
          have hr1 := hr
          have hbl1 := hbl
          clear hr hbl
          go_quiet (fail)
          have hr2 := hr1.drewN nq
          have hbl2 := below_drewN hbl1 nq
          have b1 : (W1.drewN nq).cell? ⟨w.heap.size, 1, none⟩ = some (.int .u8 10) := b1
          clear h0 h1 hf
          generalize W1.drewN nq = W2 at *
          have h0 := hr2.c0
          have h1 := hr2.c1
          have hf := hr2.free 1
          go_wp2_with (first | rw [rounds_succ] | fail)
          go_quiet (fail)
          have hr3 := hr2.drewN nq
          have hbl3 := below_drewN hbl2 nq
          have b1 : (W2.drewN nq).cell? ⟨w.heap.size, 1, none⟩ = some (.int .u8 10) := b1
          clear h0 h1 hf
          generalize W2.drewN nq = W3 at *
          have h0 := hr3.c0
          have h1 := hr3.c1
          have hf := hr3.free 1
          go_wp2_with (first | rw [rounds_succ] | fail)
          have hr4 := hr3.at_ ((k : Int) + 1)
          have hbl4 := hbl3.setCell (p := ⟨g, 1, none⟩) hgB (.int .i64 ((k : Int) + 1))
          have b1 : (W3.setCell ⟨g, 1, none⟩ (.int .i64 ((k : Int) + 1))).cell? ⟨w.heap.size, 1, none⟩ = some (.int .u8 10) := (World.cell?_setCell_other W3 ⟨g, 1, none⟩ ⟨w.heap.size, 1, none⟩ _ (fun e => hne (by injection e))).trans b1
          clear h0 h1 hf
          generalize W3.setCell ⟨g, 1, none⟩ (.int .i64 ((k : Int) + 1)) = W4 at *
          have h0 := hr4.c0
          have h1 := hr4.c1
          have hf := hr4.free 1
          go_quiet (fail)
          have hr5 := hr4.drewN nq
          have hbl5 := below_drewN hbl4 nq
          have b1 : (W4.drewN nq).cell? ⟨w.heap.size, 1, none⟩ = some (.int .u8 10) := b1
          clear h0 h1 hf
          generalize W4.drewN nq = W5 at *
          have h0 := hr5.c0
          have h1 := hr5.c1
          have hf := hr5.free 1
          go_wp2_with (first | rw [rounds_succ] | fail)
          go_quiet (fail)
          have hr6 := hr5.drewN nq
          have hbl6 := below_drewN hbl5 nq
          have b1 : (W5.drewN nq).cell? ⟨w.heap.size, 1, none⟩ = some (.int .u8 10) := b1
          clear h0 h1 hf
          generalize W5.drewN nq = W6 at *
          have h0 := hr6.c0
          have h1 := hr6.c1
          have hf := hr6.free 1
          go_wp2_with (first | rw [rounds_succ] | fail)
          go_ret
          unfold LinePost
          rw [HL.out]
          exact ⟨rfl, hr6.eq (by omega), hbl6⟩
      · have q2 : ((k : Int) + 1 == (s.size : Int)) = true := beq_iff_eq.2 (by omega)
        have HL : Hid (lineR (s.data.toList.drop k) = (7, 1)) := by unfold Hid; rw [HD.out, drop_nil s (k + 1) (by omega), c1]; rfl
        clear c1
        go_enter Tryd.func105, Tryd.ntmps105
        go_wp2_with fail
        have hr := h.alloc (.cells #[.int .u8 13, .int .u8 10] 5 (2, 3))
        have hbl : Below B w (w.alloc (.cells #[.int .u8 13, .int .u8 10] 5 (2, 3))) := (Below.refl _ _).alloc hB _
        have b0 : (w.alloc (.cells #[.int .u8 13, .int .u8 10] 5 (2, 3))).cell? ⟨w.heap.size, 0, none⟩ = some (.int .u8 13) := cell_of_row _ _ 0 _ _ (2, 3) (heap_alloc_new w _)
        have b1 : (w.alloc (.cells #[.int .u8 13, .int .u8 10] 5 (2, 3))).cell? ⟨w.heap.size, 1, none⟩ = some (.int .u8 10) := cell_of_row _ _ 1 _ _ (2, 3) (heap_alloc_new w _)
        have hne : g ≠ w.heap.size := Nat.ne_of_lt h.lt
        generalize w.alloc (.cells #[.int .u8 13, .int .u8 10] 5 (2, 3)) = W1 at *
        have h0 := hr.c0
        have h1 := hr.c1
        have hf := hr.free 1
        have hgB := h.hB
        clear h kc
        refine wp_loop_rounds 3 ?_
        rw [rounds_succ]
        go_wp2_with (first | rw [rounds_succ] | fail)
        have hr1 := hr
        have hbl1 := hbl
        clear hr hbl
        go_quiet (fail)
        have hr2 := hr1.drewN nq
        have hbl2 := below_drewN hbl1 nq
        have b1 : (W1.drewN nq).cell? ⟨w.heap.size, 1, none⟩ = some (.int .u8 10) := b1
        clear h0 h1 hf
        generalize W1.drewN nq = W2 at *
        have h0 := hr2.c0
        have h1 := hr2.c1
        have hf := hr2.free 1
        go_wp2_with (first | rw [rounds_succ] | fail)
        go_quiet (fail)
        have hr3 := hr2.drewN nq
        have hbl3 := below_drewN hbl2 nq
        have b1 : (W2.drewN nq).cell? ⟨w.heap.size, 1, none⟩ = some (.int .u8 10) := b1
        clear h0 h1 hf
        generalize W2.drewN nq = W3 at *
        have h0 := hr3.c0
        have h1 := hr3.c1
        have hf := hr3.free 1
        go_wp2_with (first | rw [rounds_succ] | fail)
        have hr4 := hr3.at_ ((k : Int) + 1)
        have hbl4 := hbl3.setCell (p := ⟨g, 1, none⟩) hgB (.int .i64 ((k : Int) + 1))
        have b1 : (W3.setCell ⟨g, 1, none⟩ (.int .i64 ((k : Int) + 1))).cell? ⟨w.heap.size, 1, none⟩ = some (.int .u8 10) := (World.cell?_setCell_other W3 ⟨g, 1, none⟩ ⟨w.heap.size, 1, none⟩ _ (fun e => hne (by injection e))).trans b1
        clear h0 h1 hf
        generalize W3.setCell ⟨g, 1, none⟩ (.int .i64 ((k : Int) + 1)) = W4 at *
        have h0 := hr4.c0
        have h1 := hr4.c1
        have hf := hr4.free 1
        go_quiet (fail)
        have hr5 := hr4.drewN nq
        have hbl5 := below_drewN hbl4 nq
        have b1 : (W4.drewN nq).cell? ⟨w.heap.size, 1, none⟩ = some (.int .u8 10) := b1
        clear h0 h1 hf
        generalize W4.drewN nq = W5 at *
        have h0 := hr5.c0
        have h1 := hr5.c1
        have hf := hr5.free 1
        go_wp2_with (first | rw [rounds_succ] | fail)
        go_ret
        unfold LinePost
        rw [HL.out]
        exact ⟨rfl, hr5.eq (by omega), hbl5⟩
    · have q1 : ((s[k].toNat : Int) != 13) = true := bne_iff_ne.2 (fun e => c1 (UInt8.toNat_inj.1 (by show s[k].toNat = 13; omega)))
      have HL : Hid (lineR (s.data.toList.drop k) = (4, 0)) := by unfold Hid; rw [HD.out]; exact lineR_cons _ _ c1
      clear c1
      go_enter Tryd.func105, Tryd.ntmps105
      go_wp2_with fail
      have hr := h.alloc (.cells #[.int .u8 13, .int .u8 10] 5 (2, 3))
      have hbl : Below B w (w.alloc (.cells #[.int .u8 13, .int .u8 10] 5 (2, 3))) := (Below.refl _ _).alloc hB _
      have b0 : (w.alloc (.cells #[.int .u8 13, .int .u8 10] 5 (2, 3))).cell? ⟨w.heap.size, 0, none⟩ = some (.int .u8 13) := cell_of_row _ _ 0 _ _ (2, 3) (heap_alloc_new w _)
      have b1 : (w.alloc (.cells #[.int .u8 13, .int .u8 10] 5 (2, 3))).cell? ⟨w.heap.size, 1, none⟩ = some (.int .u8 10) := cell_of_row _ _ 1 _ _ (2, 3) (heap_alloc_new w _)
      have hne : g ≠ w.heap.size := Nat.ne_of_lt h.lt
      generalize w.alloc (.cells #[.int .u8 13, .int .u8 10] 5 (2, 3)) = W1 at *
      have h0 := hr.c0
      have h1 := hr.c1
      have hf := hr.free 1
      have hgB := h.hB
      clear h kc
      refine wp_loop_rounds 3 ?_
      rw [rounds_succ]
      go_wp2_with (first | rw [rounds_succ] | fail)
      have hr1 := hr
      have hbl1 := hbl
      clear hr hbl
      go_quiet (fail)
      have hr2 := hr1.drewN nq
      have hbl2 := below_drewN hbl1 nq
      have b1 : (W1.drewN nq).cell? ⟨w.heap.size, 1, none⟩ = some (.int .u8 10) := b1
      clear h0 h1 hf
      generalize W1.drewN nq = W2 at *
      have h0 := hr2.c0
      have h1 := hr2.c1
      have hf := hr2.free 1
      go_wp2_with (first | rw [rounds_succ] | fail)
      go_quiet (fail)
      have hr3 := hr2.drewN nq
      have hbl3 := below_drewN hbl2 nq
      have b1 : (W2.drewN nq).cell? ⟨w.heap.size, 1, none⟩ = some (.int .u8 10) := b1
      clear h0 h1 hf
      generalize W2.drewN nq = W3 at *
      have h0 := hr3.c0
      have h1 := hr3.c1
      have hf := hr3.free 1
      go_wp2_with (first | rw [rounds_succ] | fail)
      go_ret
      unfold LinePost
      rw [HL.out]
      exact ⟨rfl, hr3.eq (by omega), hbl3⟩
  · have HL : Hid (lineR (s.data.toList.drop k) = (7, 0)) := by unfold Hid; rw [drop_nil s k (by omega)]; rfl
    have q0 : ((k : Int) == (s.size : Int)) = true := beq_iff_eq.2 (by omega)
    go_enter Tryd.func105, Tryd.ntmps105
    go_wp2_with fail
    have hr := h.alloc (.cells #[.int .u8 13, .int .u8 10] 5 (2, 3))
    have hbl : Below B w (w.alloc (.cells #[.int .u8 13, .int .u8 10] 5 (2, 3))) := (Below.refl _ _).alloc hB _
    have b0 : (w.alloc (.cells #[.int .u8 13, .int .u8 10] 5 (2, 3))).cell? ⟨w.heap.size, 0, none⟩ = some (.int .u8 13) := cell_of_row _ _ 0 _ _ (2, 3) (heap_alloc_new w _)
    have b1 : (w.alloc (.cells #[.int .u8 13, .int .u8 10] 5 (2, 3))).cell? ⟨w.heap.size, 1, none⟩ = some (.int .u8 10) := cell_of_row _ _ 1 _ _ (2, 3) (heap_alloc_new w _)
    have hne : g ≠ w.heap.size := Nat.ne_of_lt h.lt
    generalize w.alloc (.cells #[.int .u8 13, .int .u8 10] 5 (2, 3)) = W1 at *
    have h0 := hr.c0
    have h1 := hr.c1
    have hf := hr.free 1
    have hgB := h.hB
    clear h kc
    refine wp_loop_rounds 3 ?_
    rw [rounds_succ]
    go_wp2_with (first | rw [rounds_succ] | fail)
    have hr1 := hr
    have hbl1 := hbl
    clear hr hbl
    go_quiet (fail)
    have hr2 := hr1.drewN nq
    have hbl2 := below_drewN hbl1 nq
    have b1 : (W1.drewN nq).cell? ⟨w.heap.size, 1, none⟩ = some (.int .u8 10) := b1
    clear h0 h1 hf
    generalize W1.drewN nq = W2 at *
    have h0 := hr2.c0
    have h1 := hr2.c1
    have hf := hr2.free 1
    go_wp2_with (first | rw [rounds_succ] | fail)
    go_ret
    unfold LinePost
    rw [HL.out]
    exact ⟨rfl, hr2.eq (by omega), hbl2⟩

end Go.Proofs.YtchoenfclfafiaaDoor
