/- The walks of frame's size and chunk. -/
import Derived.Test.YtchoenfclfafiaaDoorFrmW
namespace Go.Proofs.YtchoenfclfafiaaDoor
open Go.RowKit

def atOf (g : Nat) (w : World) : Nat := match w.cell? ⟨g, 1, none⟩ with | some (.int _ n) => n.toNat | _ => 0
theorem Rd.atOf {w : World} {g B : Nat} {s : ByteArray} {a m : Int} {v : Value} {acc : List UInt8} (h : Rd w g B s a m v acc) : atOf g w = a.toNat := by
  unfold Go.Proofs.YtchoenfclfafiaaDoor.atOf; rw [h.c1]
def SzRel (w : World) (g B : Nat) (s : ByteArray) (k : Nat) (m : Int) (v : Value) (acc : List UInt8) (wr : World) : Prop :=
  ∃ p : Nat, k ≤ p ∧ p ≤ k + 7 ∧ p ≤ s.size ∧ Rd wr g B s (p : Int) m v acc ∧ Below B w wr ∧ digN 7 (s.data.toList.drop k) = (p - k) + digN (k + 7 - p) (s.data.toList.drop p)

theorem digN_pos {f : Nat} {b : UInt8} {r : List UInt8} (h : 0 ≤ digitI b) : digN (f + 1) (b :: r) = digN f r + 1 := by
  rw [digN, if_pos h]
theorem digN_neg {f : Nat} {b : UInt8} {r : List UInt8} (h : ¬ 0 ≤ digitI b) : digN (f + 1) (b :: r) = 0 := by
  rw [digN, if_neg h]
theorem hex_part (s : ByteArray) (k p : Nat) (h1 : k < p) (h2 : p ≤ k + 7) (h3 : p ≤ s.size) (h : digN 7 (s.data.toList.drop k) = p - k) (W : World) :
    Calls Tryd.prog 111 #[.string (s.extract k p)] W fun e w' => e = .returned (.tuple #[.int .i64 (hexV ((s.data.toList.drop k).take (p - k))), .int .i64 0]) ∧ w' = W := by
  have e : (s.extract k p).data.toList = (s.data.toList.drop k).take (p - k) := Lib.extract_data _ _ _
  have hd := (dig_le 7 (s.data.toList.drop k)).2.2
  rw [h] at hd
  have hl : ((s.data.toList.drop k).take (p - k)).length = p - k := by
    rw [List.length_take, List.length_drop, Array.length_toList]; show min (p - k) (s.size - k) = p - k; omega
  have hz : (s.extract k p).size ≤ maxLen := by rw [ByteArray.size_extract]; unfold maxLen; omega
  have := Hex_any (s.extract k p) W hz
  rw [e, numL_hexV _ hd (by omega) (by omega)] at this
  exact this
def PiecePost (w : World) (g B : Nat) (s : ByteArray) (k : Nat) (m : Int) (v : Value) (acc : List UInt8) (p : Piece) (e : Ending) (w' : World) : Prop :=
  e = .returned (.tuple #[.int .i64 p.n, .int .i64 p.e]) ∧ Rd w' g B s ((k + p.c : Nat) : Int) m v acc ∧ Below B w w'

set_option maxRecDepth 100000 in
set_option maxHeartbeats 1600000 in
theorem size_any (w : World) (g B : Nat) (s : ByteArray) (k : Nat) (m : Int) (v : Value) (acc : List UInt8) (h : Rd w g B s (k : Int) m v acc) (hs : s.size ≤ 4611686018427387904) (hk : k ≤ s.size) (hB : B ≤ w.heap.size) :
    Calls Tryd.prog 104 #[.pointer (some ⟨g, 0, none⟩)] w (PiecePost w g B s k m v acc (sizeR (s.data.toList.drop k))) := by
  have hs2 : s.size ≤ maxLen := by unfold maxLen; omega
  have h1 := h.c1
  have i4 : IntKind.i64.wrap ((k : Int) + 7) = (k : Int) + 7 := IntWalk.i64_in _ (by omega)
  go_enter Tryd.func104, Tryd.ntmps104
  go_wp2_with fail
  go_loopw [] (fun wr => SzRel w g B s k m v acc wr) (fun wr => s.size - atOf g wr)
  case atStart => exact ⟨k, Nat.le_refl _, by omega, hk, h, Below.refl _ _, by simp⟩
  case round =>
    obtain ⟨p, hp1, hp2, hp3, hr, hbl, hd⟩ := hrel
    clear h1
    have hm := hr.atOf
    have h0 := hr.c0
    have h1 := hr.c1
    have hf := hr.free 1
    have HD := Lib.hid hd
    clear hd
    by_cases c0 : p < s.size
    · have i0 : (p : Int) < (s.size : Int) := by omega
      have HDR := Lib.hid (drop_cons s p c0)
      by_cases c1 : p < k + 7
      · have i1 : (p : Int) < (k : Int) + 7 := by omega
        by_cases c2 : 0 ≤ digitI s[p]
        · go_wp2_with fail
          go_quiet ((go_at_call 110; exact Calls.quiet_of_same (Digit_any _ _)))
          go_wp2_with fail
          have hr2 := (hr.drewN nq).at_ ((p : Int) + 1)
          exact ⟨⟨p + 1, by omega, by omega, by omega, hr2.eq (by omega), (below_drewN hbl nq).setCell hr.hB _, by rw [HD.out, HDR.out, show k + 7 - p = (k + 7 - (p + 1)) + 1 by omega, digN_pos c2]; omega⟩, by rw [hr2.atOf, hm]; omega⟩
        · have HE : Hid (digN 7 (s.data.toList.drop k) = p - k) := by unfold Hid; rw [HD.out, HDR.out, show k + 7 - p = (k + 7 - (p + 1)) + 1 by omega, digN_neg c2]; omega
          by_cases hpk : k < p
          · have qk : ((p : Int) == (k : Int)) = false := beq_eq_false_iff_ne.2 (by omega)
            have hx := hex_part s k p hpk hp2 hp3 HE.out
            have HZ : Hid (sizeR (s.data.toList.drop k) = ⟨hexV ((s.data.toList.drop k).take (p - k)), (lineR (s.data.toList.drop p)).1, p - k + (lineR (s.data.toList.drop p)).2, []⟩) := by
              unfold Hid sizeR; rw [HE.out, if_neg (by omega), List.drop_drop, show k + (p - k) = p by omega]
            have i6 : (k : Int) ≤ (p : Int) := by omega
            have i7 : (p : Int) ≤ (s.size : Int) := by omega
            have i8 : 0 ≤ (p : Int) := by omega
            have i9 : 0 ≤ (k : Int) := by omega
            go_wp2_with fail
            go_quiet ((go_at_call 110; exact Calls.quiet_of_same (Digit_any _ _)))
            have hr2 := hr.drewN nq
            have hbl2 := below_drewN hbl nq
            generalize wr.drewN nq = W2 at *
            clear h0 h1 hf hm hr hbl
            have h0 := hr2.c0
            have h1 := hr2.c1
            go_wp2_with fail
            go_quiet ((go_at_call 111; exact Calls.quiet_of_same (hx _)))
            have hr3 := hr2.drewN nq
            have hbl3 := below_drewN hbl2 nq
            generalize W2.drewN nq = W3 at *
            go_wp2_with (go_at_call 105; refine (line_any _ g B s p m v acc hr3 hs2 hp3 (Nat.le_trans hB hbl3.size)).mono ?_; rintro e w4 ⟨rfl, hr4, hbl4⟩)
            go_ret2
            unfold PiecePost
            rw [HZ.out]
            exact ⟨rfl, hr4.eq (by show ((p + _ : Nat) : Int) = ((k + (p - k + _) : Nat) : Int); omega), hbl3.trans hbl4⟩
          · have qk : ((p : Int) == (k : Int)) = true := beq_iff_eq.2 (by omega)
            have HZ : Hid (sizeR (s.data.toList.drop k) = ⟨0, if (s.data.toList.drop k).length = 0 then 7 else 4, 0, []⟩) := by unfold Hid sizeR; rw [HE.out, if_pos (by omega)]
            have hdl : (s.data.toList.drop k).length = s.size - k := by rw [List.length_drop, Array.length_toList]; rfl
            have qs : ((p : Int) == (s.size : Int)) = false := beq_eq_false_iff_ne.2 (by omega)
            rw [if_neg (by omega)] at HZ
            clear hdl
            go_wp2_with fail
            go_quiet ((go_at_call 110; exact Calls.quiet_of_same (Digit_any _ _)))
            have hr2 := hr.drewN nq
            have hbl2 := below_drewN hbl nq
            generalize wr.drewN nq = W2 at *
            clear h0 h1 hf hm hr hbl
            have h0 := hr2.c0
            have h1 := hr2.c1
            go_wp2_with fail
            go_quiet (fail)
            go_wp2_with fail
            go_ret2
            unfold PiecePost
            rw [HZ.out]
            exact ⟨rfl, (hr2.drewN nq).eq (by show (p : Int) = ((k + 0 : Nat) : Int); omega), below_drewN hbl2 nq⟩
      · have i1 : decide ((p : Int) < (k : Int) + 7) = false := decide_eq_false (by omega)
        have HE : Hid (digN 7 (s.data.toList.drop k) = p - k) := by unfold Hid; rw [HD.out, show k + 7 - p = 0 by omega, digN]; omega
        by_cases hpk : k < p
        · have qk : ((p : Int) == (k : Int)) = false := beq_eq_false_iff_ne.2 (by omega)
          have hx := hex_part s k p hpk hp2 hp3 HE.out
          have HZ : Hid (sizeR (s.data.toList.drop k) = ⟨hexV ((s.data.toList.drop k).take (p - k)), (lineR (s.data.toList.drop p)).1, p - k + (lineR (s.data.toList.drop p)).2, []⟩) := by
            unfold Hid sizeR; rw [HE.out, if_neg (by omega), List.drop_drop, show k + (p - k) = p by omega]
          have i6 : (k : Int) ≤ (p : Int) := by omega
          have i7 : (p : Int) ≤ (s.size : Int) := by omega
          have i8 : 0 ≤ (p : Int) := by omega
          have i9 : 0 ≤ (k : Int) := by omega
          go_wp2_with fail
          go_quiet (fail)
          have hr2 := hr.drewN nq
          have hbl2 := below_drewN hbl nq
          generalize wr.drewN nq = W2 at *
          clear h0 h1 hf hm hr hbl
          have h0 := hr2.c0
          have h1 := hr2.c1
          go_wp2_with fail
          go_quiet ((go_at_call 111; exact Calls.quiet_of_same (hx _)))
          have hr3 := hr2.drewN nq
          have hbl3 := below_drewN hbl2 nq
          generalize W2.drewN nq = W3 at *
          go_wp2_with (go_at_call 105; refine (line_any _ g B s p m v acc hr3 hs2 hp3 (Nat.le_trans hB hbl3.size)).mono ?_; rintro e w4 ⟨rfl, hr4, hbl4⟩)
          go_ret2
          unfold PiecePost
          rw [HZ.out]
          exact ⟨rfl, hr4.eq (by show ((p + _ : Nat) : Int) = ((k + (p - k + _) : Nat) : Int); omega), hbl3.trans hbl4⟩
        · omega
    · have HE : Hid (digN 7 (s.data.toList.drop k) = p - k) := by unfold Hid; rw [HD.out, drop_nil s p (by omega)]; cases k + 7 - p <;> simp [digN]
      by_cases hpk : k < p
      · have qk : ((p : Int) == (k : Int)) = false := beq_eq_false_iff_ne.2 (by omega)
        have hx := hex_part s k p hpk hp2 hp3 HE.out
        have HZ : Hid (sizeR (s.data.toList.drop k) = ⟨hexV ((s.data.toList.drop k).take (p - k)), (lineR (s.data.toList.drop p)).1, p - k + (lineR (s.data.toList.drop p)).2, []⟩) := by
          unfold Hid sizeR; rw [HE.out, if_neg (by omega), List.drop_drop, show k + (p - k) = p by omega]
        have i6 : (k : Int) ≤ (p : Int) := by omega
        have i7 : (p : Int) ≤ (s.size : Int) := by omega
        have i8 : 0 ≤ (p : Int) := by omega
        have i9 : 0 ≤ (k : Int) := by omega
        go_wp2_with fail
        go_quiet (fail)
        have hr2 := hr.drewN nq
        have hbl2 := below_drewN hbl nq
        generalize wr.drewN nq = W2 at *
        clear h0 h1 hf hm hr hbl
        have h0 := hr2.c0
        have h1 := hr2.c1
        go_wp2_with fail
        go_quiet ((go_at_call 111; exact Calls.quiet_of_same (hx _)))
        have hr3 := hr2.drewN nq
        have hbl3 := below_drewN hbl2 nq
        generalize W2.drewN nq = W3 at *
        go_wp2_with (go_at_call 105; refine (line_any _ g B s p m v acc hr3 hs2 hp3 (Nat.le_trans hB hbl3.size)).mono ?_; rintro e w4 ⟨rfl, hr4, hbl4⟩)
        go_ret2
        unfold PiecePost
        rw [HZ.out]
        exact ⟨rfl, hr4.eq (by show ((p + _ : Nat) : Int) = ((k + (p - k + _) : Nat) : Int); omega), hbl3.trans hbl4⟩
      · have qk : ((p : Int) == (k : Int)) = true := beq_iff_eq.2 (by omega)
        have HZ : Hid (sizeR (s.data.toList.drop k) = ⟨0, if (s.data.toList.drop k).length = 0 then 7 else 4, 0, []⟩) := by unfold Hid sizeR; rw [HE.out, if_pos (by omega)]
        have hdl : (s.data.toList.drop k).length = s.size - k := by rw [List.length_drop, Array.length_toList]; rfl
        have qs : ((p : Int) == (s.size : Int)) = true := beq_iff_eq.2 (by omega)
        rw [if_pos (by omega)] at HZ
        clear hdl
        go_wp2_with fail
        go_quiet (fail)
        have hr2 := hr.drewN nq
        have hbl2 := below_drewN hbl nq
        generalize wr.drewN nq = W2 at *
        clear h0 h1 hf hm hr hbl
        have h0 := hr2.c0
        have h1 := hr2.c1
        go_wp2_with fail
        go_quiet (fail)
        go_wp2_with fail
        go_ret2
        unfold PiecePost
        rw [HZ.out]
        exact ⟨rfl, (hr2.drewN nq).eq (by show (p : Int) = ((k + 0 : Nat) : Int); omega), below_drewN hbl2 nq⟩
end Go.Proofs.YtchoenfclfafiaaDoor
