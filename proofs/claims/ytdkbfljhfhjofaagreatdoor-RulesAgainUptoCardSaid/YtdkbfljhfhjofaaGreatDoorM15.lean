/- Part 15 of the proof: lemmas and walks that the last texts use. -/
import Derived.Test.YtdkbfljhfhjofaaGreatDoorM02
import Derived.Test.YtdkbfljhfhjofaaGreatDoorM04
import Derived.Test.YtdkbfljhfhjofaaGreatDoorM07
import Derived.Test.YtdkbfljhfhjofaaGreatDoorM14
import Derived.Shelf.GgClosure.Gives
namespace Go.Proofs.YtdkbfljhfhjofaaGreatDoor
open Go.RowKit
def signL : List UInt8 := [40, 41, 91, 93, 124, 42, 43, 63, 46, 94, 36, 45, 92]
def isSign (b : Int) : Bool := decide (0 ≤ Lib.indexByte signL b.toNat.toUInt8)
def plainR (s : List UInt8) (r : RS) : Int × RS :=
  if nextR s r < 33 then (0, failR r 3) else if 126 < nextR s r then (0, failR r 3) else if isSign (nextR s r) = true then (0, failR r 3) else (nextR s r, { r with pos := r.pos + 1 })
/-- Behind a backslash. -/
def escR (s : List UInt8) (r : RS) : Int × RS :=
  if nextR s r = 110 then (10, { r with pos := r.pos + 1 })
  else if nextR s r = 116 then (9, { r with pos := r.pos + 1 })
  else if nextR s r = 114 then (13, { r with pos := r.pos + 1 })
  else if nextR s r = 120 then ((digitR s { r with pos := r.pos + 1 }).1 * 16 + (digitR s (digitR s { r with pos := r.pos + 1 }).2).1, (digitR s (digitR s { r with pos := r.pos + 1 }).2).2)
  else if nextR s r < 0 then (0, failR r 3) else if isSign (nextR s r) = true then (nextR s r, { r with pos := r.pos + 1 }) else (0, failR r 3)
def charR (s : List UInt8) (r : RS) : Int × RS := if nextR s r = 92 then escR s { r with pos := r.pos + 1 } else plainR s r
theorem digitR_pos {s : List UInt8} {r : RS} (h : r.pos ≤ s.length) : (digitR s r).2.pos ≤ s.length := by
  have hf : (failR r 3).pos = r.pos := by unfold failR; split <;> rfl
  unfold digitR
  split
  · show (failR r 3).pos ≤ _; omega
  · rename_i h1
    split
    · show (failR r 3).pos ≤ _; omega
    · have := (nextR_pos (s := s) (r := r) rfl (by omega)).1
      show r.pos + 1 ≤ _
      omega
theorem indexByte_top (l : List UInt8) (b : UInt8) : Lib.indexByte l b ≤ l.length := by
  have h1 := Lib.indexByte_ge l b
  rcases Int.lt_or_le (Lib.indexByte l b) 0 with h | h
  · omega
  · obtain ⟨o, ho⟩ : ∃ o : Nat, Lib.indexByte l b = o := ⟨(Lib.indexByte l b).toNat, by omega⟩
    have := (List.getElem?_eq_some_iff.1 (Lib.indexByte_some ho).1).1
    omega
theorem digitR_val {s : List UInt8} {r : RS} : 0 ≤ (digitR s r).1 ∧ (digitR s r).1 ≤ 16 := by
  unfold digitR
  split
  · exact ⟨Int.le_refl _, by show (0 : Int) ≤ 16; decide⟩
  · split
    · exact ⟨Int.le_refl _, by show (0 : Int) ≤ 16; decide⟩
    · rename_i h1 h2
      have := indexByte_top hexL (nextR s r).toNat.toUInt8
      exact ⟨by show 0 ≤ Lib.indexByte hexL _; omega, by show Lib.indexByte hexL _ ≤ 16; exact this⟩
set_option maxRecDepth 100000 in
set_option maxHeartbeats 6400000 in
theorem rchar_any (g : Nat) (s : ByteArray) (r : RS) (w : World) (h : RdAt g s r w) (hp : r.pos ≤ s.size) (hs : s.size ≤ 4096) :
    Calls Tryz.prog 258 #[.pointer (some ⟨g, 0, none⟩)] w fun e w' => e = .returned (.int .i64 (charR s.data.toList r).1) ∧ RdEnd g s (charR s.data.toList r).2 w w' := by
  have HN := Lib.hid (next_any g s r w h hp)
  have hnb := nextR_byte (s := s.data.toList) (r := r)
  have hsl : s.data.toList.length = s.size := by simp
  have hpos : 0 ≤ nextR s.data.toList r → r.pos < s.size := fun h => by have := (nextR_pos rfl h).1; omega
  have HC : Hid (charR s.data.toList r = if nextR s.data.toList r = 92 then escR s.data.toList { r with pos := r.pos + 1 } else if nextR s.data.toList r < 33 then (0, failR r 3) else if 126 < nextR s.data.toList r then (0, failR r 3) else if isSign (nextR s.data.toList r) = true then (0, failR r 3) else (nextR s.data.toList r, { r with pos := r.pos + 1 })) := rfl
  have HI : Hid (∀ (N : Int) W, Calls Tryz.prog 86 #[.string (ByteArray.mk #[40, 41, 91, 93, 124, 42, 43, 63, 46, 94, 36, 45, 92]), .int .u8 N] W fun e w' => e = .returned (.int .i64 (Lib.indexByte signL N.toNat.toUInt8)) ∧ w' = W) := fun N W => Tryz.strings_IndexByte _ N W
  have HSG : Hid (∀ N : Int, isSign N = decide (0 ≤ Lib.indexByte signL N.toNat.toUInt8)) := fun _ => rfl
  generalize charR s.data.toList r = R at *
  generalize nextR s.data.toList r = N at *
  clear h
  go_enter Tryz.func258, Tryz.ntmps258
  go_wp2_with (go_at_call 202; apply Hid.out)
  unfold Hid
  refine (HN.out).mono ?_
  rintro e w1 ⟨rfl, h1, hk⟩
  have HK := Lib.hid hk
  clear HN hk
  by_cases q0 : N = 92
  rotate_left
  · have d0 : (N != 92) = true := bne_iff_ne.2 q0
    have HF : Hid (∀ W, RdAt g s r W → Calls Tryz.prog 126 #[.pointer (some ⟨g, 0, none⟩), .int .i64 3] W fun e w' => e = .returned (.tuple #[]) ∧ RdEnd g s (failR r 3) W w') := fun W h => fail_any g s r 3 W h
    have HD : Hid (R = if N < 33 then (0, failR r 3) else if 126 < N then (0, failR r 3) else if isSign N = true then (0, failR r 3) else (N, { r with pos := r.pos + 1 })) := by unfold Hid; rw [HC.out, if_neg q0]
    clear HC q0
    by_cases q1 : N < 33
    · have d1 : decide (N < 33) = true := decide_eq_true q1
      rw [if_pos q1] at HD
      clear q1 hpos HI HSG
      have HF1 := Lib.hid (HF.out w1 h1)
      clear h1 HF
      go_wp2_with (go_at_call 126; apply Hid.out)
      unfold Hid
      refine (HF1.out).mono ?_
      rintro e wf ⟨rfl, hf⟩
      have HE := Lib.hid (RdEnd.trans HK.out hf)
      clear hf
      go_wp2_with fail
      exact bodyPost_ret (v := .int .i64 0) (by simp [results, Tryz.results258, go_sem]) rfl ⟨by rw [HD.out], by rw [HD.out]; exact HE.out⟩
    have d1 : decide (N < 33) = false := decide_eq_false q1
    rw [if_neg q1] at HD
    by_cases q2 : 126 < N
    · have d2 : decide (126 < N) = true := decide_eq_true q2
      rw [if_pos q2] at HD
      clear q1 q2 hpos HI HSG
      have HF1 := Lib.hid (HF.out w1 h1)
      clear h1 HF
      go_wp2_with (go_at_call 126; apply Hid.out)
      unfold Hid
      refine (HF1.out).mono ?_
      rintro e wf ⟨rfl, hf⟩
      have HE := Lib.hid (RdEnd.trans HK.out hf)
      clear hf
      go_wp2_with fail
      exact bodyPost_ret (v := .int .i64 0) (by simp [results, Tryz.results258, go_sem]) rfl ⟨by rw [HD.out], by rw [HD.out]; exact HE.out⟩
    have d2 : decide (126 < N) = false := decide_eq_false q2
    rw [if_neg q2, HSG.out N] at HD
    have hp1 := hpos (by omega)
    have i8 : IntKind.u8.wrap N = N := by rw [show IntKind.u8.wrap N = N % 256 from rfl]; omega
    have HI1 := Lib.hid (HI.out N)
    generalize Lib.indexByte signL N.toNat.toUInt8 = K at *
    clear HI HSG q1 q2 hpos
    go_wp2_with (go_at_call 86; apply Hid.out)
    unfold Hid
    refine (HI1.out w1).mono ?_
    rintro e w2 ⟨rfl, rfl⟩
    by_cases q3 : 0 ≤ K
    · have d3 : decide (0 ≤ K) = true := decide_eq_true q3
      rw [d3, if_pos rfl] at HD
      clear q3 HI1
      have HF1 := Lib.hid (HF.out w2 h1)
      clear h1 HF
      go_wp2_with (go_at_call 126; apply Hid.out)
      unfold Hid
      refine (HF1.out).mono ?_
      rintro e wf ⟨rfl, hf⟩
      have HE := Lib.hid (RdEnd.trans HK.out hf)
      clear hf
      go_wp2_with fail
      exact bodyPost_ret (v := .int .i64 0) (by simp [results, Tryz.results258, go_sem]) rfl ⟨by rw [HD.out], by rw [HD.out]; exact HE.out⟩
    · have d3 : decide (0 ≤ K) = false := decide_eq_false q3
      rw [d3, if_neg (by decide)] at HD
      have i7 : IntKind.i64.wrap ((r.pos : Int) + 1) = ((r.pos + 1 : Nat) : Int) := IntWalk.i64_in _ (by omega)
      clear q3 HI1 HF
      have ⟨c0, c1, c2, c3⟩ := h1.cells
      have f1 := h1.free 1
      have HE : Hid (RdEnd g s { r with pos := r.pos + 1 } w (w2.setCell ⟨g, 1, none⟩ (.int .i64 ((r.pos + 1 : Nat) : Int)))) := ⟨h1.setPos _, only_setCell HK.out 1 _⟩
      clear h1
      go_wp2_with fail
      exact bodyPost_ret (v := .int .i64 N) (by simp [results, Tryz.results258, go_sem]) rfl ⟨by rw [HD.out], by rw [HD.out]; exact HE.out⟩
  · have hp1 := hpos (by omega)
    have HD : Hid (R = escR s.data.toList { r with pos := r.pos + 1 }) := by unfold Hid; rw [HC.out, if_pos q0]
    subst q0
    have i7 : IntKind.i64.wrap ((r.pos : Int) + 1) = ((r.pos + 1 : Nat) : Int) := IntWalk.i64_in _ (by omega)
    have ⟨c0, c1, c2, c3⟩ := h1.cells
    have f1 := h1.free 1
    have h2 := h1.setPos (r.pos + 1)
    have hk2 := only_setCell HK.out 1 (.int .i64 ((r.pos + 1 : Nat) : Int))
    have hqp : ({ r with pos := r.pos + 1 } : RS).pos ≤ s.size := hp1
    generalize hq : ({ r with pos := r.pos + 1 } : RS) = q at *
    have HN := Lib.hid (next_any g s q _ h2 hqp)
    have hnb2 := nextR_byte (s := s.data.toList) (r := q)
    have hpos2 : 0 ≤ nextR s.data.toList q → q.pos < s.size := fun h => by have := (nextR_pos rfl h).1; omega
    have HE2 : Hid (escR s.data.toList q = if nextR s.data.toList q = 110 then (10, { q with pos := q.pos + 1 })
      else if nextR s.data.toList q = 116 then (9, { q with pos := q.pos + 1 })
      else if nextR s.data.toList q = 114 then (13, { q with pos := q.pos + 1 })
      else if nextR s.data.toList q = 120 then ((digitR s.data.toList { q with pos := q.pos + 1 }).1 * 16 + (digitR s.data.toList (digitR s.data.toList { q with pos := q.pos + 1 }).2).1, (digitR s.data.toList (digitR s.data.toList { q with pos := q.pos + 1 }).2).2)
      else if nextR s.data.toList q < 0 then (0, failR q 3) else if isSign (nextR s.data.toList q) = true then (nextR s.data.toList q, { q with pos := q.pos + 1 }) else (0, failR q 3)) := rfl
    have HDD := HD
    clear HD
    have HD : Hid (R = if nextR s.data.toList q = 110 then (10, { q with pos := q.pos + 1 })
      else if nextR s.data.toList q = 116 then (9, { q with pos := q.pos + 1 })
      else if nextR s.data.toList q = 114 then (13, { q with pos := q.pos + 1 })
      else if nextR s.data.toList q = 120 then ((digitR s.data.toList { q with pos := q.pos + 1 }).1 * 16 + (digitR s.data.toList (digitR s.data.toList { q with pos := q.pos + 1 }).2).1, (digitR s.data.toList (digitR s.data.toList { q with pos := q.pos + 1 }).2).2)
      else if nextR s.data.toList q < 0 then (0, failR q 3) else if isSign (nextR s.data.toList q) = true then (nextR s.data.toList q, { q with pos := q.pos + 1 }) else (0, failR q 3)) := by unfold Hid; rw [HDD.out, HE2.out]
    have HF : Hid (∀ W, RdAt g s q W → Calls Tryz.prog 126 #[.pointer (some ⟨g, 0, none⟩), .int .i64 3] W fun e w' => e = .returned (.tuple #[]) ∧ RdEnd g s (failR q 3) W w') := fun W h => fail_any g s q 3 W h
    generalize nextR s.data.toList q = M at *
    have i9 : IntKind.i64.wrap ((q.pos : Int) + 1) = ((q.pos + 1 : Nat) : Int) := IntWalk.i64_in _ (by omega)
    have HK2 := Lib.hid hk2
    clear HC HDD HE2 hnb hpos h1 h2 hk2 hq HK
    go_wp2_with (go_at_call 202; apply Hid.out)
    unfold Hid
    refine (HN.out).mono ?_
    rintro e w2 ⟨rfl, h3, hk3⟩
    have HK3 := Lib.hid (only_trans HK2.out hk3)
    clear HN hk3 HK2 c0 c1 c2 c3 f1
    by_cases q110 : M = 110
    · subst q110
      rw [if_pos rfl] at HD
      clear HI HSG HF
      have ⟨c0, c1, c2, c3⟩ := h3.cells
      have f1 := h3.free 1
      have HE : Hid (RdEnd g s { q with pos := q.pos + 1 } w (w2.setCell ⟨g, 1, none⟩ (.int .i64 ((q.pos + 1 : Nat) : Int)))) := ⟨h3.setPos _, only_setCell HK3.out 1 _⟩
      clear h3
      go_wp2_with fail
      exact bodyPost_ret (v := .int .i64 10) (by simp [results, Tryz.results258, go_sem]) rfl ⟨by rw [HD.out], by rw [HD.out]; exact HE.out⟩
    have m110 : (M == 110) = false := beq_eq_false_iff_ne.2 q110
    rw [if_neg q110] at HD
    clear q110
    by_cases q116 : M = 116
    · subst q116
      rw [if_pos rfl] at HD
      clear HI HSG HF
      have ⟨c0, c1, c2, c3⟩ := h3.cells
      have f1 := h3.free 1
      have HE : Hid (RdEnd g s { q with pos := q.pos + 1 } w (w2.setCell ⟨g, 1, none⟩ (.int .i64 ((q.pos + 1 : Nat) : Int)))) := ⟨h3.setPos _, only_setCell HK3.out 1 _⟩
      clear h3
      go_wp2_with fail
      exact bodyPost_ret (v := .int .i64 9) (by simp [results, Tryz.results258, go_sem]) rfl ⟨by rw [HD.out], by rw [HD.out]; exact HE.out⟩
    have m116 : (M == 116) = false := beq_eq_false_iff_ne.2 q116
    rw [if_neg q116] at HD
    clear q116
    by_cases q114 : M = 114
    · subst q114
      rw [if_pos rfl] at HD
      clear HI HSG HF
      have ⟨c0, c1, c2, c3⟩ := h3.cells
      have f1 := h3.free 1
      have HE : Hid (RdEnd g s { q with pos := q.pos + 1 } w (w2.setCell ⟨g, 1, none⟩ (.int .i64 ((q.pos + 1 : Nat) : Int)))) := ⟨h3.setPos _, only_setCell HK3.out 1 _⟩
      clear h3
      go_wp2_with fail
      exact bodyPost_ret (v := .int .i64 13) (by simp [results, Tryz.results258, go_sem]) rfl ⟨by rw [HD.out], by rw [HD.out]; exact HE.out⟩
    have m114 : (M == 114) = false := beq_eq_false_iff_ne.2 q114
    rw [if_neg q114] at HD
    clear q114
    by_cases q120 : M = 120
    · subst q120
      rw [if_pos rfl] at HD
      have hp3 := hpos2 (by omega)
      have ⟨c0, c1, c2, c3⟩ := h3.cells
      have f1 := h3.free 1
      have h4 := h3.setPos (q.pos + 1)
      have hk4 := only_setCell HK3.out 1 (.int .i64 ((q.pos + 1 : Nat) : Int))
      have hdp := digitR_pos (s := s.data.toList) (r := { q with pos := q.pos + 1 }) (by show q.pos + 1 ≤ _; omega)
      have HG := Lib.hid (rdigit_any g s { q with pos := q.pos + 1 } _ h4 (by show q.pos + 1 ≤ _; omega) hs)
      have HG2 : Hid (∀ W, RdAt g s (digitR s.data.toList { q with pos := q.pos + 1 }).2 W → Calls Tryz.prog 272 #[.pointer (some ⟨g, 0, none⟩)] W fun e w' => e = .returned (.int .i64 (digitR s.data.toList (digitR s.data.toList { q with pos := q.pos + 1 }).2).1) ∧ RdEnd g s (digitR s.data.toList (digitR s.data.toList { q with pos := q.pos + 1 }).2).2 W w') := fun W h => rdigit_any g s _ W h (by omega) hs
      have hb1 := digitR_val (s := s.data.toList) (r := { q with pos := q.pos + 1 })
      have hb2 := digitR_val (s := s.data.toList) (r := (digitR s.data.toList { q with pos := q.pos + 1 }).2)
      generalize digitR s.data.toList (digitR s.data.toList { q with pos := q.pos + 1 }).2 = D2 at *
      generalize digitR s.data.toList { q with pos := q.pos + 1 } = D1 at *
      obtain ⟨x1, r1⟩ := D1
      obtain ⟨x2, r2⟩ := D2
      dsimp only at HD HG HG2 hb1 hb2
      have i10 : IntKind.i64.wrap (x1 * 16) = x1 * 16 := IntWalk.i64_in _ (by omega)
      have i11 : IntKind.i64.wrap (x1 * 16 + x2) = x1 * 16 + x2 := IntWalk.i64_in _ (by omega)
      have HK4 := Lib.hid hk4
      clear h3 h4 hk4 HI HSG HF hpos2 hdp HK3
      go_wp2_with (go_at_call 272; apply Hid.out)
      unfold Hid
      refine (HG.out).mono ?_
      rintro e w3 ⟨rfl, h5, hk5⟩
      have HK5 := Lib.hid (only_trans HK4.out hk5)
      clear hk5 HG HK4 c0 c1 c2 c3 f1
      go_wp2_with (go_at_call 272; apply Hid.out)
      unfold Hid
      refine (HG2.out w3 h5).mono ?_
      rintro e w4 ⟨rfl, h6⟩
      have HE := Lib.hid (RdEnd.trans HK5.out h6)
      clear h5 h6 HK5 HG2
      go_wp2_with fail
      exact bodyPost_ret (v := .int .i64 (x1 * 16 + x2)) (by simp [results, Tryz.results258, go_sem]) rfl ⟨by rw [HD.out], by rw [HD.out]; exact HE.out⟩
    have m120 : (M == 120) = false := beq_eq_false_iff_ne.2 q120
    rw [if_neg q120] at HD
    clear q120
    by_cases q1 : M < 0
    · have d1 : decide (0 ≤ M) = false := decide_eq_false (by omega)
      rw [if_pos q1] at HD
      clear q1 hpos2 HI HSG
      have HF1 := Lib.hid (HF.out w2 h3)
      clear h3 HF
      go_wp2_with (go_at_call 126; apply Hid.out)
      unfold Hid
      refine (HF1.out).mono ?_
      rintro e wf ⟨rfl, hf⟩
      have HE := Lib.hid (RdEnd.trans HK3.out hf)
      clear hf
      go_wp2_with fail
      exact bodyPost_ret (v := .int .i64 0) (by simp [results, Tryz.results258, go_sem]) rfl ⟨by rw [HD.out], by rw [HD.out]; exact HE.out⟩
    have d1 : decide (0 ≤ M) = true := decide_eq_true (by omega)
    rw [if_neg q1, HSG.out M] at HD
    have hp3 := hpos2 (by omega)
    have i8 : IntKind.u8.wrap M = M := by rw [show IntKind.u8.wrap M = M % 256 from rfl]; omega
    have HI1 := Lib.hid (HI.out M)
    generalize Lib.indexByte signL M.toNat.toUInt8 = K at *
    clear HI HSG q1 hpos2
    go_wp2_with (go_at_call 86; apply Hid.out)
    unfold Hid
    refine (HI1.out w2).mono ?_
    rintro e w3 ⟨rfl, rfl⟩
    by_cases q3 : 0 ≤ K
    · have d3 : decide (0 ≤ K) = true := decide_eq_true q3
      rw [d3, if_pos rfl] at HD
      clear q3 HI1 HF
      have ⟨c0, c1, c2, c3⟩ := h3.cells
      have f1 := h3.free 1
      have HE : Hid (RdEnd g s { q with pos := q.pos + 1 } w (w3.setCell ⟨g, 1, none⟩ (.int .i64 ((q.pos + 1 : Nat) : Int)))) := ⟨h3.setPos _, only_setCell HK3.out 1 _⟩
      clear h3
      go_wp2_with fail
      exact bodyPost_ret (v := .int .i64 M) (by simp [results, Tryz.results258, go_sem]) rfl ⟨by rw [HD.out], by rw [HD.out]; exact HE.out⟩
    · have d3 : decide (0 ≤ K) = false := decide_eq_false q3
      rw [d3, if_neg (by decide)] at HD
      clear q3 HI1
      have HF1 := Lib.hid (HF.out w3 h3)
      clear h3 HF
      go_wp2_with (go_at_call 126; apply Hid.out)
      unfold Hid
      refine (HF1.out).mono ?_
      rintro e wf ⟨rfl, hf⟩
      have HE := Lib.hid (RdEnd.trans HK3.out hf)
      clear hf
      go_wp2_with fail
      exact bodyPost_ret (v := .int .i64 0) (by simp [results, Tryz.results258, go_sem]) rfl ⟨by rw [HD.out], by rw [HD.out]; exact HE.out⟩
end Go.Proofs.YtdkbfljhfhjofaaGreatDoor
namespace Go.Proofs.YtdkbfljhfhjofaaGreatDoor
open Go.RowKit
def setA (s : Set4) : Value := .agg #[.int .u64 s.a, .int .u64 s.b, .int .u64 s.c, .int .u64 s.d]
/-- Four cells that are known whole. -/
def FourW (w : World) (g : Nat) (s : Set4) : Prop := w.heap[g]? = some (.cells #[.int .u64 s.a, .int .u64 s.b, .int .u64 s.c, .int .u64 s.d] 150 (0, 0))
section
variable {w w' : World} {g : Nat} {s : Set4}
theorem FourW.cells (h : FourW w g s) : w.cell? ⟨g, 0, none⟩ = some (.int .u64 s.a) ∧ w.cell? ⟨g, 1, none⟩ = some (.int .u64 s.b) ∧ w.cell? ⟨g, 2, none⟩ = some (.int .u64 s.c) ∧ w.cell? ⟨g, 3, none⟩ = some (.int .u64 s.d) :=
  ⟨cell_of_row w g 0 _ _ (0, 0) h, cell_of_row w g 1 _ _ (0, 0) h, cell_of_row w g 2 _ _ (0, 0) h, cell_of_row w g 3 _ _ (0, 0) h⟩
theorem FourW.cell (h : FourW w g s) (j : Nat) (hj : j < 4) : w.cell? ⟨g, j, none⟩ = some (.int .u64 (s.word j)) := by
  obtain ⟨h0, h1, h2, h3⟩ := h.cells
  match j, hj with
  | 0, _ => exact h0
  | 1, _ => exact h1
  | 2, _ => exact h2
  | 3, _ => exact h3
theorem FourW.free (h : FourW w g s) (j : Nat) : w.frozen? ⟨g, j, none⟩ = false := by unfold FourW at h; simp [World.frozen?, h]
theorem FourW.far (h : FourW w g s) {k : Nat} (hne : g ≠ k) (j : Nat) (u : Value) : FourW (w.setCell ⟨k, j, none⟩ u) g s := (Below.heap_setCell w ⟨k, j, none⟩ u g hne).trans h
theorem FourW.lt (h : FourW w g s) : g < w.heap.size := by
  unfold FourW at h
  rw [Array.getElem?_eq_some_iff] at h
  exact h.1
theorem FourW.drew (h : FourW w g s) : FourW w.drew g s := h
theorem FourW.below {B : Nat} (h : FourW w g s) (hb : Below B w w') (hg : g < B) : FourW w' g s := (hb.block g hg).trans h
def putW (s : Set4) (j : Nat) (u : Int) : Set4 := if j = 0 then ⟨u, s.b, s.c, s.d⟩ else if j = 1 then ⟨s.a, u, s.c, s.d⟩ else if j = 2 then ⟨s.a, s.b, u, s.d⟩ else ⟨s.a, s.b, s.c, u⟩
theorem FourW.put (h : FourW w g s) (j : Nat) (hj : j < 4) (u : Int) : FourW (w.setCell ⟨g, j, none⟩ (.int .u64 u)) g (putW s j u) := by
  unfold FourW at h ⊢
  match j, hj with
  | 0, _ => simp [World.setCell, Array.getElem?_modify, h, putW]
  | 1, _ => simp [World.setCell, Array.getElem?_modify, h, putW]
  | 2, _ => simp [World.setCell, Array.getElem?_modify, h, putW]
  | 3, _ => simp [World.setCell, Array.getElem?_modify, h, putW]
theorem FourW.fill (h : FourW w g s) (t : Set4) : FourW ((((w.setCell ⟨g, 0, none⟩ (.int .u64 t.a)).setCell ⟨g, 1, none⟩ (.int .u64 t.b)).setCell ⟨g, 2, none⟩ (.int .u64 t.c)).setCell ⟨g, 3, none⟩ (.int .u64 t.d)) g t := by unfold FourW at h ⊢; simp [World.setCell, Array.getElem?_modify, h]
theorem FourW.new (w : World) : FourW (w.alloc (.cells #[.int .u64 0, .int .u64 0, .int .u64 0, .int .u64 0] 150)) w.heap.size (setF fun _ => false) := by rw [setF_none]; exact heap_alloc_new w _
end
theorem putW_one (f : Nat → Bool) (k : Nat) (hk : k < 256) : putW (setF f) (k / 64) ((wdF f (k / 64) ||| 2 ^ (k % 64) : Nat) : Int) = setF (fun x => f x || decide (x = k)) := by
  have hj : k / 64 < 4 := by omega
  rw [wdF_one]
  have h0 := wdF_other f k
  generalize hjj : k / 64 = j at *
  unfold putW setF
  match j, hj with
  | 0, _ => simp [h0 1 (by decide), h0 2 (by decide), h0 3 (by decide)]
  | 1, _ => simp [h0 0 (by decide), h0 2 (by decide), h0 3 (by decide)]
  | 2, _ => simp [h0 0 (by decide), h0 1 (by decide), h0 3 (by decide)]
  | 3, _ => simp [h0 0 (by decide), h0 1 (by decide), h0 2 (by decide)]
theorem or_one (f : Nat → Bool) (k : Nat) : bits .or .u64 ((wdF f (k / 64) : Nat) : Int) (IntKind.u64.wrap (2 ^ (k % 64))) = ((wdF f (k / 64) ||| 2 ^ (k % 64) : Nat) : Int) := by
  have h1 : 2 ^ (k % 64) < 18446744073709551616 := by have h := Nat.pow_lt_pow_right (a := 2) (by decide) (Nat.mod_lt k (show 64 > 0 by decide)); exact h
  have := bits_or_u64_nat (wdF f (k / 64)) (2 ^ (k % 64)) (wdF_lt _ _) h1
  have h2 : IntKind.u64.wrap (2 ^ (k % 64)) = ((2 ^ (k % 64) : Nat) : Int) := by
    rw [IntKind.wrap_u64, show (2 : Int) ^ (k % 64) = ((2 ^ (k % 64) : Nat) : Int) by rw [Int.natCast_pow]; rfl]
    generalize 2 ^ (k % 64) = q at h1
    omega
  rw [← this, h2]
def SetPostW (s : Set4) (w : World) (e : Ending) (w' : World) : Prop := e = .returned (setA s) ∧ Below w.heap.size w w'
theorem and_63 (k : Nat) (hk : k < 256) : bits .and .i64 (k : Int) 63 = ((k % 64 : Nat) : Int) := by
  have h : ∀ k : Fin 256, bits .and .i64 ((k.val : Nat) : Int) 63 = ((k.val % 64 : Nat) : Int) := by decide +kernel
  exact h ⟨k, hk⟩
def RgRel (lo hi : Nat) (w : World) (b : Value) (wr : World) : Prop :=
  ∃ k : Nat, lo ≤ k ∧ k ≤ hi + 1 ∧ b = .int .i64 k ∧ FourW wr (w.heap.size + 1) (setF fun x => decide (lo ≤ x) && decide (x < k)) ∧ FourW wr w.heap.size (setF fun _ => false) ∧ Below w.heap.size w wr
set_option maxRecDepth 100000 in
set_option maxHeartbeats 1600000 in
theorem Range_any (lo hi : Nat) (h1 : lo ≤ hi) (h2 : hi < 256) (w : World) :
    Calls Tryz.prog 136 #[.int .i64 lo, .int .i64 hi] w (SetPostW (setF fun x => decide (lo ≤ x) && decide (x ≤ hi)) w) := by
  have h0 : ∀ W, W = (w.alloc (.cells #[.int .u64 0, .int .u64 0, .int .u64 0, .int .u64 0] 150)).alloc (.cells #[.int .u64 0, .int .u64 0, .int .u64 0, .int .u64 0] 150) → FourW W (w.heap.size + 1) (setF fun x => decide (lo ≤ x) && decide (x < lo)) ∧ FourW W w.heap.size (setF fun _ => false) ∧ Below w.heap.size w W := fun W hW => by
    have hb : Below w.heap.size w W := by rw [hW]; exact ((Below.refl _ _).alloc (Nat.le_refl _) _).alloc (by simp) _
    refine ⟨?_, ?_, hb⟩
    · have := FourW.new (w.alloc (.cells #[.int .u64 0, .int .u64 0, .int .u64 0, .int .u64 0] 150))
      rw [World.size_alloc] at this
      rw [hW, setF_congr (g := fun _ => false) (fun k _ => by simp)]
      exact this
    · rw [hW]
      exact (Below.heap_alloc _ _ _ (by simp)).trans (FourW.new w)
  have H0 := Lib.hid h0
  clear h0
  go_enter Tryz.func136, Tryz.ntmps136
  go_wp2_with fail
  go_loopw [6] (fun b wr => RgRel lo hi w b wr) (fun b _ => 256 - (intOf b).toNat)
  case atStart => exact ⟨lo, Nat.le_refl _, by omega, rfl, H0.out _ rfl⟩
  case round =>
    obtain ⟨k, hk1, hk2, rfl, hF, hZ, hb⟩ := hrel
    by_cases hlt : k ≤ hi
    · have d1 : decide ((k : Int) ≤ (hi : Int)) = true := by simp; omega
      have HU2 : Hid ((fun x => (decide (lo ≤ x) && decide (x < k)) || decide (x = k)) = fun x => decide (lo ≤ x) && decide (x < k + 1)) := by
        unfold Hid
        funext x
        by_cases e : x = k
        · subst e; simp [hk1]
        · by_cases h2 : x < k
          · simp [h2, e, Nat.lt_succ_of_lt h2]
          · have : ¬ x < k + 1 := by omega
            simp [h2, e, this]
      have hcell := hF.cell (k / 64) (by omega)
      rw [setF_word _ _ (by omega)] at hcell
      have hfr := hF.free (k / 64)
      have HPW := Lib.hid (putW_one (fun x => decide (lo ≤ x) && decide (x < k)) k (by omega))
      have hor := or_one (fun x => decide (lo ≤ x) && decide (x < k)) k
      have h63 := and_63 k (by omega)
      rw [HU2.out] at HPW
      generalize wdF (fun x => decide (lo ≤ x) && decide (x < k)) (k / 64) = wd at *
      have HF2 := Lib.hid hF
      have HZ2 := Lib.hid hZ
      have HB2 := Lib.hid hb
      clear hF hZ hb
      go_wp2_with fail
      go_region
      have hF3 := HF2.out.put (k / 64) (by omega) ((wd ||| 2 ^ (k % 64) : Nat) : Int)
      rw [HPW.out] at hF3
      have hZ3 := HZ2.out.far (k := w.heap.size + 1) (by omega) (k / 64) (.int .u64 ((wd ||| 2 ^ (k % 64) : Nat) : Int))
      have hB3 := HB2.out.setCell (p := ⟨w.heap.size + 1, k / 64, none⟩) (Nat.le_succ _) (.int .u64 ((wd ||| 2 ^ (k % 64) : Nat) : Int))
      clear hcell hfr
      generalize wr.setCell ⟨w.heap.size + 1, k / 64, none⟩ (.int .u64 ((wd ||| 2 ^ (k % 64) : Nat) : Int)) = w3 at *
      go_wp2_with fail
      go_roundw
      case rel => exact ⟨k + 1, by omega, by omega, by go_num, hF3.drew, hZ3.drew, hB3.drew⟩
      case measure => simp [intOf] <;> omega
    · obtain rfl : k = hi + 1 := by omega
      have d1 : decide (((hi + 1 : Nat) : Int) ≤ (hi : Int)) = false := by simp; omega
      have HU2 : Hid (setF (fun x => decide (lo ≤ x) && decide (x < hi + 1)) = setF fun x => decide (lo ≤ x) && decide (x ≤ hi)) := setF_congr fun x hx => by
        rw [show decide (x < hi + 1) = decide (x ≤ hi) from decide_eq_decide.2 Nat.lt_succ_iff]
      rw [HU2.out] at hF
      obtain ⟨S, hS⟩ : ∃ S, S = setF fun x => decide (lo ≤ x) && decide (x ≤ hi) := ⟨_, rfl⟩
      rw [← hS] at hF
      have HS := Lib.hid hS
      clear hS
      have ⟨c0, c1, c2, c3⟩ := hF.cells
      have ⟨z0, z1, z2, z3⟩ := hZ.cells
      have y0 := hZ.free 0
      have y1 := hZ.free 1
      have y2 := hZ.free 2
      have y3 := hZ.free 3
      go_wp2_with fail
      have hFW := hZ.fill S
      have hbW := (((hb.setCell (p := ⟨w.heap.size, 0, none⟩) (Nat.le_refl _) (.int .u64 S.a)).setCell (p := ⟨w.heap.size, 1, none⟩) (Nat.le_refl _) (.int .u64 S.b)).setCell (p := ⟨w.heap.size, 2, none⟩) (Nat.le_refl _) (.int .u64 S.c)).setCell (p := ⟨w.heap.size, 3, none⟩) (Nat.le_refl _) (.int .u64 S.d)
      generalize ((((wr.setCell ⟨w.heap.size, 0, none⟩ (.int .u64 S.a)).setCell ⟨w.heap.size, 1, none⟩ (.int .u64 S.b)).setCell ⟨w.heap.size, 2, none⟩ (.int .u64 S.c)).setCell ⟨w.heap.size, 3, none⟩ (.int .u64 S.d)) = WF at *
      obtain ⟨s0, s1, s2, s3⟩ := hFW.cells
      exact bodyPost_ret (v := setA S) (by simp [results, Tryz.results136, go_sem, s0, s1, s2, s3, setA]) rfl ⟨by rw [HS.out], hbW⟩
end Go.Proofs.YtdkbfljhfhjofaaGreatDoor
