/- Part 9 of the proof: lemmas and walks that the last texts use. -/
import Derived.Test.YthfjmlcjkbgboaaGreatDoorM01
import Derived.Test.YthfjmlcjkbgboaaGreatDoorM04
import Derived.Lib.IndexBytes
import Derived.Deep.QuietTactic
import Derived.BigQuiet
namespace Go.Proofs.YthfjmlcjkbgboaaGreatDoor
open Go.RowKit
structure RS where
  pos : Nat
  op : Nat
  e : Int
def RdAt (g : Nat) (s : ByteArray) (r : RS) (w : World) : Prop := w.heap[g]? = some (.cells #[.string s, .int .i64 r.pos, .int .i64 r.op, .int .i64 r.e] 256 (0, 0))
theorem RdAt.cells {g : Nat} {s : ByteArray} {r : RS} {w : World} (h : RdAt g s r w) : w.cell? ⟨g, 0, none⟩ = some (.string s) ∧ w.cell? ⟨g, 1, none⟩ = some (.int .i64 r.pos) ∧ w.cell? ⟨g, 2, none⟩ = some (.int .i64 r.op) ∧ w.cell? ⟨g, 3, none⟩ = some (.int .i64 r.e) :=
  ⟨cell_of_row w g 0 _ _ _ h, cell_of_row w g 1 _ _ _ h, cell_of_row w g 2 _ _ _ h, cell_of_row w g 3 _ _ _ h⟩
theorem RdAt.free {g : Nat} {s : ByteArray} {r : RS} {w : World} (h : RdAt g s r w) (j : Nat) : w.frozen? ⟨g, j, none⟩ = false := by
  unfold RdAt at h
  simp [World.frozen?, h]
theorem RdAt.lt {g : Nat} {s : ByteArray} {r : RS} {w : World} (h : RdAt g s r w) : g < w.heap.size := by
  rcases Nat.lt_or_ge g w.heap.size with h' | h'
  · exact h'
  · unfold RdAt at h; simp [Array.getElem?_eq_none h'] at h
theorem RdAt.drew {g : Nat} {s : ByteArray} {r : RS} {w : World} (h : RdAt g s r w) (n : Nat) : RdAt g s r (w.drewN n) := h
theorem RdAt.below {g : Nat} {s : ByteArray} {r : RS} {w w' : World} (h : RdAt g s r w) (hb : Below w.heap.size w w') : RdAt g s r w' := (hb.block g h.lt).trans h
theorem RdAt.setPos {g : Nat} {s : ByteArray} {r : RS} {w : World} (h : RdAt g s r w) (n : Nat) : RdAt g s { r with pos := n } (w.setCell ⟨g, 1, none⟩ (.int .i64 n)) := by
  unfold RdAt at h ⊢
  simp only [World.setCell, Array.getElem?_modify, h]
  rfl
theorem RdAt.setE {g : Nat} {s : ByteArray} {r : RS} {w : World} (h : RdAt g s r w) (n : Int) : RdAt g s { r with e := n } (w.setCell ⟨g, 3, none⟩ (.int .i64 n)) := by
  unfold RdAt at h ⊢
  simp only [World.setCell, Array.getElem?_modify, h]
  rfl
theorem RdAt.setOp {g : Nat} {s : ByteArray} {r : RS} {w : World} (h : RdAt g s r w) (n : Nat) : RdAt g s { r with op := n } (w.setCell ⟨g, 2, none⟩ (.int .i64 n)) := by
  unfold RdAt at h ⊢
  simp only [World.setCell, Array.getElem?_modify, h]
  rfl
/-- How a function of the reader leaves it. -/
def RdEnd (g : Nat) (s : ByteArray) (r : RS) (w w' : World) : Prop := RdAt g s r w' ∧ w.grownBy w' (some g)
theorem RdEnd.drew {g : Nat} {s : ByteArray} {r : RS} {w : World} (h : RdAt g s r w) (n : Nat) : RdEnd g s r w (w.drewN n) := ⟨h, rfl, rfl, rfl, Nat.le_refl _, fun _ _ _ => rfl⟩
theorem grown_refl (w : World) (row : Option Nat) : w.grownBy w row := ⟨rfl, rfl, rfl, Nat.le_refl _, fun _ _ _ => rfl⟩
theorem RdEnd.more {g : Nat} {s : ByteArray} {r : RS} {w w' : World} (h : RdEnd g s r w w') (n : Nat) : RdEnd g s r w (w'.drewN n) := ⟨h.1, only_drewN h.2 n⟩
def nextR (s : List UInt8) (r : RS) : Int := if r.e = 0 then (match s[r.pos]? with | some b => (b.toNat : Int) | none => -1) else -1
def failR (r : RS) (e : Int) : RS := if r.e = 0 then { r with e := e } else r
def takeR (s : List UInt8) (r : RS) (b : Int) : Bool × RS := if nextR s r = b then (true, { r with pos := r.pos + 1 }) else (false, r)
def endsR (s : List UInt8) (r : RS) : Bool := decide (nextR s r < 0) || (decide (nextR s r = 124) || decide (nextR s r = 41))
set_option maxRecDepth 100000 in
set_option maxHeartbeats 1600000 in
theorem next_quiet (g : Nat) (s : ByteArray) (r : RS) (w : World) (h : RdAt g s r w) (hp : r.pos ≤ s.size) :
    Calls Tryz.prog 254 #[.pointer (some ⟨g, 0, none⟩)] w fun e w' => e = .returned (.int .i64 (nextR s.data.toList r)) ∧ ∃ n, w' = w.drewN n := by
  have ⟨c0, c1, c2, c3⟩ := h.cells
  have H := Lib.hid h
  by_cases he : r.e = 0
  · have d2 : (r.e != 0) = false := by rw [he]; rfl
    rcases Nat.lt_or_ge r.pos s.size with hlt | hge
    · have d1 : ((r.pos : Int) == (s.size : Int)) = false := by rw [beq_eq_false_iff_ne]; omega
      have HN : Hid (nextR s.data.toList r = (s[r.pos].toNat : Int)) := by
        unfold Hid nextR
        rw [if_pos he, Lib.data_getElem? s r.pos hlt]
      clear h he
      go_enter Tryz.func254, Tryz.ntmps254
      go_wp2_with fail
      go_quiet (fail)
      obtain ⟨wq, hwq⟩ : ∃ wq, w.drewN nq = wq := ⟨_, rfl⟩
      have HE : Hid (RdAt g s r wq ∧ ∃ n, wq = w.drewN n) := by rw [← hwq]; exact ⟨H.out.drew nq, nq, rfl⟩
      rw [hwq]
      have ⟨c0, c1, c2, c3⟩ := HE.out.1.cells
      clear hwq
      go_wp2_with fail
      go_quiet (fail)
      go_wp2_with fail
      exact bodyPost_ret (v := .int .i64 (s[r.pos].toNat : Int)) (by simp [results, Tryz.results254, go_sem]; exact IntWalk.wrap64_in (s[r.pos].toNat : Int) (by have := s[r.pos].toNat_lt; omega)) rfl ⟨by rw [HN.out], by obtain ⟨n, hn⟩ := HE.out.2; exact ⟨n + nq, by rw [hn, World.drewN_drewN]⟩⟩
    · obtain hee : r.pos = s.size := by omega
      have d1 : ((r.pos : Int) == (s.size : Int)) = true := by rw [beq_iff_eq]; omega
      have HN : Hid (nextR s.data.toList r = -1) := by
        unfold Hid nextR
        rw [if_pos he, List.getElem?_eq_none (by simp; omega)]
      clear h he hee
      go_enter Tryz.func254, Tryz.ntmps254
      go_wp2_with fail
      go_quiet (fail)
      obtain ⟨wq, hwq⟩ : ∃ wq, w.drewN nq = wq := ⟨_, rfl⟩
      have HE : Hid (RdAt g s r wq ∧ ∃ n, wq = w.drewN n) := by rw [← hwq]; exact ⟨H.out.drew nq, nq, rfl⟩
      rw [hwq]
      have ⟨c0, c1, c2, c3⟩ := HE.out.1.cells
      clear hwq
      go_wp2_with fail
      exact bodyPost_ret (v := .int .i64 (-1)) (by simp [results, Tryz.results254, go_sem]) rfl ⟨by rw [HN.out], HE.out.2⟩
  · have d2 : (r.e != 0) = true := bne_iff_ne.2 he
    have HN : Hid (nextR s.data.toList r = -1) := by
      unfold Hid nextR
      rw [if_neg he]
    clear h he
    go_enter Tryz.func254, Tryz.ntmps254
    by_cases hq : r.pos = s.size
    · have d1 : ((r.pos : Int) == (s.size : Int)) = true := by rw [beq_iff_eq]; omega
      clear hq
      go_wp2_with fail
      go_quiet (fail)
      obtain ⟨wq, hwq⟩ : ∃ wq, w.drewN nq = wq := ⟨_, rfl⟩
      have HE : Hid (RdAt g s r wq ∧ ∃ n, wq = w.drewN n) := by rw [← hwq]; exact ⟨H.out.drew nq, nq, rfl⟩
      rw [hwq]
      have ⟨c0, c1, c2, c3⟩ := HE.out.1.cells
      clear hwq
      go_wp2_with fail
      exact bodyPost_ret (v := .int .i64 (-1)) (by simp [results, Tryz.results254, go_sem]) rfl ⟨by rw [HN.out], HE.out.2⟩
    · have d1 : ((r.pos : Int) == (s.size : Int)) = false := by rw [beq_eq_false_iff_ne]; omega
      clear hq
      go_wp2_with fail
      go_quiet (fail)
      obtain ⟨wq, hwq⟩ : ∃ wq, w.drewN nq = wq := ⟨_, rfl⟩
      have HE : Hid (RdAt g s r wq ∧ ∃ n, wq = w.drewN n) := by rw [← hwq]; exact ⟨H.out.drew nq, nq, rfl⟩
      rw [hwq]
      have ⟨c0, c1, c2, c3⟩ := HE.out.1.cells
      clear hwq
      go_wp2_with fail
      exact bodyPost_ret (v := .int .i64 (-1)) (by simp [results, Tryz.results254, go_sem]) rfl ⟨by rw [HN.out], HE.out.2⟩
theorem next_any (g : Nat) (s : ByteArray) (r : RS) (w : World) (h : RdAt g s r w) (hp : r.pos ≤ s.size) :
    Calls Tryz.prog 254 #[.pointer (some ⟨g, 0, none⟩)] w fun e w' => e = .returned (.int .i64 (nextR s.data.toList r)) ∧ RdEnd g s r w w' :=
  (next_quiet g s r w h hp).mono fun e w' ⟨h1, n, h2⟩ => ⟨h1, by rw [h2]; exact RdEnd.drew h n⟩
set_option maxRecDepth 100000 in
set_option maxHeartbeats 1600000 in
theorem fail_any (g : Nat) (s : ByteArray) (r : RS) (x : Int) (w : World) (h : RdAt g s r w) :
    Calls Tryz.prog 183 #[.pointer (some ⟨g, 0, none⟩), .int .i64 x] w fun e w' => e = .returned (.tuple #[]) ∧ RdEnd g s (failR r x) w w' := by
  have ⟨c0, c1, c2, c3⟩ := h.cells
  have f3 := h.free 3
  by_cases he : r.e = 0
  · have d2 : (r.e == 0) = true := by rw [he]; rfl
    have HE : Hid (RdEnd g s (failR r x) w (w.setCell ⟨g, 3, none⟩ (.int .i64 x))) := by unfold Hid failR; rw [if_pos he]; exact ⟨h.setE x, only_setCell (grown_refl w _) 3 _⟩
    clear h he
    go_enter Tryz.func183, Tryz.ntmps183
    go_wp2_with fail
    exact bodyPost_end (v := .tuple #[]) (by simp [results, Tryz.results183, go_sem]) rfl ⟨rfl, HE.out⟩
  · have d2 : (r.e == 0) = false := beq_eq_false_iff_ne.2 he
    have HE : Hid (RdEnd g s (failR r x) w w) := by unfold Hid failR; rw [if_neg he]; exact ⟨h, grown_refl w _⟩
    clear h he
    go_enter Tryz.func183, Tryz.ntmps183
    go_wp2_with fail
    exact bodyPost_end (v := .tuple #[]) (by simp [results, Tryz.results183, go_sem]) rfl ⟨rfl, HE.out⟩
theorem RdEnd.trans {g : Nat} {s : ByteArray} {r' : RS} {w w1 w2 : World} (h : w.grownBy w1 (some g)) (k : RdEnd g s r' w1 w2) : RdEnd g s r' w w2 := ⟨k.1, only_trans h k.2⟩
theorem nextR_pos {s : List UInt8} {r : RS} {b : Int} (h : nextR s r = b) (hb : 0 ≤ b) : r.pos < s.length ∧ r.e = 0 := by
  unfold nextR at h
  split at h
  · rename_i he
    cases hc : s[r.pos]? with
    | none => rw [hc] at h; dsimp only at h; omega
    | some y => exact ⟨(List.getElem?_eq_some_iff.1 hc).1, he⟩
  · omega
set_option maxRecDepth 100000 in
set_option maxHeartbeats 1600000 in
theorem take_any (g : Nat) (s : ByteArray) (r : RS) (b : Int) (w : World) (h : RdAt g s r w) (hp : r.pos ≤ s.size) (hs : s.size ≤ 4096) :
    Calls Tryz.prog 226 #[.pointer (some ⟨g, 0, none⟩), .int .i64 b] w fun e w' => e = .returned (.bool (takeR s.data.toList r b).1) ∧ RdEnd g s (takeR s.data.toList r b).2 w w' := by
  have HN := Lib.hid (next_any g s r w h hp)
  clear h
  by_cases hb : nextR s.data.toList r = b
  · have d1 : (nextR s.data.toList r != b) = false := by rw [hb]; simp
    have i7 : IntKind.i64.wrap ((r.pos : Int) + 1) = ((r.pos + 1 : Nat) : Int) := IntWalk.i64_in _ (by omega)
    have HT : Hid (takeR s.data.toList r b = (true, { r with pos := r.pos + 1 })) := by unfold Hid takeR; rw [if_pos hb]
    go_enter Tryz.func226, Tryz.ntmps226
    go_wp2_with (go_at_call 254; apply Hid.out)
    unfold Hid
    refine HN.out.mono ?_
    rintro e w1 ⟨rfl, h1, hk⟩
    have ⟨c0, c1, c2, c3⟩ := h1.cells
    have f1 := h1.free 1
    have HE : Hid (RdEnd g s { r with pos := r.pos + 1 } w (w1.setCell ⟨g, 1, none⟩ (.int .i64 ((r.pos + 1 : Nat) : Int)))) := ⟨h1.setPos _, only_setCell hk 1 _⟩
    clear hb h1 hk HN
    go_wp2_with fail
    exact bodyPost_ret (v := .bool true) (by simp [results, Tryz.results226, go_sem]) rfl ⟨by rw [HT.out], by rw [HT.out]; exact HE.out⟩
  · have d1 : (nextR s.data.toList r != b) = true := bne_iff_ne.2 hb
    have HT : Hid (takeR s.data.toList r b = (false, r)) := by unfold Hid takeR; rw [if_neg hb]
    clear hb
    go_enter Tryz.func226, Tryz.ntmps226
    go_wp2_with (go_at_call 254; apply Hid.out)
    unfold Hid
    refine HN.out.mono ?_
    rintro e w1 ⟨rfl, h1⟩
    have HE := Lib.hid h1
    clear h1 HN
    go_wp2_with fail
    exact bodyPost_ret (v := .bool false) (by simp [results, Tryz.results226, go_sem]) rfl ⟨by rw [HT.out], by rw [HT.out]; exact HE.out⟩
set_option maxRecDepth 100000 in
set_option maxHeartbeats 1600000 in
theorem rends_any (g : Nat) (s : ByteArray) (r : RS) (w : World) (h : RdAt g s r w) (hp : r.pos ≤ s.size) :
    Calls Tryz.prog 252 #[.pointer (some ⟨g, 0, none⟩)] w fun e w' => e = .returned (.bool (endsR s.data.toList r)) ∧ RdEnd g s r w w' := by
  have HN := Lib.hid (next_any g s r w h hp)
  have HD : Hid (endsR s.data.toList r = (decide (nextR s.data.toList r < 0) || (decide (nextR s.data.toList r = 124) || decide (nextR s.data.toList r = 41)))) := rfl
  generalize endsR s.data.toList r = R at *
  generalize nextR s.data.toList r = N at *
  clear h
  go_enter Tryz.func252, Tryz.ntmps252
  go_wp2_with (go_at_call 254; apply Hid.out)
  unfold Hid
  refine HN.out.mono ?_
  rintro e w1 ⟨rfl, h1⟩
  have HE := Lib.hid h1
  clear h1 HN
  by_cases q1 : N < 0
  · have d1 : decide (N < 0) = true := decide_eq_true q1
    rw [d1, Bool.true_or] at HD
    clear q1
    go_wp2_with fail
    exact bodyPost_ret (v := .bool true) (by simp [results, Tryz.results252, go_sem]) rfl ⟨by rw [HD.out], HE.out⟩
  · have d1 : decide (N < 0) = false := decide_eq_false q1
    rw [d1, Bool.false_or] at HD
    clear q1
    by_cases q2 : N = 124
    · have d2 : (N == 124) = true := by rw [q2]; rfl
      rw [decide_eq_true q2, Bool.true_or] at HD
      clear q2
      go_wp2_with fail
      exact bodyPost_ret (v := .bool true) (by simp [results, Tryz.results252, go_sem]) rfl ⟨by rw [HD.out], HE.out⟩
    · have d2 : (N == 124) = false := beq_eq_false_iff_ne.2 q2
      rw [decide_eq_false q2, Bool.false_or] at HD
      clear q2
      go_wp2_with fail
      exact bodyPost_ret (v := .bool (N == 41)) (by simp [results, Tryz.results252, go_sem]) rfl ⟨by rw [HD.out, Bool.beq_eq_decide_eq], HE.out⟩
def hexL : List UInt8 := [48, 49, 50, 51, 52, 53, 54, 55, 56, 57, 97, 98, 99, 100, 101, 102]
def digitR (s : List UInt8) (r : RS) : Int × RS :=
  if nextR s r < 0 then (0, failR r 3)
  else if Lib.indexByte hexL (nextR s r).toNat.toUInt8 < 0 then (0, failR r 3)
  else (Lib.indexByte hexL (nextR s r).toNat.toUInt8, { r with pos := r.pos + 1 })
theorem nextR_byte {s : List UInt8} {r : RS} : -1 ≤ nextR s r ∧ nextR s r ≤ 255 := by
  unfold nextR
  split
  · cases s[r.pos]? with
    | none => dsimp only; omega
    | some b => dsimp only; have := b.toNat_lt; omega
  · omega
set_option maxRecDepth 100000 in
set_option maxHeartbeats 1600000 in
theorem rdigit_any (g : Nat) (s : ByteArray) (r : RS) (w : World) (h : RdAt g s r w) (hp : r.pos ≤ s.size) (hs : s.size ≤ 4096) :
    Calls Tryz.prog 319 #[.pointer (some ⟨g, 0, none⟩)] w fun e w' => e = .returned (.int .i64 (digitR s.data.toList r).1) ∧ RdEnd g s (digitR s.data.toList r).2 w w' := by
  have HN := Lib.hid (next_any g s r w h hp)
  have hnb := nextR_byte (s := s.data.toList) (r := r)
  have hpos : 0 ≤ nextR s.data.toList r → r.pos < s.size := fun h => by have := (nextR_pos rfl h).1; simpa using this
  have HD : Hid (digitR s.data.toList r = if nextR s.data.toList r < 0 then (0, failR r 3)
  else if Lib.indexByte hexL (nextR s.data.toList r).toNat.toUInt8 < 0 then (0, failR r 3)
  else (Lib.indexByte hexL (nextR s.data.toList r).toNat.toUInt8, { r with pos := r.pos + 1 })) := rfl
  have HF : Hid (∀ W, RdAt g s r W → Calls Tryz.prog 183 #[.pointer (some ⟨g, 0, none⟩), .int .i64 3] W fun e w' => e = .returned (.tuple #[]) ∧ RdEnd g s (failR r 3) W w') := fun W h => fail_any g s r 3 W h
  generalize digitR s.data.toList r = R at *
  generalize nextR s.data.toList r = N at *
  clear h
  go_enter Tryz.func319, Tryz.ntmps319
  go_wp2_with (go_at_call 254; apply Hid.out)
  unfold Hid
  refine HN.out.mono ?_
  rintro e w1 ⟨rfl, h1, hk⟩
  have HK := Lib.hid hk
  clear HN hk
  by_cases q1 : N < 0
  · have d1 : decide (N < 0) = true := decide_eq_true q1
    rw [if_pos q1] at HD
    have HF1 := Lib.hid (HF.out w1 h1)
    clear q1 h1 HF hpos
    go_wp2_with (go_at_call 183; apply Hid.out)
    unfold Hid
    refine HF1.out.mono ?_
    rintro e w2 ⟨rfl, h2⟩
    have HE := Lib.hid (RdEnd.trans HK.out h2)
    clear h2
    go_wp2_with fail
    exact bodyPost_ret (v := .int .i64 0) (by simp [results, Tryz.results319, go_sem]) rfl ⟨by rw [HD.out], by rw [HD.out]; exact HE.out⟩
  have d1 : decide (N < 0) = false := decide_eq_false q1
  rw [if_neg q1] at HD
  have hp1 := hpos (by omega)
  have i8 : IntKind.u8.wrap N = N := by rw [show IntKind.u8.wrap N = N % 256 from rfl]; omega
  have HI : Hid (∀ W, Calls Tryz.prog 115 #[.string (ByteArray.mk #[48, 49, 50, 51, 52, 53, 54, 55, 56, 57, 97, 98, 99, 100, 101, 102]), .int .u8 N] W fun e w' => e = .returned (.int .i64 (Lib.indexByte hexL N.toNat.toUInt8)) ∧ w' = W) := fun W => Tryz.strings_IndexByte _ N W
  generalize Lib.indexByte hexL N.toNat.toUInt8 = K at *
  go_wp2_with (go_at_call 115; apply Hid.out)
  unfold Hid
  refine (HI.out w1).mono ?_
  rintro e w2 ⟨rfl, rfl⟩
  by_cases q2 : K < 0
  · have d2 : decide (K < 0) = true := decide_eq_true q2
    rw [if_pos q2] at HD
    have HF1 := Lib.hid (HF.out w2 h1)
    clear q2 h1 HF hpos
    go_wp2_with (go_at_call 183; apply Hid.out)
    unfold Hid
    refine HF1.out.mono ?_
    rintro e w3 ⟨rfl, h2⟩
    have HE := Lib.hid (RdEnd.trans HK.out h2)
    clear h2
    go_wp2_with fail
    exact bodyPost_ret (v := .int .i64 0) (by simp [results, Tryz.results319, go_sem]) rfl ⟨by rw [HD.out], by rw [HD.out]; exact HE.out⟩
  · have d2 : decide (K < 0) = false := decide_eq_false q2
    rw [if_neg q2] at HD
    have i7 : IntKind.i64.wrap ((r.pos : Int) + 1) = ((r.pos + 1 : Nat) : Int) := IntWalk.i64_in _ (by omega)
    have ⟨c0, c1, c2, c3⟩ := h1.cells
    have f1 := h1.free 1
    have HE : Hid (RdEnd g s { r with pos := r.pos + 1 } w (w2.setCell ⟨g, 1, none⟩ (.int .i64 ((r.pos + 1 : Nat) : Int)))) := ⟨h1.setPos _, only_setCell HK.out 1 _⟩
    clear q2 h1 HF hpos
    go_wp2_with fail
    exact bodyPost_ret (v := .int .i64 K) (by simp [results, Tryz.results319, go_sem]) rfl ⟨by rw [HD.out], by rw [HD.out]; exact HE.out⟩
end Go.Proofs.YthfjmlcjkbgboaaGreatDoor
namespace Go.Proofs.YthfjmlcjkbgboaaGreatDoor
open Go.RowKit
def signL : List UInt8 := [40, 41, 91, 93, 124, 42, 43, 63, 46, 94, 36, 45, 92]
def isSign (b : Int) : Bool := decide (0 ≤ Lib.indexByte signL b.toNat.toUInt8)
def plainR (s : List UInt8) (r : RS) : Int × RS :=
  if nextR s r < 33 then (0, failR r 3) else if 126 < nextR s r then (0, failR r 3) else if isSign (nextR s r) = true then (0, failR r 3) else (nextR s r, { r with pos := r.pos + 1 })
/-- Behind a backslash. -/
def escR (s : List UInt8) (r : RS) : Int × RS :=
  if nextR s r = 110 then (10, { r with pos := r.pos + 1 })
  else if nextR s r = 116 then (9, { r with pos := r.pos + 1 })
  else if nextR s r = 114 then (13, { r with pos := r.pos + 1 })
  else if nextR s r = 120 then ((digitR s { r with pos := r.pos + 1 }).1 * 16 + (digitR s (digitR s { r with pos := r.pos + 1 }).2).1, (digitR s (digitR s { r with pos := r.pos + 1 }).2).2)
  else if nextR s r < 0 then (0, failR r 3) else if isSign (nextR s r) = true then (nextR s r, { r with pos := r.pos + 1 }) else (0, failR r 3)
def charR (s : List UInt8) (r : RS) : Int × RS := if nextR s r = 92 then escR s { r with pos := r.pos + 1 } else plainR s r
theorem digitR_pos {s : List UInt8} {r : RS} (h : r.pos ≤ s.length) : (digitR s r).2.pos ≤ s.length := by
  have hf : (failR r 3).pos = r.pos := by unfold failR; split <;> rfl
  unfold digitR
  split
  · show (failR r 3).pos ≤ _; omega
  · rename_i h1
    split
    · show (failR r 3).pos ≤ _; omega
    · have := (nextR_pos (s := s) (r := r) rfl (by omega)).1
      show r.pos + 1 ≤ _
      omega
theorem indexByte_top (l : List UInt8) (b : UInt8) : Lib.indexByte l b ≤ l.length := by
  have h1 := Lib.indexByte_ge l b
  rcases Int.lt_or_le (Lib.indexByte l b) 0 with h | h
  · omega
  · obtain ⟨o, ho⟩ : ∃ o : Nat, Lib.indexByte l b = o := ⟨(Lib.indexByte l b).toNat, by omega⟩
    have := (List.getElem?_eq_some_iff.1 (Lib.indexByte_some ho).1).1
    omega
theorem digitR_val {s : List UInt8} {r : RS} : 0 ≤ (digitR s r).1 ∧ (digitR s r).1 ≤ 16 := by
  unfold digitR
  split
  · exact ⟨Int.le_refl _, by show (0 : Int) ≤ 16; decide⟩
  · split
    · exact ⟨Int.le_refl _, by show (0 : Int) ≤ 16; decide⟩
    · rename_i h1 h2
      have := indexByte_top hexL (nextR s r).toNat.toUInt8
      exact ⟨by show 0 ≤ Lib.indexByte hexL _; omega, by show Lib.indexByte hexL _ ≤ 16; exact this⟩
set_option maxRecDepth 100000 in
set_option maxHeartbeats 6400000 in
theorem rchar_any (g : Nat) (s : ByteArray) (r : RS) (w : World) (h : RdAt g s r w) (hp : r.pos ≤ s.size) (hs : s.size ≤ 4096) :
    Calls Tryz.prog 313 #[.pointer (some ⟨g, 0, none⟩)] w fun e w' => e = .returned (.int .i64 (charR s.data.toList r).1) ∧ RdEnd g s (charR s.data.toList r).2 w w' := by
  have HN := Lib.hid (next_any g s r w h hp)
  have hnb := nextR_byte (s := s.data.toList) (r := r)
  have hsl : s.data.toList.length = s.size := by simp
  have hpos : 0 ≤ nextR s.data.toList r → r.pos < s.size := fun h => by have := (nextR_pos rfl h).1; omega
  have HC : Hid (charR s.data.toList r = if nextR s.data.toList r = 92 then escR s.data.toList { r with pos := r.pos + 1 } else if nextR s.data.toList r < 33 then (0, failR r 3) else if 126 < nextR s.data.toList r then (0, failR r 3) else if isSign (nextR s.data.toList r) = true then (0, failR r 3) else (nextR s.data.toList r, { r with pos := r.pos + 1 })) := rfl
  have HI : Hid (∀ (N : Int) W, Calls Tryz.prog 115 #[.string (ByteArray.mk #[40, 41, 91, 93, 124, 42, 43, 63, 46, 94, 36, 45, 92]), .int .u8 N] W fun e w' => e = .returned (.int .i64 (Lib.indexByte signL N.toNat.toUInt8)) ∧ w' = W) := fun N W => Tryz.strings_IndexByte _ N W
  have HSG : Hid (∀ N : Int, isSign N = decide (0 ≤ Lib.indexByte signL N.toNat.toUInt8)) := fun _ => rfl
  generalize charR s.data.toList r = R at *
  generalize nextR s.data.toList r = N at *
  clear h
  go_enter Tryz.func313, Tryz.ntmps313
  go_wp2_with (go_at_call 254; apply Hid.out)
  unfold Hid
  refine (HN.out).mono ?_
  rintro e w1 ⟨rfl, h1, hk⟩
  have HK := Lib.hid hk
  clear HN hk
  by_cases q0 : N = 92
  rotate_left
  · have d0 : (N != 92) = true := bne_iff_ne.2 q0
    have HF : Hid (∀ W, RdAt g s r W → Calls Tryz.prog 183 #[.pointer (some ⟨g, 0, none⟩), .int .i64 3] W fun e w' => e = .returned (.tuple #[]) ∧ RdEnd g s (failR r 3) W w') := fun W h => fail_any g s r 3 W h
    have HD : Hid (R = if N < 33 then (0, failR r 3) else if 126 < N then (0, failR r 3) else if isSign N = true then (0, failR r 3) else (N, { r with pos := r.pos + 1 })) := by unfold Hid; rw [HC.out, if_neg q0]
    clear HC q0
    by_cases q1 : N < 33
    · have d1 : decide (N < 33) = true := decide_eq_true q1
      rw [if_pos q1] at HD
      clear q1 hpos HI HSG
      have HF1 := Lib.hid (HF.out w1 h1)
      clear h1 HF
      go_wp2_with (go_at_call 183; apply Hid.out)
      unfold Hid
      refine (HF1.out).mono ?_
      rintro e wf ⟨rfl, hf⟩
      have HE := Lib.hid (RdEnd.trans HK.out hf)
      clear hf
      go_wp2_with fail
      exact bodyPost_ret (v := .int .i64 0) (by simp [results, Tryz.results313, go_sem]) rfl ⟨by rw [HD.out], by rw [HD.out]; exact HE.out⟩
    have d1 : decide (N < 33) = false := decide_eq_false q1
    rw [if_neg q1] at HD
    by_cases q2 : 126 < N
    · have d2 : decide (126 < N) = true := decide_eq_true q2
      rw [if_pos q2] at HD
      clear q1 q2 hpos HI HSG
      have HF1 := Lib.hid (HF.out w1 h1)
      clear h1 HF
      go_wp2_with (go_at_call 183; apply Hid.out)
      unfold Hid
      refine (HF1.out).mono ?_
      rintro e wf ⟨rfl, hf⟩
      have HE := Lib.hid (RdEnd.trans HK.out hf)
      clear hf
      go_wp2_with fail
      exact bodyPost_ret (v := .int .i64 0) (by simp [results, Tryz.results313, go_sem]) rfl ⟨by rw [HD.out], by rw [HD.out]; exact HE.out⟩
    have d2 : decide (126 < N) = false := decide_eq_false q2
    rw [if_neg q2, HSG.out N] at HD
    have hp1 := hpos (by omega)
    have i8 : IntKind.u8.wrap N = N := by rw [show IntKind.u8.wrap N = N % 256 from rfl]; omega
    have HI1 := Lib.hid (HI.out N)
    generalize Lib.indexByte signL N.toNat.toUInt8 = K at *
    clear HI HSG q1 q2 hpos
    go_wp2_with (go_at_call 115; apply Hid.out)
    unfold Hid
    refine (HI1.out w1).mono ?_
    rintro e w2 ⟨rfl, rfl⟩
    by_cases q3 : 0 ≤ K
    · have d3 : decide (0 ≤ K) = true := decide_eq_true q3
      rw [d3, if_pos rfl] at HD
      clear q3 HI1
      have HF1 := Lib.hid (HF.out w2 h1)
      clear h1 HF
      go_wp2_with (go_at_call 183; apply Hid.out)
      unfold Hid
      refine (HF1.out).mono ?_
      rintro e wf ⟨rfl, hf⟩
      have HE := Lib.hid (RdEnd.trans HK.out hf)
      clear hf
      go_wp2_with fail
      exact bodyPost_ret (v := .int .i64 0) (by simp [results, Tryz.results313, go_sem]) rfl ⟨by rw [HD.out], by rw [HD.out]; exact HE.out⟩
    · have d3 : decide (0 ≤ K) = false := decide_eq_false q3
      rw [d3, if_neg (by decide)] at HD
      have i7 : IntKind.i64.wrap ((r.pos : Int) + 1) = ((r.pos + 1 : Nat) : Int) := IntWalk.i64_in _ (by omega)
      clear q3 HI1 HF
      have ⟨c0, c1, c2, c3⟩ := h1.cells
      have f1 := h1.free 1
      have HE : Hid (RdEnd g s { r with pos := r.pos + 1 } w (w2.setCell ⟨g, 1, none⟩ (.int .i64 ((r.pos + 1 : Nat) : Int)))) := ⟨h1.setPos _, only_setCell HK.out 1 _⟩
      clear h1
      go_wp2_with fail
      exact bodyPost_ret (v := .int .i64 N) (by simp [results, Tryz.results313, go_sem]) rfl ⟨by rw [HD.out], by rw [HD.out]; exact HE.out⟩
  · have hp1 := hpos (by omega)
    have HD : Hid (R = escR s.data.toList { r with pos := r.pos + 1 }) := by unfold Hid; rw [HC.out, if_pos q0]
    subst q0
    have i7 : IntKind.i64.wrap ((r.pos : Int) + 1) = ((r.pos + 1 : Nat) : Int) := IntWalk.i64_in _ (by omega)
    have ⟨c0, c1, c2, c3⟩ := h1.cells
    have f1 := h1.free 1
    have h2 := h1.setPos (r.pos + 1)
    have hk2 := only_setCell HK.out 1 (.int .i64 ((r.pos + 1 : Nat) : Int))
    have hqp : ({ r with pos := r.pos + 1 } : RS).pos ≤ s.size := hp1
    generalize hq : ({ r with pos := r.pos + 1 } : RS) = q at *
    have HN := Lib.hid (next_any g s q _ h2 hqp)
    have hnb2 := nextR_byte (s := s.data.toList) (r := q)
    have hpos2 : 0 ≤ nextR s.data.toList q → q.pos < s.size := fun h => by have := (nextR_pos rfl h).1; omega
    have HE2 : Hid (escR s.data.toList q = if nextR s.data.toList q = 110 then (10, { q with pos := q.pos + 1 })
      else if nextR s.data.toList q = 116 then (9, { q with pos := q.pos + 1 })
      else if nextR s.data.toList q = 114 then (13, { q with pos := q.pos + 1 })
      else if nextR s.data.toList q = 120 then ((digitR s.data.toList { q with pos := q.pos + 1 }).1 * 16 + (digitR s.data.toList (digitR s.data.toList { q with pos := q.pos + 1 }).2).1, (digitR s.data.toList (digitR s.data.toList { q with pos := q.pos + 1 }).2).2)
      else if nextR s.data.toList q < 0 then (0, failR q 3) else if isSign (nextR s.data.toList q) = true then (nextR s.data.toList q, { q with pos := q.pos + 1 }) else (0, failR q 3)) := rfl
    have HDD := HD
    clear HD
    have HD : Hid (R = if nextR s.data.toList q = 110 then (10, { q with pos := q.pos + 1 })
      else if nextR s.data.toList q = 116 then (9, { q with pos := q.pos + 1 })
      else if nextR s.data.toList q = 114 then (13, { q with pos := q.pos + 1 })
      else if nextR s.data.toList q = 120 then ((digitR s.data.toList { q with pos := q.pos + 1 }).1 * 16 + (digitR s.data.toList (digitR s.data.toList { q with pos := q.pos + 1 }).2).1, (digitR s.data.toList (digitR s.data.toList { q with pos := q.pos + 1 }).2).2)
      else if nextR s.data.toList q < 0 then (0, failR q 3) else if isSign (nextR s.data.toList q) = true then (nextR s.data.toList q, { q with pos := q.pos + 1 }) else (0, failR q 3)) := by unfold Hid; rw [HDD.out, HE2.out]
    have HF : Hid (∀ W, RdAt g s q W → Calls Tryz.prog 183 #[.pointer (some ⟨g, 0, none⟩), .int .i64 3] W fun e w' => e = .returned (.tuple #[]) ∧ RdEnd g s (failR q 3) W w') := fun W h => fail_any g s q 3 W h
    generalize nextR s.data.toList q = M at *
    have i9 : IntKind.i64.wrap ((q.pos : Int) + 1) = ((q.pos + 1 : Nat) : Int) := IntWalk.i64_in _ (by omega)
    have HK2 := Lib.hid hk2
    clear HC HDD HE2 hnb hpos h1 h2 hk2 hq HK
    go_wp2_with (go_at_call 254; apply Hid.out)
    unfold Hid
    refine (HN.out).mono ?_
    rintro e w2 ⟨rfl, h3, hk3⟩
    have HK3 := Lib.hid (only_trans HK2.out hk3)
    clear HN hk3 HK2 c0 c1 c2 c3 f1
    by_cases q110 : M = 110
    · subst q110
      rw [if_pos rfl] at HD
      clear HI HSG HF
      have ⟨c0, c1, c2, c3⟩ := h3.cells
      have f1 := h3.free 1
      have HE : Hid (RdEnd g s { q with pos := q.pos + 1 } w (w2.setCell ⟨g, 1, none⟩ (.int .i64 ((q.pos + 1 : Nat) : Int)))) := ⟨h3.setPos _, only_setCell HK3.out 1 _⟩
      clear h3
      go_wp2_with fail
      exact bodyPost_ret (v := .int .i64 10) (by simp [results, Tryz.results313, go_sem]) rfl ⟨by rw [HD.out], by rw [HD.out]; exact HE.out⟩
    have m110 : (M == 110) = false := beq_eq_false_iff_ne.2 q110
    rw [if_neg q110] at HD
    clear q110
    by_cases q116 : M = 116
    · subst q116
      rw [if_pos rfl] at HD
      clear HI HSG HF
      have ⟨c0, c1, c2, c3⟩ := h3.cells
      have f1 := h3.free 1
      have HE : Hid (RdEnd g s { q with pos := q.pos + 1 } w (w2.setCell ⟨g, 1, none⟩ (.int .i64 ((q.pos + 1 : Nat) : Int)))) := ⟨h3.setPos _, only_setCell HK3.out 1 _⟩
      clear h3
      go_wp2_with fail
      exact bodyPost_ret (v := .int .i64 9) (by simp [results, Tryz.results313, go_sem]) rfl ⟨by rw [HD.out], by rw [HD.out]; exact HE.out⟩
    have m116 : (M == 116) = false := beq_eq_false_iff_ne.2 q116
    rw [if_neg q116] at HD
    clear q116
    by_cases q114 : M = 114
    · subst q114
      rw [if_pos rfl] at HD
      clear HI HSG HF
      have ⟨c0, c1, c2, c3⟩ := h3.cells
      have f1 := h3.free 1
      have HE : Hid (RdEnd g s { q with pos := q.pos + 1 } w (w2.setCell ⟨g, 1, none⟩ (.int .i64 ((q.pos + 1 : Nat) : Int)))) := ⟨h3.setPos _, only_setCell HK3.out 1 _⟩
      clear h3
      go_wp2_with fail
      exact bodyPost_ret (v := .int .i64 13) (by simp [results, Tryz.results313, go_sem]) rfl ⟨by rw [HD.out], by rw [HD.out]; exact HE.out⟩
    have m114 : (M == 114) = false := beq_eq_false_iff_ne.2 q114
    rw [if_neg q114] at HD
    clear q114
    by_cases q120 : M = 120
    · subst q120
      rw [if_pos rfl] at HD
      have hp3 := hpos2 (by omega)
      have ⟨c0, c1, c2, c3⟩ := h3.cells
      have f1 := h3.free 1
      have h4 := h3.setPos (q.pos + 1)
      have hk4 := only_setCell HK3.out 1 (.int .i64 ((q.pos + 1 : Nat) : Int))
      have hdp := digitR_pos (s := s.data.toList) (r := { q with pos := q.pos + 1 }) (by show q.pos + 1 ≤ _; omega)
      have HG := Lib.hid (rdigit_any g s { q with pos := q.pos + 1 } _ h4 (by show q.pos + 1 ≤ _; omega) hs)
      have HG2 : Hid (∀ W, RdAt g s (digitR s.data.toList { q with pos := q.pos + 1 }).2 W → Calls Tryz.prog 319 #[.pointer (some ⟨g, 0, none⟩)] W fun e w' => e = .returned (.int .i64 (digitR s.data.toList (digitR s.data.toList { q with pos := q.pos + 1 }).2).1) ∧ RdEnd g s (digitR s.data.toList (digitR s.data.toList { q with pos := q.pos + 1 }).2).2 W w') := fun W h => rdigit_any g s _ W h (by omega) hs
      have hb1 := digitR_val (s := s.data.toList) (r := { q with pos := q.pos + 1 })
      have hb2 := digitR_val (s := s.data.toList) (r := (digitR s.data.toList { q with pos := q.pos + 1 }).2)
      generalize digitR s.data.toList (digitR s.data.toList { q with pos := q.pos + 1 }).2 = D2 at *
      generalize digitR s.data.toList { q with pos := q.pos + 1 } = D1 at *
      obtain ⟨x1, r1⟩ := D1
      obtain ⟨x2, r2⟩ := D2
      dsimp only at HD HG HG2 hb1 hb2
      have i10 : IntKind.i64.wrap (x1 * 16) = x1 * 16 := IntWalk.i64_in _ (by omega)
      have i11 : IntKind.i64.wrap (x1 * 16 + x2) = x1 * 16 + x2 := IntWalk.i64_in _ (by omega)
      have HK4 := Lib.hid hk4
      clear h3 h4 hk4 HI HSG HF hpos2 hdp HK3
      go_wp2_with (go_at_call 319; apply Hid.out)
      unfold Hid
      refine (HG.out).mono ?_
      rintro e w3 ⟨rfl, h5, hk5⟩
      have HK5 := Lib.hid (only_trans HK4.out hk5)
      clear hk5 HG HK4 c0 c1 c2 c3 f1
      go_wp2_with (go_at_call 319; apply Hid.out)
      unfold Hid
      refine (HG2.out w3 h5).mono ?_
      rintro e w4 ⟨rfl, h6⟩
      have HE := Lib.hid (RdEnd.trans HK5.out h6)
      clear h5 h6 HK5 HG2
      go_wp2_with fail
      exact bodyPost_ret (v := .int .i64 (x1 * 16 + x2)) (by simp [results, Tryz.results313, go_sem]) rfl ⟨by rw [HD.out], by rw [HD.out]; exact HE.out⟩
    have m120 : (M == 120) = false := beq_eq_false_iff_ne.2 q120
    rw [if_neg q120] at HD
    clear q120
    by_cases q1 : M < 0
    · have d1 : decide (0 ≤ M) = false := decide_eq_false (by omega)
      rw [if_pos q1] at HD
      clear q1 hpos2 HI HSG
      have HF1 := Lib.hid (HF.out w2 h3)
      clear h3 HF
      go_wp2_with (go_at_call 183; apply Hid.out)
      unfold Hid
      refine (HF1.out).mono ?_
      rintro e wf ⟨rfl, hf⟩
      have HE := Lib.hid (RdEnd.trans HK3.out hf)
      clear hf
      go_wp2_with fail
      exact bodyPost_ret (v := .int .i64 0) (by simp [results, Tryz.results313, go_sem]) rfl ⟨by rw [HD.out], by rw [HD.out]; exact HE.out⟩
    have d1 : decide (0 ≤ M) = true := decide_eq_true (by omega)
    rw [if_neg q1, HSG.out M] at HD
    have hp3 := hpos2 (by omega)
    have i8 : IntKind.u8.wrap M = M := by rw [show IntKind.u8.wrap M = M % 256 from rfl]; omega
    have HI1 := Lib.hid (HI.out M)
    generalize Lib.indexByte signL M.toNat.toUInt8 = K at *
    clear HI HSG q1 hpos2
    go_wp2_with (go_at_call 115; apply Hid.out)
    unfold Hid
    refine (HI1.out w2).mono ?_
    rintro e w3 ⟨rfl, rfl⟩
    by_cases q3 : 0 ≤ K
    · have d3 : decide (0 ≤ K) = true := decide_eq_true q3
      rw [d3, if_pos rfl] at HD
      clear q3 HI1 HF
      have ⟨c0, c1, c2, c3⟩ := h3.cells
      have f1 := h3.free 1
      have HE : Hid (RdEnd g s { q with pos := q.pos + 1 } w (w3.setCell ⟨g, 1, none⟩ (.int .i64 ((q.pos + 1 : Nat) : Int)))) := ⟨h3.setPos _, only_setCell HK3.out 1 _⟩
      clear h3
      go_wp2_with fail
      exact bodyPost_ret (v := .int .i64 M) (by simp [results, Tryz.results313, go_sem]) rfl ⟨by rw [HD.out], by rw [HD.out]; exact HE.out⟩
    · have d3 : decide (0 ≤ K) = false := decide_eq_false q3
      rw [d3, if_neg (by decide)] at HD
      clear q3 HI1
      have HF1 := Lib.hid (HF.out w3 h3)
      clear h3 HF
      go_wp2_with (go_at_call 183; apply Hid.out)
      unfold Hid
      refine (HF1.out).mono ?_
      rintro e wf ⟨rfl, hf⟩
      have HE := Lib.hid (RdEnd.trans HK3.out hf)
      clear hf
      go_wp2_with fail
      exact bodyPost_ret (v := .int .i64 0) (by simp [results, Tryz.results313, go_sem]) rfl ⟨by rw [HD.out], by rw [HD.out]; exact HE.out⟩
end Go.Proofs.YthfjmlcjkbgboaaGreatDoor
