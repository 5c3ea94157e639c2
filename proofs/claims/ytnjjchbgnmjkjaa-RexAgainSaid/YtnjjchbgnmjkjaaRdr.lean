/- The reader of expressions: a text, a place, how many brackets are open, the error; its small functions. -/
import Derived.Test.YtnjjchbgnmjkjaaMem2
import Derived.Lib.IndexBytes
import Derived.Test.YtnjjchbgnmjkjaaShelf
import Derived.Deep.QuietTactic
import Derived.BigQuiet
namespace Go.Proofs.Ytnjjchbgnmjkjaa
open Go.RowKit

structure RS where
  pos : Nat
  op : Nat
  e : Int
def RdAt (g : Nat) (s : ByteArray) (r : RS) (w : World) : Prop := w.heap[g]? = some (.cells #[.string s, .int .i64 r.pos, .int .i64 r.op, .int .i64 r.e] 60 (0, 0))
theorem RdAt.cells {g : Nat} {s : ByteArray} {r : RS} {w : World} (h : RdAt g s r w) : w.cell? ⟨g, 0, none⟩ = some (.string s) ∧ w.cell? ⟨g, 1, none⟩ = some (.int .i64 r.pos) ∧ w.cell? ⟨g, 2, none⟩ = some (.int .i64 r.op) ∧ w.cell? ⟨g, 3, none⟩ = some (.int .i64 r.e) :=
  ⟨cell_of_row w g 0 _ _ _ h, cell_of_row w g 1 _ _ _ h, cell_of_row w g 2 _ _ _ h, cell_of_row w g 3 _ _ _ h⟩
theorem RdAt.free {g : Nat} {s : ByteArray} {r : RS} {w : World} (h : RdAt g s r w) (j : Nat) : w.frozen? ⟨g, j, none⟩ = false := by
  unfold RdAt at h
  simp [World.frozen?, h]
theorem RdAt.lt {g : Nat} {s : ByteArray} {r : RS} {w : World} (h : RdAt g s r w) : g < w.heap.size := by
  rcases Nat.lt_or_ge g w.heap.size with h' | h'
  · exact h'
  · unfold RdAt at h; simp [Array.getElem?_eq_none h'] at h
theorem RdAt.drew {g : Nat} {s : ByteArray} {r : RS} {w : World} (h : RdAt g s r w) (n : Nat) : RdAt g s r (w.drewN n) := h
theorem RdAt.below {g : Nat} {s : ByteArray} {r : RS} {w w' : World} (h : RdAt g s r w) (hb : Below w.heap.size w w') : RdAt g s r w' := (hb.block g h.lt).trans h
theorem RdAt.setPos {g : Nat} {s : ByteArray} {r : RS} {w : World} (h : RdAt g s r w) (n : Nat) : RdAt g s { r with pos := n } (w.setCell ⟨g, 1, none⟩ (.int .i64 n)) := by
  unfold RdAt at h ⊢
  simp only [World.setCell, Array.getElem?_modify, h]
  rfl
theorem RdAt.setE {g : Nat} {s : ByteArray} {r : RS} {w : World} (h : RdAt g s r w) (n : Int) : RdAt g s { r with e := n } (w.setCell ⟨g, 3, none⟩ (.int .i64 n)) := by
  unfold RdAt at h ⊢
  simp only [World.setCell, Array.getElem?_modify, h]
  rfl
theorem RdAt.setOp {g : Nat} {s : ByteArray} {r : RS} {w : World} (h : RdAt g s r w) (n : Nat) : RdAt g s { r with op := n } (w.setCell ⟨g, 2, none⟩ (.int .i64 n)) := by
  unfold RdAt at h ⊢
  simp only [World.setCell, Array.getElem?_modify, h]
  rfl
/-- How a function of the reader leaves it. -/
def RdEnd (g : Nat) (s : ByteArray) (r : RS) (w w' : World) : Prop := RdAt g s r w' ∧ w.grownBy w' (some g)
theorem RdEnd.drew {g : Nat} {s : ByteArray} {r : RS} {w : World} (h : RdAt g s r w) (n : Nat) : RdEnd g s r w (w.drewN n) := ⟨h, rfl, rfl, rfl, Nat.le_refl _, fun _ _ _ => rfl⟩
theorem grown_refl (w : World) (row : Option Nat) : w.grownBy w row := ⟨rfl, rfl, rfl, Nat.le_refl _, fun _ _ _ => rfl⟩

theorem RdEnd.more {g : Nat} {s : ByteArray} {r : RS} {w w' : World} (h : RdEnd g s r w w') (n : Nat) : RdEnd g s r w (w'.drewN n) := ⟨h.1, only_drewN h.2 n⟩
def nextR (s : List UInt8) (r : RS) : Int := if r.e = 0 then (match s[r.pos]? with | some b => (b.toNat : Int) | none => -1) else -1
def failR (r : RS) (e : Int) : RS := if r.e = 0 then { r with e := e } else r
def takeR (s : List UInt8) (r : RS) (b : Int) : Bool × RS := if nextR s r = b then (true, { r with pos := r.pos + 1 }) else (false, r)
def endsR (s : List UInt8) (r : RS) : Bool := decide (nextR s r < 0) || (decide (nextR s r = 124) || decide (nextR s r = 41))

set_option maxRecDepth 100000 in
set_option maxHeartbeats 1600000 in
theorem next_quiet (g : Nat) (s : ByteArray) (r : RS) (w : World) (h : RdAt g s r w) (hp : r.pos ≤ s.size) :
    Calls Try.prog 59 #[.pointer (some ⟨g, 0, none⟩)] w fun e w' => e = .returned (.int .i64 (nextR s.data.toList r)) ∧ ∃ n, w' = w.drewN n := by
  have ⟨c0, c1, c2, c3⟩ := h.cells
  have H := Lib.hid h
  by_cases he : r.e = 0
  · have d2 : (r.e != 0) = false := by rw [he]; rfl
    rcases Nat.lt_or_ge r.pos s.size with hlt | hge
    · have d1 : ((r.pos : Int) == (s.size : Int)) = false := by rw [beq_eq_false_iff_ne]; omega
      have HN : Hid (nextR s.data.toList r = (s[r.pos].toNat : Int)) := by
        unfold Hid nextR
        rw [if_pos he, Lib.data_getElem? s r.pos hlt]
      clear h he
      go_enter Try.func59, Try.ntmps59
      go_wp2_with fail
      go_quiet (fail)
      obtain ⟨wq, hwq⟩ : ∃ wq, w.drewN nq = wq := ⟨_, rfl⟩
      have HE : Hid (RdAt g s r wq ∧ ∃ n, wq = w.drewN n) := by rw [← hwq]; exact ⟨H.out.drew nq, nq, rfl⟩
      rw [hwq]
      have ⟨c0, c1, c2, c3⟩ := HE.out.1.cells
      clear hwq
      go_wp2_with fail
      go_quiet (fail)
      go_wp2_with fail
      exact bodyPost_ret (v := .int .i64 (s[r.pos].toNat : Int)) (by simp [results, Try.results59, go_sem]; exact IntWalk.wrap64_in (s[r.pos].toNat : Int) (by have := s[r.pos].toNat_lt; omega)) rfl ⟨by rw [HN.out], by obtain ⟨n, hn⟩ := HE.out.2; exact ⟨n + nq, by rw [hn, World.drewN_drewN]⟩⟩
    · obtain hee : r.pos = s.size := by omega
      have d1 : ((r.pos : Int) == (s.size : Int)) = true := by rw [beq_iff_eq]; omega
      have HN : Hid (nextR s.data.toList r = -1) := by
        unfold Hid nextR
        rw [if_pos he, List.getElem?_eq_none (by simp; omega)]
      clear h he hee
      go_enter Try.func59, Try.ntmps59
      go_wp2_with fail
      go_quiet (fail)
      obtain ⟨wq, hwq⟩ : ∃ wq, w.drewN nq = wq := ⟨_, rfl⟩
      have HE : Hid (RdAt g s r wq ∧ ∃ n, wq = w.drewN n) := by rw [← hwq]; exact ⟨H.out.drew nq, nq, rfl⟩
      rw [hwq]
      have ⟨c0, c1, c2, c3⟩ := HE.out.1.cells
      clear hwq
      go_wp2_with fail
      exact bodyPost_ret (v := .int .i64 (-1)) (by simp [results, Try.results59, go_sem]) rfl ⟨by rw [HN.out], HE.out.2⟩
  · have d2 : (r.e != 0) = true := bne_iff_ne.2 he
    have HN : Hid (nextR s.data.toList r = -1) := by
      unfold Hid nextR
      rw [if_neg he]
    clear h he
    go_enter Try.func59, Try.ntmps59
    by_cases hq : r.pos = s.size
    · have d1 : ((r.pos : Int) == (s.size : Int)) = true := by rw [beq_iff_eq]; omega
      clear hq
      go_wp2_with fail
      go_quiet (fail)
      obtain ⟨wq, hwq⟩ : ∃ wq, w.drewN nq = wq := ⟨_, rfl⟩
      have HE : Hid (RdAt g s r wq ∧ ∃ n, wq = w.drewN n) := by rw [← hwq]; exact ⟨H.out.drew nq, nq, rfl⟩
      rw [hwq]
      have ⟨c0, c1, c2, c3⟩ := HE.out.1.cells
      clear hwq
      go_wp2_with fail
      exact bodyPost_ret (v := .int .i64 (-1)) (by simp [results, Try.results59, go_sem]) rfl ⟨by rw [HN.out], HE.out.2⟩
    · have d1 : ((r.pos : Int) == (s.size : Int)) = false := by rw [beq_eq_false_iff_ne]; omega
      clear hq
      go_wp2_with fail
      go_quiet (fail)
      obtain ⟨wq, hwq⟩ : ∃ wq, w.drewN nq = wq := ⟨_, rfl⟩
      have HE : Hid (RdAt g s r wq ∧ ∃ n, wq = w.drewN n) := by rw [← hwq]; exact ⟨H.out.drew nq, nq, rfl⟩
      rw [hwq]
      have ⟨c0, c1, c2, c3⟩ := HE.out.1.cells
      clear hwq
      go_wp2_with fail
      exact bodyPost_ret (v := .int .i64 (-1)) (by simp [results, Try.results59, go_sem]) rfl ⟨by rw [HN.out], HE.out.2⟩

theorem next_any (g : Nat) (s : ByteArray) (r : RS) (w : World) (h : RdAt g s r w) (hp : r.pos ≤ s.size) :
    Calls Try.prog 59 #[.pointer (some ⟨g, 0, none⟩)] w fun e w' => e = .returned (.int .i64 (nextR s.data.toList r)) ∧ RdEnd g s r w w' :=
  (next_quiet g s r w h hp).mono fun e w' ⟨h1, n, h2⟩ => ⟨h1, by rw [h2]; exact RdEnd.drew h n⟩

set_option maxRecDepth 100000 in
set_option maxHeartbeats 1600000 in
theorem fail_any (g : Nat) (s : ByteArray) (r : RS) (x : Int) (w : World) (h : RdAt g s r w) :
    Calls Try.prog 25 #[.pointer (some ⟨g, 0, none⟩), .int .i64 x] w fun e w' => e = .returned (.tuple #[]) ∧ RdEnd g s (failR r x) w w' := by
  have ⟨c0, c1, c2, c3⟩ := h.cells
  have f3 := h.free 3
  by_cases he : r.e = 0
  · have d2 : (r.e == 0) = true := by rw [he]; rfl
    have HE : Hid (RdEnd g s (failR r x) w (w.setCell ⟨g, 3, none⟩ (.int .i64 x))) := by unfold Hid failR; rw [if_pos he]; exact ⟨h.setE x, only_setCell (grown_refl w _) 3 _⟩
    clear h he
    go_enter Try.func25, Try.ntmps25
    go_wp2_with fail
    exact bodyPost_end (v := .tuple #[]) (by simp [results, Try.results25, go_sem]) rfl ⟨rfl, HE.out⟩
  · have d2 : (r.e == 0) = false := beq_eq_false_iff_ne.2 he
    have HE : Hid (RdEnd g s (failR r x) w w) := by unfold Hid failR; rw [if_neg he]; exact ⟨h, grown_refl w _⟩
    clear h he
    go_enter Try.func25, Try.ntmps25
    go_wp2_with fail
    exact bodyPost_end (v := .tuple #[]) (by simp [results, Try.results25, go_sem]) rfl ⟨rfl, HE.out⟩
theorem RdEnd.trans {g : Nat} {s : ByteArray} {r' : RS} {w w1 w2 : World} (h : w.grownBy w1 (some g)) (k : RdEnd g s r' w1 w2) : RdEnd g s r' w w2 := ⟨k.1, only_trans h k.2⟩
theorem nextR_pos {s : List UInt8} {r : RS} {b : Int} (h : nextR s r = b) (hb : 0 ≤ b) : r.pos < s.length ∧ r.e = 0 := by
  unfold nextR at h
  split at h
  · rename_i he
    cases hc : s[r.pos]? with
    | none => rw [hc] at h; dsimp only at h; omega
    | some y => exact ⟨(List.getElem?_eq_some_iff.1 hc).1, he⟩
  · omega

set_option maxRecDepth 100000 in
set_option maxHeartbeats 1600000 in
theorem take_any (g : Nat) (s : ByteArray) (r : RS) (b : Int) (w : World) (h : RdAt g s r w) (hp : r.pos ≤ s.size) (hs : s.size ≤ 4096) :
    Calls Try.prog 42 #[.pointer (some ⟨g, 0, none⟩), .int .i64 b] w fun e w' => e = .returned (.bool (takeR s.data.toList r b).1) ∧ RdEnd g s (takeR s.data.toList r b).2 w w' := by
  have HN := Lib.hid (next_any g s r w h hp)
  clear h
  by_cases hb : nextR s.data.toList r = b
  · have d1 : (nextR s.data.toList r != b) = false := by rw [hb]; simp
    have i7 : IntKind.i64.wrap ((r.pos : Int) + 1) = ((r.pos + 1 : Nat) : Int) := IntWalk.i64_in _ (by omega)
    have HT : Hid (takeR s.data.toList r b = (true, { r with pos := r.pos + 1 })) := by unfold Hid takeR; rw [if_pos hb]
    go_enter Try.func42, Try.ntmps42
    go_wp2_with (go_at_call 59; apply Hid.out)
    unfold Hid
    refine HN.out.mono ?_
    rintro e w1 ⟨rfl, h1, hk⟩
    have ⟨c0, c1, c2, c3⟩ := h1.cells
    have f1 := h1.free 1
    have HE : Hid (RdEnd g s { r with pos := r.pos + 1 } w (w1.setCell ⟨g, 1, none⟩ (.int .i64 ((r.pos + 1 : Nat) : Int)))) := ⟨h1.setPos _, only_setCell hk 1 _⟩
    clear hb h1 hk HN
    go_wp2_with fail
    exact bodyPost_ret (v := .bool true) (by simp [results, Try.results42, go_sem]) rfl ⟨by rw [HT.out], by rw [HT.out]; exact HE.out⟩
  · have d1 : (nextR s.data.toList r != b) = true := bne_iff_ne.2 hb
    have HT : Hid (takeR s.data.toList r b = (false, r)) := by unfold Hid takeR; rw [if_neg hb]
    clear hb
    go_enter Try.func42, Try.ntmps42
    go_wp2_with (go_at_call 59; apply Hid.out)
    unfold Hid
    refine HN.out.mono ?_
    rintro e w1 ⟨rfl, h1⟩
    have HE := Lib.hid h1
    clear h1 HN
    go_wp2_with fail
    exact bodyPost_ret (v := .bool false) (by simp [results, Try.results42, go_sem]) rfl ⟨by rw [HT.out], by rw [HT.out]; exact HE.out⟩

set_option maxRecDepth 100000 in
set_option maxHeartbeats 1600000 in
theorem rends_any (g : Nat) (s : ByteArray) (r : RS) (w : World) (h : RdAt g s r w) (hp : r.pos ≤ s.size) :
    Calls Try.prog 57 #[.pointer (some ⟨g, 0, none⟩)] w fun e w' => e = .returned (.bool (endsR s.data.toList r)) ∧ RdEnd g s r w w' := by
  have HN := Lib.hid (next_any g s r w h hp)
  have HD : Hid (endsR s.data.toList r = (decide (nextR s.data.toList r < 0) || (decide (nextR s.data.toList r = 124) || decide (nextR s.data.toList r = 41)))) := rfl
  generalize endsR s.data.toList r = R at *
  generalize nextR s.data.toList r = N at *
  clear h
  go_enter Try.func57, Try.ntmps57
  go_wp2_with (go_at_call 59; apply Hid.out)
  unfold Hid
  refine HN.out.mono ?_
  rintro e w1 ⟨rfl, h1⟩
  have HE := Lib.hid h1
  clear h1 HN
  by_cases q1 : N < 0
  · have d1 : decide (N < 0) = true := decide_eq_true q1
    rw [d1, Bool.true_or] at HD
    clear q1
    go_wp2_with fail
    exact bodyPost_ret (v := .bool true) (by simp [results, Try.results57, go_sem]) rfl ⟨by rw [HD.out], HE.out⟩
  · have d1 : decide (N < 0) = false := decide_eq_false q1
    rw [d1, Bool.false_or] at HD
    clear q1
    by_cases q2 : N = 124
    · have d2 : (N == 124) = true := by rw [q2]; rfl
      rw [decide_eq_true q2, Bool.true_or] at HD
      clear q2
      go_wp2_with fail
      exact bodyPost_ret (v := .bool true) (by simp [results, Try.results57, go_sem]) rfl ⟨by rw [HD.out], HE.out⟩
    · have d2 : (N == 124) = false := beq_eq_false_iff_ne.2 q2
      rw [decide_eq_false q2, Bool.false_or] at HD
      clear q2
      go_wp2_with fail
      exact bodyPost_ret (v := .bool (N == 41)) (by simp [results, Try.results57, go_sem]) rfl ⟨by rw [HD.out, Bool.beq_eq_decide_eq], HE.out⟩

def hexL : List UInt8 := [48, 49, 50, 51, 52, 53, 54, 55, 56, 57, 97, 98, 99, 100, 101, 102]
def digitR (s : List UInt8) (r : RS) : Int × RS :=
  if nextR s r < 0 then (0, failR r 3)
  else if Lib.indexByte hexL (nextR s r).toNat.toUInt8 < 0 then (0, failR r 3)
  else (Lib.indexByte hexL (nextR s r).toNat.toUInt8, { r with pos := r.pos + 1 })
theorem nextR_byte {s : List UInt8} {r : RS} : -1 ≤ nextR s r ∧ nextR s r ≤ 255 := by
  unfold nextR
  split
  · cases s[r.pos]? with
    | none => dsimp only; omega
    | some b => dsimp only; have := b.toNat_lt; omega
  · omega

set_option maxRecDepth 100000 in
set_option maxHeartbeats 1600000 in
theorem rdigit_any (g : Nat) (s : ByteArray) (r : RS) (w : World) (h : RdAt g s r w) (hp : r.pos ≤ s.size) (hs : s.size ≤ 4096) :
    Calls Try.prog 112 #[.pointer (some ⟨g, 0, none⟩)] w fun e w' => e = .returned (.int .i64 (digitR s.data.toList r).1) ∧ RdEnd g s (digitR s.data.toList r).2 w w' := by
  have HN := Lib.hid (next_any g s r w h hp)
  have hnb := nextR_byte (s := s.data.toList) (r := r)
  have hpos : 0 ≤ nextR s.data.toList r → r.pos < s.size := fun h => by have := (nextR_pos rfl h).1; simpa using this
  have HD : Hid (digitR s.data.toList r = if nextR s.data.toList r < 0 then (0, failR r 3)
  else if Lib.indexByte hexL (nextR s.data.toList r).toNat.toUInt8 < 0 then (0, failR r 3)
  else (Lib.indexByte hexL (nextR s.data.toList r).toNat.toUInt8, { r with pos := r.pos + 1 })) := rfl
  have HF : Hid (∀ W, RdAt g s r W → Calls Try.prog 25 #[.pointer (some ⟨g, 0, none⟩), .int .i64 3] W fun e w' => e = .returned (.tuple #[]) ∧ RdEnd g s (failR r 3) W w') := fun W h => fail_any g s r 3 W h
  generalize digitR s.data.toList r = R at *
  generalize nextR s.data.toList r = N at *
  clear h
  go_enter Try.func112, Try.ntmps112
  go_wp2_with (go_at_call 59; apply Hid.out)
  unfold Hid
  refine HN.out.mono ?_
  rintro e w1 ⟨rfl, h1, hk⟩
  have HK := Lib.hid hk
  clear HN hk
  by_cases q1 : N < 0
  · have d1 : decide (N < 0) = true := decide_eq_true q1
    rw [if_pos q1] at HD
    have HF1 := Lib.hid (HF.out w1 h1)
    clear q1 h1 HF hpos
    go_wp2_with (go_at_call 25; apply Hid.out)
    unfold Hid
    refine HF1.out.mono ?_
    rintro e w2 ⟨rfl, h2⟩
    have HE := Lib.hid (RdEnd.trans HK.out h2)
    clear h2
    go_wp2_with fail
    exact bodyPost_ret (v := .int .i64 0) (by simp [results, Try.results112, go_sem]) rfl ⟨by rw [HD.out], by rw [HD.out]; exact HE.out⟩
  have d1 : decide (N < 0) = false := decide_eq_false q1
  rw [if_neg q1] at HD
  have hp1 := hpos (by omega)
  have i8 : IntKind.u8.wrap N = N := by rw [show IntKind.u8.wrap N = N % 256 from rfl]; omega
  have HI : Hid (∀ W, Calls Try.prog 106 #[.string (ByteArray.mk #[48, 49, 50, 51, 52, 53, 54, 55, 56, 57, 97, 98, 99, 100, 101, 102]), .int .u8 N] W fun e w' => e = .returned (.int .i64 (Lib.indexByte hexL N.toNat.toUInt8)) ∧ w' = W) := fun W => Try.strings_IndexByte _ N W
  generalize Lib.indexByte hexL N.toNat.toUInt8 = K at *
  go_wp2_with (go_at_call 106; apply Hid.out)
  unfold Hid
  refine (HI.out w1).mono ?_
  rintro e w2 ⟨rfl, rfl⟩
  by_cases q2 : K < 0
  · have d2 : decide (K < 0) = true := decide_eq_true q2
    rw [if_pos q2] at HD
    have HF1 := Lib.hid (HF.out w2 h1)
    clear q2 h1 HF hpos
    go_wp2_with (go_at_call 25; apply Hid.out)
    unfold Hid
    refine HF1.out.mono ?_
    rintro e w3 ⟨rfl, h2⟩
    have HE := Lib.hid (RdEnd.trans HK.out h2)
    clear h2
    go_wp2_with fail
    exact bodyPost_ret (v := .int .i64 0) (by simp [results, Try.results112, go_sem]) rfl ⟨by rw [HD.out], by rw [HD.out]; exact HE.out⟩
  · have d2 : decide (K < 0) = false := decide_eq_false q2
    rw [if_neg q2] at HD
    have i7 : IntKind.i64.wrap ((r.pos : Int) + 1) = ((r.pos + 1 : Nat) : Int) := IntWalk.i64_in _ (by omega)
    have ⟨c0, c1, c2, c3⟩ := h1.cells
    have f1 := h1.free 1
    have HE : Hid (RdEnd g s { r with pos := r.pos + 1 } w (w2.setCell ⟨g, 1, none⟩ (.int .i64 ((r.pos + 1 : Nat) : Int)))) := ⟨h1.setPos _, only_setCell HK.out 1 _⟩
    clear q2 h1 HF hpos
    go_wp2_with fail
    exact bodyPost_ret (v := .int .i64 K) (by simp [results, Try.results112, go_sem]) rfl ⟨by rw [HD.out], by rw [HD.out]; exact HE.out⟩
end Go.Proofs.Ytnjjchbgnmjkjaa
