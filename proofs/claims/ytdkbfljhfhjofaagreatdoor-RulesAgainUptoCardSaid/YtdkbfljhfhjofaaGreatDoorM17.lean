/- Part 17 of the proof: lemmas and walks that the last texts use. -/
import Derived.Test.YtdkbfljhfhjofaaGreatDoorM02
import Derived.Test.YtdkbfljhfhjofaaGreatDoorM03
import Derived.Test.YtdkbfljhfhjofaaGreatDoorM11
import Derived.Test.YtdkbfljhfhjofaaGreatDoorM14
import Derived.Test.YtdkbfljhfhjofaaGreatDoorM16
import Derived.OwnWalk
namespace Go.Proofs.YtdkbfljhfhjofaaGreatDoor
open Go.RowKit
theorem failR_facts (r : RS) (x : Int) (hx : x ≠ 0) : (failR r x).pos = r.pos ∧ (failR r x).op = r.op ∧ (failR r x).e ≠ 0 := by
  unfold failR
  by_cases h : r.e = 0
  · rw [if_pos h]; exact ⟨rfl, rfl, hx⟩
  · rw [if_neg h]; exact ⟨rfl, rfl, h⟩
/-- A step of the reader: it stays in the text; it goes on or has failed; an error stays. -/
structure Step (s : List UInt8) (r r' : RS) : Prop where
  inn : r'.pos ≤ s.length
  le : r.pos ≤ r'.pos
  op : r'.op = r.op
  keep : r.e ≠ 0 → r'.e ≠ 0
theorem Step.refl {s : List UInt8} {r : RS} (h : r.pos ≤ s.length) : Step s r r := ⟨h, Nat.le_refl _, rfl, id⟩
theorem Step.trans {s : List UInt8} {a b c : RS} (h : Step s a b) (k : Step s b c) : Step s a c := ⟨k.inn, Nat.le_trans h.le k.le, k.op.trans h.op, fun e => k.keep (h.keep e)⟩
theorem step_fail {s : List UInt8} {r : RS} (h : r.pos ≤ s.length) (x : Int) (hx : x ≠ 0) : Step s r (failR r x) := by
  obtain ⟨h1, h2, h3⟩ := failR_facts r x hx
  exact ⟨by omega, by omega, h2, fun _ => h3⟩
theorem step_on {s : List UInt8} {r : RS} (h : r.pos < s.length) : Step s r { r with pos := r.pos + 1 } := ⟨h, Nat.le_succ _, rfl, id⟩
theorem take_step {s : List UInt8} {r : RS} (h : r.pos ≤ s.length) {b : Int} (hb : 0 ≤ b) : Step s r (takeR s r b).2 ∧ ((takeR s r b).1 = true → r.pos < (takeR s r b).2.pos ∧ r.e = 0) := by
  unfold takeR
  by_cases he : nextR s r = b
  · rw [if_pos he]
    have := nextR_pos he hb
    exact ⟨step_on this.1, fun _ => ⟨Nat.lt_succ_self _, this.2⟩⟩
  · rw [if_neg he]
    exact ⟨Step.refl h, fun h => by cases h⟩
theorem index_below {l : List UInt8} {b : UInt8} : Lib.indexByte l b < 0 ∨ Lib.indexByte l b < l.length := by
  rcases Int.lt_or_le (Lib.indexByte l b) 0 with h | h
  · exact .inl h
  · obtain ⟨o, ho⟩ : ∃ o : Nat, Lib.indexByte l b = o := ⟨(Lib.indexByte l b).toNat, by omega⟩
    have := (List.getElem?_eq_some_iff.1 (Lib.indexByte_some ho).1).1
    exact .inr (by omega)
theorem digit_step {s : List UInt8} {r : RS} (h : r.pos ≤ s.length) : Step s r (digitR s r).2 ∧ 0 ≤ (digitR s r).1 ∧ (digitR s r).1 ≤ 15 := by
  unfold digitR
  by_cases h1 : nextR s r < 0
  · rw [if_pos h1]
    exact ⟨step_fail h 3 (by decide), Int.le_refl _, by show (0 : Int) ≤ 15; decide⟩
  rw [if_neg h1]
  by_cases h2 : Lib.indexByte hexL (nextR s r).toNat.toUInt8 < 0
  · rw [if_pos h2]
    exact ⟨step_fail h 3 (by decide), Int.le_refl _, by show (0 : Int) ≤ 15; decide⟩
  rw [if_neg h2]
  refine ⟨step_on (nextR_pos rfl (by omega)).1, by show 0 ≤ Lib.indexByte hexL _; omega, ?_⟩
  rcases index_below (l := hexL) (b := (nextR s r).toNat.toUInt8) with h3 | h3
  · exact absurd h3 h2
  · have e : ((hexL.length : Nat) : Int) = 16 := rfl
    rw [e] at h3
    show Lib.indexByte hexL _ ≤ 15
    omega
theorem char_step {s : List UInt8} {r : RS} (h : r.pos ≤ s.length) : Step s r (charR s r).2 ∧ (r.pos < (charR s r).2.pos ∨ (charR s r).2.e ≠ 0) ∧ 0 ≤ (charR s r).1 ∧ (charR s r).1 ≤ 255 := by
  have hf : ∀ q : RS, q.pos ≤ s.length → Step s q (failR q 3) ∧ (failR q 3).e ≠ 0 := fun q hq => ⟨step_fail hq 3 (by decide), (failR_facts q 3 (by decide)).2.2⟩
  have z : (0 : Int) ≤ 255 := by decide
  unfold charR
  by_cases h0 : nextR s r = 92
  · rw [if_pos h0]
    have hlt := (nextR_pos h0 (by decide)).1
    have s1 := step_on hlt
    generalize hq : ({ r with pos := r.pos + 1 } : RS) = q at *
    have hqp : q.pos = r.pos + 1 := by rw [← hq]
    have hq1 : q.pos ≤ s.length := s1.inn
    have on : ∀ v : Int, 0 ≤ nextR s q → 0 ≤ v → v ≤ 255 → Step s r { q with pos := q.pos + 1 } ∧ (r.pos < ({ q with pos := q.pos + 1 } : RS).pos ∨ ({ q with pos := q.pos + 1 } : RS).e ≠ 0) ∧ 0 ≤ v ∧ v ≤ 255 := fun v hn h1 h2 =>
      ⟨s1.trans (step_on (nextR_pos rfl hn).1), .inl (by show r.pos < q.pos + 1; omega), h1, h2⟩
    unfold escR
    by_cases h1 : nextR s q = 110
    · rw [if_pos h1]; exact on 10 (by omega) (by decide) (by decide)
    rw [if_neg h1]
    by_cases h2 : nextR s q = 116
    · rw [if_pos h2]; exact on 9 (by omega) (by decide) (by decide)
    rw [if_neg h2]
    by_cases h3 : nextR s q = 114
    · rw [if_pos h3]; exact on 13 (by omega) (by decide) (by decide)
    rw [if_neg h3]
    by_cases h4 : nextR s q = 120
    · rw [if_pos h4]
      have s2 := step_on (nextR_pos h4 (by decide)).1
      obtain ⟨s3, a1, a2⟩ := digit_step s2.inn
      obtain ⟨s4, b1, b2⟩ := digit_step s3.inn
      have l3 := s3.le
      have l4 := s4.le
      have e1 : r.pos < ({ q with pos := q.pos + 1 } : RS).pos := by show r.pos < q.pos + 1; omega
      exact ⟨s1.trans (s2.trans (s3.trans s4)), .inl (Nat.lt_of_lt_of_le e1 (Nat.le_trans l3 l4)), by dsimp only; omega, by dsimp only; omega⟩
    rw [if_neg h4]
    have fl := hf q hq1
    have fail1 : Step s r (failR q 3) ∧ (r.pos < (failR q 3).pos ∨ (failR q 3).e ≠ 0) ∧ (0 : Int) ≤ 0 ∧ (0 : Int) ≤ 255 := ⟨s1.trans fl.1, .inr fl.2, Int.le_refl _, z⟩
    by_cases h5 : nextR s q < 0
    · rw [if_pos h5]; exact fail1
    rw [if_neg h5]
    by_cases h6 : isSign (nextR s q) = true
    · rw [if_pos h6]; exact on _ (by omega) (by omega) (nextR_byte (s := s) (r := q)).2
    · rw [if_neg h6]; exact fail1
  · rw [if_neg h0]
    have fl := hf r h
    have fail1 : Step s r (failR r 3) ∧ (r.pos < (failR r 3).pos ∨ (failR r 3).e ≠ 0) ∧ (0 : Int) ≤ 0 ∧ (0 : Int) ≤ 255 := ⟨fl.1, .inr fl.2, Int.le_refl _, z⟩
    unfold plainR
    by_cases h1 : nextR s r < 33
    · rw [if_pos h1]; exact fail1
    rw [if_neg h1]
    by_cases h2 : 126 < nextR s r
    · rw [if_pos h2]; exact fail1
    rw [if_neg h2]
    by_cases h3 : isSign (nextR s r) = true
    · rw [if_pos h3]; exact fail1
    rw [if_neg h3]
    exact ⟨step_on (nextR_pos rfl (by omega)).1, .inl (Nat.lt_succ_self _), by dsimp only; omega, by dsimp only; omega⟩
theorem group_step {s : List UInt8} {r : RS} (h : r.pos ≤ s.length) : Step s r (groupR s r).2 ∧ ((groupR s r).1 = none → (groupR s r).2 = r) ∧ ∀ f, (groupR s r).1 = some f → r.pos < (groupR s r).2.pos ∧ r.e = 0 := by
  have hn : Step s r ((none, r) : Option (Nat → Bool) × RS).2 ∧ (((none, r) : Option (Nat → Bool) × RS).1 = none → ((none, r) : Option (Nat → Bool) × RS).2 = r) ∧ ∀ f, ((none, r) : Option (Nat → Bool) × RS).1 = some f → r.pos < ((none, r) : Option (Nat → Bool) × RS).2.pos ∧ r.e = 0 :=
    ⟨Step.refl h, fun _ => rfl, fun f hf => by cases hf⟩
  unfold groupR
  by_cases h0 : nextR s r = 92
  · rw [if_pos h0]
    have h1 := nextR_pos h0 (by decide)
    cases hc : s[r.pos + 1]? with
    | none => exact hn
    | some b =>
      dsimp only
      have h2 := (List.getElem?_eq_some_iff.1 hc).1
      cases groupF b with
      | none => exact hn
      | some f =>
        dsimp only
        exact ⟨⟨h2, by show r.pos ≤ r.pos + 2; omega, rfl, fun e => e⟩, fun e => absurd e (by simp), fun _ _ => ⟨by show r.pos < r.pos + 2; omega, h1.2⟩⟩
  · rw [if_neg h0]; exact hn
end Go.Proofs.YtdkbfljhfhjofaaGreatDoor
namespace Go.Proofs.YtdkbfljhfhjofaaGreatDoor
open Go.RowKit
def RgRel0 (lo : Nat) (w : World) (b : Value) (wr : World) : Prop :=
  b = .int .i64 lo ∧ FourW wr (w.heap.size + 1) (setF fun _ => false) ∧ FourW wr w.heap.size (setF fun _ => false) ∧ Below w.heap.size w wr
set_option maxRecDepth 100000 in
set_option maxHeartbeats 1600000 in
theorem Range_off (lo hi : Nat) (h1 : hi < lo) (w : World) :
    Calls Tryz.prog 136 #[.int .i64 lo, .int .i64 hi] w (SetPostW (setF fun _ => false) w) := by
  have h0 : ∀ W, W = (w.alloc (.cells #[.int .u64 0, .int .u64 0, .int .u64 0, .int .u64 0] 150)).alloc (.cells #[.int .u64 0, .int .u64 0, .int .u64 0, .int .u64 0] 150) → FourW W (w.heap.size + 1) (setF fun _ => false) ∧ FourW W w.heap.size (setF fun _ => false) ∧ Below w.heap.size w W := fun W hW => by
    have hb : Below w.heap.size w W := by rw [hW]; exact ((Below.refl _ _).alloc (Nat.le_refl _) _).alloc (by simp) _
    refine ⟨?_, ?_, hb⟩
    · have := FourW.new (w.alloc (.cells #[.int .u64 0, .int .u64 0, .int .u64 0, .int .u64 0] 150))
      rw [World.size_alloc] at this
      rw [hW]
      exact this
    · rw [hW]
      exact (Below.heap_alloc _ _ _ (by simp)).trans (FourW.new w)
  have H0 := Lib.hid h0
  clear h0
  go_enter Tryz.func136, Tryz.ntmps136
  go_wp2_with fail
  go_loopw [6] (fun b wr => RgRel0 lo w b wr) (fun b _ => 256 - (intOf b).toNat)
  case atStart => exact ⟨rfl, H0.out _ rfl⟩
  case round =>
      obtain ⟨rfl, hF, hZ, hb⟩ := hrel
      have d1 : decide ((lo : Int) ≤ (hi : Int)) = false := by simp; omega
      obtain ⟨S, hS⟩ : ∃ S, S = setF fun _ => false := ⟨_, rfl⟩
      rw [← hS] at hF hZ
      have HS := Lib.hid hS
      clear hS
      have ⟨c0, c1, c2, c3⟩ := hF.cells
      have ⟨z0, z1, z2, z3⟩ := hZ.cells
      have y0 := hZ.free 0
      have y1 := hZ.free 1
      have y2 := hZ.free 2
      have y3 := hZ.free 3
      go_wp2_with fail
      have hFW := hZ.fill S
      have hbW := (((hb.setCell (p := ⟨w.heap.size, 0, none⟩) (Nat.le_refl _) (.int .u64 S.a)).setCell (p := ⟨w.heap.size, 1, none⟩) (Nat.le_refl _) (.int .u64 S.b)).setCell (p := ⟨w.heap.size, 2, none⟩) (Nat.le_refl _) (.int .u64 S.c)).setCell (p := ⟨w.heap.size, 3, none⟩) (Nat.le_refl _) (.int .u64 S.d)
      generalize ((((wr.setCell ⟨w.heap.size, 0, none⟩ (.int .u64 S.a)).setCell ⟨w.heap.size, 1, none⟩ (.int .u64 S.b)).setCell ⟨w.heap.size, 2, none⟩ (.int .u64 S.c)).setCell ⟨w.heap.size, 3, none⟩ (.int .u64 S.d)) = WF at *
      obtain ⟨s0, s1, s2, s3⟩ := hFW.cells
      exact bodyPost_ret (v := setA S) (by simp [results, Tryz.results136, go_sem, s0, s1, s2, s3, setA]) rfl ⟨by rw [HS.out], hbW⟩
theorem Range_all (lo hi : Nat) (h2 : hi < 256) (w : World) :
    Calls Tryz.prog 136 #[.int .i64 lo, .int .i64 hi] w (SetPostW (setF (rgF lo hi)) w) := by
  rcases Nat.lt_or_ge hi lo with h | h
  · have e : setF (rgF lo hi) = setF fun _ => false := setF_congr fun x _ => by
      unfold rgF
      by_cases e : lo ≤ x
      · have : ¬ x ≤ hi := by omega
        simp [this]
      · simp [e]
    rw [e]
    exact Range_off lo hi h w
  · exact Range_any lo hi h h2 w
end Go.Proofs.YtdkbfljhfhjofaaGreatDoor
namespace Go.Proofs.YtdkbfljhfhjofaaGreatDoor
open Go.RowKit
/-- One round of a class: what it adds, and how it leaves the reader. -/
def roundC (s : List UInt8) (r : RS) : (Nat → Bool) × RS :=
  match (groupR s r).1 with
  | some f => (f, (groupR s r).2)
  | none =>
    if (takeR s (charR s r).2 45).1 = true then
      (rgF (charR s r).1.toNat (charR s (takeR s (charR s r).2 45).2).1.toNat,
        if (charR s (takeR s (charR s r).2 45).2).1 < (charR s r).1 ∧ (charR s (takeR s (charR s r).2 45).2).2.e = 0 then failR { (charR s (takeR s (charR s r).2 45).2).2 with pos := (takeR s (charR s r).2 45).2.pos } 3
        else (charR s (takeR s (charR s r).2 45).2).2)
    else (rgF (charR s r).1.toNat (charR s r).1.toNat, (takeR s (charR s r).2 45).2)
theorem round_step {s : List UInt8} {r : RS} (h : r.pos ≤ s.length) : Step s r (roundC s r).2 ∧ (r.pos < (roundC s r).2.pos ∨ (roundC s r).2.e ≠ 0) := by
  obtain ⟨g1, g2, g3⟩ := group_step h
  obtain ⟨c1, c2, _⟩ := char_step h
  obtain ⟨t1, t2⟩ := take_step c1.inn (b := 45) (by decide)
  obtain ⟨d1, d2, _⟩ := char_step t1.inn
  unfold roundC
  cases hg : (groupR s r).1 with
  | some f => exact ⟨g1, .inl (g3 f hg).1⟩
  | none =>
    dsimp only
    generalize charR s r = C at *
    generalize takeR s C.2 45 = T at *
    generalize charR s T.2 = D at *
    have ct := c1.trans t1
    have l1 := c1.le
    have l2 := t1.le
    have l3 := d1.le
    by_cases ht : T.1 = true
    · rw [if_pos ht]
      have h2 := t2 ht
      by_cases hb : D.1 < C.1 ∧ D.2.e = 0
      · rw [if_pos hb]
        obtain ⟨f1, f2, f3⟩ := failR_facts { D.2 with pos := T.2.pos } 3 (by decide)
        have f1' : (failR { D.2 with pos := T.2.pos } 3).pos = T.2.pos := f1
        have f2' : (failR { D.2 with pos := T.2.pos } 3).op = D.2.op := f2
        exact ⟨⟨by show (failR { D.2 with pos := T.2.pos } 3).pos ≤ _; rw [f1']; exact t1.inn, by show _ ≤ (failR { D.2 with pos := T.2.pos } 3).pos; rw [f1']; exact ct.le, by show (failR { D.2 with pos := T.2.pos } 3).op = _; rw [f2']; exact d1.op.trans ct.op, fun _ => f3⟩, .inr f3⟩
      · rw [if_neg hb]
        exact ⟨ct.trans d1, .inl (by show r.pos < D.2.pos; have := h2.1; omega)⟩
    · rw [if_neg ht]
      refine ⟨ct, ?_⟩
      rcases c2 with h3 | h3
      · exact .inl (by show r.pos < T.2.pos; omega)
      · exact .inr (t1.keep h3)
def loopC : Nat → List UInt8 → RS → Bool → (Nat → Bool) → (Nat → Bool) × RS
  | 0, _, r, _, F => (F, r)
  | f + 1, s, r, first, F => if r.e = 0 ∧ (first = true ∨ nextR s r ≠ 93) then loopC f s (roundC s r).2 false (fun x => F x || (roundC s r).1 x) else (F, r)
/-- How far a class may still go. -/
def leftC (s : List UInt8) (r : RS) : Nat := if r.e = 0 then s.length - r.pos + 1 else 0
theorem left_less {s : List UInt8} {r : RS} (h : r.pos ≤ s.length) (he : r.e = 0) : leftC s (roundC s r).2 < leftC s r := by
  obtain ⟨h1, h2⟩ := round_step h
  unfold leftC
  rw [if_pos he]
  have := h1.inn
  by_cases e2 : (roundC s r).2.e = 0
  · rw [if_pos e2]
    rcases h2 with h2 | h2
    · omega
    · exact absurd e2 h2
  · rw [if_neg e2]; omega
theorem loopC_fuel {s : List UInt8} : ∀ (f g : Nat) (r : RS) (first : Bool) (F : Nat → Bool), r.pos ≤ s.length → leftC s r ≤ f → leftC s r ≤ g → loopC f s r first F = loopC g s r first F
  | 0, 0, _, _, _, _, _, _ => rfl
  | 0, g + 1, r, first, F, _, h1, _ => by
    have : r.e ≠ 0 := fun e => by unfold leftC at h1; rw [if_pos e] at h1; omega
    rw [loopC, loopC, if_neg (fun h => this h.1)]
  | f + 1, 0, r, first, F, _, _, h2 => by
    have : r.e ≠ 0 := fun e => by unfold leftC at h2; rw [if_pos e] at h2; omega
    rw [loopC, loopC, if_neg (fun h => this h.1)]
  | f + 1, g + 1, r, first, F, hp, h1, h2 => by
    rw [loopC, loopC]
    by_cases hc : r.e = 0 ∧ (first = true ∨ nextR s r ≠ 93)
    · rw [if_pos hc, if_pos hc]
      have := left_less hp hc.1
      exact loopC_fuel f g _ _ _ (round_step hp).1.inn (by omega) (by omega)
    · rw [if_neg hc, if_neg hc]
def loopL (s : List UInt8) (r : RS) (first : Bool) (F : Nat → Bool) : (Nat → Bool) × RS := loopC (leftC s r) s r first F
theorem loop_eq {s : List UInt8} {r : RS} {first : Bool} {F : Nat → Bool} (hp : r.pos ≤ s.length) :
    loopL s r first F = if r.e = 0 ∧ (first = true ∨ nextR s r ≠ 93) then loopL s (roundC s r).2 false (fun x => F x || (roundC s r).1 x) else (F, r) := by
  unfold loopL
  by_cases hc : r.e = 0 ∧ (first = true ∨ nextR s r ≠ 93)
  · rw [if_pos hc]
    have h1 := left_less hp hc.1
    obtain ⟨k, hk⟩ : ∃ k, leftC s r = k + 1 := ⟨leftC s r - 1, by omega⟩
    rw [hk, loopC, if_pos hc]
    exact loopC_fuel _ _ _ _ _ (round_step hp).1.inn (by omega) (Nat.le_refl _)
  · rw [if_neg hc]
    cases leftC s r with
    | zero => rfl
    | succ k => rw [loopC, if_neg hc]
theorem loop_step {s : List UInt8} : ∀ (n : Nat) (r : RS) (first : Bool) (F : Nat → Bool), leftC s r ≤ n → r.pos ≤ s.length → Step s r (loopL s r first F).2
  | n, r, first, F, hn, hp => by
    rw [loop_eq hp]
    by_cases hc : r.e = 0 ∧ (first = true ∨ nextR s r ≠ 93)
    · rw [if_pos hc]
      have h1 := left_less hp hc.1
      match n, hn with
      | 0, hn => exact absurd hn (by omega)
      | n + 1, hn => exact (round_step hp).1.trans (loop_step n _ _ _ (by omega) (round_step hp).1.inn)
    · rw [if_neg hc]; exact Step.refl hp
/-- A class behind its bracket: the set and the reader. -/
def classF (s : List UInt8) (r : RS) : Nat → Bool := fun x => if (takeR s r 94).1 = true then !(loopL s (takeR s r 94).2 true fun _ => false).1 x else (loopL s (takeR s r 94).2 true fun _ => false).1 x
def classE (s : List UInt8) (r : RS) : RS := if setF (classF s r) = .zero then failR (loopL s (takeR s r 94).2 true fun _ => false).2 3 else (loopL s (takeR s r 94).2 true fun _ => false).2
def classR (s : List UInt8) (r : RS) : (Nat → Bool) × RS := (classF s r, (takeR s (classE s r) 93).2)
theorem class_step {s : List UInt8} {r : RS} (h : r.pos ≤ s.length) : Step s r (classR s r).2 := by
  have h1 := (take_step h (b := 94) (by decide)).1
  have h2 := h1.trans (loop_step _ (takeR s r 94).2 true (fun _ => false) (Nat.le_refl _) h1.inn)
  have h3 : Step s r (classE s r) := by
    unfold classE
    by_cases hz : setF (classF s r) = .zero
    · rw [if_pos hz]; exact h2.trans (step_fail h2.inn 3 (by decide))
    · rw [if_neg hz]; exact h2
  exact h3.trans (take_step h3.inn (by decide)).1
end Go.Proofs.YtdkbfljhfhjofaaGreatDoor
namespace Go.Proofs.YtdkbfljhfhjofaaGreatDoor
open Go.RowKit Go.ChangeShapes Go.WideShapes Go.Deep
def cellsX (k : Int) (s : Set4) (A : Option Addr) (n c : Nat) : List Value := [.int .i64 k, .int .u64 s.a, .int .u64 s.b, .int .u64 s.c, .int .u64 s.d, .slice A n c]
def word64 (x : Int) : Prop := 0 ≤ x ∧ x ≤ 18446744073709551615
def Set4.Wf (s : Set4) : Prop := word64 s.a ∧ word64 s.b ∧ word64 s.c ∧ word64 s.d
/-- Six cells lie at a place. -/
def CellsAt (w : World) (b off : Nat) (cs : List Value) : Prop := ∀ j (h : j < cs.length), w.cell? ⟨b, off + j, none⟩ = some cs[j]
mutual
/-- These cells are the tree's, its kids lie below B. -/
def LT (w : World) (B : Nat) : Tree → List Value → Prop
  | .node k s ts, cs => ∃ A c, cs = cellsX k s A ts.length c ∧ s.Wf ∧ LK w B ts A
def LK (w : World) (B : Nat) : List Tree → Option Addr → Prop
  | [], _ => True
  | t :: ts, A => ∃ b off cs, A = some ⟨b, off, none⟩ ∧ b < B ∧ cs.length = 6 ∧ CellsAt w b off cs ∧ LT w B t cs ∧ LK w B ts (some ⟨b, off + 6, none⟩)
end
mutual
theorem LT.keep {w w' : World} {B B' : Nat} (hB : B ≤ B') (hk : ∀ b o, b < B → w'.cell? ⟨b, o, none⟩ = w.cell? ⟨b, o, none⟩) : ∀ (t : Tree) (cs : List Value), LT w B t cs → LT w' B' t cs
  | .node k s ts, cs, h => by
    rw [LT] at h ⊢
    obtain ⟨A, c, h1, h2, h3⟩ := h
    exact ⟨A, c, h1, h2, LK.keep hB hk ts A h3⟩
theorem LK.keep {w w' : World} {B B' : Nat} (hB : B ≤ B') (hk : ∀ b o, b < B → w'.cell? ⟨b, o, none⟩ = w.cell? ⟨b, o, none⟩) : ∀ (ts : List Tree) (A : Option Addr), LK w B ts A → LK w' B' ts A
  | [], _, _ => by rw [LK]; trivial
  | t :: ts, A, h => by
    rw [LK] at h ⊢
    obtain ⟨b, off, cs, h1, h2, h3, h4, h5, h6⟩ := h
    exact ⟨b, off, cs, h1, by omega, h3, fun j hj => (hk b _ h2).trans (h4 j hj), LT.keep hB hk t cs h5, LK.keep hB hk ts _ h6⟩
end
theorem LT.below {w w' : World} {B : Nat} {t : Tree} {cs : List Value} (h : LT w B t cs) (hb : Below B w w') : LT w' B t cs := LT.keep (Nat.le_refl _) (fun b o hp => hb.cell (p := ⟨b, o, none⟩) hp) t cs h
theorem LK.below {w w' : World} {B : Nat} {ts : List Tree} {A : Option Addr} (h : LK w B ts A) (hb : Below B w w') : LK w' B ts A := LK.keep (Nat.le_refl _) (fun b o hp => hb.cell (p := ⟨b, o, none⟩) hp) ts A h
theorem LT.more {w : World} {B B' : Nat} {t : Tree} {cs : List Value} (h : LT w B t cs) (hB : B ≤ B') : LT w B' t cs := LT.keep hB (fun _ _ _ => rfl) t cs h
theorem LK.more {w : World} {B B' : Nat} {ts : List Tree} {A : Option Addr} (h : LK w B ts A) (hB : B ≤ B') : LK w B' ts A := LK.keep hB (fun _ _ _ => rfl) ts A h
theorem LT.len {w : World} {B : Nat} {t : Tree} {cs : List Value} (h : LT w B t cs) : cs.length = 6 := by
  cases t with
  | node k s ts => rw [LT] at h; obtain ⟨A, c, rfl, _⟩ := h; rfl
def Tree.kind : Tree → Int
  | .node k _ _ => k
def Tree.set : Tree → Set4
  | .node _ s _ => s
def Tree.kids : Tree → List Tree
  | .node _ _ ts => ts
theorem LT.parts {w : World} {B : Nat} {t : Tree} {cs : List Value} (h : LT w B t cs) : ∃ A c, cs = cellsX t.kind t.set A t.kids.length c ∧ t.set.Wf ∧ LK w B t.kids A := by
  cases t with
  | node k s ts => rw [LT] at h; exact h
/-- The kid at a place. -/
theorem LK.at {w : World} {B : Nat} : ∀ {ts : List Tree} {A : Option Addr}, LK w B ts A → ∀ i (h : i < ts.length), ∃ b off cs, A = some ⟨b, off, none⟩ ∧ b < B ∧ CellsAt w b (off + i * 6) cs ∧ LT w B ts[i] cs
  | [], _, _, i, h => absurd h (by simp)
  | t :: ts, A, h, 0, _ => by
    rw [LK] at h
    obtain ⟨b, off, cs, h1, h2, _, h4, h5, _⟩ := h
    exact ⟨b, off, cs, h1, h2, by simpa using h4, h5⟩
  | t :: ts, A, h, i + 1, hi => by
    rw [LK] at h
    obtain ⟨b, off, cs, h1, h2, _, _, _, h6⟩ := h
    obtain ⟨b', off', cs', e, h7, h8, h9⟩ := LK.at h6 i (by simpa using hi)
    injection e with e
    injection e with e1 e2
    subst e1; subst e2
    exact ⟨b, off, cs', h1, h7, by rw [show off + (i + 1) * 6 = off + 6 + i * 6 by omega]; exact h8, h9⟩
theorem LK.nil (w : World) (B : Nat) (A : Option Addr) : LK w B [] A := by rw [LK]; trivial
/-- Six cells one by one. -/
theorem CellsAt.six {w : World} {b off : Nat} {c0 c1 c2 c3 c4 c5 : Value} (h : CellsAt w b off [c0, c1, c2, c3, c4, c5]) :
    w.cell? ⟨b, off, none⟩ = some c0 ∧ w.cell? ⟨b, off + 1, none⟩ = some c1 ∧ w.cell? ⟨b, off + 2, none⟩ = some c2 ∧ w.cell? ⟨b, off + 3, none⟩ = some c3 ∧ w.cell? ⟨b, off + 4, none⟩ = some c4 ∧ w.cell? ⟨b, off + 5, none⟩ = some c5 :=
  ⟨h 0 (by simp), h 1 (by simp), h 2 (by simp), h 3 (by simp), h 4 (by simp), h 5 (by simp)⟩
structure LTree (w : World) where
  tree : Tree
  cells : List Value
  six : cells.length = 6
theorem cellsOf_u64 : Tryz.prog.cellsOf 148 = 1 := by kernel_rfl
theorem list_six {α : Type} {l : List α} (h : l.length = 6) : ∃ a b c d e f, l = [a, b, c, d, e, f] := by
  match l, h with
  | [a, b, c, d, e, f], _ => exact ⟨a, b, c, d, e, f, rfl⟩
structure Cell6 (H : Type) where
  cells : List Value
  six : cells.length = 6
  dat : DataW H
end Go.Proofs.YtdkbfljhfhjofaaGreatDoor
namespace Go.Proofs.YtdkbfljhfhjofaaGreatDoor
open Go.RowKit Go.ChangeShapes Go.WideShapes Go.Deep
/-- No cell of the reader's block is a word of 64 bits without sign. -/
theorem rd_apart {g : Nat} {s : ByteArray} {r : RS} {w : World} (h : RdAt g s r w) {b off : Nat} {x : Int} (hc : w.cell? ⟨b, off, none⟩ = some (.int .u64 x)) : b ≠ g := by
  rintro rfl
  unfold RdAt at h
  unfold World.cell? at hc
  simp only [h] at hc
  match off, hc with
  | 0, hc => simp at hc
  | 1, hc => simp at hc
  | 2, hc => simp at hc
  | 3, hc => simp at hc
  | n + 4, hc => simp at hc
theorem cell_grown {w w' : World} {g b off : Nat} (hg : w.grownBy w' (some g)) (hb : b < w.heap.size) (hne : b ≠ g) : w'.cell? ⟨b, off, none⟩ = w.cell? ⟨b, off, none⟩ := by
  have := hg.block b hb (fun e => hne (Option.some.inj e))
  simp only [World.cell?, this]
mutual
theorem LT.reader {g : Nat} {s : ByteArray} {r : RS} {w w' : World} (h : RdAt g s r w) (hg : w.grownBy w' (some g)) : ∀ (t : Tree) (cs : List Value), LT w w.heap.size t cs → LT w' w'.heap.size t cs
  | .node k s ts, cs, hl => by
    rw [LT] at hl ⊢
    obtain ⟨A, c, h1, h2, h3⟩ := hl
    exact ⟨A, c, h1, h2, LK.reader h hg ts A h3⟩
theorem LK.reader {g : Nat} {s : ByteArray} {r : RS} {w w' : World} (h : RdAt g s r w) (hg : w.grownBy w' (some g)) : ∀ (ts : List Tree) (A : Option Addr), LK w w.heap.size ts A → LK w' w'.heap.size ts A
  | [], _, _ => by rw [LK]; trivial
  | t :: ts, A, hl => by
    rw [LK] at hl ⊢
    obtain ⟨b, off, cs, h1, h2, h3, h4, h5, h6⟩ := hl
    have hne : b ≠ g := by
      obtain ⟨A', c', e, _, _⟩ := h5.parts
      have hc := h4 1 (by omega)
      subst e
      exact rd_apart h hc
    exact ⟨b, off, cs, h1, Nat.lt_of_lt_of_le h2 hg.size, h3, fun j hj => (cell_grown hg h2 hne).trans (h4 j hj), LT.reader h hg t cs h5, LK.reader h hg ts _ h6⟩
end
end Go.Proofs.YtdkbfljhfhjofaaGreatDoor
namespace Go.Proofs.YtdkbfljhfhjofaaGreatDoor
open Go.RowKit
def tt (l : List Bool) (j : Nat) : Bool := l.getD j false
section
variable {s : List UInt8} {fr tq : List Bool} {S : Set4}
/-- How many are not. -/
def falN (o : List Bool) (n : Nat) : Nat := (List.range n).countP fun j => !tt o j
end
end Go.Proofs.YtdkbfljhfhjofaaGreatDoor
namespace Go.Proofs.YtdkbfljhfhjofaaGreatDoor
open Go.RowKit
/-- A row of n truth values of the call's own, from the head of a block. -/
structure BL (w : World) (base g cap n : Nat) (l : List Bool) : Prop where
  len : l.length = n
  own : w.ownsRow base 4 1 (.slice (some ⟨g, 0, none⟩) n cap) n (l.map Value.bool)
section
variable {w w' : World} {base g cap n : Nat} {l : List Bool}
theorem BL.lt (h : BL w base g cap n l) : base ≤ g ∧ g < w.heap.size := World.ownsRow.lt h.own g rfl
theorem BL.cell (h : BL w base g cap n l) {j : Nat} (hj : j < n) : w.cell? ⟨g, j, none⟩ = some (.bool (tt l j)) := by
  have hl := h.len
  have := h.own.cellAt j (by omega)
  rw [this, List.getElem?_map]
  unfold tt
  rw [List.getD_eq_getElem?_getD, List.getElem?_eq_getElem (by omega)]
  rfl
theorem BL.free (h : BL w base g cap n l) (j : Nat) : w.frozen? ⟨g, j, none⟩ = false := h.own.frozenAt j
theorem BL.set (h : BL w base g cap n l) (j : Nat) (b : Bool) : BL (w.setCell ⟨g, j, none⟩ (.bool b)) base g cap n (l.set j b) :=
  ⟨by rw [List.length_set]; exact h.len, by rw [List.map_set]; exact (h.own.stored j (.bool b)).1⟩
theorem BL.keep (h : BL w base g cap n l) (hb : w.heap.size ≤ w'.heap.size ∧ w'.heap[g]? = w.heap[g]?) : BL w' base g cap n l := by
  refine ⟨h.len, h.own.1, ?_⟩
  rcases h.own.2 with h0 | ⟨g', cap', cur, h1, h2, h3, h4⟩
  · exact .inl h0
  · refine .inr ⟨g', cap', cur, h1, h2, ?_, h4⟩
    injection h1 with h1
    injection h1 with h1
    injection h1 with h1
    subst h1
    exact hb.2.trans h3
theorem BL.below (h : BL w base g cap n l) (hb : Below w.heap.size w w') : BL w' base g cap n l := h.keep ⟨hb.size, hb.block g h.lt.2⟩
theorem BL.only {k : Nat} (h : BL w base g cap n l) (hb : w.grownBy w' (some k)) (hk : g ≠ k) : BL w' base g cap n l := h.keep ⟨hb.size, hb.block g h.lt.2 (fun e => hk (by injection e))⟩
theorem BL.far {k : Nat} (h : BL w base g cap n l) (hk : g ≠ k) (j : Nat) (u : Value) : BL (w.setCell ⟨k, j, none⟩ u) base g cap n l :=
  h.keep ⟨by simp [World.setCell], Below.heap_setCell w ⟨k, j, none⟩ u g hk⟩
theorem BL.drewN (h : BL w base g cap n l) (q : Nat) : BL (w.drewN q) base g cap n l := h.keep ⟨Nat.le_refl _, rfl⟩
theorem BL.drew (h : BL w base g cap n l) : BL w.drew base g cap n l := h.keep ⟨Nat.le_refl _, rfl⟩
theorem BL.alloc (h : BL w base g cap n l) (o : Obj) : BL (w.alloc o) base g cap n l := h.below ((Below.refl _ _).alloc (Nat.le_refl _) o)
theorem BL.low {b2 : Nat} (h : BL w base g cap n l) (hb : b2 ≤ base) : BL w b2 g cap n l := by
  refine ⟨h.len, h.own.1, ?_⟩
  rcases h.own.2 with h0 | ⟨g', cap', cur, h1, h2, h3⟩
  · exact .inl h0
  · exact .inr ⟨g', cap', cur, h1, Nat.le_trans hb h2, h3⟩
end
section
variable {ops : Array Oper} {rest : List Oper} {o : Oper} {a : Act} {Q : Exit → Act → World → Prop} {w : World}
end
end Go.Proofs.YtdkbfljhfhjofaaGreatDoor
