/- Plain facts of the reader's functions: places, values, errors. -/
import Derived.Test.YtnjjchbgnmjkjaaRdg
namespace Go.Proofs.Ytnjjchbgnmjkjaa
open Go.RowKit

theorem failR_facts (r : RS) (x : Int) (hx : x ≠ 0) : (failR r x).pos = r.pos ∧ (failR r x).op = r.op ∧ (failR r x).e ≠ 0 := by
  unfold failR
  by_cases h : r.e = 0
  · rw [if_pos h]; exact ⟨rfl, rfl, hx⟩
  · rw [if_neg h]; exact ⟨rfl, rfl, h⟩
/-- A step of the reader: it stays in the text; it goes on or has failed; an error stays. -/
structure Step (s : List UInt8) (r r' : RS) : Prop where
  inn : r'.pos ≤ s.length
  le : r.pos ≤ r'.pos
  op : r'.op = r.op
  keep : r.e ≠ 0 → r'.e ≠ 0
theorem Step.refl {s : List UInt8} {r : RS} (h : r.pos ≤ s.length) : Step s r r := ⟨h, Nat.le_refl _, rfl, id⟩
theorem Step.trans {s : List UInt8} {a b c : RS} (h : Step s a b) (k : Step s b c) : Step s a c := ⟨k.inn, Nat.le_trans h.le k.le, k.op.trans h.op, fun e => k.keep (h.keep e)⟩
theorem step_fail {s : List UInt8} {r : RS} (h : r.pos ≤ s.length) (x : Int) (hx : x ≠ 0) : Step s r (failR r x) := by
  obtain ⟨h1, h2, h3⟩ := failR_facts r x hx
  exact ⟨by omega, by omega, h2, fun _ => h3⟩
theorem step_on {s : List UInt8} {r : RS} (h : r.pos < s.length) : Step s r { r with pos := r.pos + 1 } := ⟨h, Nat.le_succ _, rfl, id⟩
theorem take_step {s : List UInt8} {r : RS} (h : r.pos ≤ s.length) {b : Int} (hb : 0 ≤ b) : Step s r (takeR s r b).2 ∧ ((takeR s r b).1 = true → r.pos < (takeR s r b).2.pos ∧ r.e = 0) := by
  unfold takeR
  by_cases he : nextR s r = b
  · rw [if_pos he]
    have := nextR_pos he hb
    exact ⟨step_on this.1, fun _ => ⟨Nat.lt_succ_self _, this.2⟩⟩
  · rw [if_neg he]
    exact ⟨Step.refl h, fun h => by cases h⟩
theorem index_below {l : List UInt8} {b : UInt8} : Lib.indexByte l b < 0 ∨ Lib.indexByte l b < l.length := by
  rcases Int.lt_or_le (Lib.indexByte l b) 0 with h | h
  · exact .inl h
  · obtain ⟨o, ho⟩ : ∃ o : Nat, Lib.indexByte l b = o := ⟨(Lib.indexByte l b).toNat, by omega⟩
    have := (List.getElem?_eq_some_iff.1 (Lib.indexByte_some ho).1).1
    exact .inr (by omega)
theorem digit_step {s : List UInt8} {r : RS} (h : r.pos ≤ s.length) : Step s r (digitR s r).2 ∧ 0 ≤ (digitR s r).1 ∧ (digitR s r).1 ≤ 15 := by
  unfold digitR
  by_cases h1 : nextR s r < 0
  · rw [if_pos h1]
    exact ⟨step_fail h 3 (by decide), Int.le_refl _, by show (0 : Int) ≤ 15; decide⟩
  rw [if_neg h1]
  by_cases h2 : Lib.indexByte hexL (nextR s r).toNat.toUInt8 < 0
  · rw [if_pos h2]
    exact ⟨step_fail h 3 (by decide), Int.le_refl _, by show (0 : Int) ≤ 15; decide⟩
  rw [if_neg h2]
  refine ⟨step_on (nextR_pos rfl (by omega)).1, by show 0 ≤ Lib.indexByte hexL _; omega, ?_⟩
  rcases index_below (l := hexL) (b := (nextR s r).toNat.toUInt8) with h3 | h3
  · exact absurd h3 h2
  · have e : ((hexL.length : Nat) : Int) = 16 := rfl
    rw [e] at h3
    show Lib.indexByte hexL _ ≤ 15
    omega
theorem char_step {s : List UInt8} {r : RS} (h : r.pos ≤ s.length) : Step s r (charR s r).2 ∧ (r.pos < (charR s r).2.pos ∨ (charR s r).2.e ≠ 0) ∧ 0 ≤ (charR s r).1 ∧ (charR s r).1 ≤ 255 := by
  have hf : ∀ q : RS, q.pos ≤ s.length → Step s q (failR q 3) ∧ (failR q 3).e ≠ 0 := fun q hq => ⟨step_fail hq 3 (by decide), (failR_facts q 3 (by decide)).2.2⟩
  have z : (0 : Int) ≤ 255 := by decide
  unfold charR
  by_cases h0 : nextR s r = 92
  · rw [if_pos h0]
    have hlt := (nextR_pos h0 (by decide)).1
    have s1 := step_on hlt
    generalize hq : ({ r with pos := r.pos + 1 } : RS) = q at *
    have hqp : q.pos = r.pos + 1 := by rw [← hq]
    have hq1 : q.pos ≤ s.length := s1.inn
    have on : ∀ v : Int, 0 ≤ nextR s q → 0 ≤ v → v ≤ 255 → Step s r { q with pos := q.pos + 1 } ∧ (r.pos < ({ q with pos := q.pos + 1 } : RS).pos ∨ ({ q with pos := q.pos + 1 } : RS).e ≠ 0) ∧ 0 ≤ v ∧ v ≤ 255 := fun v hn h1 h2 =>
      ⟨s1.trans (step_on (nextR_pos rfl hn).1), .inl (by show r.pos < q.pos + 1; omega), h1, h2⟩
    unfold escR
    by_cases h1 : nextR s q = 110
    · rw [if_pos h1]; exact on 10 (by omega) (by decide) (by decide)
    rw [if_neg h1]
    by_cases h2 : nextR s q = 116
    · rw [if_pos h2]; exact on 9 (by omega) (by decide) (by decide)
    rw [if_neg h2]
    by_cases h3 : nextR s q = 114
    · rw [if_pos h3]; exact on 13 (by omega) (by decide) (by decide)
    rw [if_neg h3]
    by_cases h4 : nextR s q = 120
    · rw [if_pos h4]
      have s2 := step_on (nextR_pos h4 (by decide)).1
      obtain ⟨s3, a1, a2⟩ := digit_step s2.inn
      obtain ⟨s4, b1, b2⟩ := digit_step s3.inn
      have l3 := s3.le
      have l4 := s4.le
      have e1 : r.pos < ({ q with pos := q.pos + 1 } : RS).pos := by show r.pos < q.pos + 1; omega
      exact ⟨s1.trans (s2.trans (s3.trans s4)), .inl (Nat.lt_of_lt_of_le e1 (Nat.le_trans l3 l4)), by dsimp only; omega, by dsimp only; omega⟩
    rw [if_neg h4]
    have fl := hf q hq1
    have fail1 : Step s r (failR q 3) ∧ (r.pos < (failR q 3).pos ∨ (failR q 3).e ≠ 0) ∧ (0 : Int) ≤ 0 ∧ (0 : Int) ≤ 255 := ⟨s1.trans fl.1, .inr fl.2, Int.le_refl _, z⟩
    by_cases h5 : nextR s q < 0
    · rw [if_pos h5]; exact fail1
    rw [if_neg h5]
    by_cases h6 : isSign (nextR s q) = true
    · rw [if_pos h6]; exact on _ (by omega) (by omega) (nextR_byte (s := s) (r := q)).2
    · rw [if_neg h6]; exact fail1
  · rw [if_neg h0]
    have fl := hf r h
    have fail1 : Step s r (failR r 3) ∧ (r.pos < (failR r 3).pos ∨ (failR r 3).e ≠ 0) ∧ (0 : Int) ≤ 0 ∧ (0 : Int) ≤ 255 := ⟨fl.1, .inr fl.2, Int.le_refl _, z⟩
    unfold plainR
    by_cases h1 : nextR s r < 33
    · rw [if_pos h1]; exact fail1
    rw [if_neg h1]
    by_cases h2 : 126 < nextR s r
    · rw [if_pos h2]; exact fail1
    rw [if_neg h2]
    by_cases h3 : isSign (nextR s r) = true
    · rw [if_pos h3]; exact fail1
    rw [if_neg h3]
    exact ⟨step_on (nextR_pos rfl (by omega)).1, .inl (Nat.lt_succ_self _), by dsimp only; omega, by dsimp only; omega⟩
theorem group_step {s : List UInt8} {r : RS} (h : r.pos ≤ s.length) : Step s r (groupR s r).2 ∧ ((groupR s r).1 = none → (groupR s r).2 = r) ∧ ∀ f, (groupR s r).1 = some f → r.pos < (groupR s r).2.pos ∧ r.e = 0 := by
  have hn : Step s r ((none, r) : Option (Nat → Bool) × RS).2 ∧ (((none, r) : Option (Nat → Bool) × RS).1 = none → ((none, r) : Option (Nat → Bool) × RS).2 = r) ∧ ∀ f, ((none, r) : Option (Nat → Bool) × RS).1 = some f → r.pos < ((none, r) : Option (Nat → Bool) × RS).2.pos ∧ r.e = 0 :=
    ⟨Step.refl h, fun _ => rfl, fun f hf => by cases hf⟩
  unfold groupR
  by_cases h0 : nextR s r = 92
  · rw [if_pos h0]
    have h1 := nextR_pos h0 (by decide)
    cases hc : s[r.pos + 1]? with
    | none => exact hn
    | some b =>
      dsimp only
      have h2 := (List.getElem?_eq_some_iff.1 hc).1
      cases groupF b with
      | none => exact hn
      | some f =>
        dsimp only
        exact ⟨⟨h2, by show r.pos ≤ r.pos + 2; omega, rfl, fun e => e⟩, fun e => absurd e (by simp), fun _ _ => ⟨by show r.pos < r.pos + 2; omega, h1.2⟩⟩
  · rw [if_neg h0]; exact hn
end Go.Proofs.Ytnjjchbgnmjkjaa
