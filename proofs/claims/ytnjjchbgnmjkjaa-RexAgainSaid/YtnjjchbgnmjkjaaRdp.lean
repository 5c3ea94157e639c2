/- Plain: what the reader's class reads. -/
import Derived.Test.YtnjjchbgnmjkjaaRdn
namespace Go.Proofs.Ytnjjchbgnmjkjaa
open Go.RowKit

/-- One round of a class: what it adds, and how it leaves the reader. -/
def roundC (s : List UInt8) (r : RS) : (Nat → Bool) × RS :=
  match (groupR s r).1 with
  | some f => (f, (groupR s r).2)
  | none =>
    if (takeR s (charR s r).2 45).1 = true then
      (rgF (charR s r).1.toNat (charR s (takeR s (charR s r).2 45).2).1.toNat,
        if (charR s (takeR s (charR s r).2 45).2).1 < (charR s r).1 ∧ (charR s (takeR s (charR s r).2 45).2).2.e = 0 then failR { (charR s (takeR s (charR s r).2 45).2).2 with pos := (takeR s (charR s r).2 45).2.pos } 3
        else (charR s (takeR s (charR s r).2 45).2).2)
    else (rgF (charR s r).1.toNat (charR s r).1.toNat, (takeR s (charR s r).2 45).2)
theorem round_step {s : List UInt8} {r : RS} (h : r.pos ≤ s.length) : Step s r (roundC s r).2 ∧ (r.pos < (roundC s r).2.pos ∨ (roundC s r).2.e ≠ 0) := by
  obtain ⟨g1, g2, g3⟩ := group_step h
  obtain ⟨c1, c2, _⟩ := char_step h
  obtain ⟨t1, t2⟩ := take_step c1.inn (b := 45) (by decide)
  obtain ⟨d1, d2, _⟩ := char_step t1.inn
  unfold roundC
  cases hg : (groupR s r).1 with
  | some f => exact ⟨g1, .inl (g3 f hg).1⟩
  | none =>
    dsimp only
    generalize charR s r = C at *
    generalize takeR s C.2 45 = T at *
    generalize charR s T.2 = D at *
    have ct := c1.trans t1
    have l1 := c1.le
    have l2 := t1.le
    have l3 := d1.le
    by_cases ht : T.1 = true
    · rw [if_pos ht]
      have h2 := t2 ht
      by_cases hb : D.1 < C.1 ∧ D.2.e = 0
      · rw [if_pos hb]
        obtain ⟨f1, f2, f3⟩ := failR_facts { D.2 with pos := T.2.pos } 3 (by decide)
        have f1' : (failR { D.2 with pos := T.2.pos } 3).pos = T.2.pos := f1
        have f2' : (failR { D.2 with pos := T.2.pos } 3).op = D.2.op := f2
        exact ⟨⟨by show (failR { D.2 with pos := T.2.pos } 3).pos ≤ _; rw [f1']; exact t1.inn, by show _ ≤ (failR { D.2 with pos := T.2.pos } 3).pos; rw [f1']; exact ct.le, by show (failR { D.2 with pos := T.2.pos } 3).op = _; rw [f2']; exact d1.op.trans ct.op, fun _ => f3⟩, .inr f3⟩
      · rw [if_neg hb]
        exact ⟨ct.trans d1, .inl (by show r.pos < D.2.pos; have := h2.1; omega)⟩
    · rw [if_neg ht]
      refine ⟨ct, ?_⟩
      rcases c2 with h3 | h3
      · exact .inl (by show r.pos < T.2.pos; omega)
      · exact .inr (t1.keep h3)
def loopC : Nat → List UInt8 → RS → Bool → (Nat → Bool) → (Nat → Bool) × RS
  | 0, _, r, _, F => (F, r)
  | f + 1, s, r, first, F => if r.e = 0 ∧ (first = true ∨ nextR s r ≠ 93) then loopC f s (roundC s r).2 false (fun x => F x || (roundC s r).1 x) else (F, r)
/-- How far a class may still go. -/
def leftC (s : List UInt8) (r : RS) : Nat := if r.e = 0 then s.length - r.pos + 1 else 0
theorem left_less {s : List UInt8} {r : RS} (h : r.pos ≤ s.length) (he : r.e = 0) : leftC s (roundC s r).2 < leftC s r := by
  obtain ⟨h1, h2⟩ := round_step h
  unfold leftC
  rw [if_pos he]
  have := h1.inn
  by_cases e2 : (roundC s r).2.e = 0
  · rw [if_pos e2]
    rcases h2 with h2 | h2
    · omega
    · exact absurd e2 h2
  · rw [if_neg e2]; omega
theorem loopC_fuel {s : List UInt8} : ∀ (f g : Nat) (r : RS) (first : Bool) (F : Nat → Bool), r.pos ≤ s.length → leftC s r ≤ f → leftC s r ≤ g → loopC f s r first F = loopC g s r first F
  | 0, 0, _, _, _, _, _, _ => rfl
  | 0, g + 1, r, first, F, _, h1, _ => by
    have : r.e ≠ 0 := fun e => by unfold leftC at h1; rw [if_pos e] at h1; omega
    rw [loopC, loopC, if_neg (fun h => this h.1)]
  | f + 1, 0, r, first, F, _, _, h2 => by
    have : r.e ≠ 0 := fun e => by unfold leftC at h2; rw [if_pos e] at h2; omega
    rw [loopC, loopC, if_neg (fun h => this h.1)]
  | f + 1, g + 1, r, first, F, hp, h1, h2 => by
    rw [loopC, loopC]
    by_cases hc : r.e = 0 ∧ (first = true ∨ nextR s r ≠ 93)
    · rw [if_pos hc, if_pos hc]
      have := left_less hp hc.1
      exact loopC_fuel f g _ _ _ (round_step hp).1.inn (by omega) (by omega)
    · rw [if_neg hc, if_neg hc]
def loopL (s : List UInt8) (r : RS) (first : Bool) (F : Nat → Bool) : (Nat → Bool) × RS := loopC (leftC s r) s r first F
theorem loop_eq {s : List UInt8} {r : RS} {first : Bool} {F : Nat → Bool} (hp : r.pos ≤ s.length) :
    loopL s r first F = if r.e = 0 ∧ (first = true ∨ nextR s r ≠ 93) then loopL s (roundC s r).2 false (fun x => F x || (roundC s r).1 x) else (F, r) := by
  unfold loopL
  by_cases hc : r.e = 0 ∧ (first = true ∨ nextR s r ≠ 93)
  · rw [if_pos hc]
    have h1 := left_less hp hc.1
    obtain ⟨k, hk⟩ : ∃ k, leftC s r = k + 1 := ⟨leftC s r - 1, by omega⟩
    rw [hk, loopC, if_pos hc]
    exact loopC_fuel _ _ _ _ _ (round_step hp).1.inn (by omega) (Nat.le_refl _)
  · rw [if_neg hc]
    cases leftC s r with
    | zero => rfl
    | succ k => rw [loopC, if_neg hc]
theorem loop_step {s : List UInt8} : ∀ (n : Nat) (r : RS) (first : Bool) (F : Nat → Bool), leftC s r ≤ n → r.pos ≤ s.length → Step s r (loopL s r first F).2
  | n, r, first, F, hn, hp => by
    rw [loop_eq hp]
    by_cases hc : r.e = 0 ∧ (first = true ∨ nextR s r ≠ 93)
    · rw [if_pos hc]
      have h1 := left_less hp hc.1
      match n, hn with
      | 0, hn => exact absurd hn (by omega)
      | n + 1, hn => exact (round_step hp).1.trans (loop_step n _ _ _ (by omega) (round_step hp).1.inn)
    · rw [if_neg hc]; exact Step.refl hp
/-- A class behind its bracket: the set and the reader. -/
def classF (s : List UInt8) (r : RS) : Nat → Bool := fun x => if (takeR s r 94).1 = true then !(loopL s (takeR s r 94).2 true fun _ => false).1 x else (loopL s (takeR s r 94).2 true fun _ => false).1 x
def classE (s : List UInt8) (r : RS) : RS := if setF (classF s r) = .zero then failR (loopL s (takeR s r 94).2 true fun _ => false).2 3 else (loopL s (takeR s r 94).2 true fun _ => false).2
def classR (s : List UInt8) (r : RS) : (Nat → Bool) × RS := (classF s r, (takeR s (classE s r) 93).2)
theorem class_step {s : List UInt8} {r : RS} (h : r.pos ≤ s.length) : Step s r (classR s r).2 := by
  have h1 := (take_step h (b := 94) (by decide)).1
  have h2 := h1.trans (loop_step _ (takeR s r 94).2 true (fun _ => false) (Nat.le_refl _) h1.inn)
  have h3 : Step s r (classE s r) := by
    unfold classE
    by_cases hz : setF (classF s r) = .zero
    · rw [if_pos hz]; exact h2.trans (step_fail h2.inn 3 (by decide))
    · rw [if_neg hz]; exact h2
  exact h3.trans (take_step h3.inn (by decide)).1
end Go.Proofs.Ytnjjchbgnmjkjaa
