/- Where spans end: rows of truth values, in plain lists. -/
import Derived.Test.YtnjjchbgnmjkjaaRexL
namespace Go.Proofs.Ytnjjchbgnmjkjaa
open Go.RowKit

def tt (l : List Bool) (j : Nat) : Bool := l.getD j false
theorem tt_lt {l : List Bool} {j : Nat} (h : tt l j = true) : j < l.length := by
  unfold tt at h
  rcases Nat.lt_or_ge j l.length with hl | hg
  · exact hl
  · rw [List.getD_eq_getElem?_getD, List.getElem?_eq_none hg] at h; exact absurd h (by decide)
theorem tt_set {l : List Bool} {j : Nat} (hj : j < l.length) (b : Bool) (i : Nat) : tt (l.set j b) i = if i = j then b else tt l i := by
  unfold tt
  rw [List.getD_eq_getElem?_getD, List.getD_eq_getElem?_getD, List.getElem?_set]
  by_cases h : i = j
  · subst h; simp [hj]
  · rw [if_neg (fun e => h e.symm), if_neg h]
theorem tt_rep (n j : Nat) : tt (List.replicate n false) j = false := by
  unfold tt
  rw [List.getD_eq_getElem?_getD, List.getElem?_replicate]
  split <;> rfl
theorem tt_repT (n j : Nat) (h : j < n) : tt (List.replicate n true) j = true := by
  unfold tt
  rw [List.getD_eq_getElem?_getD, List.getElem?_replicate, if_pos h]
  rfl
theorem tt_ext {l m : List Bool} (hl : l.length = m.length) (h : ∀ j, j < l.length → tt l j = tt m j) : l = m := by
  refine List.ext_getElem hl fun i h1 h2 => ?_
  have := h i h1
  unfold tt at this
  rw [List.getD_eq_getElem?_getD, List.getD_eq_getElem?_getD, List.getElem?_eq_getElem h1, List.getElem?_eq_getElem h2] at this
  exact this

def EndsL (s : List UInt8) (t : Tree) (fr to : List Bool) : Prop := to.length = fr.length ∧ ∀ j : Nat, tt to j = true ↔ ∃ i : Nat, tt fr i = true ∧ M s t i j

section
variable {s : List UInt8} {fr to : List Bool} {S : Set4}
theorem ends_none : EndsL s (.node 1 S []) fr (List.replicate fr.length false) := by
  refine ⟨by simp, fun j => ?_⟩
  rw [tt_rep]
  constructor
  · intro h; cases h
  · rintro ⟨i, _, h⟩; cases h
theorem ends_empty (hl : fr.length = s.length + 1) : EndsL s (.node 2 S []) fr fr := by
  refine ⟨rfl, fun j => ?_⟩
  constructor
  · intro h; exact ⟨j, h, .empty S j (by have := tt_lt h; omega)⟩
  · rintro ⟨i, hi, h⟩; cases h; exact hi
theorem ends_begin (hl : fr.length = s.length + 1) : EndsL s (.node 7 S []) fr ((List.replicate fr.length false).set 0 (tt fr 0)) := by
  refine ⟨by simp, fun j => ?_⟩
  rw [tt_set (by simp; omega), tt_rep]
  constructor
  · intro h
    by_cases e : j = 0
    · subst e; rw [if_pos rfl] at h; exact ⟨0, h, .begin S⟩
    · rw [if_neg e] at h; cases h
  · rintro ⟨i, hi, h⟩; cases h; rw [if_pos rfl]; exact hi
theorem ends_finish (hl : fr.length = s.length + 1) : EndsL s (.node 8 S []) fr ((List.replicate fr.length false).set s.length (tt fr s.length)) := by
  refine ⟨by simp, fun j => ?_⟩
  rw [tt_set (by simp; omega), tt_rep]
  constructor
  · intro h
    by_cases e : j = s.length
    · subst e; rw [if_pos rfl] at h; exact ⟨_, h, .finish S⟩
    · rw [if_neg e] at h; cases h
  · rintro ⟨i, hi, h⟩; cases h; rw [if_pos rfl]; exact hi
/-- After k bytes. -/
def ByteI (s : List UInt8) (S : Set4) (fr : List Bool) (k : Nat) (o : List Bool) : Prop :=
  o.length = fr.length ∧ ∀ j, tt o j = true ↔ ∃ i, i < k ∧ j = i + 1 ∧ tt fr i = true ∧ ∃ x, s[i]? = some x ∧ hasB S x = true
theorem byte_start : ByteI s S fr 0 (List.replicate fr.length false) :=
  ⟨by simp, fun j => by
    rw [tt_rep]
    constructor
    · intro h; cases h
    · rintro ⟨i, hi, _⟩; omega⟩
theorem byte_step {k : Nat} {o : List Bool} (h : ByteI s S fr k o) (hl : fr.length = s.length + 1) (hk : k < s.length) : ByteI s S fr (k + 1) (o.set (k + 1) (tt fr k && hasB S s[k])) := by
  refine ⟨by rw [List.length_set]; exact h.1, fun j => ?_⟩
  rw [tt_set (by rw [h.1]; omega)]
  by_cases e : j = k + 1
  · subst e
    rw [if_pos rfl, Bool.and_eq_true]
    constructor
    · rintro ⟨h1, h2⟩; exact ⟨k, by omega, rfl, h1, s[k], List.getElem?_eq_getElem hk, h2⟩
    · rintro ⟨i, _, h2, h3, x, h4, h5⟩
      obtain rfl : i = k := by omega
      rw [List.getElem?_eq_getElem hk] at h4
      injection h4 with h4
      rw [h4]
      exact ⟨h3, h5⟩
  · rw [if_neg e, h.2 j]
    constructor
    · rintro ⟨i, h1, h2⟩; exact ⟨i, by omega, h2⟩
    · rintro ⟨i, h1, h2, h3⟩; exact ⟨i, by omega, h2, h3⟩
theorem byte_end {o : List Bool} (h : ByteI s S fr s.length o) : EndsL s (.node 3 S []) fr o := by
  refine ⟨h.1, fun j => ?_⟩
  rw [h.2 j]
  constructor
  · rintro ⟨i, _, rfl, h2, x, h3, h4⟩; exact ⟨i, h2, .byte S i x h3 h4⟩
  · rintro ⟨i, h1, h2⟩
    cases h2 with
    | byte _ _ x h3 h4 => exact ⟨i, (List.getElem?_eq_some_iff.1 h3).1, rfl, h1, x, h3, h4⟩
theorem ends_cat {a b : Tree} {m : List Bool} (h1 : EndsL s a fr m) (h2 : EndsL s b m to) : EndsL s (.node 4 S [a, b]) fr to := by
  refine ⟨h2.1.trans h1.1, fun j => ?_⟩
  rw [h2.2 j]
  constructor
  · rintro ⟨k, hk, hb⟩
    obtain ⟨i, hi, ha⟩ := (h1.2 k).1 hk
    exact ⟨i, hi, .cat S a b i k j ha hb⟩
  · rintro ⟨i, hi, h⟩
    cases h with
    | cat _ _ _ _ k _ ha hb => exact ⟨k, (h1.2 k).2 ⟨i, hi, ha⟩, hb⟩
theorem ends_alt {a b : Tree} {x y : List Bool} (h1 : EndsL s a fr x) (h2 : EndsL s b fr y) (hl : to.length = fr.length) (h : ∀ j, j < fr.length → tt to j = (tt x j || tt y j)) : EndsL s (.node 5 S [a, b]) fr to := by
  refine ⟨hl, fun j => ?_⟩
  have hj : tt to j = (tt x j || tt y j) := by
    rcases Nat.lt_or_ge j fr.length with h3 | h3
    · exact h j h3
    · have e1 : tt to j = false := by cases e : tt to j; rfl; exact absurd (tt_lt e) (by omega)
      have e2 : tt x j = false := by cases e : tt x j; rfl; exact absurd (tt_lt e) (by have := h1.1; omega)
      have e3 : tt y j = false := by cases e : tt y j; rfl; exact absurd (tt_lt e) (by have := h2.1; omega)
      rw [e1, e2, e3]; rfl
  rw [hj, Bool.or_eq_true, h1.2 j, h2.2 j]
  constructor
  · rintro (⟨i, hi, h⟩ | ⟨i, hi, h⟩)
    · exact ⟨i, hi, .altl S a b i j h⟩
    · exact ⟨i, hi, .altr S a b i j h⟩
  · rintro ⟨i, hi, h⟩
    cases h with
    | altl _ _ _ _ _ h => exact .inl ⟨i, hi, h⟩
    | altr _ _ _ _ _ h => exact .inr ⟨i, hi, h⟩

/-! None or more. -/
def StarI (s : List UInt8) (S : Set4) (a : Tree) (fr o : List Bool) : Prop :=
  o.length = fr.length ∧ (∀ j, tt fr j = true → tt o j = true) ∧ ∀ j, tt o j = true → ∃ i, tt fr i = true ∧ M s (.node 6 S [a]) i j
theorem star_start {a : Tree} (hl : fr.length = s.length + 1) : StarI s S a fr fr :=
  ⟨rfl, fun _ h => h, fun j h => ⟨j, h, .nil S a j (by have := tt_lt h; omega)⟩⟩
/-- Merged up to a place. -/
def MrgI (o e : List Bool) (k : Nat) (o' : List Bool) : Prop := o'.length = o.length ∧ ∀ j, j < o.length → tt o' j = (tt o j || (decide (j < k) && tt e j))
def newB (o e : List Bool) (k : Nat) : Bool := (List.range k).any fun j => tt e j && !tt o j
theorem new_step (o e : List Bool) (k : Nat) : newB o e (k + 1) = (newB o e k || (tt e k && !tt o k)) := by
  unfold newB; rw [List.range_succ, List.any_append]; simp
theorem mrg_start (o e : List Bool) : MrgI o e 0 o := ⟨rfl, fun j _ => by simp⟩
theorem mrg_at {o e o' : List Bool} {k : Nat} (h : MrgI o e k o') (hk : k < o.length) : tt o' k = tt o k := by
  have := h.2 k hk
  simpa using this
theorem mrg_keep {o e o' : List Bool} {k : Nat} (h : MrgI o e k o') (hk : k < o.length) (hq : (tt e k && !tt o k) = false) : MrgI o e (k + 1) o' := by
  refine ⟨h.1, fun j hj => ?_⟩
  rw [h.2 j hj]
  by_cases c : j = k
  · subst c
    have c1 : decide (j < j) = false := by simp
    have c2 : decide (j < j + 1) = true := by simp
    rw [c1, c2]
    revert hq
    cases tt e j <;> cases tt o j <;> simp
  · have c1 : decide (j < k + 1) = decide (j < k) := by simp only [decide_eq_decide]; omega
    rw [c1]
theorem mrg_set {o e o' : List Bool} {k : Nat} (h : MrgI o e k o') (hk : k < o.length) (hq : tt e k = true) : MrgI o e (k + 1) (o'.set k true) := by
  refine ⟨by rw [List.length_set]; exact h.1, fun j hj => ?_⟩
  rw [tt_set (by rw [h.1]; exact hk)]
  by_cases c : j = k
  · subst c
    rw [if_pos rfl, hq]
    simp
  · have c1 : decide (j < k + 1) = decide (j < k) := by simp only [decide_eq_decide]; omega
    rw [if_neg c, h.2 j hj, c1]
theorem mrg_full {o e o' : List Bool} (h : MrgI o e o.length o') (j : Nat) (hj : j < o.length) : tt o' j = (tt o j || tt e j) := by
  rw [h.2 j hj, show decide (j < o.length) = true by simpa using hj]
  simp
theorem star_step {a : Tree} {o e o' : List Bool} (h : StarI s S a fr o) (he : EndsL s a o e) (hm : MrgI o e o.length o') : StarI s S a fr o' := by
  refine ⟨hm.1.trans h.1, fun j hj => ?_, fun j hj => ?_⟩
  · have h1 := h.2.1 j hj
    rw [mrg_full hm j (tt_lt h1), h1]; rfl
  · have hlt : j < o.length := by have := tt_lt hj; rw [hm.1] at this; exact this
    rw [mrg_full hm j hlt, Bool.or_eq_true] at hj
    rcases hj with h1 | h1
    · exact h.2.2 j h1
    · obtain ⟨k, hk, hM⟩ := (he.2 j).1 h1
      obtain ⟨i, hi, hS⟩ := h.2.2 k hk
      exact ⟨i, hi, .more S a i k j hS hM⟩
theorem new_none {o e : List Bool} {k : Nat} (h : newB o e k = false) (j : Nat) (hj : j < k) (he : tt e j = true) : tt o j = true := by
  unfold newB at h
  have := List.any_eq_false.1 h j (List.mem_range.2 hj)
  rw [he] at this
  simpa using this
theorem mrg_same {o e o' : List Bool} (hm : MrgI o e o.length o') (hn : newB o e o.length = false) : o' = o := by
  refine tt_ext hm.1 fun j hj => ?_
  have hj' : j < o.length := by rw [← hm.1]; exact hj
  rw [mrg_full hm j hj']
  cases h : tt e j with
  | false => simp
  | true => rw [new_none hn j hj' h]; rfl
theorem star_end {a : Tree} {o e : List Bool} (h : StarI s S a fr o) (he : EndsL s a o e) (hn : newB o e o.length = false) : EndsL s (.node 6 S [a]) fr o := by
  have hcl : ∀ i j, tt o i = true → M s a i j → tt o j = true := fun i j hi hM => by
    have h1 := (he.2 j).2 ⟨i, hi, hM⟩
    exact new_none hn j (by have := tt_lt h1; rw [he.1] at this; exact this) h1
  refine ⟨h.1, fun j => ⟨h.2.2 j, ?_⟩⟩
  rintro ⟨i, hi, hS⟩
  have : ∀ t i j, M s t i j → t = .node 6 S [a] → tt o i = true → tt o j = true := by
    intro t i j hS
    induction hS with
    | nil S' a' i _ => intro _ h; exact h
    | more S' a' i j k _ m2 h1 _ =>
      intro e hi
      have h2 := h1 e hi
      injection e with _ _ e
      injection e with e _
      subst e
      exact hcl j k h2 m2
    | empty S' i _ => intro e; exact absurd e (by intro e; injection e with e; exact absurd e (by decide))
    | byte S' i x _ _ => intro e; exact absurd e (by intro e; injection e with e; exact absurd e (by decide))
    | cat S' a' b i j k _ _ _ _ => intro e; exact absurd e (by intro e; injection e with e; exact absurd e (by decide))
    | altl S' a' b i j _ _ => intro e; exact absurd e (by intro e; injection e with e; exact absurd e (by decide))
    | altr S' a' b i j _ _ => intro e; exact absurd e (by intro e; injection e with e; exact absurd e (by decide))
    | begin S' => intro e; exact absurd e (by intro e; injection e with e; exact absurd e (by decide))
    | finish S' => intro e; exact absurd e (by intro e; injection e with e; exact absurd e (by decide))
  exact this _ i j hS rfl (h.2.1 i hi)
/-- How many are not. -/
def falN (o : List Bool) (n : Nat) : Nat := (List.range n).countP fun j => !tt o j
theorem fal_le (n : Nat) {o o' : List Bool} (h : ∀ j, tt o j = true → tt o' j = true) : falN o' n ≤ falN o n := by
  unfold falN
  refine List.countP_mono_left fun j _ hj => ?_
  cases e : tt o j with
  | false => rfl
  | true => rw [h j e] at hj; exact hj
theorem fal_lt {o o' : List Bool} (h : ∀ j, tt o j = true → tt o' j = true) (k : Nat) (h1 : tt o k = false) (h2 : tt o' k = true) : ∀ n, k < n → falN o' n < falN o n := by
  intro n
  induction n with
  | zero => intro hk; omega
  | succ n ih =>
    intro hk
    unfold falN at ih ⊢
    rw [List.range_succ, List.countP_append, List.countP_append]
    by_cases c : k = n
    · subst c
      have hle := fal_le k h
      unfold falN at hle
      simp only [List.countP_cons, List.countP_nil, h1, h2]
      simp
      omega
    · have := ih (by omega)
      have h3 : List.countP (fun j => !tt o' j) [n] ≤ List.countP (fun j => !tt o j) [n] := by
        simp only [List.countP_cons, List.countP_nil]
        cases e : tt o n with
        | false => simp; split <;> omega
        | true => rw [h n e]; simp
      omega
theorem mrg_more {o e o' : List Bool} (hm : MrgI o e o.length o') (hn : newB o e o.length = true) (n : Nat) (hn2 : o.length ≤ n) : falN o' n < falN o n := by
  unfold newB at hn
  obtain ⟨k, hk, hq⟩ := List.any_eq_true.1 hn
  rw [List.mem_range] at hk
  rw [Bool.and_eq_true, Bool.not_eq_true'] at hq
  refine fal_lt (fun j hj => ?_) k hq.2 ?_ n (by omega)
  · rw [mrg_full hm j (tt_lt hj), hj]; rfl
  · rw [mrg_full hm k hk, hq.1]; simp
end

/-! The last place. -/
def LastIs (l : List Bool) (r : Int) : Prop := (r = -1 ∧ ∀ j, tt l j = false) ∨ ∃ j : Nat, r = j ∧ tt l j = true ∧ ∀ i, j < i → tt l i = false
end Go.Proofs.Ytnjjchbgnmjkjaa
