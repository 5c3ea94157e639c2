/- Unquote, plainly: what is quoted is read back. -/
import Derived.Test.YtchoenfclfafiaaUnqL
namespace Go.Proofs.Ytchoenfclfafiaa

def unqGo : Nat → List UInt8 → Option (List UInt8)
  | 0, _ => some []
  | _ + 1, [] => some []
  | f + 1, b :: r => if b = 92 then (if (escL r).2 = 0 then none else (unqGo f (r.drop (escL r).2)).map ((escL r).1 :: ·)) else if b < 33 ∨ 126 < b then none else (unqGo f r).map (b :: ·)
def unqAt (l : List UInt8) : Option (List UInt8) := unqGo l.length l
def unquoteL (l : List UInt8) : Option (List UInt8) := if l = [45] then some [] else if l = [] then none else unqAt l

theorem escL_le (l : List UInt8) : (escL l).2 ≤ l.length := by
  cases l with
  | nil => exact Nat.le_refl _
  | cons b r =>
    unfold escL
    simp only [List.length_cons]
    split
    · exact Nat.succ_le_succ (Nat.zero_le _)
    (repeat' split) <;> omega

theorem unqGo_fuel : ∀ (f g : Nat) (l : List UInt8), l.length ≤ f → l.length ≤ g → unqGo f l = unqGo g l := by
  intro f
  induction f with
  | zero =>
    intro g l hf _
    have : l = [] := List.eq_nil_of_length_eq_zero (by omega)
    subst this
    cases g <;> rfl
  | succ f ih =>
    intro g l hf hg
    cases l with
    | nil => cases g <;> rfl
    | cons b r =>
      cases g with
      | zero => simp at hg
      | succ g =>
        simp only [List.length_cons] at hf hg
        unfold unqGo
        rw [ih g (r.drop (escL r).2) (by rw [List.length_drop]; omega) (by rw [List.length_drop]; omega), ih g r (by omega) (by omega)]

theorem unqAt_nil : unqAt [] = some [] := rfl
theorem unqAt_cons (b : UInt8) (r : List UInt8) : unqAt (b :: r) =
    if b = 92 then (if (escL r).2 = 0 then none else (unqAt (r.drop (escL r).2)).map ((escL r).1 :: ·)) else if b < 33 ∨ 126 < b then none else (unqAt r).map (b :: ·) := by
  unfold unqAt
  rw [List.length_cons, unqGo]
  rw [unqGo_fuel r.length (r.drop (escL r).2).length (r.drop (escL r).2) (by rw [List.length_drop]; omega) (Nat.le_refl _)]

theorem hex_back : ∀ b : UInt8, isHex (hexD (b >>> 4)) = true ∧ isHex (hexD (b &&& 15)) = true ∧ UInt8.ofNat ((digitI (hexD (b >>> 4))).toNat * 16 + (digitI (hexD (b &&& 15))).toNat) = b := fun b =>
  of_decide_eq_true (all_bytes (p := fun b => decide (isHex (hexD (b >>> 4)) = true ∧ isHex (hexD (b &&& 15)) = true ∧ UInt8.ofNat ((digitI (hexD (b >>> 4))).toNat * 16 + (digitI (hexD (b &&& 15))).toNat) = b)) (by decide +kernel) b)

theorem unqAt_quoteB (b : UInt8) (r : List UInt8) : unqAt (quoteB b ++ r) = (unqAt r).map (b :: ·) := by
  unfold quoteB
  by_cases h1 : b = 10
  · subst h1; rw [if_pos rfl, List.cons_append, unqAt_cons, if_pos rfl]; rfl
  rw [if_neg h1]
  by_cases h2 : b = 13
  · subst h2; rw [if_pos rfl, List.cons_append, unqAt_cons, if_pos rfl]; rfl
  rw [if_neg h2]
  by_cases h3 : b = 9
  · subst h3; rw [if_pos rfl, List.cons_append, unqAt_cons, if_pos rfl]; rfl
  rw [if_neg h3]
  by_cases h4 : b = 32
  · subst h4; rw [if_pos rfl, List.cons_append, unqAt_cons, if_pos rfl]; rfl
  rw [if_neg h4]
  by_cases h5 : b = 92
  · subst h5; rw [if_pos rfl, List.cons_append, unqAt_cons, if_pos rfl]; rfl
  rw [if_neg h5]
  by_cases h6 : b < 33 ∨ 126 < b
  · rw [if_pos h6, List.cons_append, unqAt_cons, if_pos rfl]
    obtain ⟨e1, e2, e3⟩ := hex_back b
    have he : escL ([120, hexD (b >>> 4), hexD (b &&& 15)] ++ r) = (b, 3) := by
      show escL (120 :: ([hexD (b >>> 4), hexD (b &&& 15)] ++ r)) = _
      rw [escL_hex 120 _ (by decide), if_pos ⟨rfl, by simp, e1, e2⟩]
      exact Prod.ext e3 rfl
    rw [he]; rfl
  · rw [if_neg h6]
    show unqAt (b :: r) = _
    rw [unqAt_cons, if_neg h5, if_neg h6]

theorem unqAt_flat (l : List UInt8) : unqAt (l.flatMap quoteB) = some l := by
  induction l with
  | nil => rfl
  | cons b l ih => rw [List.flatMap_cons, unqAt_quoteB, ih]; rfl

theorem quoteB_ne (b : UInt8) : quoteB b ≠ [] ∧ (quoteB b = [45] → b = 45) :=
  of_decide_eq_true (all_bytes (p := fun b => decide (quoteB b ≠ [] ∧ (quoteB b = [45] → b = 45))) (by decide +kernel) b)

theorem unquote_quote (l : List UInt8) : unquoteL (quoteL l) = some l := by
  unfold quoteL
  by_cases h0 : l = []
  · subst h0; rfl
  rw [if_neg h0]
  by_cases h1 : l = [45]
  · subst h1; decide
  rw [if_neg h1]
  unfold unquoteL
  have hne : l.flatMap quoteB ≠ [] := by
    cases l with
    | nil => exact absurd rfl h0
    | cons b l =>
      intro h
      rw [List.flatMap_cons, List.append_eq_nil_iff] at h
      exact (quoteB_ne b).1 h.1
  have hne2 : l.flatMap quoteB ≠ [45] := by
    cases l with
    | nil => exact absurd rfl h0
    | cons b l =>
      intro h
      rw [List.flatMap_cons] at h
      have hq := (quoteB_ne b).1
      have hlen := congrArg List.length h
      rw [List.length_append] at hlen
      have hpos : 0 < (quoteB b).length := List.length_pos_iff.2 hq
      simp only [List.length_cons, List.length_nil] at hlen
      have hr : l.flatMap quoteB = [] := List.eq_nil_of_length_eq_zero (by omega)
      rw [hr, List.append_nil] at h
      have hl : l = [] := by
        cases l with
        | nil => rfl
        | cons c l =>
          rw [List.flatMap_cons, List.append_eq_nil_iff] at hr
          exact absurd hr.1 (quoteB_ne c).1
      rw [hl, (quoteB_ne b).2 h] at h1
      exact h1 rfl
  rw [if_neg hne2, if_neg hne]
  exact unqAt_flat l

theorem quote_inj {a b : List UInt8} (h : quoteL a = quoteL b) : a = b := by
  have h1 := unquote_quote a
  rw [h, unquote_quote b] at h1
  exact (Option.some.inj h1).symm

/-- What is read has no more bytes than the word. -/
theorem unqAt_len : ∀ (n : Nat) (l r : List UInt8), l.length ≤ n → unqAt l = some r → r.length ≤ l.length := by
  intro n
  induction n with
  | zero =>
    intro l r hl h
    have : l = [] := List.eq_nil_of_length_eq_zero (by omega)
    subst this
    rw [unqAt_nil] at h; cases h; exact Nat.le_refl _
  | succ n ih =>
    intro l r hl h
    cases l with
    | nil => rw [unqAt_nil] at h; cases h; exact Nat.le_refl _
    | cons b l =>
      simp only [List.length_cons] at hl ⊢
      rw [unqAt_cons] at h
      split at h
      · split at h
        · cases h
        · obtain ⟨x, hx, rfl⟩ := Option.map_eq_some_iff.1 h
          have := ih _ _ (by rw [List.length_drop]; omega) hx
          rw [List.length_drop] at this
          simp only [List.length_cons]; omega
      · split at h
        · cases h
        · obtain ⟨x, hx, rfl⟩ := Option.map_eq_some_iff.1 h
          have := ih _ _ (by omega) hx
          simp only [List.length_cons]; omega
theorem unquote_len (l r : List UInt8) (h : unquoteL l = some r) : r.length ≤ l.length := by
  unfold unquoteL at h
  split at h
  · cases h; simp
  · split at h
    · cases h
    · exact unqAt_len _ _ _ (Nat.le_refl _) h

end Go.Proofs.Ytchoenfclfafiaa
