/- Sequences of UTF-8, plainly: what size and Utf8 compute on lists of bytes, and how concatenation acts on it. -/
import Derived.Test.YteinbjopclblaaaBase
namespace Go.Proofs.Yteinbjopclblaaa

def contB (b : UInt8) : Bool := decide (128 ≤ b.toNat) && decide (b.toNat ≤ 191)
def seqL (n lo hi : Nat) (l : List UInt8) : Nat :=
  if l.length < n ∨ (l.getD 1 0).toNat < lo ∨ hi < (l.getD 1 0).toNat then 0 else if ((l.take n).drop 2).all contB then n else 0
def sizeL (l : List UInt8) : Nat :=
  if (l.getD 0 0).toNat < 128 then 1
  else if (l.getD 0 0).toNat < 194 then 0
  else if (l.getD 0 0).toNat ≤ 223 then seqL 2 128 191 l
  else if (l.getD 0 0).toNat = 224 then seqL 3 160 191 l
  else if (l.getD 0 0).toNat = 237 then seqL 3 128 159 l
  else if (l.getD 0 0).toNat ≤ 239 then seqL 3 128 191 l
  else if (l.getD 0 0).toNat = 240 then seqL 4 144 191 l
  else if (l.getD 0 0).toNat ≤ 243 then seqL 4 128 191 l
  else if (l.getD 0 0).toNat = 244 then seqL 4 128 143 l
  else 0

def utfGo : Nat → List UInt8 → Nat → Bool × Nat
  | 0, _, _ => (true, 0)
  | f + 1, l, i => if l.length = 0 then (true, 0) else if sizeL l = 0 then (false, i) else utfGo f (l.drop (sizeL l)) (i + sizeL l)
def utfL (l : List UInt8) : Bool × Nat := utfGo l.length l 0

theorem seqL_cases (n lo hi : Nat) (l : List UInt8) : seqL n lo hi l = 0 ∨ seqL n lo hi l = n ∧ n ≤ l.length := by
  unfold seqL
  split
  · exact .inl rfl
  · split
    · exact .inr ⟨rfl, by omega⟩
    · exact .inl rfl
theorem sizeL_le (l : List UInt8) (h : 0 < l.length) : sizeL l ≤ l.length := by
  unfold sizeL
  have c2 := seqL_cases 2 128 191 l
  have c3 := seqL_cases 3 160 191 l
  have c4 := seqL_cases 3 128 159 l
  have c5 := seqL_cases 3 128 191 l
  have c6 := seqL_cases 4 144 191 l
  have c7 := seqL_cases 4 128 191 l
  have c8 := seqL_cases 4 128 143 l
  (repeat' split) <;> omega

theorem seqL_local (n lo hi : Nat) (l l' : List UInt8) (h2 : 2 ≤ n) (hn : seqL n lo hi l ≠ 0) (h : l'.take n = l.take n) (hl : n ≤ l'.length) : seqL n lo hi l' = seqL n lo hi l := by
  have hc := seqL_cases n lo hi l
  have h1 : l'.getD 1 0 = l.getD 1 0 := by
    have e : ∀ x : List UInt8, x.getD 1 0 = (x.take n).getD 1 0 := fun x => by
      simp only [List.getD_eq_getElem?_getD, List.getElem?_take]
      rw [if_pos (by omega)]
    rw [e l', e l, h]
  unfold seqL at hn ⊢
  rw [h, h1]
  by_cases g : l.length < n ∨ (l.getD 1 0).toNat < lo ∨ hi < (l.getD 1 0).toNat
  · rw [if_pos g] at hn; exact absurd rfl hn
  · rw [if_neg g, if_neg (by omega)]

theorem sizeL_form (l : List UInt8) : (∀ l' : List UInt8, l'.getD 0 0 = l.getD 0 0 → sizeL l' = 1) ∨ (∀ l' : List UInt8, l'.getD 0 0 = l.getD 0 0 → sizeL l' = 0) ∨
    ∃ n lo hi, 2 ≤ n ∧ ∀ l' : List UInt8, l'.getD 0 0 = l.getD 0 0 → sizeL l' = seqL n lo hi l' := by
  have e : ∀ l' : List UInt8, l'.getD 0 0 = l.getD 0 0 → (l'.getD 0 0).toNat = (l.getD 0 0).toNat := fun l' h => by rw [h]
  generalize (l.getD 0 0).toNat = b at e
  by_cases h1 : b < 128
  · exact .inl fun l' h => by unfold sizeL; rw [e l' h, if_pos h1]
  refine .inr ?_
  by_cases h2 : b < 194
  · exact .inl fun l' h => by unfold sizeL; rw [e l' h, if_neg h1, if_pos h2]
  by_cases h3 : b ≤ 223
  · exact .inr ⟨2, 128, 191, by omega, fun l' h => by unfold sizeL; rw [e l' h, if_neg h1, if_neg h2, if_pos h3]⟩
  by_cases h4 : b = 224
  · exact .inr ⟨3, 160, 191, by omega, fun l' h => by unfold sizeL; rw [e l' h, if_neg h1, if_neg h2, if_neg h3, if_pos h4]⟩
  by_cases h5 : b = 237
  · exact .inr ⟨3, 128, 159, by omega, fun l' h => by unfold sizeL; rw [e l' h, if_neg h1, if_neg h2, if_neg h3, if_neg h4, if_pos h5]⟩
  by_cases h6 : b ≤ 239
  · exact .inr ⟨3, 128, 191, by omega, fun l' h => by unfold sizeL; rw [e l' h, if_neg h1, if_neg h2, if_neg h3, if_neg h4, if_neg h5, if_pos h6]⟩
  by_cases h7 : b = 240
  · exact .inr ⟨4, 144, 191, by omega, fun l' h => by unfold sizeL; rw [e l' h, if_neg h1, if_neg h2, if_neg h3, if_neg h4, if_neg h5, if_neg h6, if_pos h7]⟩
  by_cases h8 : b ≤ 243
  · exact .inr ⟨4, 128, 191, by omega, fun l' h => by unfold sizeL; rw [e l' h, if_neg h1, if_neg h2, if_neg h3, if_neg h4, if_neg h5, if_neg h6, if_neg h7, if_pos h8]⟩
  by_cases h9 : b = 244
  · exact .inr ⟨4, 128, 143, by omega, fun l' h => by unfold sizeL; rw [e l' h, if_neg h1, if_neg h2, if_neg h3, if_neg h4, if_neg h5, if_neg h6, if_neg h7, if_neg h8, if_pos h9]⟩
  · exact .inl fun l' h => by unfold sizeL; rw [e l' h, if_neg h1, if_neg h2, if_neg h3, if_neg h4, if_neg h5, if_neg h6, if_neg h7, if_neg h8, if_neg h9]

theorem sizeL_local (l l' : List UInt8) (hn : sizeL l ≠ 0) (h : l'.take (sizeL l) = l.take (sizeL l)) (hl : sizeL l ≤ l'.length) : sizeL l' = sizeL l := by
  have h0 : l'.getD 0 0 = l.getD 0 0 := by
    have e : ∀ x : List UInt8, x.getD 0 0 = (x.take (sizeL l)).getD 0 0 := fun x => by
      simp only [List.getD_eq_getElem?_getD, List.getElem?_take]
      rw [if_pos (by omega)]
    rw [e l', e l, h]
  rcases sizeL_form l with g | g | ⟨n, lo, hi, h2, g⟩
  · rw [g l' h0, g l rfl]
  · exact absurd (g l rfl) hn
  · rw [g l' h0, g l rfl]
    have hc := seqL_cases n lo hi l
    have hs : seqL n lo hi l = n := by rw [g l rfl] at hn; omega
    rw [g l rfl, hs] at h hl
    exact seqL_local n lo hi l l' h2 (by omega) h hl

theorem utfGo_fuel : ∀ (f g : Nat) (l : List UInt8) (i : Nat), l.length ≤ f → l.length ≤ g → utfGo f l i = utfGo g l i := by
  intro f
  induction f with
  | zero =>
    intro g l i hf _
    cases g with
    | zero => rfl
    | succ g => unfold utfGo; rw [if_pos (by omega)]
  | succ f ih =>
    intro g l i hf hg
    cases g with
    | zero => unfold utfGo; rw [if_pos (by omega)]
    | succ g =>
      unfold utfGo
      by_cases h0 : l.length = 0
      · rw [if_pos h0, if_pos h0]
      · rw [if_neg h0, if_neg h0]
        by_cases h1 : sizeL l = 0
        · rw [if_pos h1, if_pos h1]
        · rw [if_neg h1, if_neg h1]
          exact ih g _ _ (by rw [List.length_drop]; omega) (by rw [List.length_drop]; omega)

/-- The walk from place i, with just enough fuel. -/
def utfAt (l : List UInt8) (i : Nat) : Bool × Nat := utfGo l.length l i
theorem utfAt_nil (i : Nat) : utfAt [] i = (true, 0) := rfl
theorem utfAt_bad (l : List UInt8) (i : Nat) (h : 0 < l.length) (hz : sizeL l = 0) : utfAt l i = (false, i) := by
  unfold utfAt
  rw [show l.length = l.length - 1 + 1 by omega]
  unfold utfGo
  rw [if_neg (by omega), if_pos hz]
theorem utfAt_step (l : List UInt8) (i : Nat) (h : 0 < l.length) (hz : sizeL l ≠ 0) : utfAt l i = utfAt (l.drop (sizeL l)) (i + sizeL l) := by
  unfold utfAt
  rw [show utfGo l.length l i = utfGo (l.length - 1 + 1) l i by rw [show l.length - 1 + 1 = l.length by omega]]
  rw [utfGo, if_neg (by omega), if_neg hz]
  exact utfGo_fuel _ _ _ _ (by rw [List.length_drop]; omega) (Nat.le_refl _)

theorem utfAt_shift : ∀ (n : Nat) (l : List UInt8) (i d : Nat), l.length ≤ n → utfAt l (i + d) = (if (utfAt l i).1 then (true, 0) else (false, (utfAt l i).2 + d)) := by
  intro n
  induction n with
  | zero =>
    intro l i d hl
    have : l = [] := List.eq_nil_of_length_eq_zero (by omega)
    subst this; rfl
  | succ n ih =>
    intro l i d hl
    by_cases h0 : l.length = 0
    · have : l = [] := List.eq_nil_of_length_eq_zero h0
      subst this; rfl
    · by_cases h1 : sizeL l = 0
      · rw [utfAt_bad l _ (by omega) h1, utfAt_bad l _ (by omega) h1]; rfl
      · rw [utfAt_step l (i + d) (by omega) h1, utfAt_step l i (by omega) h1]
        rw [show i + d + sizeL l = i + sizeL l + d by omega]
        exact ih _ _ _ (by rw [List.length_drop]; omega)

theorem utfAt_valid : ∀ (n : Nat) (s t : List UInt8) (i : Nat), s.length ≤ n → (utfAt s i).1 = true → utfAt (s ++ t) i = utfAt t (i + s.length) := by
  intro n
  induction n with
  | zero =>
    intro s t i hl _
    have : s = [] := List.eq_nil_of_length_eq_zero (by omega)
    subst this; rfl
  | succ n ih =>
    intro s t i hl hv
    by_cases h0 : s.length = 0
    · have : s = [] := List.eq_nil_of_length_eq_zero h0
      subst this; rfl
    · by_cases h1 : sizeL s = 0
      · rw [utfAt_bad s _ (by omega) h1] at hv; cases hv
      · have hle := sizeL_le s (by omega)
        have hs : sizeL (s ++ t) = sizeL s := sizeL_local s (s ++ t) h1 (by rw [List.take_append_of_le_length hle]) (by rw [List.length_append]; omega)
        rw [utfAt_step s i (by omega) h1] at hv
        rw [utfAt_step (s ++ t) i (by rw [List.length_append]; omega) (by omega), hs, List.drop_append_of_le_length hle,
          ih _ _ _ (by rw [List.length_drop]; omega) hv, List.length_drop]
        congr 1; omega

theorem utfAt_bad_pos : ∀ (n : Nat) (s : List UInt8) (i : Nat), s.length ≤ n → (utfAt s i).1 = false → i ≤ (utfAt s i).2 ∧ (utfAt s i).2 ≤ i + s.length ∧
    (utfAt (s.take ((utfAt s i).2 - i)) i).1 = true ∧ ∀ t, (utfAt (s ++ t) i).1 = true ∨ (utfAt s i).2 ≤ (utfAt (s ++ t) i).2 := by
  intro n
  induction n with
  | zero =>
    intro s i hl hv
    have : s = [] := List.eq_nil_of_length_eq_zero (by omega)
    subst this; cases hv
  | succ n ih =>
    intro s i hl hv
    by_cases h0 : s.length = 0
    · have : s = [] := List.eq_nil_of_length_eq_zero h0
      subst this; cases hv
    · by_cases h1 : sizeL s = 0
      · rw [utfAt_bad s _ (by omega) h1]
        refine ⟨Nat.le_refl _, by omega, by simp [utfAt_nil], fun t => ?_⟩
        cases hb : (utfAt (s ++ t) i).1 with
        | true => exact .inl rfl
        | false =>
          refine .inr ?_
          have key : ∀ (m : Nat) (l : List UInt8) (j : Nat), l.length ≤ m → (utfAt l j).1 = false → j ≤ (utfAt l j).2 := by
            intro m
            induction m with
            | zero =>
              intro l j hm hf
              have : l = [] := List.eq_nil_of_length_eq_zero (by omega)
              subst this; cases hf
            | succ m ihm =>
              intro l j hm hf
              by_cases g0 : l.length = 0
              · have : l = [] := List.eq_nil_of_length_eq_zero g0
                subst this; cases hf
              · by_cases g1 : sizeL l = 0
                · rw [utfAt_bad l _ (by omega) g1]; exact Nat.le_refl _
                · rw [utfAt_step l j (by omega) g1] at hf ⊢
                  have := ihm _ _ (by rw [List.length_drop]; omega) hf
                  omega
          exact key _ _ _ (Nat.le_refl _) hb
      · have hle := sizeL_le s (by omega)
        rw [utfAt_step s i (by omega) h1] at hv ⊢
        obtain ⟨b1, b2, b3, b4⟩ := ih (s.drop (sizeL s)) (i + sizeL s) (by rw [List.length_drop]; omega) hv
        generalize hj : (utfAt (s.drop (sizeL s)) (i + sizeL s)).2 = j at *
        rw [List.length_drop] at b2
        refine ⟨by omega, by omega, ?_, fun t => ?_⟩
        · have hs : sizeL (s.take (j - i)) = sizeL s := sizeL_local s _ h1 (by rw [List.take_take, Nat.min_eq_left (by omega)]) (by rw [List.length_take]; omega)
          rw [utfAt_step _ i (by rw [List.length_take]; omega) (by omega), hs, List.drop_take]
          rw [show j - i - sizeL s = j - (i + sizeL s) by omega]
          exact b3
        · have hs : sizeL (s ++ t) = sizeL s := sizeL_local s (s ++ t) h1 (by rw [List.take_append_of_le_length hle]) (by rw [List.length_append]; omega)
          rw [utfAt_step (s ++ t) i (by rw [List.length_append]; omega) (by omega), hs, List.drop_append_of_le_length hle]
          exact b4 t

end Go.Proofs.Yteinbjopclblaaa
