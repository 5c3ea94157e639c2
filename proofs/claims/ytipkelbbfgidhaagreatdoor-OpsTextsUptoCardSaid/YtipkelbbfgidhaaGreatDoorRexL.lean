/- Regular expressions as trees: what is right, what a span is; in plain lists. -/
import Derived.Test.YtipkelbbfgidhaaGreatDoorBase
namespace Go.Proofs.YtipkelbbfgidhaaGreatDoor
open Go.RowKit

structure Set4 where
  a : Int
  b : Int
  c : Int
  d : Int
deriving DecidableEq
def Set4.zero : Set4 := ⟨0, 0, 0, 0⟩
def Set4.word (s : Set4) (k : Nat) : Int := if k = 0 then s.a else if k = 1 then s.b else if k = 2 then s.c else s.d
def hasB (s : Set4) (x : UInt8) : Bool := s.word (x.toNat / 64) / 2 ^ (x.toNat % 64) % 2 == 1

inductive Tree where
  | node (kind : Int) (set : Set4) (kids : List Tree)

def kidsI (k : Int) : Int := if k = 4 ∨ k = 5 then 2 else if k = 6 then 1 else if k = 1 ∨ k = 2 ∨ k = 3 ∨ k = 7 ∨ k = 8 then 0 else -1
def badT (k : Int) (s : Set4) (n : Nat) : Bool := kidsI k != n || (k == 3) == (decide (s = Set4.zero))
mutual
/-- How many nodes were counted, what went wrong. -/
def chk : Tree → Int → Int → Int × Int
  | .node k s ts, deep, n =>
    if 80 < n + 1 then (n + 1, 2) else if 20 < deep then (n + 1, 11) else if badT k s ts.length = true then (n + 1, 1) else chkL ts (deep + 1) (n + 1)
def chkL : List Tree → Int → Int → Int × Int
  | [], _, n => (n, 0)
  | t :: ts, deep, n => if (chk t deep n).2 ≠ 0 then chk t deep n else chkL ts deep (chk t deep n).1
end

mutual
def Fine : Tree → Prop
  | .node k s ts => badT k s ts.length = false ∧ FineL ts
def FineL : List Tree → Prop
  | [] => True
  | t :: ts => Fine t ∧ FineL ts
end

mutual
theorem chk_fine : ∀ (t : Tree) (deep n : Int), (chk t deep n).2 = 0 → Fine t
  | .node k s ts, deep, n, h => by
    rw [chk] at h
    by_cases c1 : 80 < n + 1
    · rw [if_pos c1] at h; exact absurd (show (2 : Int) = 0 from h) (by decide)
    · rw [if_neg c1] at h
      by_cases c2 : 20 < deep
      · rw [if_pos c2] at h; exact absurd (show (11 : Int) = 0 from h) (by decide)
      · rw [if_neg c2] at h
        cases c3 : badT k s ts.length with
        | true => rw [c3, if_pos rfl] at h; exact absurd (show (1 : Int) = 0 from h) (by decide)
        | false =>
          rw [c3, if_neg (by decide)] at h
          rw [Fine]
          exact ⟨c3, chkL_fine ts _ _ h⟩
theorem chkL_fine : ∀ (ts : List Tree) (deep n : Int), (chkL ts deep n).2 = 0 → FineL ts
  | [], _, _, _ => by rw [FineL]; trivial
  | t :: ts, deep, n, h => by
    rw [chkL] at h
    by_cases c : (chk t deep n).2 ≠ 0
    · rw [if_pos c] at h; exact absurd h c
    · rw [if_neg c] at h
      rw [FineL]
      exact ⟨chk_fine t deep n (Classical.not_not.1 c), chkL_fine ts _ _ h⟩
end

/-- A fine tree by its kind. -/
inductive Shape : Int → List Tree → Prop
  | none : Shape 1 []
  | empty : Shape 2 []
  | byte : Shape 3 []
  | cat (a b : Tree) : Fine a → Fine b → Shape 4 [a, b]
  | alt (a b : Tree) : Fine a → Fine b → Shape 5 [a, b]
  | star (a : Tree) : Fine a → Shape 6 [a]
  | begin : Shape 7 []
  | finish : Shape 8 []
theorem fine_shape {k : Int} {s : Set4} {ts : List Tree} (h : Fine (.node k s ts)) : Shape k ts := by
  rw [Fine] at h
  obtain ⟨h1, h2⟩ := h
  unfold badT at h1
  have h3 : kidsI k = ts.length := by
    cases hq : (kidsI k != (ts.length : Int)) with
    | true => rw [hq] at h1; simp at h1
    | false => simpa using hq
  unfold kidsI at h3
  by_cases c1 : k = 4 ∨ k = 5
  · rw [if_pos c1] at h3
    match ts, h3, h2 with
    | [a, b], _, h2 =>
      rw [FineL, FineL] at h2
      rcases c1 with rfl | rfl
      · exact .cat a b h2.1 h2.2.1
      · exact .alt a b h2.1 h2.2.1
    | [], h3, _ => exact absurd h3 (by decide)
    | [a], h3, _ => exact absurd h3 (by simp)
    | a :: b :: c :: r, h3, _ => simp only [List.length_cons] at h3; omega
  · rw [if_neg c1] at h3
    by_cases c2 : k = 6
    · rw [if_pos c2] at h3
      subst c2
      match ts, h3, h2 with
      | [a], _, h2 => rw [FineL] at h2; exact .star a h2.1
      | [], h3, _ => exact absurd h3 (by decide)
      | a :: b :: r, h3, _ => simp only [List.length_cons] at h3; omega
    · rw [if_neg c2] at h3
      by_cases c3 : k = 1 ∨ k = 2 ∨ k = 3 ∨ k = 7 ∨ k = 8
      · rw [if_pos c3] at h3
        have : ts = [] := List.eq_nil_of_length_eq_zero (by omega)
        subst this
        rcases c3 with rfl | rfl | rfl | rfl | rfl
        · exact .none
        · exact .empty
        · exact .byte
        · exact .begin
        · exact .finish
      · rw [if_neg c3] at h3; omega

/-- A span of a text that an expression matches. -/
inductive M (l : List UInt8) : Tree → Nat → Nat → Prop
  | empty (s : Set4) (i : Nat) : i ≤ l.length → M l (.node 2 s []) i i
  | byte (s : Set4) (i : Nat) (x : UInt8) : l[i]? = some x → hasB s x = true → M l (.node 3 s []) i (i + 1)
  | cat (s : Set4) (a b : Tree) (i j k : Nat) : M l a i j → M l b j k → M l (.node 4 s [a, b]) i k
  | altl (s : Set4) (a b : Tree) (i j : Nat) : M l a i j → M l (.node 5 s [a, b]) i j
  | altr (s : Set4) (a b : Tree) (i j : Nat) : M l b i j → M l (.node 5 s [a, b]) i j
  | nil (s : Set4) (a : Tree) (i : Nat) : i ≤ l.length → M l (.node 6 s [a]) i i
  | more (s : Set4) (a : Tree) (i j k : Nat) : M l (.node 6 s [a]) i j → M l a j k → M l (.node 6 s [a]) i k
  | begin (s : Set4) : M l (.node 7 s []) 0 0
  | finish (s : Set4) : M l (.node 8 s []) l.length l.length

theorem M.le {l : List UInt8} {t : Tree} {i j : Nat} (h : M l t i j) : i ≤ j ∧ j ≤ l.length := by
  induction h with
  | empty s i h => exact ⟨Nat.le_refl _, h⟩
  | byte s i x h _ => have := (List.getElem?_eq_some_iff.1 h).1; omega
  | cat s a b i j k _ _ h1 h2 => omega
  | altl s a b i j _ h => exact h
  | altr s a b i j _ h => exact h
  | nil s a i h => exact ⟨Nat.le_refl _, h⟩
  | more s a i j k _ _ h1 h2 => omega
  | begin s => omega
  | finish s => omega

/-! What is asked for. -/
mutual
def asksT (q : Int) : Tree → Bool
  | .node k _ ts => k == q || asksL q ts
def asksL (q : Int) : List Tree → Bool
  | [] => false
  | t :: ts => asksT q t || asksL q ts
end
theorem asks_kids {q k : Int} {s : Set4} {ts : List Tree} (h : asksT q (.node k s ts) = false) : k ≠ q ∧ asksL q ts = false := by
  rw [asksT] at h
  simpa using h
theorem asks_two {q : Int} {a b : Tree} (h : asksL q [a, b] = false) : asksT q a = false ∧ asksT q b = false := by
  rw [asksL, asksL, asksL] at h; simpa using h
theorem asks_one {q : Int} {a : Tree} (h : asksL q [a] = false) : asksT q a = false := by
  rw [asksL, asksL] at h; simpa using h

/-- More text behind takes nothing away, unless the end is asked for. -/
theorem M.behind {l : List UInt8} {t : Tree} {i j : Nat} (h : M l t i j) (m : List UInt8) (hq : asksT 8 t = false) : M (l ++ m) t i j := by
  induction h with
  | empty s i h => exact .empty s i (by rw [List.length_append]; omega)
  | byte s i x h hx => exact .byte s i x (by rw [List.getElem?_append_left (List.getElem?_eq_some_iff.1 h).1]; exact h) hx
  | cat s a b i j k _ _ h1 h2 => have := asks_two (asks_kids hq).2; exact .cat s a b i j k (h1 this.1) (h2 this.2)
  | altl s a b i j _ h => have := asks_two (asks_kids hq).2; exact .altl s a b i j (h this.1)
  | altr s a b i j _ h => have := asks_two (asks_kids hq).2; exact .altr s a b i j (h this.2)
  | nil s a i h => exact .nil s a i (by rw [List.length_append]; omega)
  | more s a i j k _ _ h1 h2 => exact .more s a i j k (h1 hq) (h2 (asks_one (asks_kids hq).2))
  | begin s => exact .begin s
  | finish s => exact absurd rfl (asks_kids hq).1

/-- Of an expression without anchors: a span of a piece is a span of the whole. -/
theorem M.lift {p l q : List UInt8} {t : Tree} {i j : Nat} (h : M l t i j) (h7 : asksT 7 t = false) (h8 : asksT 8 t = false) : M (p ++ (l ++ q)) t (p.length + i) (p.length + j) := by
  induction h with
  | empty s i h => exact .empty s _ (by simp only [List.length_append]; omega)
  | byte s i x h hx => exact .byte s _ x (by rw [List.getElem?_append_right (by omega), Nat.add_sub_cancel_left, List.getElem?_append_left (List.getElem?_eq_some_iff.1 h).1]; exact h) hx
  | cat s a b i j k _ _ h1 h2 => have a7 := asks_two (asks_kids h7).2; have a8 := asks_two (asks_kids h8).2; exact .cat s a b _ _ _ (h1 a7.1 a8.1) (h2 a7.2 a8.2)
  | altl s a b i j _ h => have a7 := asks_two (asks_kids h7).2; have a8 := asks_two (asks_kids h8).2; exact .altl s a b _ _ (h a7.1 a8.1)
  | altr s a b i j _ h => have a7 := asks_two (asks_kids h7).2; have a8 := asks_two (asks_kids h8).2; exact .altr s a b _ _ (h a7.2 a8.2)
  | nil s a i h => exact .nil s a _ (by simp only [List.length_append]; omega)
  | more s a i j k _ _ h1 h2 => exact .more s a _ _ _ (h1 h7 h8) (h2 (asks_one (asks_kids h7).2) (asks_one (asks_kids h8).2))
  | begin s => exact absurd rfl (asks_kids h7).1
  | finish s => exact absurd rfl (asks_kids h8).1
theorem M.down {l : List UInt8} {t : Tree} {i j : Nat} (h : M l t i j) (p m q : List UInt8) (hl : l = p ++ (m ++ q)) (h7 : asksT 7 t = false) (h8 : asksT 8 t = false) (hi : p.length ≤ i) (hj : j ≤ p.length + m.length) : M m t (i - p.length) (j - p.length) := by
  induction h with
  | empty s i h => exact .empty s _ (by omega)
  | byte s i x h hx =>
    rw [show i + 1 - p.length = i - p.length + 1 by omega]
    refine .byte s _ x ?_ hx
    rw [hl, List.getElem?_append_right hi, List.getElem?_append_left (by omega)] at h
    exact h
  | cat s a b i j k m1 m2 h1 h2 =>
    have a7 := asks_two (asks_kids h7).2; have a8 := asks_two (asks_kids h8).2
    have := m1.le; have := m2.le
    exact .cat s a b _ _ _ (h1 a7.1 a8.1 hi (by omega)) (h2 a7.2 a8.2 (by omega) hj)
  | altl s a b i j _ h => have a7 := asks_two (asks_kids h7).2; have a8 := asks_two (asks_kids h8).2; exact .altl s a b _ _ (h a7.1 a8.1 hi hj)
  | altr s a b i j _ h => have a7 := asks_two (asks_kids h7).2; have a8 := asks_two (asks_kids h8).2; exact .altr s a b _ _ (h a7.2 a8.2 hi hj)
  | nil s a i h => exact .nil s a _ (by omega)
  | more s a i j k m1 m2 h1 h2 =>
    have := m1.le; have := m2.le
    exact .more s a _ _ _ (h1 h7 h8 hi (by omega)) (h2 (asks_one (asks_kids h7).2) (asks_one (asks_kids h8).2) (by omega) hj)
  | begin s => exact absurd rfl (asks_kids h7).1
  | finish s => exact absurd rfl (asks_kids h8).1

/-- The span that is told: the first, and there the longest. -/
def Best (l : List UInt8) (t : Tree) (i j : Nat) : Prop := M l t i j ∧ ∀ a b, M l t a b → i < a ∨ (i = a ∧ b ≤ j)
def Found (l : List UInt8) (t : Tree) (is : Bool) (i j : Nat) : Prop := if is = true then Best l t i j else i = 0 ∧ j = 0 ∧ ∀ a b, ¬ M l t a b
theorem Found.iff {l : List UInt8} {t : Tree} {is : Bool} {i j : Nat} (h : Found l t is i j) : is = true ↔ ∃ a b, M l t a b := by
  unfold Found at h
  by_cases c : is = true
  · rw [if_pos c] at h; exact ⟨fun _ => ⟨i, j, h.1⟩, fun _ => c⟩
  · rw [if_neg c] at h; exact ⟨fun e => absurd e c, fun ⟨a, b, m⟩ => absurd m (h.2.2 a b)⟩
theorem Found.best {l : List UInt8} {t : Tree} {i j : Nat} (h : Found l t true i j) : Best l t i j := h
theorem Found.uniq {l : List UInt8} {t : Tree} {i j a b : Nat} (h : Found l t true i j) (m : M l t a b) (hm : ∀ a' b', M l t a' b' → a < a' ∨ (a = a' ∧ b' ≤ b)) : i = a ∧ j = b := by
  have h1 := h.best.2 a b m
  have h2 := hm i j h.best.1
  omega

def catT (a b : Tree) : Tree := .node 4 .zero [a, b]
def altT (a b : Tree) : Tree := .node 5 .zero [a, b]
def starT (a : Tree) : Tree := .node 6 .zero [a]
def beginT : Tree := .node 7 .zero []
def endT : Tree := .node 8 .zero []
def wholeT (r : Tree) : Tree := catT (catT beginT r) endT
theorem m_alt {l : List UInt8} {a b : Tree} {i j : Nat} : M l (altT a b) i j ↔ M l a i j ∨ M l b i j := by
  constructor
  · intro h
    unfold altT at h
    cases h with
    | altl _ _ _ _ _ h => exact .inl h
    | altr _ _ _ _ _ h => exact .inr h
  · rintro (h | h)
    · exact .altl _ _ _ _ _ h
    · exact .altr _ _ _ _ _ h
theorem m_whole {l : List UInt8} {r : Tree} {i j : Nat} : M l (wholeT r) i j ↔ i = 0 ∧ j = l.length ∧ M l r 0 l.length := by
  constructor
  · intro h
    unfold wholeT catT beginT endT at h
    cases h with
    | cat _ _ _ _ m _ h1 h2 =>
      cases h2
      cases h1 with
      | cat _ _ _ _ m2 _ h3 h4 =>
        cases h3
        exact ⟨rfl, rfl, h4⟩
  · rintro ⟨rfl, rfl, h⟩
    exact .cat _ _ _ _ _ _ (.cat _ _ _ _ _ _ (.begin _) h) (.finish _)
/-- With anchors around it is the whole text. -/
theorem whole_found {l : List UInt8} {r : Tree} {is : Bool} {i j : Nat} (h : Found l (wholeT r) is i j) : (is = true → i = 0 ∧ j = l.length) ∧ (is = true ↔ M l r 0 l.length) := by
  refine ⟨fun e => ?_, ?_⟩
  · subst e
    have := m_whole.1 h.best.1
    exact ⟨this.1, this.2.1⟩
  · rw [h.iff]
    exact ⟨fun ⟨a, b, m⟩ => (m_whole.1 m).2.2, fun m => ⟨0, l.length, m_whole.2 ⟨rfl, rfl, m⟩⟩⟩
theorem alt_found {l : List UInt8} {r q : Tree} {a b c : Bool} {i j i' j' i'' j'' : Nat} (h1 : Found l r a i j) (h2 : Found l q b i' j') (h3 : Found l (altT r q) c i'' j'') : c = (a || b) := by
  rw [Bool.eq_iff_iff, h3.iff, Bool.or_eq_true, h1.iff, h2.iff]
  constructor
  · rintro ⟨x, y, m⟩
    rcases m_alt.1 m with h | h
    · exact .inl ⟨x, y, h⟩
    · exact .inr ⟨x, y, h⟩
  · rintro (⟨x, y, m⟩ | ⟨x, y, m⟩)
    · exact ⟨x, y, m_alt.2 (.inl m)⟩
    · exact ⟨x, y, m_alt.2 (.inr m)⟩
theorem behind_found {l m : List UInt8} {r : Tree} {a d : Bool} {i j i' j' : Nat} (h1 : Found l r a i j) (h2 : Found (l ++ m) r d i' j') (hq : asksT 8 r = false) (ha : a = true) : d = true := by
  obtain ⟨x, y, h⟩ := h1.iff.1 ha
  exact h2.iff.2 ⟨x, y, h.behind m hq⟩

/-! A set of one byte; the law's own expressions. -/
def oneS (x : Nat) : Set4 := ⟨if x / 64 = 0 then 2 ^ (x % 64) else 0, if x / 64 = 1 then 2 ^ (x % 64) else 0, if x / 64 = 2 then 2 ^ (x % 64) else 0, if x / 64 = 3 then 2 ^ (x % 64) else 0⟩
def letT (x : Nat) : Tree := .node 3 (oneS x) []
theorem m_let {l : List UInt8} {x i j : Nat} (h : M l (letT x) i j) : j = i + 1 ∧ ∃ y, l[i]? = some y ∧ hasB (oneS x) y = true := by
  unfold letT at h
  cases h with
  | byte _ _ y h1 h2 => exact ⟨rfl, y, h1, h2⟩
theorem m_star_le {l : List UInt8} {a : Tree} {i j : Nat} (h : M l (starT a) i j) : i ≤ j ∧ j ≤ l.length := h.le
theorem has_a (y : UInt8) : hasB (oneS 97) y = (y == 97) := beq_iff_eq.1 (all_bytes (p := fun y => hasB (oneS 97) y == (y == 97)) (by decide +kernel) y)
theorem has_b (y : UInt8) : hasB (oneS 98) y = (y == 98) := beq_iff_eq.1 (all_bytes (p := fun y => hasB (oneS 98) y == (y == 98)) (by decide +kernel) y)

/-- "xabb": an a with as many b as there are. -/
def xabb : List UInt8 := [120, 97, 98, 98]
theorem m_xabb : M xabb (catT (letT 97) (starT (letT 98))) 1 4 :=
  .cat _ _ _ _ 2 _ (.byte _ 1 97 rfl (by rw [has_a]; rfl)) (.more _ _ 2 3 4 (.more _ _ 2 2 3 (.nil _ _ 2 (by decide)) (.byte _ 2 98 rfl (by rw [has_b]; rfl))) (.byte _ 3 98 rfl (by rw [has_b]; rfl)))
theorem xabb_only {a b : Nat} (h : M xabb (catT (letT 97) (starT (letT 98))) a b) : 1 < a ∨ (1 = a ∧ b ≤ 4) := by
  have hle := h.le
  unfold catT at h
  cases h with
  | cat _ _ _ _ m _ h1 h2 =>
    obtain ⟨_, y, h3, h4⟩ := m_let h1
    rw [has_a] at h4
    have hy : y = 97 := by simpa using h4
    subst hy
    have hl : xabb.length = 4 := rfl
    match a, h3 with
    | 0, h3 => exact absurd h3 (by decide)
    | 1, _ => exact .inr ⟨rfl, by omega⟩
    | a + 2, _ => exact .inl (by omega)
theorem xabb_found {is : Bool} {i j : Nat} (h : Found xabb (catT (letT 97) (starT (letT 98))) is i j) : is = true ∧ i = 1 ∧ j = 4 := by
  have hi : is = true := h.iff.2 ⟨1, 4, m_xabb⟩
  subst hi
  have := h.uniq m_xabb fun a b m => xabb_only m
  exact ⟨rfl, this.1, this.2⟩
/-- "baa": nothing at the beginning. -/
def baa : List UInt8 := [98, 97, 97]
theorem baa_star {j : Nat} (h : M baa (starT (letT 97)) 0 j) : j = 0 := by
  have : ∀ t i j, M baa t i j → t = starT (letT 97) → i = 0 → j = 0 := by
    intro t i j h
    induction h with
    | nil s a i _ => intro _ hi; exact hi
    | more s a i j k _ m2 h1 _ =>
      intro ht hi
      have hj := h1 ht hi
      subst hj
      unfold starT at ht
      injection ht with _ _ ht
      injection ht with ht _
      subst ht
      obtain ⟨_, y, h3, h4⟩ := m_let m2
      rw [has_a] at h4
      have hy : y = 97 := by simpa using h4
      subst hy
      exact absurd h3 (by decide)
    | empty s i _ => intro _ hi; exact hi
    | byte s i x _ _ => intro ht; exact absurd ht (by unfold starT; intro e; injection e with e; exact absurd e (by decide))
    | cat s a b i j k _ _ _ _ => intro ht; exact absurd ht (by unfold starT; intro e; injection e with e; exact absurd e (by decide))
    | altl s a b i j _ _ => intro ht; exact absurd ht (by unfold starT; intro e; injection e with e; exact absurd e (by decide))
    | altr s a b i j _ _ => intro ht; exact absurd ht (by unfold starT; intro e; injection e with e; exact absurd e (by decide))
    | begin s => intro _ _; rfl
    | finish s => intro ht; exact absurd ht (by unfold starT; intro e; injection e with e; exact absurd e (by decide))
  exact this _ _ _ h rfl rfl
theorem baa_found {is : Bool} {i j : Nat} (h : Found baa (starT (letT 97)) is i j) : is = true ∧ i = 0 ∧ j = 0 := by
  have m0 : M baa (starT (letT 97)) 0 0 := .nil _ _ 0 (by decide)
  have hi : is = true := h.iff.2 ⟨0, 0, m0⟩
  subst hi
  have := h.uniq m0 fun a b m => by
    rcases Nat.eq_zero_or_pos a with rfl | ha
    · exact .inr ⟨rfl, Nat.le_of_eq (baa_star m)⟩
    · exact .inl ha
  exact ⟨rfl, this.1, this.2⟩

/-! A piece of a text that is matched by itself. -/
theorem piece_iff {l : List UInt8} {t : Tree} (a b : Nat) (hab : a ≤ b) (hb : b ≤ l.length) (h7 : asksT 7 t = false) (h8 : asksT 8 t = false) : M ((l.take b).drop a) t 0 (b - a) ↔ M l t a b := by
  have hl : l = l.take a ++ ((l.take b).drop a ++ l.drop b) := by
    rw [← List.append_assoc]
    have : l.take a ++ (l.take b).drop a = l.take b := by
      have := List.take_append_drop a (l.take b)
      rw [List.take_take, Nat.min_eq_left hab] at this
      exact this
    rw [this, List.take_append_drop]
  have h1 : (l.take a).length = a := by rw [List.length_take]; omega
  have h2 : ((l.take b).drop a).length = b - a := by rw [List.length_drop, List.length_take]; omega
  constructor
  · intro h
    have := h.lift (p := l.take a) (q := l.drop b) h7 h8
    rw [← hl, h1, Nat.add_zero, show a + (b - a) = b by omega] at this
    exact this
  · intro h
    have := h.down (l.take a) ((l.take b).drop a) (l.drop b) hl h7 h8 (by omega) (by omega)
    rw [h1, Nat.sub_self] at this
    exact this
end Go.Proofs.YtipkelbbfgidhaaGreatDoor
