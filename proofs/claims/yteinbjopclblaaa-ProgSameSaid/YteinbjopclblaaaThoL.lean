/- Instructions: what an expression's code is, its paths, and that they are the spans; in plain lists. -/
import Derived.Test.YteinbjopclblaaaRexL
namespace Go.Proofs.Yteinbjopclblaaa
open Go.RowKit

structure Ins where
  kind : Int
  a : Int
  b : Int
  set : Set4
deriving DecidableEq

/-- The code of an expression at a place. -/
inductive Code : Tree → Nat → List Ins → Prop
  | none (S : Set4) (at_ : Nat) : Code (.node 1 S []) at_ [⟨1, 0, 0, S⟩]
  | empty (S : Set4) (at_ : Nat) : Code (.node 2 S []) at_ []
  | byte (S : Set4) (at_ : Nat) : Code (.node 3 S []) at_ [⟨1, 0, 0, S⟩]
  | begin (S : Set4) (at_ : Nat) : Code (.node 7 S []) at_ [⟨4, 0, 0, .zero⟩]
  | finish (S : Set4) (at_ : Nat) : Code (.node 8 S []) at_ [⟨5, 0, 0, .zero⟩]
  | cat (S : Set4) (a b : Tree) (at_ : Nat) (la lb : List Ins) : Code a at_ la → Code b (at_ + la.length) lb → Code (.node 4 S [a, b]) at_ (la ++ lb)
  | alt (S : Set4) (a b : Tree) (at_ : Nat) (la lb : List Ins) : Code a (at_ + 1) la → Code b (at_ + 1 + la.length + 1) lb →
      Code (.node 5 S [a, b]) at_ (⟨2, at_ + 1, (at_ + 1 + la.length + 1 : Nat), .zero⟩ :: (la ++ ⟨3, (at_ + 1 + la.length + 1 + lb.length : Nat), 0, .zero⟩ :: lb))
  | star (S : Set4) (a : Tree) (at_ : Nat) (la : List Ins) : Code a (at_ + 1) la →
      Code (.node 6 S [a]) at_ (⟨2, at_ + 1, (at_ + 1 + la.length + 1 : Nat), .zero⟩ :: (la ++ [⟨3, at_, 0, .zero⟩]))

/-- One step without a byte. -/
inductive Eps (P : List Ins) (s : List UInt8) (i : Nat) : Nat → Nat → Prop
  | one (n : Nat) (x : Ins) : P[n]? = some x → x.kind = 2 → Eps P s i n x.a.toNat
  | two (n : Nat) (x : Ins) : P[n]? = some x → x.kind = 2 → Eps P s i n x.b.toNat
  | jump (n : Nat) (x : Ins) : P[n]? = some x → x.kind = 3 → Eps P s i n x.a.toNat
  | begin (n : Nat) (x : Ins) : P[n]? = some x → x.kind = 4 → i = 0 → Eps P s i n (n + 1)
  | finish (n : Nat) (x : Ins) : P[n]? = some x → x.kind = 5 → i = s.length → Eps P s i n (n + 1)
def ByteAt (P : List Ins) (s : List UInt8) (i n : Nat) : Prop := ∃ x c, P[n]? = some x ∧ x.kind = 1 ∧ s[i]? = some c ∧ hasB x.set c = true
/-- A path of so many steps. -/
inductive Path (P : List Ins) (s : List UInt8) (N j : Nat) : Nat → Nat → Nat → Prop
  | here : Path P s N j 0 N j
  | eps (L n m i : Nat) : Eps P s i n m → Path P s N j L m i → Path P s N j (L + 1) n i
  | byte (L n i : Nat) : ByteAt P s i n → Path P s N j L (n + 1) (i + 1) → Path P s N j (L + 1) n i
theorem Path.trans {P : List Ins} {s : List UInt8} {N j N' j' L : Nat} {n i : Nat} (h : Path P s N j L n i) : ∀ {L'}, Path P s N' j' L' N j → Path P s N' j' (L + L') n i := by
  induction h with
  | here => intro L' h2; rw [Nat.zero_add]; exact h2
  | eps L n m i h1 _ ih => intro L' h2; rw [show L + 1 + L' = (L + L') + 1 by omega]; exact .eps _ _ _ _ h1 (ih h2)
  | byte L n i h1 _ ih => intro L' h2; rw [show L + 1 + L' = (L + L') + 1 by omega]; exact .byte _ _ _ h1 (ih h2)

/-- The fragment lies in the program. -/
def Lies (P : List Ins) (at_ : Nat) (l : List Ins) : Prop := ∀ k, k < l.length → P[at_ + k]? = l[k]?
theorem Lies.left {P : List Ins} {at_ : Nat} {l m : List Ins} (h : Lies P at_ (l ++ m)) : Lies P at_ l := fun k hk => by
  rw [h k (by rw [List.length_append]; omega), List.getElem?_append_left hk]
theorem Lies.right {P : List Ins} {at_ : Nat} {l m : List Ins} (h : Lies P at_ (l ++ m)) : Lies P (at_ + l.length) m := fun k hk => by
  rw [Nat.add_assoc, h (l.length + k) (by rw [List.length_append]; omega), List.getElem?_append_right (by omega), Nat.add_sub_cancel_left]
theorem Lies.tail {P : List Ins} {at_ : Nat} {x : Ins} {l : List Ins} (h : Lies P at_ (x :: l)) : P[at_]? = some x ∧ Lies P (at_ + 1) l :=
  ⟨h 0 (by simp), fun k hk => by rw [show at_ + 1 + k = at_ + (k + 1) by omega, h (k + 1) (by simpa using hk)]; rfl⟩

theorem M.front {s : List UInt8} {S : Set4} {a : Tree} {i k j : Nat} (h1 : M s a i k) (h2 : M s (.node 6 S [a]) k j) : M s (.node 6 S [a]) i j := by
  have : ∀ t k j, M s t k j → t = .node 6 S [a] → ∀ i, M s a i k → M s (.node 6 S [a]) i j := by
    intro t k j h
    induction h with
    | nil S' a' q hq => intro e i hi; exact .more S a i i q (.nil S a i (by have := hi.le; omega)) hi
    | more S' a' q r u m1 m2 ih1 _ =>
      intro e i hi
      have h3 := ih1 e i hi
      injection e with _ _ e
      injection e with e _
      subst e
      exact .more S a' i r u h3 m2
    | empty S' q _ => intro e; exact absurd e (by intro e; injection e with e; exact absurd e (by decide))
    | byte S' q x _ _ => intro e; exact absurd e (by intro e; injection e with e; exact absurd e (by decide))
    | cat S' a' b q r u _ _ _ _ => intro e; exact absurd e (by intro e; injection e with e; exact absurd e (by decide))
    | altl S' a' b q r _ _ => intro e; exact absurd e (by intro e; injection e with e; exact absurd e (by decide))
    | altr S' a' b q r _ _ => intro e; exact absurd e (by intro e; injection e with e; exact absurd e (by decide))
    | begin S' => intro e; exact absurd e (by intro e; injection e with e; exact absurd e (by decide))
    | finish S' => intro e; exact absurd e (by intro e; injection e with e; exact absurd e (by decide))
  exact this _ k j h2 rfl i h1

/-- What an instruction at a place lets through. -/
theorem path_split {P : List Ins} {s : List UInt8} {N j L n i : Nat} {x : Ins} (h : Path P s N j L n i) (hx : P[n]? = some x) (hN : N ≠ n) :
    ∃ L', L = L' + 1 ∧ ((x.kind = 2 ∧ (Path P s N j L' x.a.toNat i ∨ Path P s N j L' x.b.toNat i)) ∨ (x.kind = 3 ∧ Path P s N j L' x.a.toNat i) ∨ (x.kind = 4 ∧ i = 0 ∧ Path P s N j L' (n + 1) i) ∨
      (x.kind = 5 ∧ i = s.length ∧ Path P s N j L' (n + 1) i) ∨ (x.kind = 1 ∧ ∃ c, s[i]? = some c ∧ hasB x.set c = true ∧ Path P s N j L' (n + 1) (i + 1))) := by
  cases h with
  | here => exact absurd rfl hN
  | eps L' _ m _ he hp =>
    refine ⟨L', rfl, ?_⟩
    cases he with
    | one y hy hk => rw [hx] at hy; injection hy with hy; subst hy; exact .inl ⟨hk, .inl hp⟩
    | two y hy hk => rw [hx] at hy; injection hy with hy; subst hy; exact .inl ⟨hk, .inr hp⟩
    | jump y hy hk => rw [hx] at hy; injection hy with hy; subst hy; exact .inr (.inl ⟨hk, hp⟩)
    | begin y hy hk h0 => rw [hx] at hy; injection hy with hy; subst hy; exact .inr (.inr (.inl ⟨hk, h0, hp⟩))
    | finish y hy hk h0 => rw [hx] at hy; injection hy with hy; subst hy; exact .inr (.inr (.inr (.inl ⟨hk, h0, hp⟩)))
  | byte L' _ _ hb hp =>
    obtain ⟨y, c, hy, hk, hc, hh⟩ := hb
    rw [hx] at hy; injection hy with hy; subst hy
    exact ⟨L', rfl, .inr (.inr (.inr (.inr ⟨hk, c, hc, hh, hp⟩)))⟩

theorem fine_none {S : Set4} (h : Fine (.node 1 S [])) (c : UInt8) : hasB S c = false := by
  rw [Fine] at h
  have h1 := h.1
  unfold badT at h1
  have h2 : S = Set4.zero := by
    cases hq : decide (S = Set4.zero) with
    | true => exact of_decide_eq_true hq
    | false => rw [hq] at h1; simp at h1
  subst h2
  unfold hasB Set4.word Set4.zero
  simp
theorem fine_kids {k : Int} {S : Set4} {ts : List Tree} (h : Fine (.node k S ts)) : FineL ts := by rw [Fine] at h; exact h.2
theorem fine_two {a b : Tree} (h : FineL [a, b]) : Fine a ∧ Fine b := by rw [FineL, FineL] at h; exact ⟨h.1, h.2.1⟩
theorem fine_one {a : Tree} (h : FineL [a]) : Fine a := by rw [FineL] at h; exact h.1

/-- A path out of a fragment passes its end, behind a span. -/
theorem code_out {P : List Ins} {s : List UInt8} {N j : Nat} {t : Tree} {at_ : Nat} {l : List Ins} (hc : Code t at_ l) : Lies P at_ l → (N < at_ ∨ at_ + l.length ≤ N) → Fine t →
    ∀ L i, i ≤ s.length → Path P s N j L at_ i → ∃ k L', L' ≤ L ∧ M s t i k ∧ Path P s N j L' (at_ + l.length) k := by
  induction hc with
  | none S at_ =>
    intro hl hN hf L i hi hp
    obtain ⟨L', _, h⟩ := path_split hp hl.tail.1 (by simp at hN; omega)
    rcases h with ⟨h, _⟩ | ⟨h, _⟩ | ⟨h, _⟩ | ⟨h, _⟩ | ⟨_, c, _, h, _⟩
    · cases h
    · cases h
    · cases h
    · cases h
    · rw [fine_none hf] at h; cases h
  | empty S at_ =>
    intro _ _ _ L i hi hp
    exact ⟨i, L, Nat.le_refl _, .empty S i hi, hp⟩
  | byte S at_ =>
    intro hl hN hf L i hi hp
    obtain ⟨L', hL, h⟩ := path_split hp hl.tail.1 (by simp at hN; omega)
    rcases h with ⟨h, _⟩ | ⟨h, _⟩ | ⟨h, _⟩ | ⟨h, _⟩ | ⟨_, c, hc, h, hp'⟩
    · cases h
    · cases h
    · cases h
    · cases h
    · exact ⟨i + 1, L', by omega, .byte S i c hc h, hp'⟩
  | begin S at_ =>
    intro hl hN hf L i hi hp
    obtain ⟨L', hL, h⟩ := path_split hp hl.tail.1 (by simp at hN; omega)
    rcases h with ⟨h, _⟩ | ⟨h, _⟩ | ⟨_, h0, hp'⟩ | ⟨h, _⟩ | ⟨h, _⟩
    · cases h
    · cases h
    · subst h0; exact ⟨0, L', by omega, .begin S, hp'⟩
    · cases h
    · cases h
  | finish S at_ =>
    intro hl hN hf L i hi hp
    obtain ⟨L', hL, h⟩ := path_split hp hl.tail.1 (by simp at hN; omega)
    rcases h with ⟨h, _⟩ | ⟨h, _⟩ | ⟨h, _⟩ | ⟨_, h0, hp'⟩ | ⟨h, _⟩
    · cases h
    · cases h
    · cases h
    · subst h0; exact ⟨_, L', by omega, .finish S, hp'⟩
    · cases h
  | cat S a b at_ la lb _ _ iha ihb =>
    intro hl hN hf L i hi hp
    rw [List.length_append] at hN
    have hfk := fine_two (fine_kids hf)
    obtain ⟨k, L1, h1, m1, p1⟩ := iha hl.left (by omega) hfk.1 L i hi hp
    obtain ⟨k2, L2, h2, m2, p2⟩ := ihb hl.right (by omega) hfk.2 L1 k m1.le.2 p1
    exact ⟨k2, L2, by omega, .cat S a b i k k2 m1 m2, by rw [List.length_append, ← Nat.add_assoc]; exact p2⟩
  | alt S a b at_ la lb _ _ iha ihb =>
    intro hl hN hf L i hi hp
    have hfk := fine_two (fine_kids hf)
    have hlen : (⟨2, at_ + 1, (at_ + 1 + la.length + 1 : Nat), .zero⟩ :: (la ++ ⟨3, (at_ + 1 + la.length + 1 + lb.length : Nat), 0, .zero⟩ :: lb) : List Ins).length = 1 + la.length + 1 + lb.length := by
      simp only [List.length_cons, List.length_append]; omega
    rw [hlen] at hN ⊢
    obtain ⟨hx, hl1⟩ := hl.tail
    have hl2 := hl1.left
    obtain ⟨hj, hl3⟩ := hl1.right.tail
    obtain ⟨L', hL, h⟩ := path_split hp hx (by omega)
    rcases h with ⟨_, hp' | hp'⟩ | ⟨h, _⟩ | ⟨h, _⟩ | ⟨h, _⟩ | ⟨h, _⟩
    · have e : ((at_ : Int) + 1).toNat = at_ + 1 := by omega
      rw [e] at hp'
      obtain ⟨k, L1, h1, m1, p1⟩ := iha hl2 (by omega) hfk.1 L' i hi hp'
      obtain ⟨L2, hL2, h2⟩ := path_split p1 hj (by omega)
      rcases h2 with ⟨h, _⟩ | ⟨_, p2⟩ | ⟨h, _⟩ | ⟨h, _⟩ | ⟨h, _⟩
      · cases h
      · rw [Int.toNat_natCast] at p2
        exact ⟨k, L2, by omega, .altl S a b i k m1, by rw [show at_ + (1 + la.length + 1 + lb.length) = at_ + 1 + la.length + 1 + lb.length by omega]; exact p2⟩
      · cases h
      · cases h
      · cases h
    · rw [Int.toNat_natCast] at hp'
      obtain ⟨k, L1, h1, m1, p1⟩ := ihb hl3 (by omega) hfk.2 L' i hi hp'
      exact ⟨k, L1, by omega, .altr S a b i k m1, by rw [show at_ + (1 + la.length + 1 + lb.length) = at_ + 1 + la.length + 1 + lb.length by omega]; exact p1⟩
    · cases h
    · cases h
    · cases h
    · cases h
  | star S a at_ la _ iha =>
    intro hl hN hf L
    have hfk := fine_one (fine_kids hf)
    have hlen : (⟨2, at_ + 1, (at_ + 1 + la.length + 1 : Nat), .zero⟩ :: (la ++ [⟨3, at_, 0, .zero⟩]) : List Ins).length = 1 + la.length + 1 := by
      simp only [List.length_cons, List.length_append, List.length_nil]; omega
    rw [hlen] at hN ⊢
    obtain ⟨hx, hl1⟩ := hl.tail
    have hl2 := hl1.left
    obtain ⟨hj, _⟩ := hl1.right.tail
    induction L using Nat.strongRecOn with
    | ind L ihL =>
      intro i hi hp
      obtain ⟨L', hL, h⟩ := path_split hp hx (by omega)
      rcases h with ⟨_, hp' | hp'⟩ | ⟨h, _⟩ | ⟨h, _⟩ | ⟨h, _⟩ | ⟨h, _⟩
      · have e : ((at_ : Int) + 1).toNat = at_ + 1 := by omega
        rw [e] at hp'
        obtain ⟨k, L1, h1, m1, p1⟩ := iha hl2 (by omega) hfk L' i hi hp'
        obtain ⟨L2, hL2, h2⟩ := path_split p1 hj (by omega)
        rcases h2 with ⟨h, _⟩ | ⟨_, p2⟩ | ⟨h, _⟩ | ⟨h, _⟩ | ⟨h, _⟩
        · cases h
        · rw [Int.toNat_natCast] at p2
          obtain ⟨k3, L3, h3, m3, p3⟩ := ihL L2 (by omega) k m1.le.2 p2
          exact ⟨k3, L3, by omega, m1.front m3, p3⟩
        · cases h
        · cases h
        · cases h
      · rw [Int.toNat_natCast] at hp'
        exact ⟨i, L', by omega, .nil S a i hi, by rw [show at_ + (1 + la.length + 1) = at_ + 1 + la.length + 1 by omega]; exact hp'⟩
      · cases h
      · cases h
      · cases h
      · cases h

/-- A span is a path. -/
theorem code_in {P : List Ins} {s : List UInt8} {t : Tree} {at_ : Nat} {l : List Ins} (hc : Code t at_ l) : Lies P at_ l → ∀ i j, M s t i j → ∃ L, Path P s (at_ + l.length) j L at_ i := by
  induction hc with
  | none S at_ => intro _ i j m; cases m
  | empty S at_ => intro _ i j m; cases m; exact ⟨0, .here⟩
  | byte S at_ =>
    intro hl i j m
    cases m with
    | byte _ _ x h1 h2 => exact ⟨1, .byte _ _ _ ⟨_, x, hl.tail.1, rfl, h1, h2⟩ .here⟩
  | begin S at_ => intro hl i j m; cases m; exact ⟨1, .eps _ _ _ _ (.begin _ _ hl.tail.1 rfl rfl) .here⟩
  | finish S at_ => intro hl i j m; cases m; exact ⟨1, .eps _ _ _ _ (.finish _ _ hl.tail.1 rfl rfl) .here⟩
  | cat S a b at_ la lb _ _ iha ihb =>
    intro hl i j m
    cases m with
    | cat _ _ _ _ k _ m1 m2 =>
      obtain ⟨L1, p1⟩ := iha hl.left i k m1
      obtain ⟨L2, p2⟩ := ihb hl.right k j m2
      exact ⟨L1 + L2, p1.trans (by rw [List.length_append, ← Nat.add_assoc]; exact p2)⟩
  | alt S a b at_ la lb _ _ iha ihb =>
    intro hl i j m
    have hlen : (⟨2, at_ + 1, (at_ + 1 + la.length + 1 : Nat), .zero⟩ :: (la ++ ⟨3, (at_ + 1 + la.length + 1 + lb.length : Nat), 0, .zero⟩ :: lb) : List Ins).length = 1 + la.length + 1 + lb.length := by
      simp only [List.length_cons, List.length_append]; omega
    rw [hlen, show at_ + (1 + la.length + 1 + lb.length) = at_ + 1 + la.length + 1 + lb.length by omega]
    obtain ⟨hx, hl1⟩ := hl.tail
    obtain ⟨hj, hl3⟩ := hl1.right.tail
    cases m with
    | altl _ _ _ _ _ m1 =>
      obtain ⟨L1, p1⟩ := iha hl1.left i j m1
      have e1 := Eps.one (s := s) (i := i) at_ _ hx rfl
      have e : ((at_ : Int) + 1).toNat = at_ + 1 := by omega
      dsimp only at e1
      rw [e] at e1
      have e2 := Eps.jump (s := s) (i := j) _ _ hj rfl
      dsimp only at e2
      rw [Int.toNat_natCast] at e2
      exact ⟨_, .eps _ _ _ _ e1 (p1.trans (.eps _ _ _ _ e2 .here))⟩
    | altr _ _ _ _ _ m1 =>
      obtain ⟨L1, p1⟩ := ihb hl3 i j m1
      have e1 := Eps.two (s := s) (i := i) at_ _ hx rfl
      dsimp only at e1
      rw [Int.toNat_natCast] at e1
      exact ⟨_, .eps _ _ _ _ e1 p1⟩
  | star S a at_ la _ iha =>
    intro hl i j m
    have hlen : (⟨2, at_ + 1, (at_ + 1 + la.length + 1 : Nat), .zero⟩ :: (la ++ [⟨3, at_, 0, .zero⟩]) : List Ins).length = 1 + la.length + 1 := by
      simp only [List.length_cons, List.length_append, List.length_nil]; omega
    rw [hlen, show at_ + (1 + la.length + 1) = at_ + 1 + la.length + 1 by omega]
    obtain ⟨hx, hl1⟩ := hl.tail
    obtain ⟨hj, _⟩ := hl1.right.tail
    have hrun : ∀ t i j, M s t i j → t = .node 6 S [a] → ∃ L, Path P s at_ j L at_ i := by
      intro t i j h
      induction h with
      | nil S' a' q _ => intro _; exact ⟨0, .here⟩
      | more S' a' q r u m1 m2 ih1 _ =>
        intro e
        obtain ⟨L1, p1⟩ := ih1 e
        injection e with _ _ e
        injection e with e _
        subst e
        obtain ⟨L2, p2⟩ := iha hl1.left r u m2
        have e1 := Eps.one (s := s) (i := r) at_ _ hx rfl
        have e : ((at_ : Int) + 1).toNat = at_ + 1 := by omega
        dsimp only at e1
        rw [e] at e1
        have e2 := Eps.jump (s := s) (i := u) _ _ hj rfl
        dsimp only at e2
        rw [Int.toNat_natCast] at e2
        exact ⟨_, p1.trans (.eps _ _ _ _ e1 (p2.trans (.eps _ _ _ _ e2 .here)))⟩
      | empty S' q _ => intro e; exact absurd e (by intro e; injection e with e; exact absurd e (by decide))
      | byte S' q x _ _ => intro e; exact absurd e (by intro e; injection e with e; exact absurd e (by decide))
      | cat S' a' b q r u _ _ _ _ => intro e; exact absurd e (by intro e; injection e with e; exact absurd e (by decide))
      | altl S' a' b q r _ _ => intro e; exact absurd e (by intro e; injection e with e; exact absurd e (by decide))
      | altr S' a' b q r _ _ => intro e; exact absurd e (by intro e; injection e with e; exact absurd e (by decide))
      | begin S' => intro e; exact absurd e (by intro e; injection e with e; exact absurd e (by decide))
      | finish S' => intro e; exact absurd e (by intro e; injection e with e; exact absurd e (by decide))
    obtain ⟨L1, p1⟩ := hrun _ i j m rfl
    have e1 := Eps.two (s := s) (i := j) at_ _ hx rfl
    dsimp only at e1
    rw [Int.toNat_natCast] at e1
    exact ⟨_, p1.trans (.eps _ _ _ _ e1 .here)⟩

/-- The whole program: its code, then the match. -/
theorem prog_iff {s : List UInt8} {t : Tree} {l : List Ins} (hc : Code t 0 l) (hf : Fine t) (x : Ins) (hx : x.kind = 6) (i j : Nat) (hi : i ≤ s.length) : (∃ L, Path (l ++ [x]) s l.length j L 0 i) ↔ M s t i j := by
  have hl : Lies (l ++ [x]) 0 l := fun k hk => by rw [Nat.zero_add, List.getElem?_append_left hk]
  constructor
  · rintro ⟨L, p⟩
    obtain ⟨k, L', _, m, p'⟩ := code_out hc hl (.inr (by omega)) hf L i hi p
    rw [Nat.zero_add] at p'
    have hM : (l ++ [x])[l.length]? = some x := by rw [List.getElem?_append_right (Nat.le_refl _)]; simp
    have : k = j := by
      cases p' with
      | here => rfl
      | eps _ _ m' _ he _ =>
        cases he with
        | one y hy hk => rw [hM] at hy; injection hy with hy; rw [← hy, hx] at hk; cases hk
        | two y hy hk => rw [hM] at hy; injection hy with hy; rw [← hy, hx] at hk; cases hk
        | jump y hy hk => rw [hM] at hy; injection hy with hy; rw [← hy, hx] at hk; cases hk
        | begin y hy hk _ => rw [hM] at hy; injection hy with hy; rw [← hy, hx] at hk; cases hk
        | finish y hy hk _ => rw [hM] at hy; injection hy with hy; rw [← hy, hx] at hk; cases hk
      | byte _ _ _ hb _ =>
        obtain ⟨y, c, hy, hk, _⟩ := hb
        rw [hM] at hy; injection hy with hy; rw [← hy, hx] at hk; cases hk
    subst this
    exact m
  · intro m
    obtain ⟨L, p⟩ := code_in hc hl i j m
    rw [Nat.zero_add] at p
    exact ⟨L, p⟩
end Go.Proofs.Yteinbjopclblaaa
