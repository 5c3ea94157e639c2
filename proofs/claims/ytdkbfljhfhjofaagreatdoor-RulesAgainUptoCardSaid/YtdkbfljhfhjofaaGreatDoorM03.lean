/- Part 3 of the proof: lemmas and walks that the last texts use. -/
import Derived.Test.YtdkbfljhfhjofaaGreatDoorM02
import Derived.Test.YtdkbfljhfhjofaaGreatDoorRows
import Derived.Lib.SplitLaws
import Derived.Lib.Join
namespace Go.Proofs.YtdkbfljhfhjofaaGreatDoor
open Go.RowKit
theorem part_le {H : Type} : ∀ {l : List (DataW H)} {d : DataW H}, d ∈ l → Rows.uptoBulk d ≤ Rows.uptoBulkAll l
  | [], _, h => by cases h
  | x :: r, d, h => by
    rw [Rows.uptoBulkAll]
    rcases List.mem_cons.1 h with rfl | h
    · omega
    · have := part_le h; omega
theorem bulk_pos {H : Type} (d : DataW H) : 1 ≤ Rows.uptoBulk d := by
  cases d with
  | lit x => cases x <;> simp [Rows.uptoBulk]
  | _ => simp [Rows.uptoBulk]
theorem bulk_count {H : Type} : ∀ l : List (DataW H), l.length ≤ Rows.uptoBulkAll l
  | [] => by simp [Rows.uptoBulkAll]
  | x :: r => by
    have h1 := bulk_pos x
    have h2 := bulk_count r
    rw [Rows.uptoBulkAll, List.length_cons]
    omega
theorem slice_bulk {H : Type} {l sp : List (DataW H)} : l.length + 1 ≤ Rows.uptoBulk (.slice l sp) := by
  have := bulk_count l
  rw [Rows.uptoBulk]
  omega
end Go.Proofs.YtdkbfljhfhjofaaGreatDoor
namespace Go.Proofs.YtdkbfljhfhjofaaGreatDoor
open Go.RowKit
/-- The pieces between a byte's occurrences. -/
def splL (c : UInt8) : List UInt8 → List (List UInt8)
  | [] => [[]]
  | b :: l => if b = c then [] :: splL c l else match splL c l with
    | [] => [[b]]
    | x :: r => (b :: x) :: r
theorem splL_ne (c : UInt8) (l : List UInt8) : splL c l ≠ [] := by
  cases l with
  | nil => simp [splL]
  | cons b l =>
    rw [splL]
    split
    · simp
    · split <;> simp
theorem splL_append (c : UInt8) (s t : List UInt8) : splL c (s ++ c :: t) = splL c s ++ splL c t := by
  induction s with
  | nil => show splL c (c :: t) = [] :: splL c t; simp [splL]
  | cons b s ih =>
    have e1 : ∀ l, splL c (b :: l) = if b = c then [] :: splL c l else match splL c l with | [] => [[b]] | x :: r => (b :: x) :: r := fun l => by rw [splL]
    rw [List.cons_append, e1, e1, ih]
    split
    · rfl
    · cases h : splL c s with
      | nil => exact absurd h (splL_ne c s)
      | cons x r => rfl
theorem splL_len (c : UInt8) (l : List UInt8) : (splL c l).length ≤ l.length + 1 := by
  induction l with
  | nil => exact Nat.le_refl _
  | cons b l ih =>
    rw [splL]
    split
    · simp only [List.length_cons]; omega
    · cases h : splL c l with
      | nil => simp
      | cons x r => rw [h] at ih; simp only [List.length_cons] at ih ⊢; omega
theorem splL_piece (c : UInt8) (l : List UInt8) : ∀ x ∈ splL c l, x.length ≤ l.length := by
  induction l with
  | nil => intro x hx; simp [splL] at hx; subst hx; exact Nat.le_refl _
  | cons b l ih =>
    intro x hx
    rw [splL] at hx
    split at hx
    · rcases List.mem_cons.1 hx with h | h
      · subst h; simp
      · have := ih x h; simp only [List.length_cons]; omega
    · cases h : splL c l with
      | nil => exact absurd h (splL_ne c l)
      | cons y r =>
        rw [h] at hx ih
        rcases List.mem_cons.1 hx with h1 | h1
        · subst h1; have := ih y (by simp); simp only [List.length_cons]; omega
        · have := ih x (by simp [h1]); simp only [List.length_cons]; omega
theorem index_cons_ne (b c : UInt8) (l : List UInt8) (h : b ≠ c) : Lib.index (b :: l) [c] = if Lib.index l [c] == -1 then -1 else Lib.index l [c] + 1 := by
  have hp : ([c] : List UInt8).isPrefixOf (b :: l) = false := by simp [List.isPrefixOf, Ne.symm h]
  rw [Lib.index, hp]; simp
theorem splitK_one (c : UInt8) : ∀ l : List UInt8, Lib.splitK [c] 0 (Lib.count l [c]) l = splL c l
  | [] => by rw [Lib.count_miss (by simp [Lib.index])]; rfl
  | b :: l => by
    have ih := splitK_one c l
    by_cases h : b = c
    · subst h
      have hix : Lib.index (b :: l) [b] = 0 := by rw [Lib.index]; simp [List.isPrefixOf]
      rw [Lib.count_cons_eq, Nat.add_comm, Lib.splitK, if_neg (by rw [hix]; decide), hix, splL, if_pos rfl, ← ih]
      rfl
    · rw [Lib.count_cons_ne b c l h, splL, if_neg h, ← ih]
      by_cases hm : Lib.index l [c] = -1
      · rw [Lib.count_miss hm]; rfl
      · have hge := Lib.index_ge l [c]
        obtain ⟨j, hj⟩ : ∃ j : Nat, Lib.index l [c] = j := ⟨(Lib.index l [c]).toNat, by omega⟩
        have e : Lib.count l [c] = Lib.count (l.drop (j + 1)) [c] + 1 := by rw [Lib.count_hit (by simp) hj, Nat.add_comm]; rfl
        have hix : Lib.index (b :: l) [c] = ((j + 1 : Nat) : Int) := by rw [index_cons_ne b c l h, if_neg (fun e => hm (beq_iff_eq.1 e)), hj]; omega
        rw [e, Lib.splitK, if_neg (by rw [hix, beq_iff_eq]; omega), hix, Lib.splitK, if_neg (by rw [hj, beq_iff_eq]; omega), hj]
        rfl
/-- What Split hands back at one byte. -/
theorem split_one (c : UInt8) (s : ByteArray) : (Lib.splitB ⟨#[c]⟩ 0 (Lib.countB s ⟨#[c]⟩) s).map (·.data.toList) = splL c s.data.toList := by
  rw [Lib.splitB_data]
  exact splitK_one c _
theorem cut_back (c : UInt8) (l : List UInt8) : ((Lib.cut l [c]).2.2 = true → (Lib.cut l [c]).1 ++ c :: (Lib.cut l [c]).2.1 = l) ∧ ((Lib.cut l [c]).2.2 = false → (Lib.cut l [c]).1 = l ∧ (Lib.cut l [c]).2.1 = []) := by
  unfold Lib.cut
  by_cases h : 0 ≤ Lib.index l [c]
  · rw [if_pos h]
    refine ⟨fun _ => ?_, fun e => (by cases e)⟩
    have : ∀ l : List UInt8, 0 ≤ Lib.index l [c] → l.take (Lib.index l [c]).toNat ++ c :: l.drop ((Lib.index l [c]).toNat + 1) = l := by
      intro l
      induction l with
      | nil => intro h; exact absurd h (by simp [Lib.index])
      | cons b l ih =>
        intro h
        by_cases hb : b = c
        · subst hb
          have hix : Lib.index (b :: l) [b] = 0 := by rw [Lib.index]; simp [List.isPrefixOf]
          rw [hix]; rfl
        · have e := index_cons_ne b c l hb
          by_cases hm : Lib.index l [c] = -1
          · rw [e, if_pos (beq_iff_eq.2 hm)] at h; exact absurd h (by decide)
          · have hge := Lib.index_ge l [c]
            rw [e, if_neg (fun e => hm (beq_iff_eq.1 e))]
            have h2 := ih (by omega)
            rw [show (Lib.index l [c] + 1).toNat = (Lib.index l [c]).toNat + 1 by omega]
            rw [List.take_succ_cons, List.cons_append, List.drop_succ_cons, h2]
    exact this l h
  · rw [if_neg h]
    exact ⟨fun e => (by cases e), fun _ => ⟨rfl, rfl⟩⟩
theorem cut_len (l sep : List UInt8) : (Lib.cut l sep).1.length ≤ l.length ∧ (Lib.cut l sep).2.1.length ≤ l.length := by
  unfold Lib.cut
  split
  · exact ⟨by rw [List.length_take]; exact Nat.min_le_right _ _, by rw [List.length_drop]; exact Nat.sub_le _ _⟩
  · exact ⟨Nat.le_refl _, Nat.zero_le _⟩
end Go.Proofs.YtdkbfljhfhjofaaGreatDoor
namespace Go.Proofs.YtdkbfljhfhjofaaGreatDoor
open Go.RowKit
def wordsL : List (List UInt8) := [[], [108, 111, 119, 101, 114], [117, 114, 108], [104, 101, 120], [98, 97, 115, 101], [104, 116, 109, 108], [112, 97, 116, 104], [115, 113, 117, 101, 101, 122, 101], [110, 111, 110, 117, 108, 108], [116, 114, 105, 109], [108, 101, 110, 103, 116, 104], [99, 109, 100]]
def wordI (k : Int) : List UInt8 := wordsL.getD k.toNat []
theorem word_ok {k : Int} (h1 : 1 ≤ k) (h2 : k ≤ 11) : wordI k ≠ [] ∧ wordI k ≠ [45] ∧ (44 : UInt8) ∉ wordI k ∧ (wordI k).head? ≠ some 45 ∧ (wordI k).length ≤ 7 := by
  obtain ⟨n, rfl⟩ := Int.eq_ofNat_of_zero_le (show 0 ≤ k by omega)
  have hn : n = 1 ∨ n = 2 ∨ n = 3 ∨ n = 4 ∨ n = 5 ∨ n = 6 ∨ n = 7 ∨ n = 8 ∨ n = 9 ∨ n = 10 ∨ n = 11 := by omega
  rcases hn with rfl | rfl | rfl | rfl | rfl | rfl | rfl | rfl | rfl | rfl | rfl <;> decide
theorem word_inj {a b : Int} (h1 : 1 ≤ a) (h2 : a ≤ 11) (h3 : 1 ≤ b) (h4 : b ≤ 11) (h : wordI a = wordI b) : a = b := by
  obtain ⟨n, rfl⟩ := Int.eq_ofNat_of_zero_le (show 0 ≤ a by omega)
  obtain ⟨m, rfl⟩ := Int.eq_ofNat_of_zero_le (show 0 ≤ b by omega)
  have key : ∀ n : Nat, n < 12 → ∀ m : Nat, m < 12 → wordsL.getD n [] = wordsL.getD m [] → n = m := by decide
  have := key n (by omega) m (by omega) h
  rw [this]
theorem splL_whole (c : UInt8) : ∀ w : List UInt8, c ∉ w → splL c w = [w]
  | [], _ => rfl
  | b :: w, h => by
    rw [splL, if_neg (fun e => h (by simp [e])), splL_whole c w (fun e => h (by simp [e]))]
theorem splL_join (c : UInt8) : ∀ ws : List (List UInt8), ws ≠ [] → (∀ w ∈ ws, c ∉ w) → splL c (Lib.join ws [c]) = ws
  | [], h, _ => absurd rfl h
  | [w], _, h => by rw [Lib.join_one]; exact splL_whole c w (h w (by simp))
  | w :: x :: r, _, h => by
    have ih := splL_join c (x :: r) (by simp) (fun y hy => h y (by simp [hy]))
    have e : Lib.join (w :: x :: r) [c] = w ++ c :: Lib.join (x :: r) [c] := by
      rw [Lib.join_cons, Lib.join_cons]
      simp [Lib.joinTail]
    rw [e, splL_append, ih, splL_whole c w (h w (by simp))]
    rfl
def okK (k : Int) : Bool := !(decide (k < 1) || decide (11 < k))
theorem okK_iff (k : Int) : okK k = true ↔ 1 ≤ k ∧ k ≤ 11 := by unfold okK; simp
def checkP (l : List Int) : Int := if 8 < l.length then 2 else if l.all okK = true then 0 else 1
theorem checkP_ok {l : List Int} : checkP l = 0 ↔ l.length ≤ 8 ∧ ∀ x ∈ l, 1 ≤ x ∧ x ≤ 11 := by
  unfold checkP
  by_cases h : 8 < l.length
  · rw [if_pos h]
    exact ⟨fun e => absurd e (by decide), fun e => by omega⟩
  · rw [if_neg h]
    by_cases h2 : l.all okK = true
    · rw [if_pos h2]
      exact ⟨fun _ => ⟨by omega, fun x hx => (okK_iff x).1 (List.all_eq_true.1 h2 x hx)⟩, fun _ => rfl⟩
    · rw [if_neg h2]
      exact ⟨fun e => absurd e (by decide), fun e => absurd (List.all_eq_true.2 fun x hx => (okK_iff x).2 (e.2 x hx)) h2⟩
def printP (l : List Int) : List UInt8 := if l = [] then [45] else Lib.join (l.map wordI) [44]
def ParseIs (s : List UInt8) (ks : List Int) : Prop := (s = [45] ∧ ks = []) ∨ (s ≠ [45] ∧ ks.map wordI = splL 44 s ∧ ks.length ≤ 8 ∧ ∀ x ∈ ks, 1 ≤ x ∧ x ≤ 11)
theorem words_same : ∀ {a b : List Int}, (∀ x ∈ a, 1 ≤ x ∧ x ≤ 11) → (∀ x ∈ b, 1 ≤ x ∧ x ≤ 11) → a.map wordI = b.map wordI → a = b
  | [], [], _, _, _ => rfl
  | [], _ :: _, _, _, h => by cases h
  | _ :: _, [], _, _, h => by cases h
  | x :: a, y :: b, ha, hb, h => by
    simp only [List.map_cons, List.cons.injEq] at h
    rw [word_inj (ha x (by simp)).1 (ha x (by simp)).2 (hb y (by simp)).1 (hb y (by simp)).2 h.1, words_same (fun z hz => ha z (by simp [hz])) (fun z hz => hb z (by simp [hz])) h.2]
theorem print_spl {l : List Int} (hl : l ≠ []) (h : checkP l = 0) : printP l ≠ [45] ∧ splL 44 (printP l) = l.map wordI := by
  have hk := (checkP_ok.1 h).2
  have hs : splL 44 (printP l) = l.map wordI := by
    unfold printP
    rw [if_neg hl]
    exact splL_join 44 _ (by simp [hl]) fun w hw => by
      obtain ⟨x, hx, rfl⟩ := List.mem_map.1 hw
      exact (word_ok (hk x hx).1 (hk x hx).2).2.2.1
  refine ⟨fun e => ?_, hs⟩
  rw [e] at hs
  cases l with
  | nil => exact hl rfl
  | cons x r =>
    have h1 : splL 44 [45] = [[45]] := by decide
    rw [h1, List.map_cons] at hs
    injection hs with h2 _
    exact (word_ok (hk x (by simp)).1 (hk x (by simp)).2).2.1 h2.symm
/-- What is printed is read as it was, and as nothing else. -/
theorem print_parse {l ks : List Int} (h : checkP l = 0) : ParseIs (printP l) ks ↔ ks = l := by
  have hk := (checkP_ok.1 h)
  by_cases hl : l = []
  · subst hl
    constructor
    · rintro (⟨_, h2⟩ | ⟨h2, _⟩)
      · exact h2
      · exact absurd rfl h2
    · rintro rfl; exact .inl ⟨rfl, rfl⟩
  · obtain ⟨h1, h2⟩ := print_spl hl h
    constructor
    · rintro (⟨h3, _⟩ | ⟨_, h3, _, h5⟩)
      · exact absurd h3 h1
      · exact words_same h5 hk.2 (h3.trans h2)
    · rintro rfl; exact .inr ⟨h1, h2.symm, hk.1, hk.2⟩
end Go.Proofs.YtdkbfljhfhjofaaGreatDoor
namespace Go.Proofs.YtdkbfljhfhjofaaGreatDoor
open Go.RowKit
structure Set4 where
  a : Int
  b : Int
  c : Int
  d : Int
deriving DecidableEq
def Set4.zero : Set4 := ⟨0, 0, 0, 0⟩
def Set4.word (s : Set4) (k : Nat) : Int := if k = 0 then s.a else if k = 1 then s.b else if k = 2 then s.c else s.d
def hasB (s : Set4) (x : UInt8) : Bool := s.word (x.toNat / 64) / 2 ^ (x.toNat % 64) % 2 == 1
inductive Tree where
  | node (kind : Int) (set : Set4) (kids : List Tree)
def kidsI (k : Int) : Int := if k = 4 ∨ k = 5 then 2 else if k = 6 then 1 else if k = 1 ∨ k = 2 ∨ k = 3 ∨ k = 7 ∨ k = 8 then 0 else -1
def badT (k : Int) (s : Set4) (n : Nat) : Bool := kidsI k != n || (k == 3) == (decide (s = Set4.zero))
mutual
/-- How many nodes were counted, what went wrong. -/
def chk : Tree → Int → Int → Int × Int
  | .node k s ts, deep, n =>
    if 80 < n + 1 then (n + 1, 2) else if 20 < deep then (n + 1, 11) else if badT k s ts.length = true then (n + 1, 1) else chkL ts (deep + 1) (n + 1)
def chkL : List Tree → Int → Int → Int × Int
  | [], _, n => (n, 0)
  | t :: ts, deep, n => if (chk t deep n).2 ≠ 0 then chk t deep n else chkL ts deep (chk t deep n).1
end
mutual
def Fine : Tree → Prop
  | .node k s ts => badT k s ts.length = false ∧ FineL ts
def FineL : List Tree → Prop
  | [] => True
  | t :: ts => Fine t ∧ FineL ts
end
mutual
theorem chk_fine : ∀ (t : Tree) (deep n : Int), (chk t deep n).2 = 0 → Fine t
  | .node k s ts, deep, n, h => by
    rw [chk] at h
    by_cases c1 : 80 < n + 1
    · rw [if_pos c1] at h; exact absurd (show (2 : Int) = 0 from h) (by decide)
    · rw [if_neg c1] at h
      by_cases c2 : 20 < deep
      · rw [if_pos c2] at h; exact absurd (show (11 : Int) = 0 from h) (by decide)
      · rw [if_neg c2] at h
        cases c3 : badT k s ts.length with
        | true => rw [c3, if_pos rfl] at h; exact absurd (show (1 : Int) = 0 from h) (by decide)
        | false =>
          rw [c3, if_neg (by decide)] at h
          rw [Fine]
          exact ⟨c3, chkL_fine ts _ _ h⟩
theorem chkL_fine : ∀ (ts : List Tree) (deep n : Int), (chkL ts deep n).2 = 0 → FineL ts
  | [], _, _, _ => by rw [FineL]; trivial
  | t :: ts, deep, n, h => by
    rw [chkL] at h
    by_cases c : (chk t deep n).2 ≠ 0
    · rw [if_pos c] at h; exact absurd h c
    · rw [if_neg c] at h
      rw [FineL]
      exact ⟨chk_fine t deep n (Classical.not_not.1 c), chkL_fine ts _ _ h⟩
end
/-- A fine tree by its kind. -/
inductive Shape : Int → List Tree → Prop
  | none : Shape 1 []
  | empty : Shape 2 []
  | byte : Shape 3 []
  | cat (a b : Tree) : Fine a → Fine b → Shape 4 [a, b]
  | alt (a b : Tree) : Fine a → Fine b → Shape 5 [a, b]
  | star (a : Tree) : Fine a → Shape 6 [a]
  | begin : Shape 7 []
  | finish : Shape 8 []
theorem fine_shape {k : Int} {s : Set4} {ts : List Tree} (h : Fine (.node k s ts)) : Shape k ts := by
  rw [Fine] at h
  obtain ⟨h1, h2⟩ := h
  unfold badT at h1
  have h3 : kidsI k = ts.length := by
    cases hq : (kidsI k != (ts.length : Int)) with
    | true => rw [hq] at h1; simp at h1
    | false => simpa using hq
  unfold kidsI at h3
  by_cases c1 : k = 4 ∨ k = 5
  · rw [if_pos c1] at h3
    match ts, h3, h2 with
    | [a, b], _, h2 =>
      rw [FineL, FineL] at h2
      rcases c1 with rfl | rfl
      · exact .cat a b h2.1 h2.2.1
      · exact .alt a b h2.1 h2.2.1
    | [], h3, _ => exact absurd h3 (by decide)
    | [a], h3, _ => exact absurd h3 (by simp)
    | a :: b :: c :: r, h3, _ => simp only [List.length_cons] at h3; omega
  · rw [if_neg c1] at h3
    by_cases c2 : k = 6
    · rw [if_pos c2] at h3
      subst c2
      match ts, h3, h2 with
      | [a], _, h2 => rw [FineL] at h2; exact .star a h2.1
      | [], h3, _ => exact absurd h3 (by decide)
      | a :: b :: r, h3, _ => simp only [List.length_cons] at h3; omega
    · rw [if_neg c2] at h3
      by_cases c3 : k = 1 ∨ k = 2 ∨ k = 3 ∨ k = 7 ∨ k = 8
      · rw [if_pos c3] at h3
        have : ts = [] := List.eq_nil_of_length_eq_zero (by omega)
        subst this
        rcases c3 with rfl | rfl | rfl | rfl | rfl
        · exact .none
        · exact .empty
        · exact .byte
        · exact .begin
        · exact .finish
      · rw [if_neg c3] at h3; omega
/-- A span of a text that an expression matches. -/
inductive M (l : List UInt8) : Tree → Nat → Nat → Prop
  | empty (s : Set4) (i : Nat) : i ≤ l.length → M l (.node 2 s []) i i
  | byte (s : Set4) (i : Nat) (x : UInt8) : l[i]? = some x → hasB s x = true → M l (.node 3 s []) i (i + 1)
  | cat (s : Set4) (a b : Tree) (i j k : Nat) : M l a i j → M l b j k → M l (.node 4 s [a, b]) i k
  | altl (s : Set4) (a b : Tree) (i j : Nat) : M l a i j → M l (.node 5 s [a, b]) i j
  | altr (s : Set4) (a b : Tree) (i j : Nat) : M l b i j → M l (.node 5 s [a, b]) i j
  | nil (s : Set4) (a : Tree) (i : Nat) : i ≤ l.length → M l (.node 6 s [a]) i i
  | more (s : Set4) (a : Tree) (i j k : Nat) : M l (.node 6 s [a]) i j → M l a j k → M l (.node 6 s [a]) i k
  | begin (s : Set4) : M l (.node 7 s []) 0 0
  | finish (s : Set4) : M l (.node 8 s []) l.length l.length
theorem M.le {l : List UInt8} {t : Tree} {i j : Nat} (h : M l t i j) : i ≤ j ∧ j ≤ l.length := by
  induction h with
  | empty s i h => exact ⟨Nat.le_refl _, h⟩
  | byte s i x h _ => have := (List.getElem?_eq_some_iff.1 h).1; omega
  | cat s a b i j k _ _ h1 h2 => omega
  | altl s a b i j _ h => exact h
  | altr s a b i j _ h => exact h
  | nil s a i h => exact ⟨Nat.le_refl _, h⟩
  | more s a i j k _ _ h1 h2 => omega
  | begin s => omega
  | finish s => omega
mutual
def asksT (q : Int) : Tree → Bool
  | .node k _ ts => k == q || asksL q ts
def asksL (q : Int) : List Tree → Bool
  | [] => false
  | t :: ts => asksT q t || asksL q ts
end
theorem asks_kids {q k : Int} {s : Set4} {ts : List Tree} (h : asksT q (.node k s ts) = false) : k ≠ q ∧ asksL q ts = false := by
  rw [asksT] at h
  simpa using h
theorem asks_two {q : Int} {a b : Tree} (h : asksL q [a, b] = false) : asksT q a = false ∧ asksT q b = false := by
  rw [asksL, asksL, asksL] at h; simpa using h
theorem asks_one {q : Int} {a : Tree} (h : asksL q [a] = false) : asksT q a = false := by
  rw [asksL, asksL] at h; simpa using h
/-- More text behind takes nothing away, unless the end is asked for. -/
theorem M.behind {l : List UInt8} {t : Tree} {i j : Nat} (h : M l t i j) (m : List UInt8) (hq : asksT 8 t = false) : M (l ++ m) t i j := by
  induction h with
  | empty s i h => exact .empty s i (by rw [List.length_append]; omega)
  | byte s i x h hx => exact .byte s i x (by rw [List.getElem?_append_left (List.getElem?_eq_some_iff.1 h).1]; exact h) hx
  | cat s a b i j k _ _ h1 h2 => have := asks_two (asks_kids hq).2; exact .cat s a b i j k (h1 this.1) (h2 this.2)
  | altl s a b i j _ h => have := asks_two (asks_kids hq).2; exact .altl s a b i j (h this.1)
  | altr s a b i j _ h => have := asks_two (asks_kids hq).2; exact .altr s a b i j (h this.2)
  | nil s a i h => exact .nil s a i (by rw [List.length_append]; omega)
  | more s a i j k _ _ h1 h2 => exact .more s a i j k (h1 hq) (h2 (asks_one (asks_kids hq).2))
  | begin s => exact .begin s
  | finish s => exact absurd rfl (asks_kids hq).1
/-- The span that is told: the first, and there the longest. -/
def Best (l : List UInt8) (t : Tree) (i j : Nat) : Prop := M l t i j ∧ ∀ a b, M l t a b → i < a ∨ (i = a ∧ b ≤ j)
def Found (l : List UInt8) (t : Tree) (is : Bool) (i j : Nat) : Prop := if is = true then Best l t i j else i = 0 ∧ j = 0 ∧ ∀ a b, ¬ M l t a b
theorem Found.best {l : List UInt8} {t : Tree} {i j : Nat} (h : Found l t true i j) : Best l t i j := h
theorem Found.uniq {l : List UInt8} {t : Tree} {i j a b : Nat} (h : Found l t true i j) (m : M l t a b) (hm : ∀ a' b', M l t a' b' → a < a' ∨ (a = a' ∧ b' ≤ b)) : i = a ∧ j = b := by
  have h1 := h.best.2 a b m
  have h2 := hm i j h.best.1
  omega
end Go.Proofs.YtdkbfljhfhjofaaGreatDoor
namespace Go.Proofs.YtdkbfljhfhjofaaGreatDoor
open Go.RowKit
def digitI (b : UInt8) : Int :=
  if 48 ≤ b.toNat ∧ b.toNat ≤ 57 then (b.toNat : Int) - 48 else if 97 ≤ b.toNat ∧ b.toNat ≤ 102 then (b.toNat : Int) - 87 else if 65 ≤ b.toNat ∧ b.toNat ≤ 70 then (b.toNat : Int) - 55 else -1
set_option maxHeartbeats 400000 in
theorem digit_any (b : UInt8) (w : World) :
    Calls Tryz.prog 143 #[.int .u8 b.toNat] w fun e w' => e = .returned (.int .i64 (digitI b)) ∧ w' = w := by
  have hb : (b.toNat : Int) ≤ 255 := by have := b.toNat_lt; omega
  unfold digitI
  generalize b.toNat = n at *
  go_enter Tryz.func143, Tryz.ntmps143
  go_wp2
  all_goals
    go_ret
    exact ⟨ret_int (by (repeat' split) <;> omega), rfl⟩
end Go.Proofs.YtdkbfljhfhjofaaGreatDoor
namespace Go.Proofs.YtdkbfljhfhjofaaGreatDoor
open Go.RowKit
theorem digitI_lt (b : UInt8) : digitI b < 16 := by
  have := b.toNat_lt
  unfold digitI; (repeat' split) <;> omega
def numGo (base : Int) : List UInt8 → Int → Option Int
  | [], n => some n
  | b :: l, n => if digitI b < 0 ∨ base ≤ digitI b then none else numGo base l (n * base + digitI b)
def numL (base : Int) (most : Nat) (l : List UInt8) : Option Int :=
  if l.length = 0 ∨ most < l.length then none else numGo base l 0
def numRes (o : Option Int) : Value := match o with
  | some n => .tuple #[.int .i64 n, .int .i64 0]
  | none => .tuple #[.int .i64 0, .int .i64 4]
def NumRel (base : Int) (most : Nat) (s : ByteArray) (n i : Value) : Prop :=
  ∃ (k : Nat) (v : Int), k ≤ s.size ∧ i = .int .i64 k ∧ n = .int .i64 v ∧ 0 ≤ v ∧ v < 16 ^ k ∧ numL base most s.data.toList = numGo base (s.data.toList.drop k) v
set_option maxHeartbeats 800000 in
theorem number10 (s : ByteArray) (w : World) (hs : s.size ≤ maxLen) :
    Calls Tryz.prog 99 #[.string s, .int .i64 10, .int .i64 9] w fun e w' => e = .returned (numRes (numL 10 9 s.data.toList)) ∧ w' = w := by
  unfold maxLen at hs
  have hlen : s.data.toList.length = s.size := by simp
  by_cases h0 : s.size = 0 ∨ 9 < s.size
  · have H : Hid (numL 10 9 s.data.toList = none) := by unfold numL; rw [if_pos (by omega)]; exact rfl
    rcases h0 with h0 | h0
    all_goals
      clear hlen
      go_enter Tryz.func99, Tryz.ntmps99
      go_wp2
      all_goals (go_ret2; exact ⟨by rw [H.out]; rfl, rfl⟩)
  · obtain ⟨g0, g1⟩ := not_or.1 h0
    have H : Hid (numL 10 9 s.data.toList = numGo 10 s.data.toList 0) := by unfold numL; rw [if_neg (by omega)]; exact rfl
    have h1 : ((s.size : Int) == 0) = false := beq_eq_false_iff_ne.2 (by omega)
    have h2 : (s.size : Int) ≤ 9 := by omega
    have h3 : s.size ≤ 9 := by omega
    clear hlen h0
    go_enter Tryz.func99, Tryz.ntmps99
    go_wp2
    go_loop [8, 22] (fun n i => NumRel 10 9 s n i) (fun _ i => s.size - (intOf i).toNat)
    case atStart => exact ⟨0, 0, Nat.zero_le _, rfl, rfl, by decide, by decide, H⟩
    case round =>
      obtain ⟨k, v, hk, rfl, rfl, hv0, hv1, HV0⟩ := hrel
      have HV := Lib.hid HV0
      clear HV0
      have hp : (16 : Int) ^ k ≤ 68719476736 := by
        have : (16 : Nat) ^ k ≤ 16 ^ 9 := Nat.pow_le_pow_right (by decide) (by omega)
        have h : ((16 ^ k : Nat) : Int) ≤ 68719476736 := by omega
        simpa using h
      by_cases hlt : k < s.size
      · have hd := digitI_lt s[k]
        have HD := Lib.hid (drop_cons s k hlt)
        have HP : Hid ((16 : Int) ^ (k + 1) = 16 ^ k * 16) := Int.pow_succ _ _
        go_wp2_with (go_at_call 143; refine (digit_any _ _).mono ?_; rintro e w' ⟨rfl, rfl⟩)
        all_goals first
          | (go_ret2
             exact ⟨by rw [HV.out, HD.out, numGo, if_pos (by omega)]; rfl, rfl⟩)
          | (go_round
             case rel => exact ⟨k + 1, _, by omega, by go_num, rfl, by omega, by rw [HP.out]; omega, by rw [HV.out, HD.out, numGo, if_neg (by omega)]⟩
             case measure => simp [intOf]; omega)
      · go_wp2
        go_ret2
        exact ⟨by rw [HV.out, List.drop_eq_nil_of_le (by simp; omega)]; rfl, rfl⟩
theorem Dec_any (s : ByteArray) (w : World) (hs : s.size ≤ maxLen) :
    Calls Tryz.prog 54 #[.string s] w fun e w' => e = .returned (numRes (numL 10 9 s.data.toList)) ∧ w' = w := by
  go_enter Tryz.func54, Tryz.ntmps54
  cases h : numL 10 9 s.data.toList
  all_goals
    have H := Lib.hid h
    clear h
    go_wp2_with (go_at_call 99; refine (number10 _ _ hs).mono ?_; rintro e w' ⟨rfl, rfl⟩; rw [H.out]; simp only [numRes])
    go_ret2
    exact ⟨rfl, rfl⟩
end Go.Proofs.YtdkbfljhfhjofaaGreatDoor
