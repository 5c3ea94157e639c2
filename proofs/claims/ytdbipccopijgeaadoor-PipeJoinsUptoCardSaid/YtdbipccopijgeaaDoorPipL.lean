/- Pipelines, plainly: words, texts, and that they are read back. -/
import Derived.Test.YtdbipccopijgeaaDoorArgL
import Derived.Lib.Join
namespace Go.Proofs.YtdbipccopijgeaaDoor
open Go.RowKit

def wordsL : List (List UInt8) := [[], [108, 111, 119, 101, 114], [117, 114, 108], [104, 101, 120], [98, 97, 115, 101], [104, 116, 109, 108], [112, 97, 116, 104], [115, 113, 117, 101, 101, 122, 101], [110, 111, 110, 117, 108, 108], [116, 114, 105, 109], [108, 101, 110, 103, 116, 104], [99, 109, 100]]
def wordI (k : Int) : List UInt8 := wordsL.getD k.toNat []
theorem word_ok {k : Int} (h1 : 1 ≤ k) (h2 : k ≤ 11) : wordI k ≠ [] ∧ wordI k ≠ [45] ∧ (44 : UInt8) ∉ wordI k ∧ (wordI k).head? ≠ some 45 ∧ (wordI k).length ≤ 7 := by
  obtain ⟨n, rfl⟩ := Int.eq_ofNat_of_zero_le (show 0 ≤ k by omega)
  have hn : n = 1 ∨ n = 2 ∨ n = 3 ∨ n = 4 ∨ n = 5 ∨ n = 6 ∨ n = 7 ∨ n = 8 ∨ n = 9 ∨ n = 10 ∨ n = 11 := by omega
  rcases hn with rfl | rfl | rfl | rfl | rfl | rfl | rfl | rfl | rfl | rfl | rfl <;> decide
theorem word_inj {a b : Int} (h1 : 1 ≤ a) (h2 : a ≤ 11) (h3 : 1 ≤ b) (h4 : b ≤ 11) (h : wordI a = wordI b) : a = b := by
  obtain ⟨n, rfl⟩ := Int.eq_ofNat_of_zero_le (show 0 ≤ a by omega)
  obtain ⟨m, rfl⟩ := Int.eq_ofNat_of_zero_le (show 0 ≤ b by omega)
  have key : ∀ n : Nat, n < 12 → ∀ m : Nat, m < 12 → wordsL.getD n [] = wordsL.getD m [] → n = m := by decide
  have := key n (by omega) m (by omega) h
  rw [this]
theorem join_back (c : UInt8) : ∀ l : List UInt8, Lib.join (splL c l) [c] = l
  | [] => rfl
  | b :: l => by
    have ih := join_back c l
    rw [splL]
    split
    · rename_i h
      subst h
      cases h2 : splL b l with
      | nil => exact absurd h2 (splL_ne b l)
      | cons x r =>
        rw [h2] at ih
        rw [Lib.join_cons, List.nil_append]
        rw [Lib.join_cons] at ih
        simp only [Lib.joinTail, List.map_cons, List.flatten_cons] at ih ⊢
        rw [← ih]
        simp
    · cases h2 : splL c l with
      | nil => exact absurd h2 (splL_ne c l)
      | cons x r =>
        rw [h2] at ih
        rw [Lib.join_cons] at ih ⊢
        rw [List.cons_append, ih]
theorem splL_whole (c : UInt8) : ∀ w : List UInt8, c ∉ w → splL c w = [w]
  | [], _ => rfl
  | b :: w, h => by
    rw [splL, if_neg (fun e => h (by simp [e])), splL_whole c w (fun e => h (by simp [e]))]
theorem splL_join (c : UInt8) : ∀ ws : List (List UInt8), ws ≠ [] → (∀ w ∈ ws, c ∉ w) → splL c (Lib.join ws [c]) = ws
  | [], h, _ => absurd rfl h
  | [w], _, h => by rw [Lib.join_one]; exact splL_whole c w (h w (by simp))
  | w :: x :: r, _, h => by
    have ih := splL_join c (x :: r) (by simp) (fun y hy => h y (by simp [hy]))
    have e : Lib.join (w :: x :: r) [c] = w ++ c :: Lib.join (x :: r) [c] := by
      rw [Lib.join_cons, Lib.join_cons]
      simp [Lib.joinTail]
    rw [e, splL_append, ih, splL_whole c w (h w (by simp))]
    rfl

def okK (k : Int) : Bool := !(decide (k < 1) || decide (11 < k))
theorem okK_iff (k : Int) : okK k = true ↔ 1 ≤ k ∧ k ≤ 11 := by unfold okK; simp
def checkP (l : List Int) : Int := if 8 < l.length then 2 else if l.all okK = true then 0 else 1
theorem checkP_ok {l : List Int} : checkP l = 0 ↔ l.length ≤ 8 ∧ ∀ x ∈ l, 1 ≤ x ∧ x ≤ 11 := by
  unfold checkP
  by_cases h : 8 < l.length
  · rw [if_pos h]
    exact ⟨fun e => absurd e (by decide), fun e => by omega⟩
  · rw [if_neg h]
    by_cases h2 : l.all okK = true
    · rw [if_pos h2]
      exact ⟨fun _ => ⟨by omega, fun x hx => (okK_iff x).1 (List.all_eq_true.1 h2 x hx)⟩, fun _ => rfl⟩
    · rw [if_neg h2]
      exact ⟨fun e => absurd e (by decide), fun e => absurd (List.all_eq_true.2 fun x hx => (okK_iff x).2 (e.2 x hx)) h2⟩
def printP (l : List Int) : List UInt8 := if l = [] then [45] else Lib.join (l.map wordI) [44]
def ParseIs (s : List UInt8) (ks : List Int) : Prop := (s = [45] ∧ ks = []) ∨ (s ≠ [45] ∧ ks.map wordI = splL 44 s ∧ ks.length ≤ 8 ∧ ∀ x ∈ ks, 1 ≤ x ∧ x ≤ 11)
theorem words_same : ∀ {a b : List Int}, (∀ x ∈ a, 1 ≤ x ∧ x ≤ 11) → (∀ x ∈ b, 1 ≤ x ∧ x ≤ 11) → a.map wordI = b.map wordI → a = b
  | [], [], _, _, _ => rfl
  | [], _ :: _, _, _, h => by cases h
  | _ :: _, [], _, _, h => by cases h
  | x :: a, y :: b, ha, hb, h => by
    simp only [List.map_cons, List.cons.injEq] at h
    rw [word_inj (ha x (by simp)).1 (ha x (by simp)).2 (hb y (by simp)).1 (hb y (by simp)).2 h.1, words_same (fun z hz => ha z (by simp [hz])) (fun z hz => hb z (by simp [hz])) h.2]
theorem print_spl {l : List Int} (hl : l ≠ []) (h : checkP l = 0) : printP l ≠ [45] ∧ splL 44 (printP l) = l.map wordI := by
  have hk := (checkP_ok.1 h).2
  have hs : splL 44 (printP l) = l.map wordI := by
    unfold printP
    rw [if_neg hl]
    exact splL_join 44 _ (by simp [hl]) fun w hw => by
      obtain ⟨x, hx, rfl⟩ := List.mem_map.1 hw
      exact (word_ok (hk x hx).1 (hk x hx).2).2.2.1
  refine ⟨fun e => ?_, hs⟩
  rw [e] at hs
  cases l with
  | nil => exact hl rfl
  | cons x r =>
    have h1 : splL 44 [45] = [[45]] := by decide
    rw [h1, List.map_cons] at hs
    injection hs with h2 _
    exact (word_ok (hk x (by simp)).1 (hk x (by simp)).2).2.1 h2.symm
/-- What is printed is read as it was, and as nothing else. -/
theorem print_parse {l ks : List Int} (h : checkP l = 0) : ParseIs (printP l) ks ↔ ks = l := by
  have hk := (checkP_ok.1 h)
  by_cases hl : l = []
  · subst hl
    constructor
    · rintro (⟨_, h2⟩ | ⟨h2, _⟩)
      · exact h2
      · exact absurd rfl h2
    · rintro rfl; exact .inl ⟨rfl, rfl⟩
  · obtain ⟨h1, h2⟩ := print_spl hl h
    constructor
    · rintro (⟨h3, _⟩ | ⟨_, h3, _, h5⟩)
      · exact absurd h3 h1
      · exact words_same h5 hk.2 (h3.trans h2)
    · rintro rfl; exact .inr ⟨h1, h2.symm, hk.1, hk.2⟩
/-- What is read is printed as it stood. -/
theorem parse_print {s : List UInt8} {ks : List Int} (h : ParseIs s ks) : checkP ks = 0 ∧ printP ks = s := by
  rcases h with ⟨h1, h2⟩ | ⟨h1, h2, h3, h4⟩
  · subst h1; subst h2; exact ⟨rfl, rfl⟩
  · refine ⟨checkP_ok.2 ⟨h3, h4⟩, ?_⟩
    have hne : ks ≠ [] := by
      rintro rfl
      exact splL_ne 44 s h2.symm
    unfold printP
    rw [if_neg hne, h2, join_back]
end Go.Proofs.YtdbipccopijgeaaDoor
