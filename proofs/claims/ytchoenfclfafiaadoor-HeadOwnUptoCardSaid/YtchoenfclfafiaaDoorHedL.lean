/- Heads of requests in plain lists: what is right, how it is printed and read. -/
import Derived.Test.YtchoenfclfafiaaDoorArgL
import Derived.Test.YtchoenfclfafiaaDoorOctC
import Derived.Test.YtchoenfclfafiaaDoorFldA
import Derived.Lib.Strings
namespace Go.Proofs.YtchoenfclfafiaaDoor
open Go.RowKit

/-! A split at line ends. -/
def consH (b : UInt8) : List (List UInt8) → List (List UInt8)
  | [] => [[b]]
  | x :: r => (b :: x) :: r
def spl2 : List UInt8 → List (List UInt8)
  | [] => [[]]
  | [b] => [[b]]
  | b :: c :: l => if b = 13 ∧ c = 10 then [] :: spl2 l else consH b (spl2 (c :: l))
theorem consH_ne (b : UInt8) (l : List (List UInt8)) : consH b l ≠ [] := by cases l <;> simp [consH]
theorem spl2_ne (l : List UInt8) : spl2 l ≠ [] := by
  match l with
  | [] => simp [spl2]
  | [b] => simp [spl2]
  | b :: c :: l =>
    rw [spl2]
    split
    · simp
    · exact consH_ne _ _
theorem spl2_end (r : List UInt8) : spl2 (13 :: 10 :: r) = [] :: spl2 r := by rw [spl2, if_pos ⟨rfl, rfl⟩]
theorem consH_append (b : UInt8) {x : List (List UInt8)} (hx : x ≠ []) (y : List (List UInt8)) : consH b (x ++ y) = consH b x ++ y := by
  cases x with
  | nil => exact absurd rfl hx
  | cons z x => rfl
theorem spl2_append : ∀ (a r : List UInt8), spl2 (a ++ 13 :: 10 :: r) = spl2 a ++ spl2 r
  | [], r => spl2_end r
  | [b], r => by
    show spl2 (b :: 13 :: 10 :: r) = _
    have e : spl2 (b :: 13 :: 10 :: r) = consH b (spl2 (13 :: 10 :: r)) := by
      conv => lhs; unfold spl2
      exact if_neg (fun h => absurd h.2 (by decide))
    rw [e, spl2_end]
    rfl
  | b :: c :: a, r => by
    show spl2 (b :: c :: (a ++ 13 :: 10 :: r)) = _
    rw [spl2, spl2]
    split
    · rw [spl2_append a r]; rfl
    · have ih := spl2_append (c :: a) r
      rw [List.cons_append] at ih
      rw [ih, consH_append b (spl2_ne _)]
theorem spl2_clean : ∀ (l : List UInt8), (13 : UInt8) ∉ l → spl2 l = [l]
  | [], _ => rfl
  | [b], _ => rfl
  | b :: c :: l, h => by
    rw [spl2, if_neg (fun e => h (by simp [e.1])), spl2_clean (c :: l) (fun e => h (by simp only [List.mem_cons] at e ⊢; exact .inr e))]
    rfl
theorem spl2_len : ∀ (l : List UInt8), (spl2 l).length ≤ l.length + 1
  | [] => by simp [spl2]
  | [b] => by simp [spl2]
  | b :: c :: l => by
    rw [spl2]
    split
    · have := spl2_len l
      simp only [List.length_cons]; omega
    · have h := spl2_len (c :: l)
      cases hq : spl2 (c :: l) with
      | nil => exact absurd hq (spl2_ne _)
      | cons x r => rw [hq] at h; simp only [consH, List.length_cons] at h ⊢; omega
theorem spl2_piece : ∀ (l : List UInt8), ∀ x ∈ spl2 l, x.length ≤ l.length
  | [], x, h => by simp [spl2] at h; subst h; simp
  | [b], x, h => by simp [spl2] at h; subst h; simp
  | b :: c :: l, x, h => by
    rw [spl2] at h
    split at h
    · rcases List.mem_cons.1 h with e | e
      · subst e; simp
      · have := spl2_piece l x e; simp only [List.length_cons]; omega
    · have ih := spl2_piece (c :: l)
      cases hq : spl2 (c :: l) with
      | nil => exact absurd hq (spl2_ne _)
      | cons y r =>
        rw [hq] at h ih
        rcases List.mem_cons.1 h with e | e
        · subst e; have := ih y (by simp); simp only [List.length_cons] at this ⊢; omega
        · have := ih x (by simp [e]); simp only [List.length_cons] at this ⊢; omega
theorem spl2_none : ∀ (l : List UInt8), (∀ j, j ≤ l.length → Lib.occAt l [13, 10] j = false) → spl2 l = [l]
  | [], _ => rfl
  | [b], _ => rfl
  | b :: c :: l, h => by
    have h0 := h 0 (Nat.zero_le _)
    rw [spl2, if_neg, spl2_none (c :: l) fun j hj => by
      have := h (j + 1) (by simp only [List.length_cons] at hj ⊢; omega)
      exact this]
    · rfl
    · rintro ⟨rfl, rfl⟩
      simp [Lib.occAt, List.isPrefixOf] at h0
theorem spl2_at : ∀ (a r : List UInt8), (∀ j, j < a.length → Lib.occAt (a ++ 13 :: 10 :: r) [13, 10] j = false) → spl2 (a ++ 13 :: 10 :: r) = a :: spl2 r := by
  intro a r h
  rw [spl2_append, spl2_none a]
  · rfl
  · intro j hj
    by_cases hlt : j < a.length
    · have := h j hlt
      unfold Lib.occAt at this ⊢
      rw [List.drop_append_of_le_length (by omega)] at this
      cases hd : a.drop j with
      | nil => rfl
      | cons x q =>
        rw [hd] at this
        cases q with
        | nil => simp [List.isPrefixOf]
        | cons y q => simpa [List.isPrefixOf] using this
    · unfold Lib.occAt
      rw [List.drop_eq_nil_of_le (by omega)]
      rfl
theorem splitK_two : ∀ (n : Nat) (l : List UInt8), l.length ≤ n → Lib.splitK [13, 10] 0 (Lib.count l [13, 10]) l = spl2 l := by
  intro n
  induction n with
  | zero =>
    intro l h
    have : l = [] := List.eq_nil_of_length_eq_zero (by omega)
    subst this
    rw [Lib.count_miss (by simp [Lib.index])]
    rfl
  | succ n ih =>
    intro l h
    rcases Lib.index_spec l [13, 10] with ⟨h1, h2⟩ | ⟨i, h1, h2, h3, h4⟩
    · rw [Lib.count_miss h1, spl2_none l h2]
      rfl
    · rw [Lib.count_hit (by simp) h1, Nat.add_comm, Lib.splitK, if_neg (by rw [h1, beq_iff_eq]; omega), h1]
      unfold Lib.occAt at h3
      rw [List.isPrefixOf_iff_prefix] at h3
      obtain ⟨r, hr⟩ := h3
      have hi : ((i : Int)).toNat = i := by omega
      have e : l = l.take i ++ 13 :: 10 :: r := by
        have e2 : (13 : UInt8) :: 10 :: r = l.drop i := hr
        rw [e2, List.take_append_drop]
      have htl : (l.take i).length = i := by rw [List.length_take]; omega
      have hd : l.drop (i + 2) = r := by
        rw [← List.drop_drop, ← hr]; rfl
      have hrl : r.length ≤ n := by
        have := congrArg List.length e
        simp only [List.length_append, List.length_cons] at this
        omega
      rw [hi, Nat.add_zero, show ([13, 10] : List UInt8).length = 2 from rfl, hd, ih r hrl]
      have hno : ∀ j, j < (l.take i).length → Lib.occAt (l.take i ++ 13 :: 10 :: r) [13, 10] j = false := fun j hj => by rw [← e]; exact h4 j (by omega)
      have := spl2_at (l.take i) r hno
      rw [← e] at this
      exact this.symm
theorem split_two (s : ByteArray) : (Lib.splitB ⟨#[13, 10]⟩ 0 (Lib.countB s ⟨#[13, 10]⟩) s).map (·.data.toList) = spl2 s.data.toList := by
  rw [Lib.splitB_data]
  exact splitK_two _ _ (Nat.le_refl _)
end Go.Proofs.YtchoenfclfafiaaDoor
