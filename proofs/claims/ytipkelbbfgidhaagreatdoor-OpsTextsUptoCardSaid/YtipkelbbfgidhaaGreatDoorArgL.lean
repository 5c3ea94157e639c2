/- Forms of arguments: cut at a byte, joined; in plain lists. -/
import Derived.Test.YtipkelbbfgidhaaGreatDoorBase
import Derived.Lib.SplitLaws
namespace Go.Proofs.YtipkelbbfgidhaaGreatDoor
open Go.RowKit

/-- The pieces between a byte's occurrences. -/
def splL (c : UInt8) : List UInt8 → List (List UInt8)
  | [] => [[]]
  | b :: l => if b = c then [] :: splL c l else match splL c l with
    | [] => [[b]]
    | x :: r => (b :: x) :: r
theorem splL_ne (c : UInt8) (l : List UInt8) : splL c l ≠ [] := by
  cases l with
  | nil => simp [splL]
  | cons b l =>
    rw [splL]
    split
    · simp
    · split <;> simp
theorem splL_append (c : UInt8) (s t : List UInt8) : splL c (s ++ c :: t) = splL c s ++ splL c t := by
  induction s with
  | nil => show splL c (c :: t) = [] :: splL c t; simp [splL]
  | cons b s ih =>
    have e1 : ∀ l, splL c (b :: l) = if b = c then [] :: splL c l else match splL c l with | [] => [[b]] | x :: r => (b :: x) :: r := fun l => by rw [splL]
    rw [List.cons_append, e1, e1, ih]
    split
    · rfl
    · cases h : splL c s with
      | nil => exact absurd h (splL_ne c s)
      | cons x r => rfl
theorem splL_len (c : UInt8) (l : List UInt8) : (splL c l).length ≤ l.length + 1 := by
  induction l with
  | nil => exact Nat.le_refl _
  | cons b l ih =>
    rw [splL]
    split
    · simp only [List.length_cons]; omega
    · cases h : splL c l with
      | nil => simp
      | cons x r => rw [h] at ih; simp only [List.length_cons] at ih ⊢; omega
theorem splL_some (c : UInt8) (l : List UInt8) : ((splL c l).filter fun x => !x.isEmpty).length ≤ l.length := by
  induction l with
  | nil => exact Nat.le_refl _
  | cons b l ih =>
    rw [splL]
    split
    · rw [List.filter_cons_of_neg (by simp)]; simp only [List.length_cons]; omega
    · cases h : splL c l with
      | nil => simp
      | cons x r =>
        rw [h] at ih
        rw [List.filter_cons_of_pos (by simp)]
        cases x with
        | nil => rw [List.filter_cons_of_neg (by simp)] at ih; simp only [List.length_cons]; omega
        | cons y x => rw [List.filter_cons_of_pos (by simp)] at ih; simp only [List.length_cons] at ih ⊢; omega
theorem splL_piece (c : UInt8) (l : List UInt8) : ∀ x ∈ splL c l, x.length ≤ l.length := by
  induction l with
  | nil => intro x hx; simp [splL] at hx; subst hx; exact Nat.le_refl _
  | cons b l ih =>
    intro x hx
    rw [splL] at hx
    split at hx
    · rcases List.mem_cons.1 hx with h | h
      · subst h; simp
      · have := ih x h; simp only [List.length_cons]; omega
    · cases h : splL c l with
      | nil => exact absurd h (splL_ne c l)
      | cons y r =>
        rw [h] at hx ih
        rcases List.mem_cons.1 hx with h1 | h1
        · subst h1; have := ih y (by simp); simp only [List.length_cons]; omega
        · have := ih x (by simp [h1]); simp only [List.length_cons]; omega
theorem index_cons_ne (b c : UInt8) (l : List UInt8) (h : b ≠ c) : Lib.index (b :: l) [c] = if Lib.index l [c] == -1 then -1 else Lib.index l [c] + 1 := by
  have hp : ([c] : List UInt8).isPrefixOf (b :: l) = false := by simp [List.isPrefixOf, Ne.symm h]
  rw [Lib.index, hp]; simp
theorem splitK_one (c : UInt8) : ∀ l : List UInt8, Lib.splitK [c] 0 (Lib.count l [c]) l = splL c l
  | [] => by rw [Lib.count_miss (by simp [Lib.index])]; rfl
  | b :: l => by
    have ih := splitK_one c l
    by_cases h : b = c
    · subst h
      have hix : Lib.index (b :: l) [b] = 0 := by rw [Lib.index]; simp [List.isPrefixOf]
      rw [Lib.count_cons_eq, Nat.add_comm, Lib.splitK, if_neg (by rw [hix]; decide), hix, splL, if_pos rfl, ← ih]
      rfl
    · rw [Lib.count_cons_ne b c l h, splL, if_neg h, ← ih]
      by_cases hm : Lib.index l [c] = -1
      · rw [Lib.count_miss hm]; rfl
      · have hge := Lib.index_ge l [c]
        obtain ⟨j, hj⟩ : ∃ j : Nat, Lib.index l [c] = j := ⟨(Lib.index l [c]).toNat, by omega⟩
        have e : Lib.count l [c] = Lib.count (l.drop (j + 1)) [c] + 1 := by rw [Lib.count_hit (by simp) hj, Nat.add_comm]; rfl
        have hix : Lib.index (b :: l) [c] = ((j + 1 : Nat) : Int) := by rw [index_cons_ne b c l h, if_neg (fun e => hm (beq_iff_eq.1 e)), hj]; omega
        rw [e, Lib.splitK, if_neg (by rw [hix, beq_iff_eq]; omega), hix, Lib.splitK, if_neg (by rw [hj, beq_iff_eq]; omega), hj]
        rfl
/-- What Split hands back at one byte. -/
theorem split_one (c : UInt8) (s : ByteArray) : (Lib.splitB ⟨#[c]⟩ 0 (Lib.countB s ⟨#[c]⟩) s).map (·.data.toList) = splL c s.data.toList := by
  rw [Lib.splitB_data]
  exact splitK_one c _

theorem cut_back (c : UInt8) (l : List UInt8) : ((Lib.cut l [c]).2.2 = true → (Lib.cut l [c]).1 ++ c :: (Lib.cut l [c]).2.1 = l) ∧ ((Lib.cut l [c]).2.2 = false → (Lib.cut l [c]).1 = l ∧ (Lib.cut l [c]).2.1 = []) := by
  unfold Lib.cut
  by_cases h : 0 ≤ Lib.index l [c]
  · rw [if_pos h]
    refine ⟨fun _ => ?_, fun e => (by cases e)⟩
    have : ∀ l : List UInt8, 0 ≤ Lib.index l [c] → l.take (Lib.index l [c]).toNat ++ c :: l.drop ((Lib.index l [c]).toNat + 1) = l := by
      intro l
      induction l with
      | nil => intro h; exact absurd h (by simp [Lib.index])
      | cons b l ih =>
        intro h
        by_cases hb : b = c
        · subst hb
          have hix : Lib.index (b :: l) [b] = 0 := by rw [Lib.index]; simp [List.isPrefixOf]
          rw [hix]; rfl
        · have e := index_cons_ne b c l hb
          by_cases hm : Lib.index l [c] = -1
          · rw [e, if_pos (beq_iff_eq.2 hm)] at h; exact absurd h (by decide)
          · have hge := Lib.index_ge l [c]
            rw [e, if_neg (fun e => hm (beq_iff_eq.1 e))]
            have h2 := ih (by omega)
            rw [show (Lib.index l [c] + 1).toNat = (Lib.index l [c]).toNat + 1 by omega]
            rw [List.take_succ_cons, List.cons_append, List.drop_succ_cons, h2]
    exact this l h
  · rw [if_neg h]
    exact ⟨fun e => (by cases e), fun _ => ⟨rfl, rfl⟩⟩
theorem cut_len (l sep : List UInt8) : (Lib.cut l sep).1.length ≤ l.length ∧ (Lib.cut l sep).2.1.length ≤ l.length := by
  unfold Lib.cut
  split
  · exact ⟨by rw [List.length_take]; exact Nat.min_le_right _ _, by rw [List.length_drop]; exact Nat.sub_le _ _⟩
  · exact ⟨Nat.le_refl _, Nat.zero_le _⟩
end Go.Proofs.YtipkelbbfgidhaaGreatDoor
