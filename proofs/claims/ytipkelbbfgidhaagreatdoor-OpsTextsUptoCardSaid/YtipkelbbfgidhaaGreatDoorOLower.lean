/- OctetLower: the plain laws of lowering, trimming and tokens, and the walk of the law. -/
import Derived.Test.YtipkelbbfgidhaaGreatDoorFinds
namespace Go.Proofs.YtipkelbbfgidhaaGreatDoor
open Go.RowKit

theorem lowerB_again : ∀ b : UInt8, lowerB (lowerB b) = lowerB b := by
  intro b
  unfold lowerB
  by_cases h : 65 ≤ b.toNat ∧ b.toNat ≤ 90
  · have e : (b + 32).toNat = b.toNat + 32 := by rw [UInt8.toNat_add]; simp; omega
    rw [if_pos h, if_neg (by omega)]
  · rw [if_neg h, if_neg h]
theorem lowerL_again (l : List UInt8) : lowerL (lowerL l) = lowerL l := by
  unfold lowerL; rw [List.map_map]; exact List.map_congr_left fun b _ => lowerB_again b
theorem tokB_lower (b : UInt8) : tokB (lowerB b) = tokB b :=
  beq_iff_eq.1 (all_bytes (p := fun b => tokB (lowerB b) == tokB b) (by decide +kernel) b)
theorem tokenL_lower (l : List UInt8) : tokenL (lowerL l) = tokenL l := by
  unfold tokenL lowerL
  rw [List.all_map]
  have : (tokB ∘ lowerB) = tokB := funext tokB_lower
  rw [this]
  cases l <;> rfl

theorem dropWhile_again (p : UInt8 → Bool) : ∀ l : List UInt8, (l.dropWhile p).dropWhile p = l.dropWhile p
  | [] => rfl
  | a :: l => by
    rw [List.dropWhile_cons]
    by_cases h : p a = true
    · rw [if_pos h]; exact dropWhile_again p l
    · rw [if_neg h, List.dropWhile_cons, if_neg h]
theorem dropWhile_drop (p : UInt8 → Bool) : ∀ l : List UInt8, ∃ k, k ≤ l.length ∧ l.dropWhile p = l.drop k
  | [] => ⟨0, Nat.le_refl _, rfl⟩
  | a :: l => by
    rw [List.dropWhile_cons]
    by_cases h : p a = true
    · rw [if_pos h]
      obtain ⟨k, hk, e⟩ := dropWhile_drop p l
      exact ⟨k + 1, by simp; omega, by rw [e]; rfl⟩
    · rw [if_neg h]; exact ⟨0, Nat.zero_le _, rfl⟩
theorem rtrim_take (l : List UInt8) : ∃ k, k ≤ l.length ∧ rtrimL l = l.take k := by
  obtain ⟨k, hk, e⟩ := dropWhile_drop blank l.reverse
  refine ⟨l.length - k, by omega, ?_⟩
  unfold rtrimL
  rw [e, List.drop_reverse, List.reverse_reverse]
theorem rtrim_again (l : List UInt8) : rtrimL (rtrimL l) = rtrimL l := by
  unfold rtrimL; rw [List.reverse_reverse, dropWhile_again]
theorem dropWhile_head {p : UInt8 → Bool} {l : List UInt8} (h : l.dropWhile p = l) (k : Nat) : (l.take k).dropWhile p = l.take k := by
  cases l with
  | nil => simp
  | cons a l =>
    cases k with
    | zero => rfl
    | succ k =>
      rw [List.dropWhile_cons] at h
      by_cases g : p a = true
      · rw [if_pos g] at h
        obtain ⟨i, _, e⟩ := dropWhile_drop p l
        have := congrArg List.length (e.symm.trans h)
        simp only [List.length_drop, List.length_cons] at this
        omega
      · rw [List.take_succ_cons, List.dropWhile_cons, if_neg g]
theorem trim_again (l : List UInt8) : trimL (trimL l) = trimL l := by
  unfold trimL
  obtain ⟨k, _, e⟩ := rtrim_take (l.dropWhile blank)
  have h : (rtrimL (l.dropWhile blank)).dropWhile blank = rtrimL (l.dropWhile blank) := by
    rw [e]; exact dropWhile_head (dropWhile_again _ _) k
  rw [h, rtrim_again]
theorem trim_piece (l : List UInt8) : ∃ a b, l = a ++ trimL l ++ b := by
  unfold trimL
  obtain ⟨i, _, e⟩ := dropWhile_drop blank l
  obtain ⟨k, _, e2⟩ := rtrim_take (l.dropWhile blank)
  refine ⟨l.take i, (l.drop i).drop k, ?_⟩
  rw [e2, e, List.append_assoc, List.take_append_drop, List.take_append_drop]
theorem find_trim (l : List UInt8) : 0 ≤ findL l (trimL l) 0 := by
  obtain ⟨a, b, e⟩ := trim_piece l
  obtain ⟨k, hk, _⟩ := find_mid a (trimL l) b
  rw [← e] at hk
  rw [hk]; omega

theorem lower_first : lowerL (ByteArray.mk #[97, 66, 91]).data.toList = [97, 98, 91] := by decide
theorem trim_first : trimL (ByteArray.mk #[32, 97, 9]).data.toList = [97] := by decide

theorem trim_length (l : List UInt8) : (trimL l).length ≤ l.length := by
  obtain ⟨a, b, e⟩ := trim_piece l
  have := congrArg List.length e
  simp only [List.length_append] at this
  omega

end Go.Proofs.YtipkelbbfgidhaaGreatDoor
