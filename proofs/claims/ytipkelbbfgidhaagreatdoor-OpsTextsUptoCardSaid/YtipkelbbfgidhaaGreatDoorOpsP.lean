/- Plain: prefixes, suffixes, parts. -/
import Derived.Test.YtipkelbbfgidhaaGreatDoorFinds
namespace Go.Proofs.YtipkelbbfgidhaaGreatDoor
open Go.RowKit

theorem has_of_occ {s p : List UInt8} {k : Nat} (hk : k ≤ s.length) (h : Lib.occAt s p k = true) : Lib.contains s p = true := by
  unfold Lib.contains
  rw [decide_eq_true_eq]
  rcases index_cases p s with ⟨_, h2⟩ | ⟨m, h1, _⟩
  · rw [h2 k hk] at h; cases h
  · omega
theorem pre_has {s p : List UInt8} (h : Lib.hasPrefix s p = true) : Lib.contains s p = true :=
  has_of_occ (k := 0) (Nat.zero_le _) (by unfold Lib.occAt; rw [List.drop_zero]; exact h)
theorem suf_has {s p : List UInt8} (h : Lib.hasSuffix s p = true) : Lib.contains s p = true := by
  unfold Lib.hasSuffix at h
  obtain ⟨a, rfl⟩ := List.isSuffixOf_iff_suffix.1 h
  exact has_of_occ (k := a.length) (by simp) (by unfold Lib.occAt; rw [List.drop_left]; simp)
theorem pre_self (s : List UInt8) : Lib.hasPrefix s s = true := by unfold Lib.hasPrefix; simp
theorem suf_self (s : List UInt8) : Lib.hasSuffix s s = true := List.isSuffixOf_iff_suffix.2 (List.suffix_refl _)
end Go.Proofs.YtipkelbbfgidhaaGreatDoor
