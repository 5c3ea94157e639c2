/- rex.Has at a set told by a test; each set is told by one. -/
import Derived.Test.YtnjjchbgnmjkjaaRpi
import Derived.Test.YtnjjchbgnmjkjaaRexH
namespace Go.Proofs.Ytnjjchbgnmjkjaa
open Go.RowKit

theorem hasB_setF (f : Nat → Bool) (x : UInt8) : hasB (setF f) x = f x.toNat := by
  unfold hasB
  have hx := x.toNat_lt
  have hb := wdF_bit f x.toNat
  rw [setF_word f _ (by omega)]
  have e : ((wdF f (x.toNat / 64) : Nat) : Int) / 2 ^ (x.toNat % 64) % 2 = ((wdF f (x.toNat / 64) / 2 ^ (x.toNat % 64) % 2 : Nat) : Int) := by
    rw [Int.natCast_emod, Int.natCast_ediv, Int.natCast_pow]
    rfl
  rw [e, hb]
  cases f x.toNat <;> rfl
theorem setF_wf (f : Nat → Bool) : (setF f).Wf := by
  have h : ∀ j, word64 ((wdF f j : Nat) : Int) := fun j => by have := wdF_lt f j; unfold word64; omega
  exact ⟨h 0, h 1, h 2, h 3⟩
theorem HasF_any (f : Nat → Bool) (k : Nat) (hk : k < 256) (w : World) :
    Calls Try.prog 61 #[setA (setF f), .int .u8 (k : Int)] w fun e w' => e = .returned (.bool (f k)) ∧ Below w.heap.size w w' := by
  have h := Has_any (setF f) (UInt8.ofNat k) w (setF_wf f)
  have e : (UInt8.ofNat k).toNat = k := by rw [UInt8.toNat_ofNat']; omega
  rw [hasB_setF, e] at h
  exact h
end Go.Proofs.Ytnjjchbgnmjkjaa
