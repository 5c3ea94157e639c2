/- The walks of rex.Has, rex.kids. -/
import Derived.Test.YtnkcgfpjedlpaaaRexM
import Derived.ChangeKeysEq
namespace Go.Proofs.Ytnkcgfpjedlpaaa
open Go.RowKit

def setV (s : Set4) : Value := .agg #[.int .u64 s.a, .int .u64 s.b, .int .u64 s.c, .int .u64 s.d]
theorem word_at (s : Set4) (k : Nat) (hk : k < 4) : ([.int .u64 s.a, .int .u64 s.b, .int .u64 s.c, .int .u64 s.d] : List Value)[k]? = some (.int .u64 (s.word k)) := by
  match k, hk with
  | 0, _ => rfl
  | 1, _ => rfl
  | 2, _ => rfl
  | 3, _ => rfl
theorem word_wf {s : Set4} (h : s.Wf) (k : Nat) : 0 ≤ s.word k ∧ s.word k ≤ 18446744073709551615 := by
  obtain ⟨h1, h2, h3, h4⟩ := h
  unfold word64 at h1 h2 h3 h4
  unfold Set4.word
  split
  · exact h1
  · split
    · exact h2
    · split
      · exact h3
      · exact h4
theorem info_u64 : ∃ i, Try.prog.info? 86 = some i := by
  cases h : Try.prog.info? 86 with
  | some i => exact ⟨i, rfl⟩
  | none => exact absurd (show (Try.prog.info? 86).isSome = true by kernel_rfl) (by rw [h]; decide)
theorem run_eq64 (d : Nat) (x y : Int) (w : World) : (Op.equalIn (d + 1) 86 (.int .u64 x) (.int .u64 y)).run Try.prog w = .ok (x == y) w := by
  simp [Op.equalIn, run_underlying Try.underlying86]
theorem plain_u64 : Try.prog.plainKey 86 = true := by kernel_rfl
theorem items_one (d i : Nat) (is : List Nat) (xs ys : Array Value) (x y : Int) (hx : xs[i]? = some (.int .u64 x)) (hy : ys[i]? = some (.int .u64 y)) (w : World) :
    (Op.eqItems (d + 1) 86 1 xs ys (i :: is)).run Try.prog w = if x = y then (Op.eqItems (d + 1) 86 1 xs ys is).run Try.prog w else .ok false w := by
  simp only [Op.eqItems, Sem.run_bind, Nat.mul_one, run_part_plain w plain_u64 hx, run_part_plain w plain_u64 hy, Result.andThen_ok, run_eq64]
  by_cases h : x = y
  · subst h; simp
  · have : (x == y) = false := beq_eq_false_iff_ne.2 h
    simp [h]
def sameB (x y : Set4) : Bool := decide (x = y)
end Go.Proofs.Ytnkcgfpjedlpaaa
