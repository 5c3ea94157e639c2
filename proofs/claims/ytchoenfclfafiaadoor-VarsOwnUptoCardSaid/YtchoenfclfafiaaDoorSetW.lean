/- The walks of Is, Where (at any function value), Range. -/
import Derived.Test.YtchoenfclfafiaaDoorSetL
import Derived.Test.YtchoenfclfafiaaDoorMem
import Derived.Test.YtchoenfclfafiaaDoorHit
import Derived.Shelf.GgClosure.Gives
namespace Go.Proofs.YtchoenfclfafiaaDoor
open Go.RowKit

def setA (s : Set4) : Value := .agg #[.int .u64 s.a, .int .u64 s.b, .int .u64 s.c, .int .u64 s.d]
section
variable {w w' : World} {g : Nat} {s : Set4}
def putW (s : Set4) (j : Nat) (u : Int) : Set4 := if j = 0 then ⟨u, s.b, s.c, s.d⟩ else if j = 1 then ⟨s.a, u, s.c, s.d⟩ else if j = 2 then ⟨s.a, s.b, u, s.d⟩ else ⟨s.a, s.b, s.c, u⟩
end
theorem putW_one (f : Nat → Bool) (k : Nat) (hk : k < 256) : putW (setF f) (k / 64) ((wdF f (k / 64) ||| 2 ^ (k % 64) : Nat) : Int) = setF (fun x => f x || decide (x = k)) := by
  have hj : k / 64 < 4 := by omega
  rw [wdF_one]
  have h0 := wdF_other f k
  generalize hjj : k / 64 = j at *
  unfold putW setF
  match j, hj with
  | 0, _ => simp [h0 1 (by decide), h0 2 (by decide), h0 3 (by decide)]
  | 1, _ => simp [h0 0 (by decide), h0 2 (by decide), h0 3 (by decide)]
  | 2, _ => simp [h0 0 (by decide), h0 1 (by decide), h0 3 (by decide)]
  | 3, _ => simp [h0 0 (by decide), h0 1 (by decide), h0 2 (by decide)]

theorem or_one (f : Nat → Bool) (k : Nat) : bits .or .u64 ((wdF f (k / 64) : Nat) : Int) (IntKind.u64.wrap (2 ^ (k % 64))) = ((wdF f (k / 64) ||| 2 ^ (k % 64) : Nat) : Int) := by
  have h1 : 2 ^ (k % 64) < 18446744073709551616 := by have h := Nat.pow_lt_pow_right (a := 2) (by decide) (Nat.mod_lt k (show 64 > 0 by decide)); exact h
  have := bits_or_u64_nat (wdF f (k / 64)) (2 ^ (k % 64)) (wdF_lt _ _) h1
  have h2 : IntKind.u64.wrap (2 ^ (k % 64)) = ((2 ^ (k % 64) : Nat) : Int) := by
    rw [IntKind.wrap_u64, show (2 : Int) ^ (k % 64) = ((2 ^ (k % 64) : Nat) : Int) by rw [Int.natCast_pow]; rfl]
    generalize 2 ^ (k % 64) = q at h1
    omega
  rw [← this, h2]
def SetPostW (s : Set4) (w : World) (e : Ending) (w' : World) : Prop := e = .returned (setA s) ∧ Below w.heap.size w w'

theorem and_63 (k : Nat) (hk : k < 256) : bits .and .i64 (k : Int) 63 = ((k % 64 : Nat) : Int) := by
  have h : ∀ k : Fin 256, bits .and .i64 ((k.val : Nat) : Int) 63 = ((k.val % 64 : Nat) : Int) := by decide +kernel
  exact h ⟨k, hk⟩
end Go.Proofs.YtchoenfclfafiaaDoor
