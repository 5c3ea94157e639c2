/- The walk of rex.ends at one behind the other. -/
import Derived.Test.YtnjjchbgnmjkjaaRexN
import Derived.BigRegion
import Derived.IntWalk
namespace Go.Proofs.Ytnjjchbgnmjkjaa
open Go.RowKit

def argX (t : Tree) (A : Option Addr) (c : Nat) : Value := .agg #[.int .i64 t.kind, .int .u64 t.set.a, .int .u64 t.set.b, .int .u64 t.set.c, .int .u64 t.set.d, .slice A t.kids.length c]
/-- Two kids in memory. -/
theorem LK.two {w : World} {B : Nat} {a b : Tree} {A : Option Addr} (h : LK w B [a, b] A) : ∃ bb off ca cb, A = some ⟨bb, off, none⟩ ∧ bb < B ∧ CellsAt w bb off ca ∧ LT w B a ca ∧ CellsAt w bb (off + 6) cb ∧ LT w B b cb := by
  rw [LK] at h
  obtain ⟨bb, off, ca, h1, h2, h3, h4, h5, h6⟩ := h
  rw [LK] at h6
  obtain ⟨b2, off2, cb, g1, g2, g3, g4, g5, g6⟩ := h6
  injection g1 with g1
  injection g1 with e1 e2
  subst e1; subst e2
  exact ⟨bb, off, ca, cb, h1, h2, h4, h5, g4, g5⟩
theorem LK.one {w : World} {B : Nat} {a : Tree} {A : Option Addr} (h : LK w B [a] A) : ∃ bb off ca, A = some ⟨bb, off, none⟩ ∧ bb < B ∧ CellsAt w bb off ca ∧ LT w B a ca := by
  rw [LK] at h
  obtain ⟨bb, off, ca, h1, h2, h3, h4, h5, h6⟩ := h
  exact ⟨bb, off, ca, h1, h2, h4, h5⟩

end Go.Proofs.Ytnjjchbgnmjkjaa
