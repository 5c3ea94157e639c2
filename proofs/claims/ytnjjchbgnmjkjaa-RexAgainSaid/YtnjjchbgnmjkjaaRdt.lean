/- Trees in memory stand while the reader's block changes. -/
import Derived.Test.YtnjjchbgnmjkjaaRdr
import Derived.Test.YtnjjchbgnmjkjaaRexM
namespace Go.Proofs.Ytnjjchbgnmjkjaa
open Go.RowKit Go.ChangeShapes Go.WideShapes Go.Deep

/-- No cell of the reader's block is a word of 64 bits without sign. -/
theorem rd_apart {g : Nat} {s : ByteArray} {r : RS} {w : World} (h : RdAt g s r w) {b off : Nat} {x : Int} (hc : w.cell? ⟨b, off, none⟩ = some (.int .u64 x)) : b ≠ g := by
  rintro rfl
  unfold RdAt at h
  unfold World.cell? at hc
  simp only [h] at hc
  match off, hc with
  | 0, hc => simp at hc
  | 1, hc => simp at hc
  | 2, hc => simp at hc
  | 3, hc => simp at hc
  | n + 4, hc => simp at hc
theorem cell_grown {w w' : World} {g b off : Nat} (hg : w.grownBy w' (some g)) (hb : b < w.heap.size) (hne : b ≠ g) : w'.cell? ⟨b, off, none⟩ = w.cell? ⟨b, off, none⟩ := by
  have := hg.block b hb (fun e => hne (Option.some.inj e))
  simp only [World.cell?, this]
mutual
theorem LT.reader {g : Nat} {s : ByteArray} {r : RS} {w w' : World} (h : RdAt g s r w) (hg : w.grownBy w' (some g)) : ∀ (t : Tree) (cs : List Value), LT w w.heap.size t cs → LT w' w'.heap.size t cs
  | .node k s ts, cs, hl => by
    rw [LT] at hl ⊢
    obtain ⟨A, c, h1, h2, h3⟩ := hl
    exact ⟨A, c, h1, h2, LK.reader h hg ts A h3⟩
theorem LK.reader {g : Nat} {s : ByteArray} {r : RS} {w w' : World} (h : RdAt g s r w) (hg : w.grownBy w' (some g)) : ∀ (ts : List Tree) (A : Option Addr), LK w w.heap.size ts A → LK w' w'.heap.size ts A
  | [], _, _ => by rw [LK]; trivial
  | t :: ts, A, hl => by
    rw [LK] at hl ⊢
    obtain ⟨b, off, cs, h1, h2, h3, h4, h5, h6⟩ := hl
    have hne : b ≠ g := by
      obtain ⟨A', c', e, _, _⟩ := h5.parts
      have hc := h4 1 (by omega)
      subst e
      exact rd_apart h hc
    exact ⟨b, off, cs, h1, Nat.lt_of_lt_of_le h2 hg.size, h3, fun j hj => (cell_grown hg h2 hne).trans (h4 j hj), LT.reader h hg t cs h5, LK.reader h hg ts _ h6⟩
end
end Go.Proofs.Ytnjjchbgnmjkjaa
