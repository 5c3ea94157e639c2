/- An argument that is an expression. -/
import Derived.Test.YtnjjchbgnmjkjaaRexN4
namespace Go.Proofs.Ytnjjchbgnmjkjaa
open Go.RowKit

structure XArg where
  t : Tree
  A : Option Addr
  c : Nat
structure RexArg (W : World) (v : Value) (a : XArg) : Prop where
  val : v = argX a.t a.A a.c
  lt : LT W W.heap.size a.t (cellsX a.t.kind a.t.set a.A a.t.kids.length a.c)
theorem rex_small {p : Prop} (_ : True) (_ : p) : True := trivial
theorem rex_bulk {p : Prop} (_ : True) (_ : p) : True := trivial
set_option maxRecDepth 100000 in
theorem open_rexarg {H : Type} {enc : TypeId × Value → H} {W : World} {base b0 : Nat} {r : Reach} {spare : Nat → Bool} {held : Bool} {v : Value} {d : DataW H} {p : List MemPlace}
    (hv : Value.okWide Try.prog W r b0 27 v) (h : DataW.Trod enc Try.prog W base spare held 27 v d p) :
    ∃ a, RexArg W v a ∧ True := by
  obtain ⟨t, cs, rfl, hl⟩ := open_rex hv h
  obtain ⟨A, c, e, _⟩ := hl.parts
  refine ⟨⟨t, A, c⟩, ⟨?_, ?_⟩, trivial⟩
  · show Value.agg cs = argX t A c
    have : cs = (cellsX t.kind t.set A t.kids.length c).toArray := by rw [← e]
    rw [this]; rfl
  · show LT W W.heap.size t (cellsX t.kind t.set A t.kids.length c)
    rw [← e]; exact hl
end Go.Proofs.Ytnjjchbgnmjkjaa
