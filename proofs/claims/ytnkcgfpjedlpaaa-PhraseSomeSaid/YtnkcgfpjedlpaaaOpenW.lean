/- An argument that is a list of strings opened. -/
import Derived.Test.YtnkcgfpjedlpaaaOpen
namespace Go.Proofs.Ytnkcgfpjedlpaaa
open Go.RowKit Go.ChangeShapes Go.WideShapes Go.Deep

structure WArg where
  A : Option Addr
  c : Nat
  l : List ByteArray
structure WordsArg (W : World) (v : Value) (a : WArg) : Prop where
  val : v = .slice a.A a.l.length a.c
  sl : Sl W W.heap.size 1 a.A a.l.length (a.l.map Value.string)
def WordsDat {H : Type} (a : WArg) (d : DataW H) : Prop := (d = .nil ∧ a.l = []) ∨ ∃ sp, d = .slice (a.l.map fun z => (.lit (.string z.data.toList) : DataW H)) sp
theorem words_small {H : Type} {a : WArg} {d : DataW H} (_ : WordsDat a d) (_ : (d.weights Try.prog 22).all (· ≤ reachBytes) = true) : True := trivial
theorem flat_words : ∀ l : List ByteArray, l.flatMap (fun z : ByteArray => [Value.string z]) = l.map Value.string := fun l => by
  induction l with
  | nil => rfl
  | cons a r ih => rw [List.flatMap_cons, ih]; rfl
theorem cellsOf_word : Try.prog.cellsOf 9 = 1 := by kernel_rfl
set_option maxRecDepth 100000 in
theorem open_words {H : Type} {enc : TypeId × Value → H} {W : World} {base b0 : Nat} {r : Reach} {spare : Nat → Bool} {held : Bool} {v : Value} {d : DataW H} {p : List MemPlace}
    (hv : Value.okWide Try.prog W r b0 22 v) (h : DataW.Trod enc Try.prog W base spare held 22 v d p) :
    ∃ a, WordsArg W v a ∧ WordsDat a d := by
  obtain ⟨a, len0, cap, rfl⟩ := okWide_slice Try.underlying22 hv
  obtain ⟨fuel, h⟩ := h
  obtain ⟨A, len, c, l, h1, h2, h3, _, _, h6, h7⟩ := open_list 1 (fun z : ByteArray => [Value.string z]) (fun z => (.lit (.string z.data.toList) : DataW H)) (fun _ => True) Try.underlying22 cellsOf_word (fun _ => rfl)
    (fun n cs' y hy => by
      obtain ⟨k, e0, hy1, _⟩ := DataW.trod_string Try.underlying9 hy
      exact ⟨k, e0, by rw [hy1], trivial⟩) h
  subst h2
  rw [flat_words] at h6
  have h1 : [Value.slice a len0 cap] = [Value.slice A l.length c] := h1
  have e : Value.slice a len0 cap = .slice A l.length c := (List.cons.inj h1).1
  exact ⟨⟨A, c, l⟩, ⟨e, h6⟩, h7⟩
end Go.Proofs.Ytnkcgfpjedlpaaa
