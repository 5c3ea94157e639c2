/- An argument that is a list of arguments opened. -/
import Derived.Test.YtchoenfclfafiaaOpen
import Derived.Test.YtchoenfclfafiaaOpenU
import Derived.Test.YtchoenfclfafiaaArgW
namespace Go.Proofs.Ytchoenfclfafiaa
open Go.RowKit Go.ChangeShapes Go.WideShapes Go.Deep

structure GArg where
  A : Option Addr
  c : Nat
  l : List Pair
structure ArgsArg (W : World) (v : Value) (a : GArg) : Prop where
  val : v = .slice a.A a.l.length a.c
  sl : Sl W W.heap.size 2 a.A a.l.length (a.l.flatMap cellsA)
def argD {H : Type} (f : Pair) : DataW H := .agg [.lit (.string f.1.data.toList), .lit (.string f.2.data.toList)]
def ArgsDat {H : Type} (a : GArg) (d : DataW H) : Prop := (d = .nil ∧ a.l = []) ∨ ∃ sp, d = .slice (a.l.map argD) sp
theorem bulkA_le {H : Type} : ∀ l : List Pair, bulkA l ≤ Rows.uptoBulkAll (l.map fun f => (argD f : DataW H)) ∧ l.length ≤ Rows.uptoBulkAll (l.map fun f => (argD f : DataW H))
  | [] => ⟨Nat.le_refl _, Nat.le_refl _⟩
  | x :: l => by
    have ih := bulkA_le (H := H) l
    have e1 : x.1.data.toList.length = x.1.size := by simp
    have e2 : x.2.data.toList.length = x.2.size := by simp
    have e : bulkA (x :: l) = (x.1.size + x.2.size + 2) + bulkA l := by unfold bulkA; rw [List.map_cons, List.sum_cons]
    rw [List.map_cons, Rows.uptoBulkAll, e, List.length_cons]
    simp only [argD, Rows.uptoBulk, Rows.uptoBulkAll, e1, e2]
    simp only [argD] at ih
    omega
theorem args_bulk {H : Type} {a : GArg} {d : DataW H} (h : ArgsDat a d) (hb : Rows.uptoBulk d ≤ 1048576) : bulkA a.l ≤ 1048576 ∧ a.l.length ≤ 1048576 := by
  rcases h with ⟨_, h⟩ | ⟨sp, rfl⟩
  · rw [h]; exact ⟨Nat.zero_le _, Nat.zero_le _⟩
  · have := bulkA_le (H := H) a.l
    rw [Rows.uptoBulk] at hb
    have e : (a.l.map fun f => (argD f : DataW H)) = a.l.map argD := rfl
    rw [e] at this
    omega
theorem cellsOf_strG : Try.prog.cellsOf 9 = 1 := by kernel_rfl
theorem cellsOf_arg : Try.prog.cellsOf 43 = 2 := by kernel_rfl
theorem list_twoG {α : Type} {l : List α} (h : l.length = 2) : ∃ a b, l = [a, b] := by
  match l, h with
  | [a, b], _ => exact ⟨a, b, rfl⟩
set_option maxRecDepth 100000 in
theorem open_args {H : Type} {enc : TypeId × Value → H} {W : World} {base b0 : Nat} {r : Reach} {spare : Nat → Bool} {held : Bool} {v : Value} {d : DataW H} {p : List MemPlace}
    (hv : Value.okWide Try.prog W r b0 40 v) (h : DataW.Trod enc Try.prog W base spare held 40 v d p) :
    ∃ a, ArgsArg W v a ∧ ArgsDat a d := by
  obtain ⟨a, len0, cap, rfl⟩ := okWide_slice Try.underlying40 hv
  obtain ⟨fuel, h⟩ := h
  obtain ⟨A, len, c, l, h1, h2, h3, _, _, h6, h7⟩ := open_list 2 cellsA argD (fun _ => True) Try.underlying40 cellsOf_arg (fun _ => rfl)
    (fun n cs' y hy => by
      obtain ⟨y0, y1, n', hx, hl, h0, h1⟩ := trod_struct2 Try.underlying43 hy
      rw [cellsOf_arg] at hl
      obtain ⟨c0, c1, rfl⟩ := list_twoG hl
      rw [cellsOf_strG] at h0 h1
      obtain ⟨s0, e0, x0, z0⟩ := DataW.trod_string Try.underlying9 h0
      obtain ⟨s1, e1, x1, z1⟩ := DataW.trod_string Try.underlying9 h1
      injection e0 with e0 _
      injection e1 with e1 _
      subst e0; subst e1; subst x0; subst x1; subst hx
      exact ⟨(s0, s1), rfl, rfl, trivial⟩) h
  subst h2
  have h1 : [Value.slice a len0 cap] = [Value.slice A l.length c] := h1
  exact ⟨⟨A, c, l⟩, ⟨(List.cons.inj h1).1, h6⟩, h7⟩
end Go.Proofs.Ytchoenfclfafiaa
