/- An argument that is a list of ints opened. -/
import Derived.Test.YtchoenfclfafiaaDoorOpen
import Derived.Test.YtchoenfclfafiaaDoorOpenU
namespace Go.Proofs.YtchoenfclfafiaaDoor
open Go.RowKit Go.ChangeShapes Go.WideShapes Go.Deep

structure IArg where
  A : Option Addr
  c : Nat
  l : List Int
structure IntsArg (W : World) (v : Value) (a : IArg) : Prop where
  val : v = .slice a.A a.l.length a.c
  sl : Sl W W.heap.size 1 a.A a.l.length (a.l.map (Value.int .i64))
  room : a.l.length ≤ a.c
def IntsDat {H : Type} (a : IArg) (d : DataW H) : Prop := (d = .nil ∧ a.l = []) ∨ ∃ sp, d = .slice (a.l.map fun z => (.lit (.int .i64 z) : DataW H)) sp
theorem ints__bulk {H : Type} {a : IArg} {d : DataW H} (h : IntsDat a d) (hb : Rows.uptoBulk d ≤ 1048576) : a.l.length ≤ 1048576 := by
  rcases h with ⟨_, h⟩ | ⟨sp, rfl⟩
  · rw [h]; exact Nat.zero_le _
  · have := slice_bulk (l := a.l.map fun z => (.lit (.int .i64 z) : DataW H)) (sp := sp)
    rw [List.length_map] at this
    omega
theorem bytesOf_int_ : Tryd.prog.bytesOf 3 = 8 := by kernel_rfl
theorem ints__small {H : Type} {a : IArg} {d : DataW H} (h : IntsDat a d) (hs : (d.weights Tryd.prog 48).all (· ≤ reachBytes) = true) : a.l.length ≤ 17592186044416 := by
  rcases h with ⟨_, h⟩ | ⟨sp, rfl⟩
  · rw [h]; exact Nat.zero_le _
  · have h2 := List.all_eq_true.1 hs (((a.l.map fun z => (.lit (.int .i64 z) : DataW H)).length + sp.length) * 8) (by simp [DataW.weights, Tryd.underlying48, bytesOf_int_])
    rw [List.length_map] at h2
    have h3 : (a.l.length + sp.length) * 8 ≤ reachBytes := by simpa using h2
    have : reachBytes = 140737488351232 := by decide
    omega
theorem flat_ints : ∀ l : List Int, l.flatMap (fun z : Int => [Value.int .i64 z]) = l.map (Value.int .i64) := fun l => by
  induction l with
  | nil => rfl
  | cons a r ih => rw [List.flatMap_cons, ih]; rfl
theorem cellsOf_int_ : Tryd.prog.cellsOf 3 = 1 := by kernel_rfl
set_option maxRecDepth 100000 in
theorem open_ints_ {H : Type} {enc : TypeId × Value → H} {W : World} {base b0 : Nat} {r : Reach} {spare : Nat → Bool} {held : Bool} {v : Value} {d : DataW H} {p : List MemPlace}
    (hv : Value.okWide Tryd.prog W r b0 48 v) (h : DataW.Trod enc Tryd.prog W base spare held 48 v d p) :
    ∃ a, IntsArg W v a ∧ IntsDat a d := by
  obtain ⟨a, len0, cap, rfl⟩ := okWide_slice Tryd.underlying48 hv
  obtain ⟨fuel, h⟩ := h
  obtain ⟨A, len, c, l, h1, h2, h3, _, _, h6, h7⟩ := open_list 1 (fun z : Int => [Value.int .i64 z]) (fun z => (.lit (.int .i64 z) : DataW H)) (fun _ => True) Tryd.underlying48 cellsOf_int_ (fun _ => rfl)
    (fun n cs' y hy => by
      obtain ⟨k, e0, hy1, _⟩ := DataW.trod_int Tryd.underlying3 hy
      exact ⟨k, e0, by rw [hy1], trivial⟩) h
  subst h2
  rw [flat_ints] at h6
  have h1 : [Value.slice a len0 cap] = [Value.slice A l.length c] := h1
  have e : Value.slice a len0 cap = .slice A l.length c := (List.cons.inj h1).1
  exact ⟨⟨A, c, l⟩, ⟨e, h6, h3⟩, h7⟩
end Go.Proofs.YtchoenfclfafiaaDoor
