/- An argument that is a request opened. -/
import Derived.Test.YtchoenfclfafiaaDoorOpenU
import Derived.Deep.Strs
namespace Go.Proofs.YtchoenfclfafiaaDoor
open Go.RowKit Go.ChangeShapes Go.WideShapes Go.Deep

theorem cellsOf_req : Tryd.prog.cellsOf 31 = 4 := by kernel_rfl
theorem cellsOf_fields : Tryd.prog.cellsOf 27 = 1 := by kernel_rfl
theorem list_three {α : Type} {l : List α} (h : l.length = 3) : ∃ a b c, l = [a, b, c] := by
  match l, h with
  | [a, b, c], _ => exact ⟨a, b, c, rfl⟩
/-- An argument that is a request. -/
structure RqV where
  m : ByteArray
  t : ByteArray
  A : Option Addr
  c : Nat
  fs : List (ByteArray × ByteArray)
  b : ByteArray
structure ReqArg (W : World) (v : Value) (a : RqV) : Prop where
  val : v = .agg #[.string a.m, .string a.t, .slice a.A a.fs.length a.c, .string a.b]
  sl : Sl W W.heap.size 2 a.A a.fs.length (cellsF a.fs)
  sizes : ∀ f ∈ a.fs, f.1.size ≤ maxLen ∧ f.2.size ≤ maxLen
  msize : a.m.size ≤ maxLen
  tsize : a.t.size ≤ maxLen
  bsize : a.b.size ≤ maxLen
def ReqDat {H : Type} (a : RqV) (d : DataW H) : Prop :=
  ∃ y : DataW H, d = .agg [.agg [.lit (.string a.m.data.toList), .lit (.string a.t.data.toList), y], .lit (.string a.b.data.toList)] ∧ ((y = .nil ∧ a.fs = []) ∨ ∃ sp, y = .slice (a.fs.map fieldD) sp)
set_option maxRecDepth 100000 in
theorem open_request {H : Type} {enc : TypeId × Value → H} {W : World} {base b0 : Nat} {r : Reach} {spare : Nat → Bool} {held : Bool} {v : Value} {d : DataW H} {p : List MemPlace}
    (hv : Value.okWide Tryd.prog W r b0 31 v) (h : DataW.Trod enc Tryd.prog W base spare held 31 v d p) :
    ∃ a, ReqArg W v a ∧ ReqDat a d := by
  obtain ⟨cs, rfl, hsz⟩ := okWide_struct Tryd.underlying31 hv
  obtain ⟨c0, c1, c2, c3, rfl⟩ := Joins.array4 (hsz.trans cellsOf_req)
  obtain ⟨fuel, hf⟩ := h
  obtain ⟨y0, y1, n, hx, _, h0, h1⟩ := trod_struct2 Tryd.underlying31 hf
  rw [cellsOf_head] at h0
  rw [cellsOf_str] at h1
  obtain ⟨z0, z1, z2, n', hx', _, g0, g1, g2⟩ := trod_struct3 Tryd.underlying29 h0
  rw [cellsOf_str] at g0 g1
  rw [cellsOf_fields] at g2
  obtain ⟨s0, e0, x0, w0⟩ := DataW.trod_string Tryd.underlying9 g0
  obtain ⟨s1, e1, x1, w1⟩ := DataW.trod_string Tryd.underlying9 g1
  obtain ⟨A, c, fs, e2, hs, hsl, hy⟩ := open_fields g2
  obtain ⟨s3, e3, x3, w3⟩ := DataW.trod_string Tryd.underlying9 h1
  injection e0 with e0 _
  injection e1 with e1 _
  injection e2 with e2 _
  injection e3 with e3 _
  subst e0; subst e1; subst e2; subst e3; subst x0; subst x1; subst x3
  have hd := congrArg Prod.fst hx
  dsimp only at hd
  subst hx'
  exact ⟨⟨s0, s1, A, c, fs, s3⟩, ⟨rfl, hsl, hs, w0, w1, w3⟩, z2.1, hd, hy⟩
structure ReqBulk (a : RqV) : Prop where
  m : a.m.size ≤ 1048576
  t : a.t.size ≤ 1048576
  b : a.b.size ≤ 1048576
  n : a.fs.length ≤ 1048576
theorem request_bulk {H : Type} {a : RqV} {d : DataW H} (h : ReqDat a d) (hb : Rows.uptoBulk d ≤ 1048576) : ReqBulk a := by
  obtain ⟨y, rfl, hy⟩ := h
  simp only [Rows.uptoBulk, Rows.uptoBulkAll, Array.length_toList] at hb
  refine ⟨?_, ?_, ?_, ?_⟩
  · have : a.m.data.size = a.m.size := rfl
    omega
  · have : a.t.data.size = a.t.size := rfl
    omega
  · have : a.b.data.size = a.b.size := rfl
    omega
  · rcases hy with ⟨_, h⟩ | ⟨sp, rfl⟩
    · rw [h]; exact Nat.zero_le _
    · have := slice_bulk (l := (a.fs.map fieldD : List (DataW H))) (sp := sp)
      rw [List.length_map] at this
      omega
theorem cellsOf_var : Tryd.prog.cellsOf 26 = 3 := by kernel_rfl
set_option maxRecDepth 100000 in
theorem open_var {H : Type} {enc : TypeId × Value → H} {W : World} {base b0 : Nat} {r : Reach} {spare : Nat → Bool} {held : Bool} {v : Value} {d : DataW H} {p : List MemPlace}
    (hv : Value.okWide Tryd.prog W r b0 26 v) (h : DataW.Trod enc Tryd.prog W base spare held 26 v d p) :
    ∃ (x y : Int) (z : ByteArray), v = .agg #[.int .i64 x, .int .i64 y, .string z] := by
  obtain ⟨v0, v1, v2, y0, y1, y2, n, rfl, rfl, rfl, h0, h1, h2⟩ := Joins.open_agg3 Tryd.underlying26 (by kernel_rfl) cellsOf_var hv h
  obtain ⟨k0, e0, _, _⟩ := DataW.trod_int Tryd.underlying3 h0
  obtain ⟨k1, e1, _, _⟩ := DataW.trod_int Tryd.underlying3 h1
  obtain ⟨k2, e2, _, _⟩ := DataW.trod_string Tryd.underlying9 h2
  injection e0 with e0 _
  injection e1 with e1 _
  injection e2 with e2 _
  subst e0; subst e1; subst e2
  exact ⟨k0, k1, k2, rfl⟩
end Go.Proofs.YtchoenfclfafiaaDoor
