/- Arguments that are bounds or networks opened. -/
import Derived.Test.YtchoenfclfafiaaDoorOpen
namespace Go.Proofs.YtchoenfclfafiaaDoor
open Go.RowKit Go.ChangeShapes Go.WideShapes Go.Deep

theorem cellsOf_bounds : Tryd.prog.cellsOf 47 = 3 := by kernel_rfl
set_option maxRecDepth 100000 in
theorem open_bounds {H : Type} {enc : TypeId × Value → H} {W : World} {base b0 : Nat} {r : Reach} {spare : Nat → Bool} {held : Bool} {v : Value} {d : DataW H} {p : List MemPlace}
    (hv : Value.okWide Tryd.prog W r b0 47 v) (h : DataW.Trod enc Tryd.prog W base spare held 47 v d p) :
    ∃ x y z : Int, v = .agg #[.int .i64 x, .int .i64 y, .int .i64 z] := by
  obtain ⟨v0, v1, v2, y0, y1, y2, n, rfl, rfl, rfl, h0, h1, h2⟩ := Joins.open_agg3 Tryd.underlying47 (by kernel_rfl) cellsOf_bounds hv h
  obtain ⟨k0, e0, _, _⟩ := DataW.trod_int Tryd.underlying3 h0
  obtain ⟨k1, e1, _, _⟩ := DataW.trod_int Tryd.underlying3 h1
  obtain ⟨k2, e2, _, _⟩ := DataW.trod_int Tryd.underlying3 h2
  injection e0 with e0 _
  injection e1 with e1 _
  injection e2 with e2 _
  subst e0; subst e1; subst e2
  exact ⟨k0, k1, k2, rfl⟩
theorem cellsOf_net : Tryd.prog.cellsOf 82 = 2 := by kernel_rfl
set_option maxRecDepth 100000 in
theorem open_net {H : Type} {enc : TypeId × Value → H} {W : World} {base b0 : Nat} {r : Reach} {spare : Nat → Bool} {held : Bool} {v : Value} {d : DataW H} {p : List MemPlace}
    (hv : Value.okWide Tryd.prog W r b0 82 v) (h : DataW.Trod enc Tryd.prog W base spare held 82 v d p) :
    ∃ x y : Int, v = .agg #[.int .u32 x, .int .i64 y] ∧ (0 ≤ x ∧ x ≤ 4294967295) ∧ -9223372036854775808 ≤ y ∧ y ≤ 9223372036854775807 := by
  obtain ⟨v0, v1, y0, y1, n, rfl, rfl, rfl, h0, h1⟩ := Joins.open_agg2 Tryd.underlying82 (by kernel_rfl) cellsOf_net hv h
  obtain ⟨k0, e0, _, w0⟩ := DataW.trod_int Tryd.underlying33 h0
  obtain ⟨k1, e1, _, w1⟩ := DataW.trod_int Tryd.underlying3 h1
  injection e0 with e0 _
  injection e1 with e1 _
  subst e0; subst e1
  exact ⟨k0, k1, rfl, by simpa [Lit.wf, IntKind.min, IntKind.max, IntKind.signed, IntKind.bits] using w0, by simpa [Lit.wf, IntKind.min, IntKind.max, IntKind.signed, IntKind.bits] using w1⟩
end Go.Proofs.YtchoenfclfafiaaDoor
