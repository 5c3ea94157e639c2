/- Arguments that are bounds or networks opened. -/
import Derived.Test.YtjnfddibmijdkaaDoorOpen
namespace Go.Proofs.YtjnfddibmijdkaaDoor
open Go.RowKit Go.ChangeShapes Go.WideShapes Go.Deep

theorem cellsOf_bounds : Tryd.prog.cellsOf 51 = 3 := by kernel_rfl
set_option maxRecDepth 100000 in
theorem open_bounds {H : Type} {enc : TypeId × Value → H} {W : World} {base b0 : Nat} {r : Reach} {spare : Nat → Bool} {held : Bool} {v : Value} {d : DataW H} {p : List MemPlace}
    (hv : Value.okWide Tryd.prog W r b0 51 v) (h : DataW.Trod enc Tryd.prog W base spare held 51 v d p) :
    ∃ x y z : Int, v = .agg #[.int .i64 x, .int .i64 y, .int .i64 z] := by
  obtain ⟨v0, v1, v2, y0, y1, y2, n, rfl, rfl, rfl, h0, h1, h2⟩ := Joins.open_agg3 Tryd.underlying51 (by kernel_rfl) cellsOf_bounds hv h
  obtain ⟨k0, e0, _, _⟩ := DataW.trod_int Tryd.underlying3 h0
  obtain ⟨k1, e1, _, _⟩ := DataW.trod_int Tryd.underlying3 h1
  obtain ⟨k2, e2, _, _⟩ := DataW.trod_int Tryd.underlying3 h2
  injection e0 with e0 _
  injection e1 with e1 _
  injection e2 with e2 _
  subst e0; subst e1; subst e2
  exact ⟨k0, k1, k2, rfl⟩
theorem cellsOf_net : Tryd.prog.cellsOf 38 = 2 := by kernel_rfl
set_option maxRecDepth 100000 in
theorem open_net {H : Type} {enc : TypeId × Value → H} {W : World} {base b0 : Nat} {r : Reach} {spare : Nat → Bool} {held : Bool} {v : Value} {d : DataW H} {p : List MemPlace}
    (hv : Value.okWide Tryd.prog W r b0 38 v) (h : DataW.Trod enc Tryd.prog W base spare held 38 v d p) :
    ∃ x y : Int, v = .agg #[.int .u32 x, .int .i64 y] ∧ (0 ≤ x ∧ x ≤ 4294967295) ∧ -9223372036854775808 ≤ y ∧ y ≤ 9223372036854775807 := by
  obtain ⟨v0, v1, y0, y1, n, rfl, rfl, rfl, h0, h1⟩ := Joins.open_agg2 Tryd.underlying38 (by kernel_rfl) cellsOf_net hv h
  obtain ⟨k0, e0, _, w0⟩ := DataW.trod_int Tryd.underlying36 h0
  obtain ⟨k1, e1, _, w1⟩ := DataW.trod_int Tryd.underlying3 h1
  injection e0 with e0 _
  injection e1 with e1 _
  subst e0; subst e1
  exact ⟨k0, k1, rfl, by simpa [Lit.wf, IntKind.min, IntKind.max, IntKind.signed, IntKind.bits] using w0, by simpa [Lit.wf, IntKind.min, IntKind.max, IntKind.signed, IntKind.bits] using w1⟩
end Go.Proofs.YtjnfddibmijdkaaDoor
