/- slices.Contains and slices.Equal at strings, for every slice. -/
import Derived.Test.YtjnfddibmijdkaaDoorMem
import Derived.Test.YtjnfddibmijdkaaDoorShelf
namespace Go.Proofs.YtjnfddibmijdkaaDoor
open Go.RowKit

theorem Sl.cells {w : World} {B n : Nat} {A : Option Addr} {zs : List ByteArray} (h : Sl w B 1 A n (zs.map Value.string)) (hp : 0 < n) :
    ∃ b off, A = some ⟨b, off, none⟩ ∧ zs.length = n ∧ ∀ j, j < zs.length → w.cell? ⟨b, off + j, none⟩ = some (.string (zs.getD j ByteArray.empty)) := by
  have hl := h.len
  rw [List.length_map] at hl
  obtain ⟨b, off, e, _, hc⟩ := h.src (by rw [List.length_map]; omega)
  refine ⟨b, off, e, by omega, fun j hj => ?_⟩
  rw [hc j (by rw [List.length_map]; exact hj), List.getElem_map, List.getD_eq_getElem?_getD, List.getElem?_eq_getElem hj]
  rfl
theorem Sl.zero {w : World} {B : Nat} {A : Option Addr} {zs : List ByteArray} (h : Sl w B 1 A 0 (zs.map Value.string)) : zs = [] :=
  List.eq_nil_of_length_eq_zero (by have := h.len; rw [List.length_map] at this; omega)
end Go.Proofs.YtjnfddibmijdkaaDoor
