/- slices.Contains and slices.Equal at strings, for every slice. -/
import Derived.Test.YtchoenfclfafiaaDoorMem
import Derived.Test.YtchoenfclfafiaaDoorShelf
namespace Go.Proofs.YtchoenfclfafiaaDoor
open Go.RowKit

theorem Sl.cells {w : World} {B n : Nat} {A : Option Addr} {zs : List ByteArray} (h : Sl w B 1 A n (zs.map Value.string)) (hp : 0 < n) :
    ∃ b off, A = some ⟨b, off, none⟩ ∧ zs.length = n ∧ ∀ j, j < zs.length → w.cell? ⟨b, off + j, none⟩ = some (.string (zs.getD j ByteArray.empty)) := by
  have hl := h.len
  rw [List.length_map] at hl
  obtain ⟨b, off, e, _, hc⟩ := h.src (by rw [List.length_map]; omega)
  refine ⟨b, off, e, by omega, fun j hj => ?_⟩
  rw [hc j (by rw [List.length_map]; exact hj), List.getElem_map, List.getD_eq_getElem?_getD, List.getElem?_eq_getElem hj]
  rfl
theorem Sl.zero {w : World} {B : Nat} {A : Option Addr} {zs : List ByteArray} (h : Sl w B 1 A 0 (zs.map Value.string)) : zs = [] :=
  List.eq_nil_of_length_eq_zero (by have := h.len; rw [List.length_map] at this; omega)
theorem ContainsS_any {w : World} {B n : Nat} {A : Option Addr} {zs : List ByteArray} (c : Nat) (x : ByteArray) (h : Sl w B 1 A n (zs.map Value.string)) (hbig : n ≤ 9223372036854775807) :
    Calls Tryd.prog 48 #[.slice A n c, .string x] w fun e w' => e = .returned (.bool (Lib.containsS zs x)) ∧ w' = w := by
  rcases Nat.eq_zero_or_pos n with rfl | hp
  · rw [h.zero]
    exact Tryd.slices_Contains_string_empty A c x w
  · obtain ⟨b, off, rfl, hz, hc⟩ := h.cells hp
    have := Tryd.slices_Contains_string b off n c zs x w (by omega) hbig hc
    rw [List.take_of_length_le (by omega)] at this
    exact this
end Go.Proofs.YtchoenfclfafiaaDoor
