/- slices.Equal at ints, for every two slices. -/
import Derived.Test.YteinbjopclblaaaMem
import Derived.Test.YteinbjopclblaaaShelf
namespace Go.Proofs.Yteinbjopclblaaa
open Go.RowKit

theorem Sl.icells {w : World} {B n : Nat} {A : Option Addr} {zs : List Int} (h : Sl w B 1 A n (zs.map (Value.int .i64))) (hp : 0 < n) :
    ∃ b off, A = some ⟨b, off, none⟩ ∧ zs.length = n ∧ ∀ j, j < zs.length → w.cell? ⟨b, off + j, none⟩ = some (.int .i64 (zs.getD j 0)) := by
  have hl := h.len
  rw [List.length_map] at hl
  obtain ⟨b, off, e, _, hc⟩ := h.src (by rw [List.length_map]; omega)
  refine ⟨b, off, e, by omega, fun j hj => ?_⟩
  rw [hc j (by rw [List.length_map]; exact hj), List.getElem_map, List.getD_eq_getElem?_getD, List.getElem?_eq_getElem hj]
  rfl
theorem Sl.izero {w : World} {B : Nat} {A : Option Addr} {zs : List Int} (h : Sl w B 1 A 0 (zs.map (Value.int .i64))) : zs = [] :=
  List.eq_nil_of_length_eq_zero (by have := h.len; rw [List.length_map] at this; omega)
theorem EqualI_any {w : World} {B B2 n m : Nat} {A A2 : Option Addr} {zs ys : List Int} (c d : Nat) (h : Sl w B 1 A n (zs.map (Value.int .i64))) (h2 : Sl w B2 1 A2 m (ys.map (Value.int .i64))) (hbig : n ≤ 9223372036854775807) (hbig2 : m ≤ 9223372036854775807) :
    Calls Try.prog 69 #[.slice A n c, .slice A2 m d] w fun e w' => e = .returned (.bool (zs == ys)) ∧ ∃ q, w' = w.drewN q := by
  have l1 := h.len
  have l2 := h2.len
  rw [List.length_map] at l1 l2
  by_cases hnm : n = m
  · subst hnm
    rcases Nat.eq_zero_or_pos n with rfl | hp
    · rw [h.izero, h2.izero]
      exact (Try.slices_Equal_int_empty A A2 c 0 d w (by decide)).mono fun e w' ⟨h1, h2⟩ => ⟨h1.trans (by simp), 0, h2⟩
    · obtain ⟨b, off, rfl, hz, hc⟩ := h.icells hp
      obtain ⟨b2, off2, rfl, hz2, hc2⟩ := h2.icells hp
      have := Try.slices_Equal_int b off n c b2 off2 n d zs ys w (by omega) (by omega) hbig hbig2 hc hc2
      rw [List.take_of_length_le (by omega), List.take_of_length_le (by omega)] at this
      exact this
  · refine (Try.slices_Equal_int_lens A A2 n c m d w hnm).mono fun e w' ⟨h1, h2⟩ => ⟨h1.trans ?_, 0, h2⟩
    have : ¬ zs = ys := fun e => by subst e; omega
    simp [this]
end Go.Proofs.Yteinbjopclblaaa
