/- Plain: there is a hit just if some word stands somewhere; more text keeps the hits. -/
import Derived.Test.YtnkcgfpjedlpaaaPhHi
import Derived.Test.YtnkcgfpjedlpaaaFinds
namespace Go.Proofs.Ytnkcgfpjedlpaaa
open Go.RowKit

theorem find_iff {s w : List UInt8} (hw : w ≠ []) : 0 ≤ findL s w 0 ↔ ∃ j, j < s.length ∧ w <:+ s.take (j + 1) := by
  have hwl : 0 < w.length := List.length_pos_iff.2 hw
  constructor
  · intro h
    rcases findL_cases s w 0 with ⟨h1, _⟩ | ⟨k, h1, _, h3, h4, _⟩
    · omega
    · unfold Lib.occAt at h4
      have hp := List.isPrefixOf_iff_prefix.1 h4
      obtain ⟨t, ht⟩ := hp
      have hl := congrArg List.length ht
      rw [List.length_append, List.length_drop] at hl
      refine ⟨k + w.length - 1, by omega, ?_⟩
      rw [show k + w.length - 1 + 1 = k + w.length by omega, List.take_add, ← ht, List.take_left]
      exact List.suffix_append _ _
  · rintro ⟨j, hj, a, ha⟩
    have hs : s = a ++ w ++ s.drop (j + 1) := by rw [ha, List.take_append_drop]
    obtain ⟨k, hk, _⟩ := find_mid a w (s.drop (j + 1))
    rw [← hs] at hk
    omega
theorem hits_iff (ws : List (List UInt8)) (s : List UInt8) : 0 < (hitsTo ws s s.length).length ↔ ∃ k, k < ws.length ∧ ∃ j, j < s.length ∧ ws.getD k [] <:+ s.take (j + 1) := by
  rw [List.length_pos_iff_exists_mem]
  constructor
  · rintro ⟨x, hx⟩
    unfold hitsTo at hx
    obtain ⟨j, hj, hx⟩ := List.mem_flatMap.1 hx
    unfold hitsAt at hx
    obtain ⟨k, hk, _⟩ := List.mem_map.1 hx
    exact ⟨k, (mem_endsOf.1 hk).1, j, List.mem_range.1 hj, (mem_endsOf.1 hk).2⟩
  · rintro ⟨k, hk, j, hj, h⟩
    exact ⟨(k, j + 1), List.mem_flatMap.2 ⟨j, List.mem_range.2 hj, List.mem_map.2 ⟨k, mem_endsOf.2 ⟨hk, h⟩, rfl⟩⟩⟩
theorem stands_iff {ws : List ByteArray} (hG : GoodW ws) (s : List UInt8) : anyN (fun k => decide (0 ≤ findL s ((lstS ws).getD k []) 0)) ws.length = decide (0 < (hitsTo (lstS ws) s s.length).length) := by
  have hle : (lstS ws).length = ws.length := by rw [lstS, List.length_map]
  have hne : ∀ k, k < ws.length → (lstS ws).getD k [] ≠ [] := fun k hk e => by
    rw [lst_getD hk] at e
    exact hG.full ws[k] (List.getElem_mem hk) (by have := congrArg List.length e; simpa using this)
  rw [Bool.eq_iff_iff, any_true, decide_eq_true_eq, hits_iff]
  constructor
  · rintro ⟨k, hk, h⟩
    rw [decide_eq_true_eq] at h
    exact ⟨k, by omega, (find_iff (hne k hk)).1 h⟩
  · rintro ⟨k, hk, h⟩
    exact ⟨k, by omega, decide_eq_true ((find_iff (hne k (by omega))).2 h)⟩
theorem hitsTo_app (ws : List (List UInt8)) (s m : List UInt8) : ∀ i, i ≤ s.length → hitsTo ws (s ++ m) i = hitsTo ws s i
  | 0, _ => rfl
  | i + 1, h => by
    rw [hitsTo_succ, hitsTo_succ, hitsTo_app ws s m i (by omega)]
    unfold hitsAt
    rw [List.take_append_of_le_length h]
theorem hits_more (ws : List (List UInt8)) (s m : List UInt8) : hitsTo ws s s.length <+: hitsTo ws (s ++ m) (s ++ m).length := by
  rw [← hitsTo_app ws s m s.length (Nat.le_refl _)]
  exact hitsTo_pre ws (s ++ m) (by rw [List.length_append]; omega)
theorem Sl.front {α : Type} {R : RowT α} {w : World} {B : Nat} {A : Option Addr} {l m : List α} (h : Sl w B R.size A m.length (m.flatMap R.cells)) (hp : l <+: m) : Sl w B R.size A l.length (l.flatMap R.cells) := by
  obtain ⟨r, rfl⟩ := hp
  have hl := flat_len R.cells R.size R.hsz l
  refine ⟨hl, fun h0 => ?_⟩
  have hlt : (l.flatMap R.cells).length ≤ ((l ++ r).flatMap R.cells).length := by rw [List.flatMap_append, List.length_append]; omega
  obtain ⟨b, off, e, hb, hc⟩ := h.src (by omega)
  refine ⟨b, off, e, hb, fun j hj => ?_⟩
  rw [hc j (by omega)]
  simp only [List.flatMap_append]
  rw [List.getElem_append_left hj]
end Go.Proofs.Ytnkcgfpjedlpaaa
