/- slices.Clone at []int. -/
import Derived.Test.YtipkelbbfgidhaaGreatDoorMem
import Derived.Lib.SliceRun
namespace Go.Proofs.YtipkelbbfgidhaaGreatDoor
open Go.RowKit

theorem info_I : (Tryz.prog.info? 3).map (fun i => (i.zero, i.size, i.bytes)) = some (some (.int .i64 0), 1, 8) := by kernel_rfl

set_option maxRecDepth 100000 in
set_option maxHeartbeats 800000 in
theorem CloneI_any (A : Option Addr) (n c : Nat) (xs : List Value) (w : World) (h : Sl w w.heap.size 1 A n xs) (h1 : ∀ u ∈ xs, u.oneCell' = true) (hn : n * 8 ≤ 140737488355328) :
    Calls Tryz.prog 51 #[.slice A n c] w (RowIs 3 1 n xs w) := by
  obtain ⟨i0, hi, hz0, hz1, hz2⟩ := info_parts info_I
  have hnil := fun (w : World) (a : Option Addr) (n c : Nat) => Lib.run_eql_slice_nil (P := Tryz.prog) w 89 3 a n c 0 0 Tryz.underlying89
  cases A with
  | none =>
    have hl := h.len
    have hxs : xs = [] := by
      rcases Nat.eq_zero_or_pos xs.length with h0 | h0
      · exact List.eq_nil_of_length_eq_zero h0
      · obtain ⟨b, off, e, _⟩ := h.src h0; cases e
    subst hxs
    have hn0 : n = 0 := by simp at hl; omega
    subst hn0
    go_enter Tryz.func51, Tryz.ntmps51
    go_wp2_with fail
    go_ret
    exact ⟨_, rfl, World.ownsRow_nil w _ 3 1, Below.refl _ _⟩
  | some ad =>
    have hcells : ∀ j u, xs[j]? = some u → w.cell? (ad.add j) = some u := fun j u hu => by
      have hj := (List.getElem?_eq_some_iff.1 hu).1
      obtain ⟨b, off, e, _, hc⟩ := h.src (by omega)
      injection e with e
      subst e
      rw [Go.WideShapes.add_plain, hc j hj, ← hu, List.getElem?_eq_getElem hj]
    have hcells2 : ∀ j u, xs[j]? = some u → (w.alloc (.cells #[] 3)).cell? (ad.add j) = some u := fun j u hu => cell_kept ((Below.refl _ _).alloc (Nat.le_refl _) _) (hcells j u hu)
    have HC := Lib.hid hcells2
    have hl := h.len
    clear h hcells hcells2
    go_enter Tryz.func51, Tryz.ntmps51
    go_wp2_with (at_builtin; refine wpList_append_own _ rfl _ _ 89 rfl w.heap.size 3 i0 (.int .i64 0) 1 8 Tryz.underlying89 hi hz0 hz1 hz2 rfl (by decide) (.slice (some ⟨w.heap.size, 0, none⟩) 0 0) 0 [] rfl (World.ownsRow_lit w #[] 0 (Nat.le_refl _) (by decide) (by simp)) ad n c xs rfl hl HC.out h1 (by unfold maxLen; omega) (by omega) (by simp) ?_; intro v' w1 hown hg _)
    go_ret
    refine ⟨_, rfl, by simpa using hown, ((Below.refl _ _).alloc (Nat.le_refl _) _).grown hg (by simp) (fun k hk => ?_)⟩
    simp [Value.ownBlock] at hk
    omega
end Go.Proofs.YtipkelbbfgidhaaGreatDoor
