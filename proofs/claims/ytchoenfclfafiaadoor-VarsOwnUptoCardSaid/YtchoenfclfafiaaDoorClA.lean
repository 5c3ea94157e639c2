/- slices.Clone at []api.Arg. -/
import Derived.Test.YtchoenfclfafiaaDoorMem
import Derived.Lib.SliceRun
namespace Go.Proofs.YtchoenfclfafiaaDoor
open Go.RowKit

theorem info_A : (Tryd.prog.info? 37).map (fun i => (i.zero, i.size, i.bytes)) = some (some (.agg #[.string ByteArray.empty, .string ByteArray.empty]), 2, 32) := by kernel_rfl

set_option maxRecDepth 100000 in
set_option maxHeartbeats 800000 in
theorem CloneA_any (A : Option Addr) (n c : Nat) (xs : List Value) (w : World) (h : Sl w w.heap.size 2 A n xs) (h1 : ∀ u ∈ xs, u.oneCell' = true) (hn : n * 32 ≤ 140737488355328) :
    Calls Tryd.prog 14 #[.slice A n c] w (RowIs 37 2 n xs w) := by
  obtain ⟨i0, hi, hz0, hz1, hz2⟩ := info_parts info_A
  have hnil := fun (w : World) (a : Option Addr) (n c : Nat) => Lib.run_eql_slice_nil (P := Tryd.prog) w 23 37 a n c 0 0 Tryd.underlying23
  cases A with
  | none =>
    have hl := h.len
    have hxs : xs = [] := by
      rcases Nat.eq_zero_or_pos xs.length with h0 | h0
      · exact List.eq_nil_of_length_eq_zero h0
      · obtain ⟨b, off, e, _⟩ := h.src h0; cases e
    subst hxs
    have hn0 : n = 0 := by simp at hl; omega
    subst hn0
    go_enter Tryd.func14, Tryd.ntmps14
    go_wp2_with fail
    go_ret
    exact ⟨_, rfl, World.ownsRow_nil w _ 37 2, Below.refl _ _⟩
  | some ad =>
    have hcells : ∀ j u, xs[j]? = some u → w.cell? (ad.add j) = some u := fun j u hu => by
      have hj := (List.getElem?_eq_some_iff.1 hu).1
      obtain ⟨b, off, e, _, hc⟩ := h.src (by omega)
      injection e with e
      subst e
      rw [Go.WideShapes.add_plain, hc j hj, ← hu, List.getElem?_eq_getElem hj]
    have hcells2 : ∀ j u, xs[j]? = some u → (w.alloc (.cells #[] 37)).cell? (ad.add j) = some u := fun j u hu => cell_kept ((Below.refl _ _).alloc (Nat.le_refl _) _) (hcells j u hu)
    have HC := Lib.hid hcells2
    have hl := h.len
    clear h hcells hcells2
    go_enter Tryd.func14, Tryd.ntmps14
    go_wp2_with (at_builtin; refine wpList_append_own _ rfl _ _ 23 rfl w.heap.size 37 i0 (.agg #[.string ByteArray.empty, .string ByteArray.empty]) 2 32 Tryd.underlying23 hi hz0 hz1 hz2 rfl (by decide) (.slice (some ⟨w.heap.size, 0, none⟩) 0 0) 0 [] rfl (World.ownsRow_lit w #[] 0 (Nat.le_refl _) (by decide) (by simp)) ad n c xs rfl hl HC.out h1 (by unfold maxLen; omega) (by omega) (by simp) ?_; intro v' w1 hown hg _)
    go_ret
    refine ⟨_, rfl, by simpa using hown, ((Below.refl _ _).alloc (Nat.le_refl _) _).grown hg (by simp) (fun k hk => ?_)⟩
    simp [Value.ownBlock] at hk
    omega
end Go.Proofs.YtchoenfclfafiaaDoor
