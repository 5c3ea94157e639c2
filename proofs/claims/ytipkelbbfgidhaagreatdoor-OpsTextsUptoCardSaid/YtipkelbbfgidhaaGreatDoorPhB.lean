/- The words that end at a node: rows of numbers, sorted. -/
import Derived.Test.YtipkelbbfgidhaaGreatDoorPhE
import Derived.Test.YtipkelbbfgidhaaGreatDoorShelf
import Derived.Lib.AppendIntMem
namespace Go.Proofs.YtipkelbbfgidhaaGreatDoor
open Go.RowKit Go.Sort Go.Lib

/-- These numbers lie there, in a block at least lo. -/
def EndsAt (w : World) (lo : Nat) (s : SlT) (l : List Nat) : Prop :=
  s.2.1 = l.length ∧ (0 < l.length → ∃ g : Nat, s.1 = some ⟨g, 0, none⟩ ∧ lo ≤ g ∧ g < w.heap.size ∧ ∀ j (h : j < l.length), w.cell? ⟨g, j, none⟩ = some (.int .i64 (l[j] : Int)))
theorem EndsAt.keep {w w' : World} {lo : Nat} {s : SlT} {l : List Nat} (h : EndsAt w lo s l) (hz : w.heap.size ≤ w'.heap.size) (hk : ∀ g, lo ≤ g → g < w.heap.size → w'.heap[g]? = w.heap[g]?) : EndsAt w' lo s l := by
  refine ⟨h.1, fun h0 => ?_⟩
  obtain ⟨g, e, h1, h2, h3⟩ := h.2 h0
  refine ⟨g, e, h1, by omega, fun j hj => ?_⟩
  have := hk g h1 h2
  rw [show w'.cell? ⟨g, j, none⟩ = w.cell? ⟨g, j, none⟩ by simp only [World.cell?, this]]
  exact h3 j hj
theorem EndsAt.sl {w : World} {lo : Nat} {s : SlT} {l : List Nat} (h : EndsAt w lo s l) : Sl w w.heap.size 1 s.1 s.2.1 (l.flatMap rowI.cells) := by
  have hl := flat_len rowI.cells 1 (fun _ => rfl) l
  refine ⟨by rw [hl, h.1], fun hp => ?_⟩
  obtain ⟨g, e, h1, h2, h3⟩ := h.2 (by omega)
  refine ⟨g, 0, e, h2, fun j hj => ?_⟩
  have hj' : j < l.length := by omega
  have hf := flat_at rowI.cells 1 (fun _ => rfl) l j 0 hj' (by decide)
  rw [show j * 1 + 0 = j by omega, List.getElem?_eq_getElem hj] at hf
  rw [Nat.zero_add, h3 j hj']
  exact hf.symm
def sortN (l : List Nat) : List Nat := ((l.map fun (x : Nat) => (x : Int)).mergeSort fun x y => decide (x ≤ y)).map Int.toNat
theorem sortN_cast (l : List Nat) : ((l.map fun (x : Nat) => (x : Int)).mergeSort fun x y => decide (x ≤ y)) = (sortN l).map fun (x : Nat) => (x : Int) := by
  unfold sortN
  rw [List.map_map]
  refine (List.map_id _).symm.trans (List.map_congr_left fun x hx => ?_)
  have hx2 := (List.mergeSort_perm _ _).mem_iff.1 hx
  obtain ⟨y, _, rfl⟩ := List.mem_map.1 hx2
  simp
theorem sortN_perm (l : List Nat) : (sortN l).Perm l := by
  have := (List.mergeSort_perm (l.map fun (x : Nat) => (x : Int)) fun x y => decide (x ≤ y)).map Int.toNat
  refine this.trans ?_
  rw [List.map_map]
  have : (l.map (Int.toNat ∘ fun (x : Nat) => (x : Int))) = l := (List.map_congr_left fun x _ => by simp).trans (List.map_id l)
  rw [this]
theorem sortN_sorted {l : List Nat} (h : l.Nodup) : (sortN l).Pairwise (· < ·) := by
  have h1 : ((sortN l).map fun (x : Nat) => (x : Int)).Pairwise fun x y => decide (x ≤ y) = true := by
    rw [← sortN_cast]
    exact List.pairwise_mergeSort (fun a b c h1 h2 => by simp at h1 h2 ⊢; omega) (fun a b => by simp; omega) _
  rw [List.pairwise_map] at h1
  have h2 : (sortN l).Nodup := (sortN_perm l).nodup_iff.2 h
  have h3 := List.Pairwise.and h1 (List.nodup_iff_pairwise_ne.1 h2)
  exact h3.imp fun ⟨a, b⟩ => by simp at a; omega
theorem below_sortI (w : World) (g n : Nat) (d : Array Int) (os : Array Obj) (hg : g < w.heap.size) : w.grownBy (grow (putRow (Value.int .i64) (Sort.ahead w n) g 0 d) os) (some g) where
  os := rfl
  tape := rfl
  output := rfl
  size := by show w.heap.size ≤ ((w.heap.modify g _) ++ os).size; rw [Array.size_append, Array.size_modify]; omega
  block i hi hne := by
    show ((w.heap.modify g _) ++ os)[i]? = _
    rw [Array.getElem?_append_left (by rw [Array.size_modify]; exact hi), Array.getElem?_modify, if_neg (fun e => hne (by rw [e]))]
theorem sort_ends {w : World} {lo : Nat} {s : SlT} {l : List Nat} (h : OwnG rowI w lo (slV s) l) (hl : l.length ≤ 4096) :
    Calls Tryz.prog 52 #[slV s] w fun e w' => e = .returned (.tuple #[]) ∧ EndsAt w' lo s (sortN l) ∧ ∃ g, w.grownBy w' (some g) ∧ (lo ≤ g ∨ w' = w) := by
  have hlen : (sortN l).length = l.length := (sortN_perm l).length_eq
  rcases h.cases with ⟨h1, rfl⟩ | ⟨g, c, h1, hb, hg⟩
  · rw [h1]
    refine (Tryz.slices_Sort_int_none none 0 w).mono ?_
    rintro e w' ⟨rfl, rfl⟩
    obtain ⟨s1, s2, s3⟩ := s
    injection h1 with e1 e2 e3
    dsimp only at e1 e2 e3
    subst e1; subst e2
    exact ⟨rfl, ⟨by rw [hlen]; rfl, fun h => absurd h (by rw [hlen]; simp)⟩, lo, ⟨rfl, rfl, rfl, Nat.le_refl _, fun _ _ _ => rfl⟩, .inr rfl⟩
  · obtain ⟨s1, s2, s3⟩ := s
    injection h1 with e1 e2 e3
    dsimp only at e1 e2 e3
    subst e1; subst e2; subst e3
    have hH : Holds (Value.int .i64) w g 0 (l.map fun (x : Nat) => (x : Int)).toArray := fun j hj => by
      have hj' : j < l.length := by simpa using hj
      have := h.at j hj' 0 (by decide)
      rw [show j * rowI.size + 0 = j by simp [rowI]] at this
      rw [Nat.zero_add, getElem!_pos (l.map fun (x : Nat) => (x : Int)).toArray j hj]
      refine ⟨this.1.trans ?_, this.2⟩
      simp [rowI]
    have hc := Tryz.slices_Sort_int g 0 s3 (l.map fun (x : Nat) => (x : Int)) w hH hg (by rw [List.length_map]; omega)
    rw [List.length_map] at hc
    unfold slV
    refine hc.mono ?_
    rintro e w' ⟨rfl, n, os, rfl⟩
    rw [sortN_cast]
    have hgr := below_sortI w g n ((sortN l).map fun (x : Nat) => (x : Int)).toArray os hg
    refine ⟨rfl, ⟨hlen.symm, fun _ => ⟨g, rfl, hb, Nat.lt_of_lt_of_le hg hgr.size, fun j hj => ?_⟩⟩, g, hgr, .inl hb⟩
    have hh := holds_putRow (Value.int .i64) (Sort.ahead w n) g 0 (l.map fun (x : Nat) => (x : Int)).toArray ((sortN l).map fun (x : Nat) => (x : Int)).toArray (holds_ahead _ _ _ _ _ _ hH) (by simp [hlen])
    have hh2 := (holds_grow (Value.int .i64) _ os g 0 _ (by simpa using hg) hh j (by simpa using hj)).1
    rw [Nat.zero_add] at hh2
    rw [hh2, getElem!_pos ((sortN l).map fun (x : Nat) => (x : Int)).toArray j (by simpa using hj)]
    simp
end Go.Proofs.YtipkelbbfgidhaaGreatDoor
