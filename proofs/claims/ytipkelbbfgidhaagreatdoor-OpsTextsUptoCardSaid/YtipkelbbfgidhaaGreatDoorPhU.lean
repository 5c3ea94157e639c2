/- slices.SortFunc at edges. -/
import Derived.Test.YtipkelbbfgidhaaGreatDoorPhT
import Derived.Shelf.SlSortCmp.WholeK
namespace Go.Proofs.YtipkelbbfgidhaaGreatDoor
open Go.RowKit Go.Shelf Go.Lib Go.Sort

theorem edge_sort (blk off cap : Nat) (d : Array EdgeS) (w : World) (hH : HoldsK encS 2 w blk off d) (hblk : blk < w.heap.size) (hsz : d.size < 4611686018427387904) :
    Calls Tryz.prog 73 #[.slice (some ⟨blk, off, none⟩) d.size cap, .func (.func 74) #[] #[]] w fun e w' =>
      e = .returned (.tuple #[]) ∧ ∃ d' n os, PermIn 0 d.size d d' ∧ SortedIn (ltOf cmpS) 0 d.size d' ∧ w' = sortWorldK encS 2 w blk off n d' os :=
  AnyQ.slices_SortFunc edgeSort_lays 2 Tryz.isAgg122 Tryz.sizeOf122 encS (fun _ => rfl) (fun x v hv => by simp [encS] at hv; rcases hv with rfl | rfl <;> rfl) cmpS swoS 74 #[] blk off cap d w
    (enters_of Tryz.func74 (by kernel_rfl) rfl) (fun _ _ _ _ x y => cmp_calls x y _) hH hblk hsz
theorem perm_all {d d' : Array EdgeS} (h : PermIn 0 d.size d d') : d'.toList.Perm d.toList := by
  obtain ⟨h1, _, h2⟩ := h
  have e1 : d'.extract 0 d.size = d' := by rw [← h1]; simp
  have e2 : d.extract 0 d.size = d := by simp
  rwa [e1, e2] at h2
end Go.Proofs.YtipkelbbfgidhaaGreatDoor
