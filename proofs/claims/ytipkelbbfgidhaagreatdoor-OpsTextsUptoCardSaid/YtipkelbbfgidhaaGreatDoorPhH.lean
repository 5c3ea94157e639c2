/- The sort of a row of edges, whatever its length. -/
import Derived.Test.YtipkelbbfgidhaaGreatDoorPhQ
import Derived.Test.YtipkelbbfgidhaaGreatDoorPhU
import Derived.Test.YtipkelbbfgidhaaGreatDoorPhX
namespace Go.Proofs.YtipkelbbfgidhaaGreatDoor
open Go.RowKit Go.Sort Go.Shelf Go.Lib

theorem below_sort (B : Nat) (w : World) (blk off n : Nat) (d : Array EdgeS) (os : Array Obj) (hB : B ≤ blk) (hw : B ≤ w.heap.size) : Below B w (sortWorldK encS 2 w blk off n d os) := by
  unfold sortWorldK putRowK
  have h1 : Below B w (putRow id (Sort.ahead w n) blk off (flatK encS 2 d)) := ⟨rfl, rfl, rfl, by simp, fun j hj => by
    unfold putRow mapBlock
    show ((w.heap.modify blk _))[j]? = _
    rw [Array.getElem?_modify, if_neg (by omega)]⟩
  exact h1.trans (below_grow B _ (by simpa using hw) 0 os)
def toS (e : Nat × UInt8) : EdgeS := (⟨e.1 % 65536, Nat.mod_lt _ (by decide)⟩, e.2)
def ofS (e : EdgeS) : Nat × UInt8 := (e.1.val, e.2)
theorem of_to {l : List (Nat × UInt8)} (h : ∀ e ∈ l, e.1 < 65536) : (l.map toS).map ofS = l := by
  rw [List.map_map]
  refine (List.map_congr_left fun e he => ?_).trans (List.map_id l)
  have := h e he
  exact Prod.ext (Nat.mod_eq_of_lt this) rfl
theorem kind_sort {W : World} {g n : Nat} {d : Array EdgeS} {os : Array Obj} {cs : Array Value} {t : TypeId} {fz : Nat × Nat} (h : W.heap[g]? = some (.cells cs t fz)) : ∃ cs', (sortWorldK encS 2 W g 0 n d os).heap[g]? = some (.cells cs' t fz) := by
  have hlt : g < W.heap.size := (Array.getElem?_eq_some_iff.1 h).1
  refine ⟨putCells id 0 (flatK encS 2 d) cs, ?_⟩
  unfold sortWorldK putRowK putRow mapBlock grow
  show ((W.heap.modify g _) ++ os)[g]? = _
  rw [Array.getElem?_append_left (by simpa using hlt), Array.getElem?_modify, if_pos rfl, h]
  rfl
theorem holds_at {w : World} {g : Nat} {d : Array EdgeS} (h : HoldsK encS 2 w g 0 d) (j : Nat) (hj : j < d.size) : w.cell? ⟨g, j * 2, none⟩ = some (.int .i64 (d[j].1.val : Int)) ∧ w.cell? ⟨g, j * 2 + 1, none⟩ = some (.int .u8 d[j].2.toNat) := by
  have h0 := (h.cell hj (show 0 < 2 by decide)).1
  have h1 := (h.cell hj (show 1 < 2 by decide)).1
  rw [getElem!_pos d j hj] at h0 h1
  rw [show 0 + j * 2 + 0 = j * 2 by omega] at h0
  rw [show 0 + j * 2 + 1 = j * 2 + 1 by omega] at h1
  exact ⟨h0, h1⟩
theorem own_holds {W : World} {base g c : Nat} {l : List (Nat × UInt8)} (h : OwnG rowE W base (.slice (some ⟨g, 0, none⟩) l.length c) l) (hs : ∀ e ∈ l, e.1 < 65536) : HoldsK encS 2 W g 0 (l.map toS).toArray := by
  intro t ht
  rw [size_flatK] at ht
  have hk : t / 2 < l.length := by simp at ht; omega
  have hm : t % 2 < 2 := Nat.mod_lt _ (by decide)
  obtain ⟨h1, h2⟩ := h.at (t / 2) hk (t % 2) hm
  have e : t / 2 * rowE.size + t % 2 = t := by show t / 2 * 2 + t % 2 = t; omega
  rw [e] at h1 h2
  rw [Nat.zero_add]
  refine ⟨h1.trans ?_, h2⟩
  have hd : (l.map toS).toArray[t / 2]! = toS l[t / 2] := by rw [getElem!_pos _ _ (by simpa using hk)]; simp
  rw [get_flatK _ _ _ _ ht, hd]
  have hlt := hs _ (List.getElem_mem hk)
  rcases Nat.mod_two_eq_zero_or_one t with e0 | e0
  · rw [e0]
    show some (Value.int .i64 (l[t / 2].1 : Int)) = some (Value.int .i64 ((l[t / 2].1 % 65536 : Nat) : Int))
    rw [Nat.mod_eq_of_lt hlt]
  · rw [e0]; rfl
theorem sort_row {base : Nat} {v : Value} {l : List (Nat × UInt8)} {W : World} (h : OwnG rowE W base v l) (hbase : base ≤ W.heap.size) (hs : ∀ e ∈ l, e.1 < 65536) (hl : l.length ≤ 4096) :
    Calls Tryz.prog 73 #[v, .func (.func 74) #[] #[]] W fun e w' =>
      e = .returned (.tuple #[]) ∧ Below base W w' ∧ ∃ l', l'.Perm l ∧ EdgesAt w' base v l' := by
  rcases h.cases with ⟨rfl, rfl⟩ | ⟨g, c, rfl, hbg, hg⟩
  · refine (sort_nil _ W).mono ?_
    rintro e w' ⟨rfl, rfl⟩
    exact ⟨rfl, Below.refl _ _, [], List.Perm.refl _, none, 0, rfl, fun h => absurd h (by simp)⟩
  · have hh := own_holds h hs
    have hz : (l.map toS).toArray.size = l.length := by simp
    have hc := edge_sort g 0 c (l.map toS).toArray W hh hg (by rw [hz]; omega)
    rw [hz] at hc
    refine hc.mono ?_
    rintro e w' ⟨rfl, d', n, os, hp, _, rfl⟩
    have hp2 : d'.toList.Perm (l.map toS) := by
      have := perm_all (d := (l.map toS).toArray) (d' := d') (by rw [hz]; exact hp)
      simpa using this
    have hz' : d'.size = l.length := by have := hp2.length_eq; simpa using this
    obtain ⟨cs, fz, hcs⟩ := Lib.ownsRow_kind h g rfl
    obtain ⟨cs', hcs'⟩ := kind_sort (n := n) (d := d') (os := os) hcs
    have hh' : HoldsK encS 2 (sortWorldK encS 2 W g 0 n d' os) g 0 d' := holdsK_sortWorldK_c _ _ _ _ _ _ _ _ _ hh hg (by rw [hz', hz])
    refine ⟨rfl, below_sort base W g 0 n d' os hbg hbase, d'.toList.map ofS, ?_, some ⟨g, 0, none⟩, c, by simp [hz'], fun _ => ⟨g, cs', fz, rfl, hbg, hcs', fun j hj => ?_⟩⟩
    · have := hp2.map ofS
      rwa [of_to hs] at this
    · have hj' : j < d'.size := by simpa using hj
      obtain ⟨h1, h2⟩ := holds_at hh' j hj'
      rw [cell_of_row _ g _ _ _ _ hcs'] at h1 h2
      rw [h1, h2]
      simp [ofS]
end Go.Proofs.YtipkelbbfgidhaaGreatDoor
