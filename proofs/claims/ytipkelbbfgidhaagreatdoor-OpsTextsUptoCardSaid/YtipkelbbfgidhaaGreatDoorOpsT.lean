/- ops.phrases walked, and what it makes. -/
import Derived.Test.YtipkelbbfgidhaaGreatDoorPhMk
import Derived.Test.YtipkelbbfgidhaaGreatDoorOpsP
import Derived.Test.YtipkelbbfgidhaaGreatDoorArgL
import Derived.Deep.RegionHeld3
namespace Go.Proofs.YtipkelbbfgidhaaGreatDoor
open Go.RowKit

def rowS : RowT ByteArray where
  e := 9
  t := 47
  size := 1
  bytes := 16
  z := .string ByteArray.empty
  cells x := [.string x]
  hsz _ := rfl
  hpos := by decide
  under := Tryz.underlying47
  info := by kernel_rfl
  hz := rfl
  one x u hu := by
    rw [List.mem_singleton] at hu
    rw [hu]; rfl
  hbytes := by decide
theorem rowS_flat (l : List ByteArray) : l.flatMap rowS.cells = l.map Value.string := by
  induction l with
  | nil => rfl
  | cons a r ih => rw [List.flatMap_cons, ih]; rfl
def lowB (p : ByteArray) : ByteArray := bs (lowerL p.data.toList)
def mixL (ps : List ByteArray) (k : Nat) : List ByteArray := (ps.take k).map lowB ++ ps.drop k
theorem mixL_len (ps : List ByteArray) (k : Nat) : (mixL ps k).length = ps.length := by
  unfold mixL
  rw [List.length_append, List.length_map, List.length_take, List.length_drop]
  omega
theorem mixL_next (ps : List ByteArray) (k : Nat) (hk : k < ps.length) : (mixL ps k)[k]? = some ps[k] ∧ (mixL ps k).set k (lowB ps[k]) = mixL ps (k + 1) := by
  have hl : ((ps.take k).map lowB).length = k := by rw [List.length_map, List.length_take]; omega
  have hd : ps.drop k = ps[k] :: ps.drop (k + 1) := List.drop_eq_getElem_cons hk
  refine ⟨?_, ?_⟩
  · unfold mixL
    rw [List.getElem?_append_right (by omega), hl, Nat.sub_self, hd]; rfl
  · unfold mixL
    rw [List.set_append_right _ _ (by omega), hl, Nat.sub_self, hd, List.set_cons_zero, List.take_succ_eq_append_getElem hk, List.map_append]
    simp
theorem mixL_all (ps : List ByteArray) : mixL ps ps.length = ps.map lowB := by
  unfold mixL
  rw [List.take_of_length_le (Nat.le_refl _), List.drop_eq_nil_of_le (Nat.le_refl _), List.append_nil]
/-- The phrases of an argument. -/
def piecesP (arg : ByteArray) : List ByteArray := Lib.splitB ⟨#[124]⟩ 0 (Lib.countB arg ⟨#[124]⟩) arg
def phrW (arg : ByteArray) : List ByteArray := (piecesP arg).map lowB
def phrF (gt gb : Nat) : Value := .func (.func 25) #[] #[.pointer (some ⟨gt, 0, none⟩), .pointer (some ⟨gb, 0, none⟩)]
/-- What tests values, in memory. -/
def PhrAt (ws : List ByteArray) (gt gb : Nat) (w : World) : Prop :=
  ∃ lo g cap ns ss ms A c, w.cell? ⟨gt, 0, none⟩ = some (.slice (some ⟨g, 0, none⟩) ms.length cap) ∧ w.cell? ⟨gb, 0, none⟩ = some (.slice A ws.length c) ∧ TreeIs w lo ws g cap ns ss ms
def PhrYes (ws : List ByteArray) (w : World) (e : Ending) (w' : World) : Prop :=
  Below w.heap.size w w' ∧ ∃ gt gb, e = .returned (.tuple #[phrF gt gb, .int .i64 0]) ∧ PhrAt ws gt gb w'
def PhrNo (w : World) (e : Ending) (w' : World) : Prop :=
  Below w.heap.size w w' ∧ ∃ gt gb, ∃ r : Nat, 0 < r ∧ e = .returned (.tuple #[phrF gt gb, .int .i64 (r : Int)])
theorem mix_at {ps : List ByteArray} {w : World} {base g : Nat} {k : Nat} (h : OwnG rowS w base (.slice (some ⟨g, 0, none⟩) ps.length ps.length) (mixL ps k)) (hk : k < ps.length) : w.cell? ⟨g, k, none⟩ = some (.string ps[k]) ∧ w.frozen? ⟨g, k, none⟩ = false := by
  have hl := mixL_len ps k
  rw [← hl] at h
  have := h.at k (by omega) 0 (by decide)
  rw [show k * rowS.size + 0 = k by simp [rowS]] at this
  obtain ⟨h1, _⟩ := mixL_next ps k hk
  rw [List.getElem?_eq_getElem (by omega)] at h1
  rw [Option.some.inj h1] at this
  exact this
theorem mix_set {ps : List ByteArray} {w : World} {base g : Nat} {k : Nat} (h : OwnG rowS w base (.slice (some ⟨g, 0, none⟩) ps.length ps.length) (mixL ps k)) (hk : k < ps.length) : OwnG rowS (w.setCell ⟨g, k, none⟩ (.string (lowB ps[k]))) base (.slice (some ⟨g, 0, none⟩) ps.length ps.length) (mixL ps (k + 1)) := by
  have hl := mixL_len ps k
  have h' := h
  rw [← hl] at h'
  have := (h'.stored k (by omega) 0 (by decide) (.string (lowB ps[k])) (lowB ps[k]) rfl).1
  rw [show k * rowS.size + 0 = k by simp [rowS], (mixL_next ps k hk).2, hl] at this
  exact this
def RelL (ps : List ByteArray) (w : World) (v : Value) (wr : World) : Prop :=
  ∃ k : Nat, k ≤ ps.length ∧ v = .int .i64 (k : Int) ∧ OwnG rowS wr w.heap.size (.slice (some ⟨w.heap.size, 0, none⟩) ps.length ps.length) (mixL ps k) ∧ wr.cell? ⟨w.heap.size + 1, 0, none⟩ = some (.slice (some ⟨w.heap.size, 0, none⟩) ps.length ps.length) ∧ Below w.heap.size w wr
theorem pieces_len (arg : ByteArray) : (piecesP arg).length = Lib.countB arg ⟨#[124]⟩ + 1 := Lib.splitB_all ⟨#[124]⟩ (by decide) 0 _ arg rfl
theorem splL_small (c : UInt8) : ∀ (l : List UInt8), ∀ x ∈ splL c l, x.length ≤ l.length
  | [], x, hx => by
    unfold splL at hx
    rw [List.mem_singleton] at hx
    rw [hx]; exact Nat.le_refl _
  | b :: l, x, hx => by
    have ih := splL_small c l
    unfold splL at hx
    rw [List.length_cons]
    split at hx
    · rcases List.mem_cons.1 hx with rfl | hx
      · exact Nat.zero_le _
      · exact Nat.le_succ_of_le (ih x hx)
    · split at hx
      · rw [List.mem_singleton] at hx
        rw [hx]; simp
      · rename_i y r hy
        rcases List.mem_cons.1 hx with rfl | hx
        · rw [List.length_cons]
          have := ih y (by rw [hy]; simp)
          omega
        · exact Nat.le_succ_of_le (ih x (by rw [hy]; simp [hx]))
theorem pieces_small (arg : ByteArray) : ∀ p ∈ piecesP arg, p.size ≤ arg.size := fun p hp => by
  have hm : p.data.toList ∈ splL 124 arg.data.toList := by
    rw [← split_one]
    exact List.mem_map.2 ⟨p, hp, rfl⟩
  have := splL_small 124 _ _ hm
  simpa using this
set_option maxRecDepth 100000 in
set_option maxHeartbeats 1600000 in
theorem phrases_any (arg : ByteArray) (w : World) (hlib : LibOk w) (ha : arg.size ≤ 1048576) :
    Calls Tryz.prog 9 #[.string arg] w fun e w' => (OkW (phrW arg) → PhrYes (phrW arg) w e w') ∧ (¬ OkW (phrW arg) → PhrNo w e w') := by
  obtain ⟨m0, hm0⟩ := hlib
  have hsp := Tryz.strings_Split arg ⟨#[124]⟩ m0 w (by omega) hm0 (by decide)
  have hpl := pieces_len arg
  have hps := pieces_small arg
  rw [← hpl] at hsp
  have HW : Hid (phrW arg = (piecesP arg).map lowB) := rfl
  change Calls _ _ _ _ fun e w' => e = .returned (.slice (some ⟨w.heap.size, 0, none⟩) (piecesP arg).length (piecesP arg).length) ∧ w' = w.alloc (.cells ((piecesP arg).map Value.string).toArray 9) at hsp
  generalize phrW arg = ws at *
  generalize piecesP arg = ps at *
  have HSP := Lib.hid hsp
  have hplen : ps.length ≤ 1048577 := by
    have := Lib.countB_le ⟨#[124]⟩ (by decide) arg.size arg (Nat.le_refl _)
    omega
  have hlit : OwnG rowS (w.alloc (.cells (ps.map Value.string).toArray 9)) w.heap.size (.slice (some ⟨w.heap.size, 0, none⟩) ps.length ps.length) ps := by
    have := World.ownsRow_lit (base := w.heap.size) (e := 9) (size := 1) w (ps.map Value.string).toArray ps.length (Nat.le_refl _) (by unfold maxLen; omega) (by simp)
    unfold OwnG
    rw [rowS_flat]
    exact this
  clear hsp hpl
  go_enter Tryz.func9, Tryz.ntmps9
  go_wp2_with (go_at_call 23; refine HSP.out.mono ?_; rintro e w1 ⟨rfl, rfl⟩)
  have hz1 : (w.alloc (.cells (ps.map Value.string).toArray 9)).heap.size = w.heap.size + 1 := by simp
  go_loopw [12] (fun v wr => RelL ps w v wr) (fun v _ => ps.length - (intOf v).toNat)
  case atStart =>
    refine ⟨0, Nat.zero_le _, rfl, ?_, ?_, ((Below.refl _ _).alloc (Nat.le_refl _) _).alloc (by simp) _⟩
    · have : mixL ps 0 = ps := by unfold mixL; simp
      rw [this]
      exact hlit.below ((Below.refl _ _).alloc (Nat.le_refl _) _)
    · have := heap_alloc_new (w.alloc (.cells (ps.map Value.string).toArray 9)) (.cells #[.slice (some ⟨w.heap.size, 0, none⟩) ps.length ps.length] 47)
      rw [hz1] at this
      exact cell_of_row _ _ 0 _ _ _ this
  case round =>
    obtain ⟨k, hk, rfl, hO, hbx, hb⟩ := hrel
    by_cases hkl : k < ps.length
    · obtain ⟨hat, hfr⟩ := mix_at hO hkl
      have HO := Lib.hid hO
      have HB := Lib.hid hb
      have HBX := Lib.hid hbx
      have hzb := World.block_lt_of_cell? wr _ hbx
      have hpk := hps ps[k] (List.getElem_mem hkl)
      have HLOW : Hid (Calls Tryz.prog 5 #[.string ps[k]] wr.drew (StrPost (lowB ps[k]) wr.drew)) := Lib.hid (Lower_any ps[k] wr.drew (by unfold maxLen; omega))
      have HEND : Hid (∀ w2, Below wr.heap.size wr w2 → RelL ps w (.int .i64 ((k : Int) + 1)) (w2.setCell ⟨w.heap.size, k, none⟩ (.string (lowB ps[k])))) := Lib.hid fun w2 hb2 =>
        ⟨k + 1, by omega, rfl, mix_set (hO.below hb2) hkl, (World.cell?_setCell_far _ _ _ _ (by show w.heap.size ≠ w.heap.size + 1; omega)).trans (cell_kept hb2 hbx), (hb.trans (hb2.mono hb.size)).setCell (Nat.le_refl _) _⟩
      generalize ps[k] = x at *
      clear hO hb
      go_wp2_with fail
      go_region_with (first | (go_at_call 5; (with_reducible refine (HLOW.out).mono ?_); rintro e w2 ⟨rfl, hb2'⟩; have hb2 : Below wr.heap.size wr w2 := undrew hb2'; have hat2 := cell_kept hb2 hat; have hfr2 := free_kept hb2 hat hfr; have hbx2 := cell_kept hb2 hbx))
      all_goals
        have HE2 := HEND.out w2 hb2
        clear hat2 hfr2 hbx2 hb2 hb2'
        go_wp2_with fail
        exact ⟨HE2, by simp [intOf] <;> omega⟩
    · have e : k = ps.length := by omega
      rw [e, mixL_all, ← HW.out] at hO
      clear e
      have hwl : ws.length = ps.length := by rw [HW.out, List.length_map]
      have hsl : Sl wr wr.heap.size 1 (some ⟨w.heap.size, 0, none⟩) ps.length (ws.map Value.string) := by
        have h2 := hO
        rw [← hwl] at h2
        obtain ⟨A5, c5, e5, h5⟩ := h2.form
        injection e5 with e6 _ _
        subst e6
        rw [rowS_flat, hwl] at h5
        exact h5
      have hzb := World.block_lt_of_cell? wr _ hbx
      have HB := Lib.hid hb
      by_cases hok : OkW ws
      · have HM := Lib.hid (make_yes (c := ps.length) hok hwl hsl)
        clear hO hsl hb
        go_wp2_with (go_at_call 24; refine HM.out.mono ?_; rintro e w3 ⟨hb3, g, cap, ns, ss, ms, rfl, hT⟩)
        have hbx3 := cell_kept hb3 hbx
        have hbw := HB.out.trans (hb3.mono HB.out.size)
        go_ret2
        refine ⟨fun _ => ⟨hbw.alloc hbw.size _, w3.heap.size, w.heap.size + 1, rfl, wr.heap.size, g, cap, ns, ss, ms, some ⟨w.heap.size, 0, none⟩, ps.length, cell_of_row _ _ 0 _ _ _ (heap_alloc_new w3 _), ?_, hT.below ((Below.refl _ _).alloc (Nat.le_refl _) _)⟩, fun h => absurd hok h⟩
        rw [hwl]
        exact cell_kept ((Below.refl _ _).alloc (Nat.le_refl _) _) hbx3
      · have HM := Lib.hid (make_no (c := ps.length) hok hwl hsl)
        clear hO hsl hb
        go_wp2_with (go_at_call 24; refine HM.out.mono ?_; rintro e w3 ⟨hb3, r, hr, rfl⟩)
        have hbw := HB.out.trans (hb3.mono HB.out.size)
        go_ret2
        exact ⟨fun h => absurd h hok, fun _ => ⟨hbw.alloc hbw.size _, w3.heap.size, w.heap.size + 1, r, hr, rfl⟩⟩
end Go.Proofs.YtipkelbbfgidhaaGreatDoor
