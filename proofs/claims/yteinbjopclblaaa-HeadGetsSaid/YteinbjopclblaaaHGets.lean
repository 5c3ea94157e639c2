/- The walk of HeadGets. -/
import Derived.Test.YteinbjopclblaaaGet
import Derived.Test.YteinbjopclblaaaSlC
import Derived.Test.YteinbjopclblaaaOpen
import Derived.Deep.RegionHeld3
import Derived.Deep.DrawnRows
namespace Go.Proofs.Yteinbjopclblaaa
open Go.RowKit

def low (b : ByteArray) : ByteArray := bs (lowerL b.data.toList)
/-- How many fields have one of these names. -/
def inN (N : List ByteArray) (f : ByteArray × ByteArray) : Bool := Lib.containsS N (low f.1)
def cntN (fs : List (ByteArray × ByteArray)) (N : List ByteArray) : Nat := (fs.filter (inN N)).length
theorem low_eq (a b : ByteArray) : low a = low b ↔ (lowerL a.data.toList == lowerL b.data.toList) = true := by
  unfold low bs
  constructor
  · intro h; injection h with h; rw [beq_iff_eq]; simpa using h
  · intro h; rw [beq_iff_eq] at h; rw [h]
theorem cnt_new (fs : List (ByteArray × ByteArray)) (N : List ByteArray) (name : ByteArray) (h : Lib.containsS N (low name) = false) :
    cntN fs (N ++ [low name]) = cntN fs N + (getL fs name).length := by
  unfold cntN getL
  rw [List.length_map]
  induction fs with
  | nil => rfl
  | cons f r ih =>
    have hs : sameN name f = true ↔ low f.1 = low name := (low_eq _ _).symm
    by_cases c : low f.1 = low name
    · have c1 : inN N f = false := by unfold inN; rw [c]; exact h
      have c2 : inN (N ++ [low name]) f = true := by unfold inN; rw [Lib.containsS_iff]; simp [c]
      rw [List.filter_cons_of_pos (p := inN (N ++ [low name])) c2, List.filter_cons_of_neg (p := inN N) (by rw [c1]; decide), List.filter_cons_of_pos (p := sameN name) (hs.2 c), List.length_cons, List.length_cons, ih]
      omega
    · have c3 : ¬ sameN name f = true := fun q => c (hs.1 q)
      have c4 : inN (N ++ [low name]) f = inN N f := by
        unfold inN
        rw [Bool.eq_iff_iff, Lib.containsS_iff, Lib.containsS_iff]; simp [c]
      rw [List.filter_cons_of_neg (p := sameN name) c3]
      by_cases c5 : inN N f = true
      · rw [List.filter_cons_of_pos (p := inN (N ++ [low name])) (by rw [c4]; exact c5), List.filter_cons_of_pos (p := inN N) c5, List.length_cons, List.length_cons, ih]; omega
      · rw [List.filter_cons_of_neg (p := inN (N ++ [low name])) (by rw [c4]; exact c5), List.filter_cons_of_neg (p := inN N) c5, ih]
theorem cnt_nil (fs : List (ByteArray × ByteArray)) : cntN fs [] = 0 := by
  unfold cntN
  rw [List.filter_eq_nil_iff.2 (fun f _ => by unfold inN; rw [Lib.containsS_iff]; simp)]
  rfl
theorem cnt_le (fs : List (ByteArray × ByteArray)) (N : List ByteArray) : cntN fs N ≤ fs.length := List.length_filter_le _ _
theorem in_more {N : List ByteArray} {x : ByteArray} {f : ByteArray × ByteArray} (h : inN N f = true) : inN (N ++ [x]) f = true := by
  unfold inN at h ⊢
  rw [Lib.containsS_iff] at h ⊢
  exact List.mem_append_left _ h
theorem in_new (N : List ByteArray) (f : ByteArray × ByteArray) : inN (N ++ [low f.1]) f = true := by
  unfold inN
  rw [Lib.containsS_iff]
  exact List.mem_append_right _ (by simp)
theorem cnt_all (fs : List (ByteArray × ByteArray)) (N : List ByteArray) (h : ∀ f ∈ fs, inN N f = true) : cntN fs N = fs.length := by
  unfold cntN; rw [List.filter_eq_self.2 h]
theorem get_has (fs : List (ByteArray × ByteArray)) (k : Nat) (h : k < fs.length) : Lib.containsS (getL fs fs[k].1) fs[k].2 = true := by
  rw [Lib.containsS_iff]
  exact List.mem_map.2 ⟨fs[k], List.mem_filter.2 ⟨List.getElem_mem h, by simp [sameN]⟩, rfl⟩

def fs0 : List (ByteArray × ByteArray) := [(ByteArray.mk #[65], ByteArray.mk #[49]), (ByteArray.mk #[98], ByteArray.mk #[50]), (ByteArray.mk #[97], ByteArray.mk #[51])]
theorem get_fs0 : getL fs0 (ByteArray.mk #[65]) = [ByteArray.mk #[49], ByteArray.mk #[51]] := by decide +kernel
def HgRel (B : Nat) (w : World) (fs : List (ByteArray × ByteArray)) (v n i : Value) (wr : World) : Prop :=
  ∃ (k : Nat) (N : List ByteArray), k ≤ fs.length ∧ N.length ≤ k ∧ i = .int .i64 k ∧ n = .int .i64 (cntN fs N) ∧ OwnS wr B v N ∧ Below B w wr ∧
    (∀ f ∈ fs.take k, inN N f = true)

set_option maxRecDepth 100000 in
set_option maxHeartbeats 1600000 in
theorem headGets_any (m t : ByteArray) (A : Option Addr) (n c : Nat) (fs : List (ByteArray × ByteArray)) (w : World) (hn : n = fs.length) (hf : Sl w w.heap.size 2 A n (cellsF fs))
    (hs : ∀ f ∈ fs, f.1.size ≤ maxLen) (hl : fs.length ≤ 4398046511104) :
    Calls Try.prog 3 #[.agg #[.string m, .string t, .slice A n c]] w fun e w' => e = .returned (.bool true) ∧ Below w.heap.size w w' := by
  subst hn
  go_enter Try.func3, Try.ntmps3
  go_wp2_with fail
  refine (Get_any _ _ _ _ _ fs0 _ _ rfl (Sl.lit (by simp) (by simp) (by rfl) (by rfl)) (by decide +kernel) (by decide) (by decide)).mono ?_
  rintro e w1 ⟨v1, rfl, hown1, hb1⟩
  rw [get_fs0] at hown1
  obtain ⟨A1, c1, rfl, hs1⟩ := hown1.form
  have hB := below_new (B := w.heap.size + 1) hb1 (by simp)
  obtain ⟨W0, hW0⟩ : ∃ W0, w.alloc (.cells #[.string m, .string t, .slice A fs.length c] 24) = W0 := ⟨_, rfl⟩
  have hz0 : w.heap.size + 1 = W0.heap.size := by rw [← hW0]; simp
  have hf0 : Sl W0 (w.heap.size + 1) 2 A fs.length (cellsF fs) := by rw [← hW0]; exact (hf.alloc (Nat.le_refl _) _).more (by omega)
  have hbox : ∀ wr, Below (w.heap.size + 1) W0 wr → (wr.cell? ⟨w.heap.size, 0, none⟩ = some (.string m) ∧ wr.cell? ⟨w.heap.size, 1, none⟩ = some (.string t) ∧ wr.cell? ⟨w.heap.size, 2, none⟩ = some (.slice A fs.length c)) ∧ Below w.heap.size w wr := fun wr hb => by
    rw [← hW0] at hb
    have hb' : Below (w.alloc (.cells #[.string m, .string t, .slice A fs.length c] 24)).heap.size (w.alloc (.cells #[.string m, .string t, .slice A fs.length c] 24)) wr := by simpa using hb
    exact ⟨⟨new_cell hb' 0, new_cell hb' 1, new_cell hb' 2⟩, below_new hb' (Nat.le_refl _)⟩
  rw [hW0] at hB
  have HBOX := Lib.hid hbox
  have HS := Lib.hid hs
  clear hown1 hb1 hW0 hf hbox hs
  go_wp2_with fail
  refine (EqualS_any (ys := [ByteArray.mk #[49], ByteArray.mk #[51]]) _ _ (hs1.alloc (Nat.le_refl _) _) (Sl.lit rfl (Nat.lt_succ_self _) (by rfl) (by rfl)) (by decide) (by decide)).mono ?_
  rintro e w2 ⟨rfl, q, rfl⟩
  have hz1 := hB.size
  have hB2 := below_drewN (hB.alloc (o := .cells #[.string (ByteArray.mk #[49]), .string (ByteArray.mk #[51])] 9) (by omega)) q
  generalize ((w1.alloc (.cells #[.string (ByteArray.mk #[49]), .string (ByteArray.mk #[51])] 9)).drewN q) = w2 at *
  clear hs1 hz1 hB
  have ⟨⟨b0, b1, b2⟩, _⟩ := HBOX.out _ hB2
  have hB0 := hB2
  go_wp2_with fail
  clear b0 b1 b2 hB2
  go_loopw [4, 5, 21] (fun v n i wr => HgRel (w.heap.size + 1) W0 fs v n i wr) (fun _ _ i _ => fs.length - (intOf i).toNat)
  case atStart => exact ⟨0, [], Nat.zero_le _, Nat.le_refl _, rfl, by rw [cnt_nil]; rfl, OwnS.nil _ _, hB0, by simp⟩
  case round =>
    obtain ⟨k, N, hk, hNk, rfl, rfl, hown, hb, hin⟩ := hrel
    have HIN := Lib.hid hin
    clear hin hB0
    have ⟨⟨b0, b1, b2⟩, hbw⟩ := HBOX.out _ hb
    by_cases hlt : k < fs.length
    · obtain ⟨b, off, rfl, hbB, hc1, hc2⟩ := (hf0.below hb).field hlt
      have H1 := HS.out _ (List.getElem_mem hlt)
      obtain ⟨A4, c4, rfl, hsl⟩ := hown.form
      have hcnt := cnt_le fs N
      have hgl : (getL fs fs[k].1).length ≤ fs.length := by have := getL_len fs fs[k].1 fs.length; rw [List.take_length] at this; exact this
      have HAP : Hid (∀ g, (Value.slice A4 N.length c4).ownBlock = some g → g < wr.heap.size) := fun g hg => (World.ownsRow.lt hown g hg).2
      have HNEW := Lib.hid (cnt_new fs N fs[k].1)
      have HGH := Lib.hid (get_has fs k hlt)
      have HTK := Lib.hid (List.take_succ_eq_append_getElem hlt)
      go_wp2_with fail
      refine (Lower_any _ _ H1).mono ?_
      rintro e w3 ⟨rfl, hb3⟩
      have f0 := new_cell hb3 0
      have f1 := new_cell hb3 1
      have hown3 := hown.later hb3
      have hB3 := hb.trans (below_new hb3 (by have := hb.size; omega))
      have hsl3 := hsl.below (below_new hb3 (Nat.le_refl _))
      have hz3 : wr.heap.size < w3.heap.size := by have := hb3.size; simp at this; omega
      have hzr : w.heap.size + 1 ≤ wr.heap.size := by have := hb.size; omega
      clear hb3 b0 b1 b2 hc1 hc2
      have ⟨⟨b0, b1, b2⟩, _⟩ := HBOX.out _ hB3
      by_cases hcn : Lib.containsS N (bs (lowerL fs[k].1.data.toList)) = true
      · have HCN := Lib.hid hcn
        go_wp2_with fail
        refine (ContainsS_any _ _ hsl3 (by omega)).mono ?_
        rintro e w4 ⟨rfl, rfl⟩
        rw [HCN.out]
        clear hcn
        go_wp2_with fail
        go_region_held3 (fun w' => w'.cell? ⟨w.heap.size, 0, none⟩ = some (.string m) ∧ w'.cell? ⟨w.heap.size, 1, none⟩ = some (.string t) ∧ w'.cell? ⟨w.heap.size, 2, none⟩ = some (.slice (some ⟨b, off, none⟩) fs.length c) ∧ w'.cell? ⟨wr.heap.size, 0, none⟩ = some (.string fs[k].1) ∧ w'.cell? ⟨wr.heap.size, 1, none⟩ = some (.string fs[k].2))
          (first | go_keep | (refine ⟨cell_kept hb8 ?_, cell_kept hb8 ?_, cell_kept hb8 ?_, cell_kept hb8 ?_, cell_kept hb8 ?_⟩ <;> assumption))
          (first | (go_at_call 19; refine (Get_any _ _ _ _ _ fs _ _ rfl (by exact (hf0.below hB3.drew).more (show w.heap.size + 1 ≤ w4.heap.size by omega)) HS.out H1 hl).mono ?_; rintro e w8 ⟨v8, rfl, hown8, hb8⟩; obtain ⟨A8, c8, rfl, hsl8⟩ := hown8.form) | (go_at_call 21; refine (ContainsS_any _ _ hsl8 (by omega)).mono ?_; rintro e w9 ⟨rfl, rfl⟩))
        rw [HGH.out]
        have hB9 := hB3.trans ((Below.refl w4.heap.size w4).drew.trans (by exact hb8) |>.mono (show w.heap.size + 1 ≤ w4.heap.size by omega))
        have hown9 := hown3.below ((Below.refl w4.heap.size w4).drew.trans (by exact hb8))
        clear hown8 hb8 hsl8 b0 b1 b2 f0 f1 hB3 hown3 hsl3 hown hsl
        go_wp2_with fail
        go_roundw
        case rel => exact ⟨k + 1, N, by omega, by omega, by go_num, rfl, hown9, hB9, by rw [HTK.out]; intro f hf; rcases List.mem_append.1 hf with h | h; exact HIN.out f h; rw [List.mem_singleton.1 h]; exact HCN.out⟩
        case measure => simp [intOf] <;> omega
      · have hcn : Lib.containsS N (bs (lowerL fs[k].1.data.toList)) = false := by simpa using hcn
        have HCN := Lib.hid hcn
        go_wp2_with fail
        refine (ContainsS_any _ _ hsl3 (by omega)).mono ?_
        rintro e w4 ⟨rfl, rfl⟩
        rw [HCN.out]
        clear hcn
        go_wp2_with fail
        refine (Lower_any _ _ H1).mono ?_
        rintro e w5 ⟨rfl, hb5⟩
        have hown5 := hown3.below hb5
        have hB5 := hB3.trans (hb5.mono (by omega))
        have hz5 := hb5.size
        have g0 := (hb5.cell (p := ⟨wr.heap.size, 0, none⟩) hz3).trans f0
        have g1 := (hb5.cell (p := ⟨wr.heap.size, 1, none⟩) hz3).trans f1
        clear hown3 hb5 f0 f1 b0 b1 b2
        go_wp2_with (at_builtin; refine wpList_append_s rfl _ _ rfl (w.heap.size + 1) _ N rfl (by exact hown5) (by omega) [.string (bs (lowerL fs[k].1.data.toList))] [bs (lowerL fs[k].1.data.toList)] rfl 1 1 rfl rfl (by omega) ?_; intro v6 w6 hown6 hb6 hk6 hz6; have hB6 := hB5.trans hb6; have ⟨⟨b0, b1, b2⟩, _⟩ := HBOX.out _ hB6; have hk7 := hk6 wr.heap.size (by omega) (fun e => by have := HAP.out _ e; omega); have f0 : w6.cell? ⟨wr.heap.size, 0, none⟩ = _ := (World.cell?_of_block (w := w5) hk7).trans g0; have f1 : w6.cell? ⟨wr.heap.size, 1, none⟩ = _ := (World.cell?_of_block (w := w5) hk7).trans g1; clear hk6 hk7 g0 g1)
        refine (Get_any _ _ _ _ _ fs _ _ rfl ((hf0.below hB6).more (by omega)) HS.out H1 hl).mono ?_
        rintro e w7 ⟨v7, rfl, hown7, hb7⟩
        obtain ⟨A7, c7, rfl, _⟩ := hown7.form
        have hB7 := hB6.trans (hb7.mono (by omega))
        have g0 := (hb7.cell (p := ⟨wr.heap.size, 0, none⟩) (by show wr.heap.size < _; omega)).trans f0
        have g1 := (hb7.cell (p := ⟨wr.heap.size, 1, none⟩) (by show wr.heap.size < _; omega)).trans f1
        have hown67 := hown6.below hb7
        have hz7 := hb7.size
        have HNEW := Lib.hid (HNEW.out HCN.out)
        clear hown6 hown7 hb6 hb7 f0 f1 b0 b1 b2
        have ⟨⟨b0, b1, b2⟩, _⟩ := HBOX.out _ hB7
        go_wp2_with fail
        go_region_held3 (fun w' => w'.cell? ⟨w.heap.size, 0, none⟩ = some (.string m) ∧ w'.cell? ⟨w.heap.size, 1, none⟩ = some (.string t) ∧ w'.cell? ⟨w.heap.size, 2, none⟩ = some (.slice (some ⟨b, off, none⟩) fs.length c) ∧ w'.cell? ⟨wr.heap.size, 0, none⟩ = some (.string fs[k].1) ∧ w'.cell? ⟨wr.heap.size, 1, none⟩ = some (.string fs[k].2))
          (first | go_keep | (refine ⟨cell_kept hb8 ?_, cell_kept hb8 ?_, cell_kept hb8 ?_, cell_kept hb8 ?_, cell_kept hb8 ?_⟩ <;> assumption))
          (first | (go_at_call 19; refine (Get_any _ _ _ _ _ fs _ _ rfl (by exact (hf0.below hB7.drew).more (show w.heap.size + 1 ≤ w7.heap.size by omega)) HS.out H1 hl).mono ?_; rintro e w8 ⟨v8, rfl, hown8, hb8⟩; obtain ⟨A8, c8, rfl, hsl8⟩ := hown8.form) | (go_at_call 21; refine (ContainsS_any _ _ hsl8 (by omega)).mono ?_; rintro e w9 ⟨rfl, rfl⟩))
        rw [HGH.out]
        have hB9 := hB7.trans ((Below.refl w7.heap.size w7).drew.trans (by exact hb8) |>.mono (show w.heap.size + 1 ≤ w7.heap.size by omega))
        have hown9 := hown67.below ((Below.refl w7.heap.size w7).drew.trans (by exact hb8))
        clear hown8 hb8 hsl8 b0 b1 b2 g0 g1 hB7 hown67 hsl3 hown hsl
        go_wp2_with fail
        go_roundw
        case rel => exact ⟨k + 1, N ++ [low fs[k].1], by omega, by rw [List.length_append]; show N.length + 1 ≤ _; omega, by go_num, by rw [HNEW.out]; go_num, hown9, hB9, by rw [HTK.out]; intro f hf; rcases List.mem_append.1 hf with h | h; exact in_more (HIN.out f h); rw [List.mem_singleton.1 h]; exact in_new _ _⟩
        case measure => simp [intOf] <;> omega
    · obtain rfl : k = fs.length := by omega
      have HC := Lib.hid (cnt_all fs N (fun f hf => HIN.out f (by rw [List.take_length]; exact hf)))
      have hcl := cnt_le fs N
      rw [HC.out]
      go_wp2_with fail
      go_ret
      exact ⟨rfl, hbw⟩
theorem headGets_arg (m t : ByteArray) (A : Option Addr) (n c : Nat) (fs : List (ByteArray × ByteArray)) (W : World) (hn : n = fs.length) {v : Value} (x : HeadArg W v m t A c fs) (hl : fs.length ≤ 4398046511104) :
    Calls Try.prog 3 #[.agg #[.string m, .string t, .slice A n c]] W fun e w' => e = .returned (.bool true) ∧ Below W.heap.size W w' :=
  headGets_any m t A n c fs W hn (hn ▸ x.sl) (fun f hf => (x.sizes f hf).1) hl
end Go.Proofs.Yteinbjopclblaaa
