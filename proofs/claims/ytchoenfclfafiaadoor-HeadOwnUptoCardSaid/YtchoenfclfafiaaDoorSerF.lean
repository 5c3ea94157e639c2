/- The walk of serial.Forward. -/
import Derived.Test.YtchoenfclfafiaaDoorSerW
import Derived.Test.YtchoenfclfafiaaDoorOneM
import Derived.Test.YtchoenfclfafiaaDoorItoa
import Derived.Lib.ItoaLen
import Derived.Lib.ItoaMem
import Derived.Deep.RegionHeld3
import Derived.Deep.CutRange
namespace Go.Proofs.YtchoenfclfafiaaDoor
open Go.RowKit

theorem bs_join (x y : List UInt8) : bs x ++ bs y = bs (x ++ y) := by
  apply ByteArray.ext
  simp [bs]
def clN : ByteArray := ByteArray.mk #[67, 111, 110, 116, 101, 110, 116, 45, 76, 101, 110, 103, 116, 104]
def clB (n : Nat) : PairV := (clN, bs (Lib.decDigits n))
def fwdH (h : HeadV) (n : Nat) : HeadV := ⟨h.m, h.t, stripF h.fs ++ (if (framed h).1 = 1 then [] else [clB n])⟩
def fwdE (h : HeadV) (b : List UInt8) : Int :=
  if checkH h ≠ 0 then checkH h else if (framed h).2.2 ≠ 0 then (framed h).2.2 else if (framed h).1 = 1 ∧ b ≠ [] then 4 else if 4096 < b.length then 6 else checkH (fwdH h b.length)
def FwdPost (h : HeadV) (b : List UInt8) (w : World) (e : Ending) (w' : World) : Prop :=
  ((fwdE h b = 0 ∧ e = .returned (.tuple #[.string (bs (printH (fwdH h b.length) ++ b)), .int .i64 0])) ∨ (fwdE h b ≠ 0 ∧ e = .returned (.tuple #[.string (ByteArray.mk #[]), .int .i64 (fwdE h b)]))) ∧ Below w.heap.size w w'
theorem dec_small (n : Nat) (h : n ≤ 9223372036854775807) : (Lib.decDigits n).length ≤ 21 := by
  have := Lib.itoa_length_le (n : Int) (by omega) (by omega)
  rw [Lib.itoa_nonneg] at this
  exact this
theorem strip_mem {fs : List PairV} {f : PairV} (h : f ∈ stripF fs) : f ∈ fs := (List.mem_filter.1 h).1
theorem fwd_mem {h : HeadV} {n : Nat} {f : PairV} (hf : f ∈ (fwdH h n).fs) : f ∈ h.fs ∨ f = clB n := by
  unfold fwdH at hf
  rcases List.mem_append.1 hf with h | h
  · exact .inl (strip_mem h)
  · split at h
    · cases h
    · exact .inr (List.mem_singleton.1 h)
theorem fwd_len (h : HeadV) (n : Nat) : (fwdH h n).fs.length ≤ h.fs.length + 1 := by
  unfold fwdH
  rw [List.length_append]
  have : (stripF h.fs).length ≤ h.fs.length := List.length_filter_le _ _
  split <;> simp <;> omega

set_option maxRecDepth 100000 in
set_option maxHeartbeats 6400000 in
theorem Forward_any (h : HeadV) (b : ByteArray) (A : Option Addr) (c : Nat) (w : World) (hf : Sl w w.heap.size 2 A h.fs.length (h.fs.flatMap cellsV)) (hm : h.m.size ≤ maxLen) (ht : h.t.size ≤ maxLen) (hbz : b.size ≤ maxLen) (hok : StripOk h.fs) (hlib : LibOk w) (htab : TabOk w) :
    Calls Tryd.prog 25 #[.agg #[.string h.m, .string h.t, .slice A h.fs.length c, .string b]] w (FwdPost h b.data.toList w) := by
  obtain ⟨m, t, fs⟩ := h
  dsimp only at *
  have hbx : ∀ W, Below (w.heap.size + 1) (w.alloc (.cells #[.string m, .string t, .slice A fs.length c, .string b] 31)) W → (W.cell? ⟨w.heap.size, 0, none⟩ = some (.string m) ∧ W.cell? ⟨w.heap.size, 1, none⟩ = some (.string t) ∧ W.cell? ⟨w.heap.size, 2, none⟩ = some (.slice A fs.length c) ∧ W.cell? ⟨w.heap.size, 3, none⟩ = some (.string b)) ∧ Below w.heap.size w W ∧ Sl W W.heap.size 2 A fs.length (fs.flatMap cellsV) ∧ LibOk W ∧ TabOk W := fun W hb => by
    obtain ⟨h1, h2⟩ := box_facts hb
    exact ⟨⟨h1 0, h1 1, h1 2, h1 3⟩, h2, (hf.below h2).more h2.size, hlib.below h2, htab.below h2⟩
  have HBX := Lib.hid hbx
  obtain ⟨W0, hW0⟩ : ∃ W0, w.alloc (.cells #[.string m, .string t, .slice A fs.length c, .string b] 31) = W0 := ⟨_, rfl⟩
  have hz0 : w.heap.size + 1 ≤ W0.heap.size := by rw [← hW0]; simp
  rw [hW0] at HBX
  have HW0 := Lib.hid hW0
  have hl := hok.n
  have hbl : b.data.toList.length = b.size := by simp
  have hs : ∀ f ∈ fs, f.1.size ≤ maxLen ∧ f.2.size ≤ maxLen := fun f hf => by have := hok.sz f hf; unfold maxLen; omega
  have HCK : Hid (Calls Tryd.prog 49 #[.agg #[.string m, .string t, .slice A fs.length c]] W0 fun e w' => e = .returned (.int .i64 (checkH ⟨m, t, fs⟩)) ∧ Below W0.heap.size W0 w') := HCheck_any ⟨m, t, fs⟩ A c W0 (HBX.out W0 (Below.refl _ _)).2.2.1 hm ht hs (by show fs.length ≤ _; omega)
  have hOF : ∀ W, Below (w.heap.size + 1) W0 W → Calls Tryd.prog 22 #[.agg #[.string m, .string t, .slice A fs.length c]] W (OfPost (framed ⟨m, t, fs⟩) W) := fun W h => Of_any m t A fs.length c fs W rfl (HBX.out W h).2.2.1 (fun f hf => (hs f hf).1) (fun f hf => (hs f hf).2) (by omega)
  have hc0 : (framed ⟨m, t, fs⟩).2.2 = 4 ∨ ((framed ⟨m, t, fs⟩).2.2 = 0 ∧ ((framed ⟨m, t, fs⟩).1 = 1 ∨ (framed ⟨m, t, fs⟩).1 = 3 ∨ ((framed ⟨m, t, fs⟩).1 = 2 ∧ 0 ≤ (framed ⟨m, t, fs⟩).2.1 ∧ (framed ⟨m, t, fs⟩).2.1 < 1000000000))) := ofL_cases (getL fs clen) (getL fs tenc)
  have HSTR : Hid (∀ W, Below (w.heap.size + 1) W0 W → Calls Tryd.prog 24 #[.agg #[.string m, .string t, .slice A fs.length c]] W (StripPost ⟨m, t, fs⟩ W)) := fun W h => Strip_any ⟨m, t, fs⟩ A c W (HBX.out W h).2.2.1 hok (HBX.out W h).2.2.2.1
  have HFE : Hid (fwdE ⟨m, t, fs⟩ b.data.toList = if checkH ⟨m, t, fs⟩ ≠ 0 then checkH ⟨m, t, fs⟩ else if (framed ⟨m, t, fs⟩).2.2 ≠ 0 then (framed ⟨m, t, fs⟩).2.2 else if (framed ⟨m, t, fs⟩).1 = 1 ∧ b.data.toList ≠ [] then 4 else if 4096 < b.size then 6 else checkH (fwdH ⟨m, t, fs⟩ b.size)) := by unfold Hid fwdE; rw [hbl]
  have HFS : Hid ((fwdH ⟨m, t, fs⟩ b.size).fs = stripF fs ++ (if (framed ⟨m, t, fs⟩).1 = 1 then [] else [clB b.size])) := rfl
  have hfl := fwd_len ⟨m, t, fs⟩ b.size
  have HFM : Hid (∀ f ∈ (fwdH ⟨m, t, fs⟩ b.size).fs, f.1.size ≤ maxLen ∧ f.2.size ≤ maxLen) := fun f hf => by
    rcases fwd_mem hf with h | rfl
    · exact hs f h
    · have := dec_small b.size (by unfold maxLen at hbz; omega)
      exact ⟨by show 14 ≤ maxLen; decide, by show (bs _).size ≤ maxLen; rw [bs_size]; unfold maxLen; omega⟩
  have HPR : Hid (∀ (A : Option Addr) (c : Nat) (W : World), Sl W W.heap.size 2 A (fwdH ⟨m, t, fs⟩ b.size).fs.length ((fwdH ⟨m, t, fs⟩ b.size).fs.flatMap cellsV) → Calls Tryd.prog 50 #[.agg #[.string m, .string t, .slice A (fwdH ⟨m, t, fs⟩ b.size).fs.length c]] W (PrintPost (fwdH ⟨m, t, fs⟩ b.size) W)) := fun A c W h =>
    HPrint_any (fwdH ⟨m, t, fs⟩ b.size) A c W h hm ht HFM.out (Nat.le_trans hfl (by show fs.length + 1 ≤ _; omega))
  have HPL : Hid (checkH (fwdH ⟨m, t, fs⟩ b.size) = 0 → (printH (fwdH ⟨m, t, fs⟩ b.size)).length ≤ 31154) := fun hc => printH_len _ (head_ok hc)
  have HERR : Hid (∀ (E : Int) W, fwdE ⟨m, t, fs⟩ b.data.toList = E → E ≠ 0 → Below w.heap.size w W → FwdPost ⟨m, t, fs⟩ b.data.toList w (.returned (.tuple #[.string (ByteArray.mk #[]), .int .i64 E])) W) := fun E W h1 h2 h3 => ⟨.inr ⟨by rw [h1]; exact h2, by rw [h1]⟩, h3⟩
  have HYES : Hid (∀ (P : ByteArray) W, fwdE ⟨m, t, fs⟩ b.data.toList = 0 → P = bs (printH (fwdH ⟨m, t, fs⟩ b.size) ++ b.data.toList) → Below w.heap.size w W → FwdPost ⟨m, t, fs⟩ b.data.toList w (.returned (.tuple #[.string P, .int .i64 0])) W) := fun P W h1 h2 h3 => ⟨.inl ⟨h1, by rw [h2, hbl]⟩, h3⟩
  have HIT : Hid (∀ W, Below (w.heap.size + 1) W0 W → Calls Tryd.prog 32 #[.int .i64 (b.size : Int)] W fun e w' => e = .returned (.string (bs (Lib.decDigits b.size))) ∧ Below W.heap.size W w') := fun W h => itoa_any b.size W (by unfold maxLen at hbz; omega) (HBX.out W h).2.2.2.2
  generalize framed ⟨m, t, fs⟩ = r at *
  obtain ⟨K, N, E⟩ := r
  dsimp only at hc0 HFE HFS
  unfold OfPost ofV at hOF
  dsimp only at hOF
  have HOF := Lib.hid hOF
  have HFR := Lib.hid hc0
  have hbz2 : b.size ≤ 9223372036854775807 := by unfold maxLen at hbz; omega
  generalize hFH : fwdH ⟨m, t, fs⟩ b.size = fh at *
  have hfl2 : (stripF fs).length ≤ fs.length := List.length_filter_le _ _
  have ⟨⟨b0, b1, b2, b3⟩, _⟩ := HBX.out W0 (Below.refl _ _)
  clear hbx hW0 hOF hc0 hf hm ht hok hlib htab hs hbz hfl hFH
  go_enter Tryd.func25, Tryd.ntmps25
  go_upto_region 1 with fail
  rw [HW0.out]
  by_cases hck : checkH ⟨m, t, fs⟩ = 0
  rotate_left
  · have q0 : (checkH ⟨m, t, fs⟩ != 0) = true := bne_iff_ne.2 hck
    have HE : Hid (fwdE ⟨m, t, fs⟩ b.data.toList = checkH ⟨m, t, fs⟩ ∧ checkH ⟨m, t, fs⟩ ≠ 0) := ⟨by rw [HFE.out, if_pos hck], hck⟩
    clear hck
    generalize checkH ⟨m, t, fs⟩ = C at *
    go_wp2_with (go_at_call 49; (with_reducible refine HCK.out.mono ?_); rintro e w1 ⟨rfl, hb1⟩; have hbw := (HBX.out _ (hb1.mono hz0)).2.1)
    exact bodyPost_ret (v := .tuple #[.string (ByteArray.mk #[]), .int .i64 C]) (by simp [results, Tryd.results25, go_sem]) rfl (HERR.out _ _ HE.out.1 HE.out.2 hbw)
  · have HFE2 : Hid (fwdE ⟨m, t, fs⟩ b.data.toList = if E ≠ 0 then E else if K = 1 ∧ b.data.toList ≠ [] then 4 else if 4096 < b.size then 6 else checkH fh) := by unfold Hid; rw [HFE.out, if_neg (fun h => h hck)]
    rw [hck] at HCK
    clear hck HFE
    go_wp2_with fail
    refine HCK.out.mono ?_
    rintro e w1 ⟨rfl, hb1⟩
    have hb1 := hb1.mono hz0
    have hz1 : w.heap.size + 1 ≤ w1.heap.size := Nat.le_trans hz0 hb1.size
    clear b0 b1 b2 b3
    have ⟨⟨b0, b1, b2, b3⟩, _⟩ := HBX.out w1 hb1
    go_wp2_with fail
    refine (HOF.out w1 hb1).mono ?_
    rintro e w2 ⟨rfl, hb2⟩
    have hb2 := hb1.trans (hb2.mono hz1)
    have hz2 : w.heap.size + 1 ≤ w2.heap.size := Nat.le_trans hz0 hb2.size
    have hzz : w.heap.size < w2.heap.size := hz2
    have hb3 := hb2.alloc hz2 (.cells #[.int .i64 K, .int .i64 N] 61)
    clear b0 b1 b2 b3
    have ⟨⟨b0, b1, b2, b3⟩, hbw2, _⟩ := HBX.out w2 hb2
    have HBW3 := Lib.hid (HBX.out _ hb3).2.1
    have HB3 := Lib.hid hb3
    have hBK := fun W h => (box_facts (w := w2) (W' := W) (cs := #[.int .i64 K, .int .i64 N]) (t := 61) h).1 0
    have HBK := Lib.hid hBK
    clear hb1 hb2 hb3 hbw2 hz1 hBK HCK HOF
    rcases HFR.out with rfl | ⟨rfl, hK⟩
    · have HE : Hid (fwdE ⟨m, t, fs⟩ b.data.toList = 4) := HFE2.out
      clear HFE2
      go_wp2_with fail
      exact bodyPost_ret (v := .tuple #[.string (ByteArray.mk #[]), .int .i64 4]) (by simp [results, Tryd.results25, go_sem]) rfl (HERR.out 4 _ HE.out (by decide) HBW3.out)
    · have HFE3 : Hid (fwdE ⟨m, t, fs⟩ b.data.toList = if K = 1 ∧ b.data.toList ≠ [] then 4 else if 4096 < b.size then 6 else checkH fh) := HFE2.out
      clear HFE2 HFR
      by_cases hbad : K = 1 ∧ b.data.toList ≠ []
      · have HE : Hid (fwdE ⟨m, t, fs⟩ b.data.toList = 4) := by unfold Hid; rw [HFE3.out, if_pos hbad]
        obtain ⟨rfl, hbe⟩ := hbad
        have he : b.toList.isEmpty = false := by rw [Lib.toList_data]; cases hq : b.data.toList with | nil => exact absurd hq hbe | cons => rfl
        clear HFE3 hbe hK
        go_wp2_with fail
        exact bodyPost_ret (v := .tuple #[.string (ByteArray.mk #[]), .int .i64 4]) (by simp [results, Tryd.results25, go_sem]) rfl (HERR.out 4 _ HE.out (by decide) HBW3.out)
      · have HFE4 : Hid (fwdE ⟨m, t, fs⟩ b.data.toList = if 4096 < b.size then 6 else checkH fh) := by unfold Hid; rw [HFE3.out, if_neg hbad]
        have HBAD := Lib.hid hbad
        have HK := Lib.hid hK
        clear HFE3 hbad hK
        go_upto_region 7 with fail
        go_cut [25] from 26 to 33 (fun s25 wx => s25 = .bool false ∧ wx = w2.alloc (.cells #[.int .i64 K, .int .i64 N] 61))
        case first =>
          by_cases hK1 : K = 1
          · have he : b.toList.isEmpty = true := by
              rw [Lib.toList_data]
              cases hq : b.data.toList with
              | nil => rfl
              | cons => exact absurd ⟨hK1, by rw [hq]; exact List.cons_ne_nil _ _⟩ HBAD.out
            have hq : (b.toList != []) = false := by
              rw [bne, Bool.not_eq_false', beq_iff_eq]
              simpa using he
            subst hK1
            go_wp2_with fail
            go_meet
            exact ⟨rfl, rfl⟩
          · have hq : (K == 1) = false := beq_eq_false_iff_ne.2 hK1
            clear hK1
            go_wp2_with fail
            go_meet
            exact ⟨rfl, rfl⟩
        case rest =>
          obtain ⟨rfl, rfl⟩ := hcut
          by_cases hbn : 4096 < b.size
          · have d2 : decide ((4096 : Int) < (b.size : Int)) = true := decide_eq_true (by omega)
            have HE : Hid (fwdE ⟨m, t, fs⟩ b.data.toList = 6) := by unfold Hid; rw [HFE4.out, if_pos hbn]
            clear hbn HFE4
            go_wp2_with fail
            exact bodyPost_ret (v := .tuple #[.string (ByteArray.mk #[]), .int .i64 6]) (by simp [results, Tryd.results25, go_sem]) rfl (HERR.out 6 _ HE.out (by decide) HBW3.out)
          · have d2 : decide ((4096 : Int) < (b.size : Int)) = false := decide_eq_false (by omega)
            have HFE5 : Hid (fwdE ⟨m, t, fs⟩ b.data.toList = checkH fh) := by unfold Hid; rw [HFE4.out, if_neg hbn]
            have hbn2 : b.size ≤ 4096 := by omega
            clear HFE4 hbn
            have HS1 := Lib.hid (HSTR.out _ HB3.out)
            go_wp2_with fail
            refine HS1.out.mono ?_
            rintro e w4 ⟨A4, c4, rfl, hO4, hb4⟩
            have hBK4 := HBK.out w4 (hb4.mono (by simp))
            have hb4 := HB3.out.trans (hb4.mono (Nat.le_trans hz0 HB3.out.size))
            have hz4 : w.heap.size < w4.heap.size := Nat.le_trans hz0 hb4.size
            have hz42 : w2.heap.size < w4.heap.size := World.block_lt_of_cell? w4 ⟨w2.heap.size, 0, none⟩ hBK4
            clear b0 b1 b2 b3
            have ⟨⟨b0, b1, b2, b3⟩, _⟩ := HBX.out w4 hb4
            have HB4 := Lib.hid hb4
            have HO4 := Lib.hid hO4
            dsimp only at HO4
            clear hb4 hO4 HS1 HSTR HBK HB3 HBW3
            have hH5 : HdAt w4.heap.size m t (.slice A4 (stripF fs).length c4) (w4.alloc (.cells #[.string m, .string t, .slice A4 (stripF fs).length c4] 29)) := heap_alloc_new _ _
            have hal5 := (Below.refl w4.heap.size w4).alloc (Nat.le_refl _) (.cells #[.string m, .string t, .slice A4 (stripF fs).length c4] 29)
            have hO5 := HO4.out.below hal5
            have hb5 := HB4.out.trans (hal5.mono hz4)
            have hK5 := cell_kept hal5 hBK4
            have ⟨⟨x0, x1, x2, x3⟩, _, _, _, _⟩ := HBX.out _ hb5
            obtain ⟨B4, hB4⟩ : ∃ B4 : Nat, (w2.alloc (.cells #[.int .i64 K, .int .i64 N] 61)).heap.size = B4 := ⟨_, rfl⟩
            rw [hB4] at hO5
            have hz5 : w4.heap.size < (w4.alloc (.cells #[.string m, .string t, .slice A4 (stripF fs).length c4] 29)).heap.size := by simp
            have hzB : B4 ≤ (w4.alloc (.cells #[.string m, .string t, .slice A4 (stripF fs).length c4] 29)).heap.size := by
              rw [← hB4, World.size_alloc, World.size_alloc]
              omega
            have hzB0 : w.heap.size + 1 ≤ B4 := by rw [← hB4, World.size_alloc]; omega
            go_upto_if 44 with fail
            clear HO4 hal5 b0 b1 b2 b3 hBK4 hB4
            generalize w4.alloc (.cells #[.string m, .string t, .slice A4 (stripF fs).length c4] 29) = W5 at *
            have HH5 := Lib.hid hH5
            have HO5 := Lib.hid hO5
            have HB5 := Lib.hid hb5
            clear hH5 hO5 hb5
            go_cut [7] from 44 to 54 (fun s7 wx => s7 = .pointer (some ⟨w4.heap.size, 0, none⟩) ∧ ∃ A c, HdAt w4.heap.size m t (.slice A fh.fs.length c) wx ∧ Sl wx wx.heap.size 2 A fh.fs.length (fh.fs.flatMap cellsV) ∧ Below (w.heap.size + 1) W0 wx)
            case first =>
              by_cases hK1 : K = 1
              · have hfe : fh.fs = stripF fs := by rw [HFS.out, if_pos hK1, List.append_nil]
                have HFIN : Hid (HdAt w4.heap.size m t (.slice A4 fh.fs.length c4) W5 ∧ Sl W5 W5.heap.size 2 A4 fh.fs.length (fh.fs.flatMap cellsV) ∧ Below (w.heap.size + 1) W0 W5) := by
                  rw [hfe]
                  exact ⟨HH5.out, OwnV.sl HO5.out, HB5.out⟩
                subst hK1
                clear hfe
                go_wp2_with fail
                go_meet
                exact ⟨rfl, A4, c4, HFIN.out⟩
              · have hfe : Hid (fh.fs = stripF fs ++ [clB b.size]) := by unfold Hid; rw [HFS.out, if_neg hK1]
                have hq : (K != 1) = true := bne_iff_ne.2 hK1
                have HITX : Hid (∀ W, Below W5.heap.size W5 W → Calls Tryd.prog 32 #[.int .i64 (b.size : Int)] W fun e w' => e = .returned (.string (bs (Lib.decDigits b.size))) ∧ Below W.heap.size W w') := fun W h => HIT.out W (HB5.out.trans (h.mono (Nat.le_trans hz0 HB5.out.size)))
                have ⟨h0, h1, h2⟩ := HH5.out.cells
                have HFAR : Hid ((Value.slice A4 (stripF fs).length c4).ownBlock ≠ some w4.heap.size) := own_apart HO5.out HH5.out (by decide)
                have HCL : Hid (clB b.size = (ByteArray.mk #[67, 111, 110, 116, 101, 110, 116, 45, 76, 101, 110, 103, 116, 104], bs (Lib.decDigits b.size))) := rfl
                generalize bs (Lib.decDigits b.size) = DG at *
                generalize clB b.size = CB at *
                have HCB := Lib.hid HCL.out
                generalize stripF fs = SF at *
                have hsfl : SF.length ≤ 4194304 := by omega
                clear hK1 HIT
                have HFF : Hid (fh.fs = SF ++ [(ByteArray.mk #[67, 111, 110, 116, 101, 110, 116, 45, 76, 101, 110, 103, 116, 104], DG)]) := by unfold Hid; rw [hfe.out, HCB.out]
                have hzB4 : w.heap.size + 1 ≤ B4 := hzB0
                go_wp2_with fail
                go_region_law (first | (refine step_append_v rfl (.tmp 46) (.tmp 52) rfl B4 (.slice A4 SF.length c4) SF rfl (by exact hO8) (by exact hz8) _ (ByteArray.mk #[67, 111, 110, 116, 101, 110, 116, 45, 76, 101, 110, 103, 116, 104], DG) rfl w8.heap.size rfl 1 rfl hsfl ?_; intro v9 w9 hO9 hb9 hk9 hz9; obtain ⟨A9, c9, rfl, _⟩ := hO9.form; have hH9 : HdAt w4.heap.size m t (.slice A4 SF.length c4) w9 := (hk9 w4.heap.size hz48 HFAR.out).trans hH8; have f92 := hH9.free 2; have h92 := hH9.cells.2.2) | (refine step_append_vd rfl (.tmp 46) (.tmp 52) rfl B4 (.slice A4 SF.length c4) SF rfl (by exact hO8) (by exact hz8) _ (ByteArray.mk #[67, 111, 110, 116, 101, 110, 116, 45, 76, 101, 110, 103, 116, 104], DG) rfl w8.heap.size rfl 1 rfl hsfl ?_; intro v9 w9 hO9 hb9 hk9 hz9; obtain ⟨A9, c9, rfl, _⟩ := hO9.form; have hH9 : HdAt w4.heap.size m t (.slice A4 SF.length c4) w9 := (hk9 w4.heap.size hz48 HFAR.out).trans hH8; have f92 := hH9.free 2; have h92 := hH9.cells.2.2) | (go_simp; go_at_call 32; (with_reducible refine (HITX.out _ ?_).mono ?_); (first | exact Below.refl _ _ | exact (Below.refl _ _).drew); rintro e w8 ⟨rfl, hb8⟩; have hbb8 : Below W5.heap.size W5 w8 := (by first | exact hb8 | exact undrew hb8); have h28 := cell_kept hbb8 h2; have hO8 := HO5.out.below hbb8; have hz8 : B4 ≤ w8.heap.size := Nat.le_trans hzB hbb8.size; have hH8 : HdAt w4.heap.size m t (.slice A4 SF.length c4) w8 := (hbb8.block _ hz5).trans HH5.out; have hz48 : w4.heap.size < w8.heap.size := Nat.lt_of_lt_of_le hz5 hbb8.size; have hB8 := HB5.out.trans (hbb8.mono (Nat.le_trans hz0 HB5.out.size))))
                all_goals
                  have hlen : (SF ++ [(ByteArray.mk #[67, 111, 110, 116, 101, 110, 116, 45, 76, 101, 110, 103, 116, 104], DG)]).length = SF.length + 1 := by rw [List.length_append]; rfl
                  have hff := HFF.out
                  have hffl : fh.fs.length = SF.length + 1 := by rw [hff]; exact hlen
                  rw [← hff, hffl] at hO9
                  have hO10 : OwnV (w9.setCell ⟨w4.heap.size, 2, none⟩ (.slice A9 (SF.length + 1) c9)) B4 (.slice A9 (SF.length + 1) c9) fh.fs := by
                    refine hO9.keep fun g hg => ?_
                    have hne : g ≠ w4.heap.size := fun e => own_apart hO9 hH9 (by decide) (by rw [← e]; exact hg)
                    rw [Below.heap_setCell _ _ _ _ hne]
                  have hH10 := hH9.put (.slice A9 (SF.length + 1) c9)
                  have hb10 := (hB8.trans (hb9.mono hzB4)).setCell (p := ⟨w4.heap.size, 2, none⟩) hz4 (.slice A9 (SF.length + 1) c9)
                  have HN := Lib.hid (And.intro hH10 (And.intro (OwnV.sl hO10) hb10))
                  clear hH10 hO10 hb10 hO9 hb9 hk9 hH9 hO8 hH8 hB8 hb8 hbb8 h0 h1 h2 h28 x0 x1 x2 x3 hlen hff
                  go_wp2_with fail
                  go_meet
                  exact ⟨rfl, A9, c9, by rw [hffl]; exact HN.out.1, by rw [hffl] at *; exact HN.out.2.1, HN.out.2.2⟩
            case rest =>
              obtain ⟨rfl, A6, c6, hH6, hS6, hB6⟩ := hcut
              have ⟨h0, h1, h2⟩ := hH6.cells
              have HP6 := Lib.hid (HPR.out A6 c6 wc hS6)
              have HB6 := Lib.hid hB6
              clear hH6 hS6 hB6 x0 x1 x2 x3 HPR HIT HFS HFM
              go_wp2_with fail
              refine HP6.out.mono ?_
              rintro e w7 (⟨hc, rfl, hb7⟩ | ⟨hc, rfl, hb7⟩)
              · have hb8 := HB6.out.trans (hb7.mono (Nat.le_trans hz0 HB6.out.size))
                have ⟨⟨x0, x1, x2, x3⟩, hbw, _⟩ := HBX.out w7 hb8
                have HBW := Lib.hid hbw
                have hpl := HPL.out hc
                have HE : Hid (fwdE ⟨m, t, fs⟩ b.data.toList = 0) := by unfold Hid; rw [HFE5.out, hc]
                have HPE : Hid (bs (printH fh) ++ b = bs (printH fh ++ b.data.toList)) := by unfold Hid; rw [← bs_join, bs_eta]
                have hps : (bs (printH fh)).size ≤ 31154 := by rw [bs_size]; exact hpl
                generalize bs (printH fh) = P at *
                have y1 : ∀ W, (Op.stringOp .add P b).run Tryd.prog W = .ok (.string (P ++ b)) W := fun W => run_string_add_sum W P b (by omega)
                clear hb7 hb8 hbw hc hpl h0 h1 h2
                go_wp2_with fail
                exact bodyPost_ret (v := .tuple #[.string (P ++ b), .int .i64 0]) (by simp [results, Tryd.results25, go_sem]) rfl (HYES.out _ _ HE.out HPE.out HBW.out)
              · have hb8 := HB6.out.trans (hb7.mono (Nat.le_trans hz0 HB6.out.size))
                have ⟨_, hbw, _⟩ := HBX.out w7 hb8
                have HBW := Lib.hid hbw
                have q0 : (checkH fh != 0) = true := bne_iff_ne.2 hc
                have HE : Hid (fwdE ⟨m, t, fs⟩ b.data.toList = checkH fh ∧ checkH fh ≠ 0) := ⟨HFE5.out, hc⟩
                generalize checkH fh = C at *
                clear hb7 hb8 hbw hc h0 h1 h2
                go_wp2_with fail
                exact bodyPost_ret (v := .tuple #[.string (ByteArray.mk #[]), .int .i64 C]) (by simp [results, Tryd.results25, go_sem]) rfl (HERR.out _ _ HE.out.1 HE.out.2 HBW.out)
end Go.Proofs.YtchoenfclfafiaaDoor
