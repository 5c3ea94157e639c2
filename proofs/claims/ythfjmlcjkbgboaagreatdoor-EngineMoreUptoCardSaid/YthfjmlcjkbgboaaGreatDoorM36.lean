/- Part 36 of the proof: lemmas and walks that the last texts use. -/
import Derived.Test.YthfjmlcjkbgboaaGreatDoorM27
import Derived.Test.YthfjmlcjkbgboaaGreatDoorM35
namespace Go.Proofs.YthfjmlcjkbgboaaGreatDoor
open Go.RowKit
def EntPost (r : UInt8 × Nat) (w : World) (e : Ending) (w' : World) : Prop := e = .returned (.tuple #[.int .u8 (r.1.toNat : Int), .int .i64 (r.2 : Int)]) ∧ Below w.heap.size w w'
theorem EntPost.mk {r : UInt8 × Nat} {w w' : World} {e : Ending} (a b : Int) (he : e = .returned (.tuple #[.int .u8 a, .int .i64 b])) (ha : a = (r.1.toNat : Int)) (hb : b = (r.2 : Int)) (h : Below w.heap.size w w') : EntPost r w e w' := by
  subst ha; subst hb; exact ⟨he, h⟩
theorem take_min (s : ByteArray) : (s.extract 0 (min (s.size : Int) 7).toNat).data.toList = s.data.toList.take 7 := by
  rw [Lib.extract_data, List.drop_zero, Nat.sub_zero]
  rcases Nat.lt_or_ge s.size 7 with h | h
  · rw [show (min (s.size : Int) 7).toNat = s.size by omega, List.take_of_length_le (by simp), List.take_of_length_le (by simp; omega)]
  · rw [show (min (s.size : Int) 7).toNat = 7 by omega]
theorem extract_mid (s : ByteArray) (e : Nat) : (s.extract 2 e).data.toList = (s.data.toList.take e).drop 2 := by
  rw [Lib.extract_data, List.drop_take]
set_option maxRecDepth 100000 in
set_option maxHeartbeats 3200000 in
theorem entity_any (s : ByteArray) (w : World) (hs : s.size ≤ maxLen) :
    Calls Tryz.prog 116 #[.string s] w (EntPost (entL s.data.toList) w) := by
  have hs2 := hs
  unfold maxLen at hs
  by_cases c0 : Lib.hasPrefix s.data.toList [38, 108, 116, 59] = true
  · have HE : Hid (entL s.data.toList = (60, 4)) := by unfold Hid entL; rw [if_pos c0]
    go_enter Tryz.func116, Tryz.ntmps116
    go_wp2_with fail
    refine wp_loop_rounds 5 ?_
    rw [rounds_succ]
    go_wp2_with (first | rw [rounds_succ] | (go_at_call 117; refine (Tryz.strings_HasPrefix _ _ _).mono ?_; rintro e w' ⟨rfl, rfl⟩))
    go_ret2
    rw [HE.out]
    exact ⟨rfl, (Below.refl _ _).alloc (Nat.le_refl _) _⟩
  rw [Bool.not_eq_true] at c0
  by_cases c1 : Lib.hasPrefix s.data.toList [38, 103, 116, 59] = true
  · have HE : Hid (entL s.data.toList = (62, 4)) := by unfold Hid entL; rw [if_neg (by rw [c0]; decide), if_pos c1]
    go_enter Tryz.func116, Tryz.ntmps116
    go_wp2_with fail
    refine wp_loop_rounds 5 ?_
    rw [rounds_succ]
    go_wp2_with (first | rw [rounds_succ] | (go_at_call 117; refine (Tryz.strings_HasPrefix _ _ _).mono ?_; rintro e w' ⟨rfl, rfl⟩))
    go_ret2
    rw [HE.out]
    exact ⟨rfl, (Below.refl _ _).alloc (Nat.le_refl _) _⟩
  rw [Bool.not_eq_true] at c1
  by_cases c2 : Lib.hasPrefix s.data.toList [38, 97, 109, 112, 59] = true
  · have HE : Hid (entL s.data.toList = (38, 5)) := by unfold Hid entL; rw [if_neg (by rw [c0]; decide), if_neg (by rw [c1]; decide), if_pos c2]
    go_enter Tryz.func116, Tryz.ntmps116
    go_wp2_with fail
    refine wp_loop_rounds 5 ?_
    rw [rounds_succ]
    go_wp2_with (first | rw [rounds_succ] | (go_at_call 117; refine (Tryz.strings_HasPrefix _ _ _).mono ?_; rintro e w' ⟨rfl, rfl⟩))
    go_ret2
    rw [HE.out]
    exact ⟨rfl, (Below.refl _ _).alloc (Nat.le_refl _) _⟩
  rw [Bool.not_eq_true] at c2
  by_cases c3 : Lib.hasPrefix s.data.toList [38, 113, 117, 111, 116, 59] = true
  · have HE : Hid (entL s.data.toList = (34, 6)) := by unfold Hid entL; rw [if_neg (by rw [c0]; decide), if_neg (by rw [c1]; decide), if_neg (by rw [c2]; decide), if_pos c3]
    go_enter Tryz.func116, Tryz.ntmps116
    go_wp2_with fail
    refine wp_loop_rounds 5 ?_
    rw [rounds_succ]
    go_wp2_with (first | rw [rounds_succ] | (go_at_call 117; refine (Tryz.strings_HasPrefix _ _ _).mono ?_; rintro e w' ⟨rfl, rfl⟩))
    go_ret2
    rw [HE.out]
    exact ⟨rfl, (Below.refl _ _).alloc (Nat.le_refl _) _⟩
  rw [Bool.not_eq_true] at c3
  have HENT : Hid (entL s.data.toList = if Lib.indexByte (s.data.toList.take 7) 59 < 0 ∨ Lib.hasPrefix s.data.toList [38, 35] = false then (0, 0) else entBody s.data.toList (Lib.indexByte (s.data.toList.take 7) 59).toNat) := by
    unfold Hid entL; rw [if_neg (by rw [c0]; decide), if_neg (by rw [c1]; decide), if_neg (by rw [c2]; decide), if_neg (by rw [c3]; decide)]
  have HTM := Lib.hid (take_min s)
  obtain ⟨x, hx⟩ : ∃ x, Lib.indexByte (s.data.toList.take 7) 59 = x := ⟨_, rfl⟩
  have HXI := Lib.hid hx
  have hend := @ent_end s.data.toList
  have hidx := @index_take s.data.toList 59 7
  rw [hx] at hend hidx
  rw [hx] at HENT
  clear hx
  by_cases x0 : x < 0
  · have HE : Hid (entL s.data.toList = (0, 0)) := HENT.out.trans (if_pos (Or.inl x0))
    clear hend hidx
    go_enter Tryz.func116, Tryz.ntmps116
    go_wp2_with fail
    refine wp_loop_rounds 5 ?_
    rw [rounds_succ]
    go_wp2_with (first | rw [rounds_succ] | (go_at_call 117; refine (Tryz.strings_HasPrefix _ _ _).mono ?_; rintro e w' ⟨rfl, rfl⟩))
    refine (Tryz.strings_IndexByte _ _ _).mono ?_
    rintro e w1 ⟨rfl, rfl⟩
    rw [show (59 : Int).toNat.toUInt8 = (59 : UInt8) from rfl, HTM.out, HXI.out]
    go_wp2_with fail
    go_ret2
    rw [HE.out]
    exact ⟨rfl, (Below.refl _ _).alloc (Nat.le_refl _) _⟩
  have x1 : 0 ≤ x := by omega
  by_cases c4 : Lib.hasPrefix s.data.toList [38, 35] = true
  case neg =>
    rw [Bool.not_eq_true] at c4
    have HE : Hid (entL s.data.toList = (0, 0)) := HENT.out.trans (if_pos (Or.inr c4))
    have C4 := Lib.hid c4
    clear hend hidx c4
    go_enter Tryz.func116, Tryz.ntmps116
    go_wp2_with fail
    refine wp_loop_rounds 5 ?_
    rw [rounds_succ]
    go_wp2_with (first | rw [rounds_succ] | (go_at_call 117; refine (Tryz.strings_HasPrefix _ _ _).mono ?_; rintro e w' ⟨rfl, rfl⟩))
    refine (Tryz.strings_IndexByte _ _ _).mono ?_
    rintro e w1 ⟨rfl, rfl⟩
    rw [show (59 : Int).toNat.toUInt8 = (59 : UInt8) from rfl, HTM.out, HXI.out]
    go_wp2_with fail
    refine (Tryz.strings_HasPrefix _ _ _).mono ?_
    rintro e w1 ⟨rfl, rfl⟩
    rw [show (ByteArray.mk #[38, 35]).data.toList = [38, 35] from rfl, C4.out]
    go_wp2_with fail
    go_ret2
    rw [HE.out]
    exact ⟨rfl, (Below.refl _ _).alloc (Nat.le_refl _) _⟩
  case pos =>
    have hB : Hid (entL s.data.toList = entBody s.data.toList x.toNat) := HENT.out.trans (if_neg (fun h => h.elim x0 (fun h => by rw [c4] at h; cases h)))
    have e2 := hend x1 c4
    obtain ⟨i1, i2, _⟩ := hidx x1
    rw [show s.data.toList.length = s.size by simp] at i2
    have C4 := Lib.hid c4
    clear hend hidx c4 x0
    obtain ⟨k, rfl⟩ := Int.eq_ofNat_of_zero_le x1
    rw [Int.toNat_natCast] at *
    have HM := Lib.hid (extract_mid s k)
    obtain ⟨d, hd⟩ : ∃ d, (s.data.toList.take k).drop 2 = d := ⟨_, rfl⟩
    have hdl : d.length = k - 2 := by rw [← hd, List.length_drop, List.length_take]; simp; omega
    have HEB : Hid (entBody s.data.toList k = if Lib.hasPrefix d [120] = true then (if d.length ≤ 3 then entNum (numL 16 7 (d.drop 1)) k else (0, 0)) else if d.length ≤ 3 then entNum (numL 10 9 d) k else (0, 0)) := by
      unfold Hid entBody; rw [hd]
    have HDD := Lib.hid hd
    rw [hd] at HM
    clear hd
    by_cases c5 : Lib.hasPrefix d [120] = true
    · obtain ⟨dd, hdd0⟩ : ∃ dd, d.drop 1 = dd := ⟨_, rfl⟩
      have HT : Hid (Lib.trimPrefix d [120] = dd) := by unfold Hid Lib.trimPrefix; rw [if_pos c5]; exact hdd0
      have hp1 := hasPrefix_len c5
      have C5 := Lib.hid c5
      have HB2 := Lib.hid ((HEB.out).trans (if_pos c5))
      rw [hdd0] at HB2
      simp only [List.length_cons, List.length_nil] at hp1
      have hdd : dd.length = d.length - 1 := by rw [← hdd0]; exact List.length_drop
      clear c5 hdd0
      by_cases c6 : d.length ≤ 3
      · have HB3 := Lib.hid (HB2.out.trans (if_pos c6))
        have hsz : (bs dd).size ≤ maxLen := by rw [bs_size, hdd]; unfold maxLen; omega
        have hl2 : (dd.length : Int) ≤ 2 := by omega
        cases hn : numL 16 7 dd with
        | none =>
          have HN := Lib.hid hn
          have HE : Hid (entL s.data.toList = (0, 0)) := by unfold Hid; rw [hB.out, HB3.out, hn]; rfl
          clear hn hdl hdd
          go_enter Tryz.func116, Tryz.ntmps116
          go_wp2_with fail
          refine wp_loop_rounds 5 ?_
          rw [rounds_succ]
          go_wp2_with (first | rw [rounds_succ] | (go_at_call 117; refine (Tryz.strings_HasPrefix _ _ _).mono ?_; rintro e w' ⟨rfl, rfl⟩))
          refine (Tryz.strings_IndexByte _ _ _).mono ?_
          rintro e w1 ⟨rfl, rfl⟩
          rw [show (59 : Int).toNat.toUInt8 = (59 : UInt8) from rfl, HTM.out, HXI.out]
          go_wp2_with fail
          refine (Tryz.strings_HasPrefix _ _ _).mono ?_
          rintro e w1 ⟨rfl, rfl⟩
          rw [show (ByteArray.mk #[38, 35]).data.toList = [38, 35] from rfl, C4.out]
          go_wp2_with fail
          refine (Tryz.strings_CutPrefix _ _ _).mono ?_
          rintro e w1 ⟨rfl, rfl⟩
          rw [show (ByteArray.mk #[120]).data.toList = [120] from rfl, HM.out, HT.out, C5.out]
          go_wp2_with fail
          refine (Hex_any _ _ hsz).mono ?_
          rintro e w1 ⟨rfl, rfl⟩
          rw [bs_toList, HN.out]
          simp only [numRes]
          go_wp2_with fail
          go_ret2
          rw [HE.out]
          exact ⟨rfl, (Below.refl _ _).alloc (Nat.le_refl _) _⟩
        | some n =>
          have HN := Lib.hid hn
          have hn0 := numL_rangeE 16 7 (by decide) _ _ hn
          by_cases c7 : 255 < n
          · have HE : Hid (entL s.data.toList = (0, 0)) := by unfold Hid; rw [hB.out, HB3.out, hn]; exact if_pos c7
            clear hn hdl hdd
            go_enter Tryz.func116, Tryz.ntmps116
            go_wp2_with fail
            refine wp_loop_rounds 5 ?_
            rw [rounds_succ]
            go_wp2_with (first | rw [rounds_succ] | (go_at_call 117; refine (Tryz.strings_HasPrefix _ _ _).mono ?_; rintro e w' ⟨rfl, rfl⟩))
            refine (Tryz.strings_IndexByte _ _ _).mono ?_
            rintro e w1 ⟨rfl, rfl⟩
            rw [show (59 : Int).toNat.toUInt8 = (59 : UInt8) from rfl, HTM.out, HXI.out]
            go_wp2_with fail
            refine (Tryz.strings_HasPrefix _ _ _).mono ?_
            rintro e w1 ⟨rfl, rfl⟩
            rw [show (ByteArray.mk #[38, 35]).data.toList = [38, 35] from rfl, C4.out]
            go_wp2_with fail
            refine (Tryz.strings_CutPrefix _ _ _).mono ?_
            rintro e w1 ⟨rfl, rfl⟩
            rw [show (ByteArray.mk #[120]).data.toList = [120] from rfl, HM.out, HT.out, C5.out]
            go_wp2_with fail
            refine (Hex_any _ _ hsz).mono ?_
            rintro e w1 ⟨rfl, rfl⟩
            rw [bs_toList, HN.out]
            simp only [numRes]
            go_wp2_with fail
            go_ret2
            rw [HE.out]
            exact ⟨rfl, (Below.refl _ _).alloc (Nat.le_refl _) _⟩
          · have HE : Hid (entL s.data.toList = (UInt8.ofNat n.toNat, k + 1)) := by unfold Hid; rw [hB.out, HB3.out, hn]; exact if_neg c7
            have hn1 : n ≤ 255 := by omega
            clear hn hdl hdd c7
            go_enter Tryz.func116, Tryz.ntmps116
            go_wp2_with fail
            refine wp_loop_rounds 5 ?_
            rw [rounds_succ]
            go_wp2_with (first | rw [rounds_succ] | (go_at_call 117; refine (Tryz.strings_HasPrefix _ _ _).mono ?_; rintro e w' ⟨rfl, rfl⟩))
            refine (Tryz.strings_IndexByte _ _ _).mono ?_
            rintro e w1 ⟨rfl, rfl⟩
            rw [show (59 : Int).toNat.toUInt8 = (59 : UInt8) from rfl, HTM.out, HXI.out]
            go_wp2_with fail
            refine (Tryz.strings_HasPrefix _ _ _).mono ?_
            rintro e w1 ⟨rfl, rfl⟩
            rw [show (ByteArray.mk #[38, 35]).data.toList = [38, 35] from rfl, C4.out]
            go_wp2_with fail
            refine (Tryz.strings_CutPrefix _ _ _).mono ?_
            rintro e w1 ⟨rfl, rfl⟩
            rw [show (ByteArray.mk #[120]).data.toList = [120] from rfl, HM.out, HT.out, C5.out]
            go_wp2_with fail
            refine (Hex_any _ _ hsz).mono ?_
            rintro e w1 ⟨rfl, rfl⟩
            rw [bs_toList, HN.out]
            simp only [numRes]
            go_wp2_with fail
            go_ret2
            rw [HE.out]
            exact EntPost.mk _ _ rfl (wrap_u8 n hn0 hn1).symm (by show (k : Int) + 1 = _; simp) ((Below.refl _ _).alloc (Nat.le_refl _) _)
      · have HE : Hid (entL s.data.toList = (0, 0)) := by unfold Hid; rw [hB.out, HB2.out, if_neg c6]
        have hl2 : 2 < (dd.length : Int) := by omega
        clear hdl hdd
        go_enter Tryz.func116, Tryz.ntmps116
        go_wp2_with fail
        refine wp_loop_rounds 5 ?_
        rw [rounds_succ]
        go_wp2_with (first | rw [rounds_succ] | (go_at_call 117; refine (Tryz.strings_HasPrefix _ _ _).mono ?_; rintro e w' ⟨rfl, rfl⟩))
        refine (Tryz.strings_IndexByte _ _ _).mono ?_
        rintro e w1 ⟨rfl, rfl⟩
        rw [show (59 : Int).toNat.toUInt8 = (59 : UInt8) from rfl, HTM.out, HXI.out]
        go_wp2_with fail
        refine (Tryz.strings_HasPrefix _ _ _).mono ?_
        rintro e w1 ⟨rfl, rfl⟩
        rw [show (ByteArray.mk #[38, 35]).data.toList = [38, 35] from rfl, C4.out]
        go_wp2_with fail
        refine (Tryz.strings_CutPrefix _ _ _).mono ?_
        rintro e w1 ⟨rfl, rfl⟩
        rw [show (ByteArray.mk #[120]).data.toList = [120] from rfl, HM.out, HT.out, C5.out]
        go_wp2_with fail
        go_ret2
        rw [HE.out]
        exact ⟨rfl, (Below.refl _ _).alloc (Nat.le_refl _) _⟩
    · have HT : Hid (Lib.trimPrefix d [120] = d) := by unfold Hid Lib.trimPrefix; rw [if_neg c5]
      have HB2 := Lib.hid ((HEB.out).trans (if_neg c5))
      rw [Bool.not_eq_true] at c5
      have C5 := Lib.hid c5
      clear c5
      by_cases c6 : d.length ≤ 3
      · have HB3 := Lib.hid (HB2.out.trans (if_pos c6))
        have hsz : (bs d).size ≤ maxLen := by rw [bs_size]; unfold maxLen; omega
        have hl2 : (d.length : Int) ≤ 3 := by omega
        cases hn : numL 10 9 d with
        | none =>
          have HN := Lib.hid hn
          have HE : Hid (entL s.data.toList = (0, 0)) := by unfold Hid; rw [hB.out, HB3.out, hn]; rfl
          clear hn hdl
          go_enter Tryz.func116, Tryz.ntmps116
          go_wp2_with fail
          refine wp_loop_rounds 5 ?_
          rw [rounds_succ]
          go_wp2_with (first | rw [rounds_succ] | (go_at_call 117; refine (Tryz.strings_HasPrefix _ _ _).mono ?_; rintro e w' ⟨rfl, rfl⟩))
          refine (Tryz.strings_IndexByte _ _ _).mono ?_
          rintro e w1 ⟨rfl, rfl⟩
          rw [show (59 : Int).toNat.toUInt8 = (59 : UInt8) from rfl, HTM.out, HXI.out]
          go_wp2_with fail
          refine (Tryz.strings_HasPrefix _ _ _).mono ?_
          rintro e w1 ⟨rfl, rfl⟩
          rw [show (ByteArray.mk #[38, 35]).data.toList = [38, 35] from rfl, C4.out]
          go_wp2_with fail
          refine (Tryz.strings_CutPrefix _ _ _).mono ?_
          rintro e w1 ⟨rfl, rfl⟩
          rw [show (ByteArray.mk #[120]).data.toList = [120] from rfl, HM.out, HT.out, C5.out]
          go_wp2_with fail
          refine (Dec_any _ _ hsz).mono ?_
          rintro e w1 ⟨rfl, rfl⟩
          rw [bs_toList, HN.out]
          simp only [numRes]
          go_wp2_with fail
          go_ret2
          rw [HE.out]
          exact ⟨rfl, (Below.refl _ _).alloc (Nat.le_refl _) _⟩
        | some n =>
          have HN := Lib.hid hn
          have hn0 := numL_rangeE 10 9 (by decide) _ _ hn
          by_cases c7 : 255 < n
          · have HE : Hid (entL s.data.toList = (0, 0)) := by unfold Hid; rw [hB.out, HB3.out, hn]; exact if_pos c7
            clear hn hdl
            go_enter Tryz.func116, Tryz.ntmps116
            go_wp2_with fail
            refine wp_loop_rounds 5 ?_
            rw [rounds_succ]
            go_wp2_with (first | rw [rounds_succ] | (go_at_call 117; refine (Tryz.strings_HasPrefix _ _ _).mono ?_; rintro e w' ⟨rfl, rfl⟩))
            refine (Tryz.strings_IndexByte _ _ _).mono ?_
            rintro e w1 ⟨rfl, rfl⟩
            rw [show (59 : Int).toNat.toUInt8 = (59 : UInt8) from rfl, HTM.out, HXI.out]
            go_wp2_with fail
            refine (Tryz.strings_HasPrefix _ _ _).mono ?_
            rintro e w1 ⟨rfl, rfl⟩
            rw [show (ByteArray.mk #[38, 35]).data.toList = [38, 35] from rfl, C4.out]
            go_wp2_with fail
            refine (Tryz.strings_CutPrefix _ _ _).mono ?_
            rintro e w1 ⟨rfl, rfl⟩
            rw [show (ByteArray.mk #[120]).data.toList = [120] from rfl, HM.out, HT.out, C5.out]
            go_wp2_with fail
            refine (Dec_any _ _ hsz).mono ?_
            rintro e w1 ⟨rfl, rfl⟩
            rw [bs_toList, HN.out]
            simp only [numRes]
            go_wp2_with fail
            go_ret2
            rw [HE.out]
            exact ⟨rfl, (Below.refl _ _).alloc (Nat.le_refl _) _⟩
          · have HE : Hid (entL s.data.toList = (UInt8.ofNat n.toNat, k + 1)) := by unfold Hid; rw [hB.out, HB3.out, hn]; exact if_neg c7
            have hn1 : n ≤ 255 := by omega
            clear hn hdl c7
            go_enter Tryz.func116, Tryz.ntmps116
            go_wp2_with fail
            refine wp_loop_rounds 5 ?_
            rw [rounds_succ]
            go_wp2_with (first | rw [rounds_succ] | (go_at_call 117; refine (Tryz.strings_HasPrefix _ _ _).mono ?_; rintro e w' ⟨rfl, rfl⟩))
            refine (Tryz.strings_IndexByte _ _ _).mono ?_
            rintro e w1 ⟨rfl, rfl⟩
            rw [show (59 : Int).toNat.toUInt8 = (59 : UInt8) from rfl, HTM.out, HXI.out]
            go_wp2_with fail
            refine (Tryz.strings_HasPrefix _ _ _).mono ?_
            rintro e w1 ⟨rfl, rfl⟩
            rw [show (ByteArray.mk #[38, 35]).data.toList = [38, 35] from rfl, C4.out]
            go_wp2_with fail
            refine (Tryz.strings_CutPrefix _ _ _).mono ?_
            rintro e w1 ⟨rfl, rfl⟩
            rw [show (ByteArray.mk #[120]).data.toList = [120] from rfl, HM.out, HT.out, C5.out]
            go_wp2_with fail
            refine (Dec_any _ _ hsz).mono ?_
            rintro e w1 ⟨rfl, rfl⟩
            rw [bs_toList, HN.out]
            simp only [numRes]
            go_wp2_with fail
            go_ret2
            rw [HE.out]
            exact EntPost.mk _ _ rfl (wrap_u8 n hn0 hn1).symm (by show (k : Int) + 1 = _; simp) ((Below.refl _ _).alloc (Nat.le_refl _) _)
      · have HE : Hid (entL s.data.toList = (0, 0)) := by unfold Hid; rw [hB.out, HB2.out, if_neg c6]
        have hl2 : 3 < (d.length : Int) := by omega
        clear hdl
        go_enter Tryz.func116, Tryz.ntmps116
        go_wp2_with fail
        refine wp_loop_rounds 5 ?_
        rw [rounds_succ]
        go_wp2_with (first | rw [rounds_succ] | (go_at_call 117; refine (Tryz.strings_HasPrefix _ _ _).mono ?_; rintro e w' ⟨rfl, rfl⟩))
        refine (Tryz.strings_IndexByte _ _ _).mono ?_
        rintro e w1 ⟨rfl, rfl⟩
        rw [show (59 : Int).toNat.toUInt8 = (59 : UInt8) from rfl, HTM.out, HXI.out]
        go_wp2_with fail
        refine (Tryz.strings_HasPrefix _ _ _).mono ?_
        rintro e w1 ⟨rfl, rfl⟩
        rw [show (ByteArray.mk #[38, 35]).data.toList = [38, 35] from rfl, C4.out]
        go_wp2_with fail
        refine (Tryz.strings_CutPrefix _ _ _).mono ?_
        rintro e w1 ⟨rfl, rfl⟩
        rw [show (ByteArray.mk #[120]).data.toList = [120] from rfl, HM.out, HT.out, C5.out]
        go_wp2_with fail
        go_ret2
        rw [HE.out]
        exact ⟨rfl, (Below.refl _ _).alloc (Nat.le_refl _) _⟩
end Go.Proofs.YthfjmlcjkbgboaaGreatDoor
namespace Go.Proofs.YthfjmlcjkbgboaaGreatDoor
open Go.RowKit
def HtmlRel (s : ByteArray) (w : World) (v i : Value) (wr : World) : Prop :=
  ∃ (k : Nat) (acc : List UInt8), k ≤ s.size ∧ i = .int .i64 k ∧ acc.length ≤ k ∧ OwnB wr w.heap.size v acc ∧ htmlDecL s.data.toList = acc ++ htmlDecL (s.data.toList.drop k) ∧ Below w.heap.size w wr
theorem OwnB.below {w w' : World} {base : Nat} {v : Value} {l : List UInt8} (h : OwnB w base v l) (hb : Below w.heap.size w w') : OwnB w' base v l :=
  h.kept (row := none) ⟨hb.os, hb.tape, hb.output, hb.size, fun k hk _ => hb.block k hk⟩ (by cases hv : v.ownBlock <;> simp)
set_option maxRecDepth 100000 in
set_option maxHeartbeats 1600000 in
theorem HtmlDecode_any (s : ByteArray) (w : World) (hs : s.size ≤ 140737488351232) :
    Calls Tryz.prog 70 #[.string s] w (StrPost (bs (htmlDecL s.data.toList)) w) := by
  have hL : Hid (s.data.toList.length = s.size) := by unfold Hid; simp
  go_enter Tryz.func70, Tryz.ntmps70
  go_wp2_with fail
  go_loopw [3, 4] (fun v i wr => HtmlRel s w v i wr) (fun _ i _ => s.size - (intOf i).toNat)
  case atStart => exact ⟨0, [], Nat.zero_le _, rfl, Nat.le_refl _, OwnB.nil _ _, rfl, Below.refl _ _⟩
  case round =>
    obtain ⟨k, acc, hk, rfl, hacc, hown, hr, hbl⟩ := hrel
    have hbase := hbl.size
    have HR := Lib.hid hr
    clear hr
    by_cases hlt : k < s.size
    · have HD := Lib.hid (drop_cons s k hlt)
      have HU := Lib.hid (scan_cons htmlStep s[k] (s.data.toList.drop (k + 1)))
      have hcb := s[k].toNat_lt
      by_cases hb1 : s[k] = 38
      · have q1 : ((s[k].toNat : Int) == 38) = true := by rw [hb1]; decide
        have hx : (s.extract k s.size).data.toList = s.data.toList.drop k := Lib.extract_to_end s k
        have hxs : (s.extract k s.size).size = s.size - k := by rw [Lib.size_eq, hx]; simp
        obtain ⟨x, n, hE⟩ : ∃ x n, entL (s.data.toList.drop k) = (x, n) := ⟨_, _, rfl⟩
        have hle := entL_le (s.data.toList.drop k)
        rw [hE, List.length_drop, hL.out] at hle
        have hE2 : entL (38 :: s.data.toList.drop (k + 1)) = (x, n) := by rw [← hE, HD.out, hb1]
        have HX := Lib.hid hx
        have HXS := Lib.hid hxs
        have HE := Lib.hid hE
        simp only [] at hle
        by_cases hz : 0 < n
        · have HS : Hid (htmlStep s[k] (s.data.toList.drop (k + 1)) = ([x], n - 1)) := by unfold Hid htmlStep; rw [hE2, if_pos ⟨hb1, hz⟩]
          have hnz : (0 : Int) < n := by omega
          clear hx hxs hE hE2 hb1
          go_wp2_with (first | (go_at_call 116; refine (entity_any _ _ (by rw [HXS.out]; unfold maxLen; omega)).mono ?_; rintro e w1 ⟨rfl, hb1⟩; rw [HX.out, HE.out]) | (at_builtin; refine wpList_append_b rfl _ _ rfl w.heap.size _ acc rfl (by exact hown.below hb1) (by exact Nat.le_trans hbase hb1.size) _ [x] rfl 1 1 rfl rfl (by omega) ?_; intro v' w2 hown1 hb2 hbs1))
          exact ⟨⟨k + n, acc ++ [x], by omega, by go_num, by simp; omega, hown1, by rw [HR.out, HD.out]; unfold htmlDecL; rw [HU.out, HS.out, List.drop_drop, show k + 1 + (n - 1) = k + n by omega]; simp, (hbl.trans (hb1.mono hbase)).trans hb2⟩, by simp [intOf]; omega⟩
        · have HS : Hid (htmlStep s[k] (s.data.toList.drop (k + 1)) = ([s[k]], 0)) := by unfold Hid htmlStep; rw [hE2, if_neg (fun h => hz h.2)]
          have hn0 : n = 0 := by omega
          subst hn0
          clear hx hxs hE hE2 hb1
          go_wp2_with (first | (go_at_call 116; refine (entity_any _ _ (by rw [HXS.out]; unfold maxLen; omega)).mono ?_; rintro e w1 ⟨rfl, hb1⟩; rw [HX.out, HE.out]) | (at_builtin; refine wpList_append_b rfl _ _ rfl w.heap.size _ acc rfl (by exact hown.below hb1) (by exact Nat.le_trans hbase hb1.size) _ [s[k]] rfl 1 1 rfl rfl (by omega) ?_; intro v' w2 hown1 hb2 hbs1))
          exact ⟨⟨k + 1, acc ++ [s[k]], by omega, by go_num, by simp; omega, hown1, by rw [HR.out, HD.out]; unfold htmlDecL; rw [HU.out, HS.out]; simp, (hbl.trans (hb1.mono hbase)).trans hb2⟩, by simp [intOf]; omega⟩
      · have q1 : ((s[k].toNat : Int) == 38) = false := beq_eq_false_iff_ne.2 (fun h => hb1 (UInt8.toNat_inj.1 (by show s[k].toNat = 38; omega)))
        have HS : Hid (htmlStep s[k] (s.data.toList.drop (k + 1)) = ([s[k]], 0)) := by unfold Hid htmlStep; rw [if_neg (fun h => hb1 h.1)]
        clear hb1
        go_wp2_with (at_builtin; refine wpList_append_b rfl _ _ rfl w.heap.size _ acc rfl (by exact hown) (by exact hbase) _ [s[k]] rfl 1 1 rfl rfl (by omega) ?_; intro v' w1 hown1 hb1 hbs1)
        exact ⟨⟨k + 1, acc ++ [s[k]], by omega, by go_num, by simp; omega, hown1, by rw [HR.out, HD.out]; unfold htmlDecL; rw [HU.out, HS.out]; simp, hbl.trans hb1⟩, by simp [intOf]; omega⟩
    · have hcv := hown.string
      have HF : Hid (htmlDecL s.data.toList = acc) := by unfold Hid; rw [HR.out, List.drop_eq_nil_of_le (by rw [hL.out]; omega)]; unfold htmlDecL; rw [scan_nil, List.append_nil]
      clear hown
      go_wp2_with fail
      go_ret
      exact ⟨by rw [HF.out]; rfl, hbl⟩
def HexRel (s : ByteArray) (w : World) (v i : Value) (wr : World) : Prop :=
  ∃ (k : Nat) (acc : List UInt8), k ≤ s.size ∧ i = .int .i64 k ∧ acc.length ≤ k ∧ OwnB wr w.heap.size v acc ∧ hexDecL s.data.toList = (hexDecL (s.data.toList.drop k)).map (acc ++ ·) ∧ Below w.heap.size w wr
set_option maxRecDepth 100000 in
set_option maxHeartbeats 1600000 in
theorem HexDecode_any (s : ByteArray) (w : World) (hs : s.size ≤ 140737488351232) :
    Calls Tryz.prog 68 #[.string s] w (ResPost (strRes 4 (hexDecL s.data.toList)) w) := by
  have hL : Hid (s.data.toList.length = s.size) := by unfold Hid; simp
  go_enter Tryz.func68, Tryz.ntmps68
  go_wp2_with fail
  go_loopw [4, 5] (fun v i wr => HexRel s w v i wr) (fun _ i _ => s.size - (intOf i).toNat)
  case atStart => exact ⟨0, [], Nat.zero_le _, rfl, Nat.le_refl _, OwnB.nil _ _, by simp, Below.refl _ _⟩
  case round =>
    obtain ⟨k, acc, hk, rfl, hacc, hown, hr, hbl⟩ := hrel
    have hbase := hbl.size
    have HR := Lib.hid hr
    clear hr
    by_cases hlt : k < s.size
    · have hdl : 0 < (s.data.toList.drop k).length := by rw [List.length_drop, hL.out]; omega
      have hrg := pairI_range (s.data.toList.drop k)
      have HB := Lib.hid (hexDec_bad (s.data.toList.drop k) hdl)
      have HS := Lib.hid (hexDec_step (s.data.toList.drop k) hdl)
      obtain ⟨n, hn⟩ : ∃ n, pairI (s.data.toList.drop k) = n := ⟨_, rfl⟩
      rw [hn] at hrg HB HS
      have HN := Lib.hid hn
      obtain ⟨r1, r2, r3⟩ := hrg
      rw [List.length_drop, hL.out] at r3
      clear hn hdl
      by_cases h3 : n < 0
      · have HF := Lib.hid (HB.out h3)
        clear r3
        go_wp2_with (go_at_call 113; refine (pair_any _ _ (by omega) (by omega) _).mono ?_; rintro e w1 ⟨rfl, nq, rfl⟩; rw [Int.toNat_natCast, HN.out])
        go_ret2
        exact ⟨by rw [HR.out, HF.out]; rfl, below_drewN hbl _⟩
      · have h4 : 0 ≤ n := by omega
        have r4 := r3 h4
        have HF := Lib.hid (HS.out h3)
        have HW := Lib.hid (wrap_u8 n h4 r2)
        have hvs : Hid ([Value.int .u8 n] = [UInt8.ofNat n.toNat].map byteV) := by unfold Hid byteV; simp only [List.map_cons, List.map_nil]; rw [HW.out]
        clear r3 h3
        go_wp2_with (first | (go_at_call 113; refine (pair_any _ _ (by omega) (by omega) _).mono ?_; rintro e w1 ⟨rfl, nq, rfl⟩; rw [Int.toNat_natCast, HN.out]) | (at_builtin; refine wpList_append_b rfl _ _ rfl w.heap.size _ acc rfl (by exact hown.drewN _) (by exact hbase) _ [UInt8.ofNat n.toNat] hvs.out 1 1 rfl rfl (by omega) ?_; intro v' w1 hown1 hb1 hbs1))
        exact ⟨⟨k + 2, acc ++ [UInt8.ofNat n.toNat], by omega, by go_num, by simp; omega, hown1, by rw [HR.out, HF.out, List.drop_drop, Option.map_map]; congr 1; funext y; simp, (below_drewN hbl _).trans hb1⟩, by simp [intOf]; omega⟩
    · have hcv := hown.string
      have HF : Hid (hexDecL s.data.toList = some acc) := by unfold Hid; rw [HR.out, List.drop_eq_nil_of_le (by rw [hL.out]; omega), hexDec_nil]; simp
      clear hown
      go_wp2_with fail
      go_ret2
      exact ⟨by rw [HF.out]; rfl, hbl⟩
end Go.Proofs.YthfjmlcjkbgboaaGreatDoor
namespace Go.Proofs.YthfjmlcjkbgboaaGreatDoor
open Go.RowKit
theorem scan_len (step : UInt8 → List UInt8 → List UInt8 × Nat) (h : ∀ b r, (step b r).1.length = 1) : ∀ (n : Nat) (l : List UInt8), l.length ≤ n → (scan step l).length ≤ l.length := by
  intro n
  induction n with
  | zero =>
    intro l hl
    have : l = [] := List.eq_nil_of_length_eq_zero (by omega)
    subst this; exact Nat.le_refl _
  | succ n ih =>
    intro l hl
    cases l with
    | nil => exact Nat.le_refl _
    | cons b r =>
      simp only [List.length_cons] at hl
      rw [scan_cons, List.length_append, h b r, List.length_cons]
      have := ih (r.drop (step b r).2) (by rw [List.length_drop]; omega)
      rw [List.length_drop] at this
      omega
theorem urlDec_len (l : List UInt8) : (urlDecL l).length ≤ l.length := scan_len urlStep (fun b r => (urlStep_le b r).2) _ l (Nat.le_refl _)
theorem htmlDec_len (l : List UInt8) : (htmlDecL l).length ≤ l.length := scan_len htmlStep (fun b r => by unfold htmlStep; split <;> rfl) _ l (Nat.le_refl _)
end Go.Proofs.YthfjmlcjkbgboaaGreatDoor
namespace Go.Proofs.YthfjmlcjkbgboaaGreatDoor
open Go.RowKit
def b64T : List UInt8 := [65,66,67,68,69,70,71,72,73,74,75,76,77,78,79,80,81,82,83,84,85,86,87,88,89,90,97,98,99,100,101,102,103,104,105,106,107,108,109,110,111,112,113,114,115,116,117,118,119,120,121,122,48,49,50,51,52,53,54,55,56,57,43,47]
def sgn (n : Nat) : UInt8 := (b64T[n]?).getD 0
def idx (b : UInt8) : Int := Lib.indexByte b64T b
theorem idx_all (b : UInt8) : -1 ≤ idx b ∧ idx b < 64 ∧ (0 ≤ idx b → sgn (idx b).toNat = b ∧ b ≠ 61) :=
  of_decide_eq_true (all_bytes (p := fun b => decide (-1 ≤ idx b ∧ idx b < 64 ∧ (0 ≤ idx b → sgn (idx b).toNat = b ∧ b ≠ 61))) (by decide +kernel) b)
def grp (n : Nat) : List UInt8 := [sgn (n / 262144 % 64), sgn (n / 4096 % 64), sgn (n / 64 % 64), sgn (n % 64)]
def b64N (a b c : Nat) : Nat := a * 65536 + b * 256 + c
def decGo (n bits : Nat) : List UInt8 → Option (List UInt8)
  | [] => if n ≠ 0 ∨ bits = 6 then none else some []
  | x :: r => if idx x < 0 then none else
    if bits = 0 then decGo (n * 64 + (idx x).toNat) 6 r
    else (decGo ((n * 64 + (idx x).toNat) % 2 ^ (bits - 2)) (bits - 2) r).map (UInt8.ofNat ((n * 64 + (idx x).toNat) / 2 ^ (bits - 2)) :: ·)
theorem dec_bad (n bits : Nat) (x : UInt8) (r : List UInt8) (h : idx x < 0) : decGo n bits (x :: r) = none := by rw [decGo, if_pos h]
theorem dec_0 (n : Nat) (x : UInt8) (r : List UInt8) (h : ¬ idx x < 0) : decGo n 0 (x :: r) = decGo (n * 64 + (idx x).toNat) 6 r := by
  rw [decGo, if_neg h, if_pos rfl]
theorem dec_6 (n : Nat) (x : UInt8) (r : List UInt8) (h : ¬ idx x < 0) : decGo n 6 (x :: r) = (decGo ((n * 64 + (idx x).toNat) % 16) 4 r).map (UInt8.ofNat ((n * 64 + (idx x).toNat) / 16) :: ·) := by
  rw [decGo, if_neg h, if_neg (by omega)]
theorem dec_4 (n : Nat) (x : UInt8) (r : List UInt8) (h : ¬ idx x < 0) : decGo n 4 (x :: r) = (decGo ((n * 64 + (idx x).toNat) % 4) 2 r).map (UInt8.ofNat ((n * 64 + (idx x).toNat) / 4) :: ·) := by
  rw [decGo, if_neg h, if_neg (by omega)]
theorem dec_2 (n : Nat) (x : UInt8) (r : List UInt8) (h : ¬ idx x < 0) : decGo n 2 (x :: r) = (decGo 0 0 r).map (UInt8.ofNat (n * 64 + (idx x).toNat) :: ·) := by
  rw [decGo, if_neg h, if_neg (by omega)]
  simp [Nat.mod_one]
def trimE (l : List UInt8) : List UInt8 := Lib.trimSuffix l [61]
def b64D (l : List UInt8) : Option (List UInt8) := if l.length % 4 ≠ 0 then none else decGo 0 0 (trimE (trimE l))
theorem suff_of {l p : List UInt8} (h : Lib.hasSuffix l p = true) : p <:+ l := by
  exact List.isSuffixOf_iff_suffix.1 h
theorem trimE_snoc (l : List UInt8) : trimE (l ++ [61]) = l := by
  unfold trimE Lib.trimSuffix Lib.hasSuffix
  rw [if_pos (List.isSuffixOf_iff_suffix.2 (List.suffix_append _ _))]
  simp
theorem trimE_cases (l : List UInt8) : (trimE l = l ∧ ¬ [61] <:+ l) ∨ l = trimE l ++ [61] := by
  by_cases h : [61] <:+ l
  · obtain ⟨t, rfl⟩ := h
    right; rw [trimE_snoc]
  · left
    refine ⟨?_, h⟩
    unfold trimE Lib.trimSuffix
    rw [if_neg]
    intro hs
    exact h (suff_of hs)
end Go.Proofs.YthfjmlcjkbgboaaGreatDoor
