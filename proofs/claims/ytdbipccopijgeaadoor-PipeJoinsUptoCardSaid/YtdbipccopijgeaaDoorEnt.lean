/- The walks of entity and HtmlDecode. -/
import Derived.Test.YtdbipccopijgeaaDoorCod
import Derived.Test.YtdbipccopijgeaaDoorEntL
namespace Go.Proofs.YtdbipccopijgeaaDoor
open Go.RowKit

def EntPost (r : UInt8 × Nat) (w : World) (e : Ending) (w' : World) : Prop := e = .returned (.tuple #[.int .u8 (r.1.toNat : Int), .int .i64 (r.2 : Int)]) ∧ Below w.heap.size w w'
theorem EntPost.mk {r : UInt8 × Nat} {w w' : World} {e : Ending} (a b : Int) (he : e = .returned (.tuple #[.int .u8 a, .int .i64 b])) (ha : a = (r.1.toNat : Int)) (hb : b = (r.2 : Int)) (h : Below w.heap.size w w') : EntPost r w e w' := by
  subst ha; subst hb; exact ⟨he, h⟩

theorem take_min (s : ByteArray) : (s.extract 0 (min (s.size : Int) 7).toNat).data.toList = s.data.toList.take 7 := by
  rw [Lib.extract_data, List.drop_zero, Nat.sub_zero]
  rcases Nat.lt_or_ge s.size 7 with h | h
  · rw [show (min (s.size : Int) 7).toNat = s.size by omega, List.take_of_length_le (by simp), List.take_of_length_le (by simp; omega)]
  · rw [show (min (s.size : Int) 7).toNat = 7 by omega]
theorem extract_mid (s : ByteArray) (e : Nat) : (s.extract 2 e).data.toList = (s.data.toList.take e).drop 2 := by
  rw [Lib.extract_data, List.drop_take]

set_option maxRecDepth 100000 in
set_option maxHeartbeats 3200000 in
theorem entity_any (s : ByteArray) (w : World) (hs : s.size ≤ maxLen) :
    Calls Tryd.prog 107 #[.string s] w (EntPost (entL s.data.toList) w) := by
  have hs2 := hs
  unfold maxLen at hs
  by_cases c0 : Lib.hasPrefix s.data.toList [38, 108, 116, 59] = true
  · have HE : Hid (entL s.data.toList = (60, 4)) := by unfold Hid entL; rw [if_pos c0]
    go_enter Tryd.func107, Tryd.ntmps107
    go_wp2_with fail
    refine wp_loop_rounds 5 ?_
    rw [rounds_succ]
    go_wp2_with (first | rw [rounds_succ] | (go_at_call 108; refine (Tryd.strings_HasPrefix _ _ _).mono ?_; rintro e w' ⟨rfl, rfl⟩))
    go_ret2
    rw [HE.out]
    exact ⟨rfl, (Below.refl _ _).alloc (Nat.le_refl _) _⟩
  rw [Bool.not_eq_true] at c0
  by_cases c1 : Lib.hasPrefix s.data.toList [38, 103, 116, 59] = true
  · have HE : Hid (entL s.data.toList = (62, 4)) := by unfold Hid entL; rw [if_neg (by rw [c0]; decide), if_pos c1]
    go_enter Tryd.func107, Tryd.ntmps107
    go_wp2_with fail
    refine wp_loop_rounds 5 ?_
    rw [rounds_succ]
    go_wp2_with (first | rw [rounds_succ] | (go_at_call 108; refine (Tryd.strings_HasPrefix _ _ _).mono ?_; rintro e w' ⟨rfl, rfl⟩))
    go_ret2
    rw [HE.out]
    exact ⟨rfl, (Below.refl _ _).alloc (Nat.le_refl _) _⟩
  rw [Bool.not_eq_true] at c1
  by_cases c2 : Lib.hasPrefix s.data.toList [38, 97, 109, 112, 59] = true
  · have HE : Hid (entL s.data.toList = (38, 5)) := by unfold Hid entL; rw [if_neg (by rw [c0]; decide), if_neg (by rw [c1]; decide), if_pos c2]
    go_enter Tryd.func107, Tryd.ntmps107
    go_wp2_with fail
    refine wp_loop_rounds 5 ?_
    rw [rounds_succ]
    go_wp2_with (first | rw [rounds_succ] | (go_at_call 108; refine (Tryd.strings_HasPrefix _ _ _).mono ?_; rintro e w' ⟨rfl, rfl⟩))
    go_ret2
    rw [HE.out]
    exact ⟨rfl, (Below.refl _ _).alloc (Nat.le_refl _) _⟩
  rw [Bool.not_eq_true] at c2
  by_cases c3 : Lib.hasPrefix s.data.toList [38, 113, 117, 111, 116, 59] = true
  · have HE : Hid (entL s.data.toList = (34, 6)) := by unfold Hid entL; rw [if_neg (by rw [c0]; decide), if_neg (by rw [c1]; decide), if_neg (by rw [c2]; decide), if_pos c3]
    go_enter Tryd.func107, Tryd.ntmps107
    go_wp2_with fail
    refine wp_loop_rounds 5 ?_
    rw [rounds_succ]
    go_wp2_with (first | rw [rounds_succ] | (go_at_call 108; refine (Tryd.strings_HasPrefix _ _ _).mono ?_; rintro e w' ⟨rfl, rfl⟩))
    go_ret2
    rw [HE.out]
    exact ⟨rfl, (Below.refl _ _).alloc (Nat.le_refl _) _⟩
  rw [Bool.not_eq_true] at c3
  have HENT : Hid (entL s.data.toList = if Lib.indexByte (s.data.toList.take 7) 59 < 0 ∨ Lib.hasPrefix s.data.toList [38, 35] = false then (0, 0) else entBody s.data.toList (Lib.indexByte (s.data.toList.take 7) 59).toNat) := by
    unfold Hid entL; rw [if_neg (by rw [c0]; decide), if_neg (by rw [c1]; decide), if_neg (by rw [c2]; decide), if_neg (by rw [c3]; decide)]
  have HTM := Lib.hid (take_min s)
  obtain ⟨x, hx⟩ : ∃ x, Lib.indexByte (s.data.toList.take 7) 59 = x := ⟨_, rfl⟩
  have HXI := Lib.hid hx
  have hend := @ent_end s.data.toList
  have hidx := @index_take s.data.toList 59 7
  rw [hx] at hend hidx
  rw [hx] at HENT
  clear hx
  by_cases x0 : x < 0
  · have HE : Hid (entL s.data.toList = (0, 0)) := HENT.out.trans (if_pos (Or.inl x0))
    clear hend hidx
    go_enter Tryd.func107, Tryd.ntmps107
    go_wp2_with fail
    refine wp_loop_rounds 5 ?_
    rw [rounds_succ]
    go_wp2_with (first | rw [rounds_succ] | (go_at_call 108; refine (Tryd.strings_HasPrefix _ _ _).mono ?_; rintro e w' ⟨rfl, rfl⟩))
    refine (Tryd.strings_IndexByte _ _ _).mono ?_
    rintro e w1 ⟨rfl, rfl⟩
    rw [show (59 : Int).toNat.toUInt8 = (59 : UInt8) from rfl, HTM.out, HXI.out]
    go_wp2_with fail
    go_ret2
    rw [HE.out]
    exact ⟨rfl, (Below.refl _ _).alloc (Nat.le_refl _) _⟩
  have x1 : 0 ≤ x := by omega
  by_cases c4 : Lib.hasPrefix s.data.toList [38, 35] = true
  case neg =>
    rw [Bool.not_eq_true] at c4
    have HE : Hid (entL s.data.toList = (0, 0)) := HENT.out.trans (if_pos (Or.inr c4))
    have C4 := Lib.hid c4
    clear hend hidx c4
    go_enter Tryd.func107, Tryd.ntmps107
    go_wp2_with fail
    refine wp_loop_rounds 5 ?_
    rw [rounds_succ]
    go_wp2_with (first | rw [rounds_succ] | (go_at_call 108; refine (Tryd.strings_HasPrefix _ _ _).mono ?_; rintro e w' ⟨rfl, rfl⟩))
    refine (Tryd.strings_IndexByte _ _ _).mono ?_
    rintro e w1 ⟨rfl, rfl⟩
    rw [show (59 : Int).toNat.toUInt8 = (59 : UInt8) from rfl, HTM.out, HXI.out]
    go_wp2_with fail
    refine (Tryd.strings_HasPrefix _ _ _).mono ?_
    rintro e w1 ⟨rfl, rfl⟩
    rw [show (ByteArray.mk #[38, 35]).data.toList = [38, 35] from rfl, C4.out]
    go_wp2_with fail
    go_ret2
    rw [HE.out]
    exact ⟨rfl, (Below.refl _ _).alloc (Nat.le_refl _) _⟩
  case pos =>
    have hB : Hid (entL s.data.toList = entBody s.data.toList x.toNat) := HENT.out.trans (if_neg (fun h => h.elim x0 (fun h => by rw [c4] at h; cases h)))
    have e2 := hend x1 c4
    obtain ⟨i1, i2, _⟩ := hidx x1
    rw [show s.data.toList.length = s.size by simp] at i2
    have C4 := Lib.hid c4
    clear hend hidx c4 x0
    obtain ⟨k, rfl⟩ := Int.eq_ofNat_of_zero_le x1
    rw [Int.toNat_natCast] at *
    have HM := Lib.hid (extract_mid s k)
    obtain ⟨d, hd⟩ : ∃ d, (s.data.toList.take k).drop 2 = d := ⟨_, rfl⟩
    have hdl : d.length = k - 2 := by rw [← hd, List.length_drop, List.length_take]; simp; omega
    have HEB : Hid (entBody s.data.toList k = if Lib.hasPrefix d [120] = true then (if d.length ≤ 3 then entNum (numL 16 7 (d.drop 1)) k else (0, 0)) else if d.length ≤ 3 then entNum (numL 10 9 d) k else (0, 0)) := by
      unfold Hid entBody; rw [hd]
    have HDD := Lib.hid hd
    rw [hd] at HM
    clear hd
    by_cases c5 : Lib.hasPrefix d [120] = true
    · obtain ⟨dd, hdd0⟩ : ∃ dd, d.drop 1 = dd := ⟨_, rfl⟩
      have HT : Hid (Lib.trimPrefix d [120] = dd) := by unfold Hid Lib.trimPrefix; rw [if_pos c5]; exact hdd0
      have hp1 := hasPrefix_len c5
      have C5 := Lib.hid c5
      have HB2 := Lib.hid ((HEB.out).trans (if_pos c5))
      rw [hdd0] at HB2
      simp only [List.length_cons, List.length_nil] at hp1
      have hdd : dd.length = d.length - 1 := by rw [← hdd0]; exact List.length_drop
      clear c5 hdd0
      by_cases c6 : d.length ≤ 3
      · have HB3 := Lib.hid (HB2.out.trans (if_pos c6))
        have hsz : (bs dd).size ≤ maxLen := by rw [bs_size, hdd]; unfold maxLen; omega
        have hl2 : (dd.length : Int) ≤ 2 := by omega
        cases hn : numL 16 7 dd with
        | none =>
          have HN := Lib.hid hn
          have HE : Hid (entL s.data.toList = (0, 0)) := by unfold Hid; rw [hB.out, HB3.out, hn]; rfl
          clear hn hdl hdd
          go_enter Tryd.func107, Tryd.ntmps107
          go_wp2_with fail
          refine wp_loop_rounds 5 ?_
          rw [rounds_succ]
          go_wp2_with (first | rw [rounds_succ] | (go_at_call 108; refine (Tryd.strings_HasPrefix _ _ _).mono ?_; rintro e w' ⟨rfl, rfl⟩))
          refine (Tryd.strings_IndexByte _ _ _).mono ?_
          rintro e w1 ⟨rfl, rfl⟩
          rw [show (59 : Int).toNat.toUInt8 = (59 : UInt8) from rfl, HTM.out, HXI.out]
          go_wp2_with fail
          refine (Tryd.strings_HasPrefix _ _ _).mono ?_
          rintro e w1 ⟨rfl, rfl⟩
          rw [show (ByteArray.mk #[38, 35]).data.toList = [38, 35] from rfl, C4.out]
          go_wp2_with fail
          refine (Tryd.strings_CutPrefix _ _ _).mono ?_
          rintro e w1 ⟨rfl, rfl⟩
          rw [show (ByteArray.mk #[120]).data.toList = [120] from rfl, HM.out, HT.out, C5.out]
          go_wp2_with fail
          refine (Hex_any _ _ hsz).mono ?_
          rintro e w1 ⟨rfl, rfl⟩
          rw [bs_toList, HN.out]
          simp only [numRes]
          go_wp2_with fail
          go_ret2
          rw [HE.out]
          exact ⟨rfl, (Below.refl _ _).alloc (Nat.le_refl _) _⟩
        | some n =>
          have HN := Lib.hid hn
          have hn0 := numL_range 16 7 (by decide) _ _ hn
          by_cases c7 : 255 < n
          · have HE : Hid (entL s.data.toList = (0, 0)) := by unfold Hid; rw [hB.out, HB3.out, hn]; exact if_pos c7
            clear hn hdl hdd
            go_enter Tryd.func107, Tryd.ntmps107
            go_wp2_with fail
            refine wp_loop_rounds 5 ?_
            rw [rounds_succ]
            go_wp2_with (first | rw [rounds_succ] | (go_at_call 108; refine (Tryd.strings_HasPrefix _ _ _).mono ?_; rintro e w' ⟨rfl, rfl⟩))
            refine (Tryd.strings_IndexByte _ _ _).mono ?_
            rintro e w1 ⟨rfl, rfl⟩
            rw [show (59 : Int).toNat.toUInt8 = (59 : UInt8) from rfl, HTM.out, HXI.out]
            go_wp2_with fail
            refine (Tryd.strings_HasPrefix _ _ _).mono ?_
            rintro e w1 ⟨rfl, rfl⟩
            rw [show (ByteArray.mk #[38, 35]).data.toList = [38, 35] from rfl, C4.out]
            go_wp2_with fail
            refine (Tryd.strings_CutPrefix _ _ _).mono ?_
            rintro e w1 ⟨rfl, rfl⟩
            rw [show (ByteArray.mk #[120]).data.toList = [120] from rfl, HM.out, HT.out, C5.out]
            go_wp2_with fail
            refine (Hex_any _ _ hsz).mono ?_
            rintro e w1 ⟨rfl, rfl⟩
            rw [bs_toList, HN.out]
            simp only [numRes]
            go_wp2_with fail
            go_ret2
            rw [HE.out]
            exact ⟨rfl, (Below.refl _ _).alloc (Nat.le_refl _) _⟩
          · have HE : Hid (entL s.data.toList = (UInt8.ofNat n.toNat, k + 1)) := by unfold Hid; rw [hB.out, HB3.out, hn]; exact if_neg c7
            have hn1 : n ≤ 255 := by omega
            clear hn hdl hdd c7
            go_enter Tryd.func107, Tryd.ntmps107
            go_wp2_with fail
            refine wp_loop_rounds 5 ?_
            rw [rounds_succ]
            go_wp2_with (first | rw [rounds_succ] | (go_at_call 108; refine (Tryd.strings_HasPrefix _ _ _).mono ?_; rintro e w' ⟨rfl, rfl⟩))
            refine (Tryd.strings_IndexByte _ _ _).mono ?_
            rintro e w1 ⟨rfl, rfl⟩
            rw [show (59 : Int).toNat.toUInt8 = (59 : UInt8) from rfl, HTM.out, HXI.out]
            go_wp2_with fail
            refine (Tryd.strings_HasPrefix _ _ _).mono ?_
            rintro e w1 ⟨rfl, rfl⟩
            rw [show (ByteArray.mk #[38, 35]).data.toList = [38, 35] from rfl, C4.out]
            go_wp2_with fail
            refine (Tryd.strings_CutPrefix _ _ _).mono ?_
            rintro e w1 ⟨rfl, rfl⟩
            rw [show (ByteArray.mk #[120]).data.toList = [120] from rfl, HM.out, HT.out, C5.out]
            go_wp2_with fail
            refine (Hex_any _ _ hsz).mono ?_
            rintro e w1 ⟨rfl, rfl⟩
            rw [bs_toList, HN.out]
            simp only [numRes]
            go_wp2_with fail
            go_ret2
            rw [HE.out]
            exact EntPost.mk _ _ rfl (wrap_u8 n hn0 hn1).symm (by show (k : Int) + 1 = _; simp) ((Below.refl _ _).alloc (Nat.le_refl _) _)
      · have HE : Hid (entL s.data.toList = (0, 0)) := by unfold Hid; rw [hB.out, HB2.out, if_neg c6]
        have hl2 : 2 < (dd.length : Int) := by omega
        clear hdl hdd
        go_enter Tryd.func107, Tryd.ntmps107
        go_wp2_with fail
        refine wp_loop_rounds 5 ?_
        rw [rounds_succ]
        go_wp2_with (first | rw [rounds_succ] | (go_at_call 108; refine (Tryd.strings_HasPrefix _ _ _).mono ?_; rintro e w' ⟨rfl, rfl⟩))
        refine (Tryd.strings_IndexByte _ _ _).mono ?_
        rintro e w1 ⟨rfl, rfl⟩
        rw [show (59 : Int).toNat.toUInt8 = (59 : UInt8) from rfl, HTM.out, HXI.out]
        go_wp2_with fail
        refine (Tryd.strings_HasPrefix _ _ _).mono ?_
        rintro e w1 ⟨rfl, rfl⟩
        rw [show (ByteArray.mk #[38, 35]).data.toList = [38, 35] from rfl, C4.out]
        go_wp2_with fail
        refine (Tryd.strings_CutPrefix _ _ _).mono ?_
        rintro e w1 ⟨rfl, rfl⟩
        rw [show (ByteArray.mk #[120]).data.toList = [120] from rfl, HM.out, HT.out, C5.out]
        go_wp2_with fail
        go_ret2
        rw [HE.out]
        exact ⟨rfl, (Below.refl _ _).alloc (Nat.le_refl _) _⟩
    · have HT : Hid (Lib.trimPrefix d [120] = d) := by unfold Hid Lib.trimPrefix; rw [if_neg c5]
      have HB2 := Lib.hid ((HEB.out).trans (if_neg c5))
      rw [Bool.not_eq_true] at c5
      have C5 := Lib.hid c5
      clear c5
      by_cases c6 : d.length ≤ 3
      · have HB3 := Lib.hid (HB2.out.trans (if_pos c6))
        have hsz : (bs d).size ≤ maxLen := by rw [bs_size]; unfold maxLen; omega
        have hl2 : (d.length : Int) ≤ 3 := by omega
        cases hn : numL 10 9 d with
        | none =>
          have HN := Lib.hid hn
          have HE : Hid (entL s.data.toList = (0, 0)) := by unfold Hid; rw [hB.out, HB3.out, hn]; rfl
          clear hn hdl
          go_enter Tryd.func107, Tryd.ntmps107
          go_wp2_with fail
          refine wp_loop_rounds 5 ?_
          rw [rounds_succ]
          go_wp2_with (first | rw [rounds_succ] | (go_at_call 108; refine (Tryd.strings_HasPrefix _ _ _).mono ?_; rintro e w' ⟨rfl, rfl⟩))
          refine (Tryd.strings_IndexByte _ _ _).mono ?_
          rintro e w1 ⟨rfl, rfl⟩
          rw [show (59 : Int).toNat.toUInt8 = (59 : UInt8) from rfl, HTM.out, HXI.out]
          go_wp2_with fail
          refine (Tryd.strings_HasPrefix _ _ _).mono ?_
          rintro e w1 ⟨rfl, rfl⟩
          rw [show (ByteArray.mk #[38, 35]).data.toList = [38, 35] from rfl, C4.out]
          go_wp2_with fail
          refine (Tryd.strings_CutPrefix _ _ _).mono ?_
          rintro e w1 ⟨rfl, rfl⟩
          rw [show (ByteArray.mk #[120]).data.toList = [120] from rfl, HM.out, HT.out, C5.out]
          go_wp2_with fail
          refine (Dec_any _ _ hsz).mono ?_
          rintro e w1 ⟨rfl, rfl⟩
          rw [bs_toList, HN.out]
          simp only [numRes]
          go_wp2_with fail
          go_ret2
          rw [HE.out]
          exact ⟨rfl, (Below.refl _ _).alloc (Nat.le_refl _) _⟩
        | some n =>
          have HN := Lib.hid hn
          have hn0 := numL_range 10 9 (by decide) _ _ hn
          by_cases c7 : 255 < n
          · have HE : Hid (entL s.data.toList = (0, 0)) := by unfold Hid; rw [hB.out, HB3.out, hn]; exact if_pos c7
            clear hn hdl
            go_enter Tryd.func107, Tryd.ntmps107
            go_wp2_with fail
            refine wp_loop_rounds 5 ?_
            rw [rounds_succ]
            go_wp2_with (first | rw [rounds_succ] | (go_at_call 108; refine (Tryd.strings_HasPrefix _ _ _).mono ?_; rintro e w' ⟨rfl, rfl⟩))
            refine (Tryd.strings_IndexByte _ _ _).mono ?_
            rintro e w1 ⟨rfl, rfl⟩
            rw [show (59 : Int).toNat.toUInt8 = (59 : UInt8) from rfl, HTM.out, HXI.out]
            go_wp2_with fail
            refine (Tryd.strings_HasPrefix _ _ _).mono ?_
            rintro e w1 ⟨rfl, rfl⟩
            rw [show (ByteArray.mk #[38, 35]).data.toList = [38, 35] from rfl, C4.out]
            go_wp2_with fail
            refine (Tryd.strings_CutPrefix _ _ _).mono ?_
            rintro e w1 ⟨rfl, rfl⟩
            rw [show (ByteArray.mk #[120]).data.toList = [120] from rfl, HM.out, HT.out, C5.out]
            go_wp2_with fail
            refine (Dec_any _ _ hsz).mono ?_
            rintro e w1 ⟨rfl, rfl⟩
            rw [bs_toList, HN.out]
            simp only [numRes]
            go_wp2_with fail
            go_ret2
            rw [HE.out]
            exact ⟨rfl, (Below.refl _ _).alloc (Nat.le_refl _) _⟩
          · have HE : Hid (entL s.data.toList = (UInt8.ofNat n.toNat, k + 1)) := by unfold Hid; rw [hB.out, HB3.out, hn]; exact if_neg c7
            have hn1 : n ≤ 255 := by omega
            clear hn hdl c7
            go_enter Tryd.func107, Tryd.ntmps107
            go_wp2_with fail
            refine wp_loop_rounds 5 ?_
            rw [rounds_succ]
            go_wp2_with (first | rw [rounds_succ] | (go_at_call 108; refine (Tryd.strings_HasPrefix _ _ _).mono ?_; rintro e w' ⟨rfl, rfl⟩))
            refine (Tryd.strings_IndexByte _ _ _).mono ?_
            rintro e w1 ⟨rfl, rfl⟩
            rw [show (59 : Int).toNat.toUInt8 = (59 : UInt8) from rfl, HTM.out, HXI.out]
            go_wp2_with fail
            refine (Tryd.strings_HasPrefix _ _ _).mono ?_
            rintro e w1 ⟨rfl, rfl⟩
            rw [show (ByteArray.mk #[38, 35]).data.toList = [38, 35] from rfl, C4.out]
            go_wp2_with fail
            refine (Tryd.strings_CutPrefix _ _ _).mono ?_
            rintro e w1 ⟨rfl, rfl⟩
            rw [show (ByteArray.mk #[120]).data.toList = [120] from rfl, HM.out, HT.out, C5.out]
            go_wp2_with fail
            refine (Dec_any _ _ hsz).mono ?_
            rintro e w1 ⟨rfl, rfl⟩
            rw [bs_toList, HN.out]
            simp only [numRes]
            go_wp2_with fail
            go_ret2
            rw [HE.out]
            exact EntPost.mk _ _ rfl (wrap_u8 n hn0 hn1).symm (by show (k : Int) + 1 = _; simp) ((Below.refl _ _).alloc (Nat.le_refl _) _)
      · have HE : Hid (entL s.data.toList = (0, 0)) := by unfold Hid; rw [hB.out, HB2.out, if_neg c6]
        have hl2 : 3 < (d.length : Int) := by omega
        clear hdl
        go_enter Tryd.func107, Tryd.ntmps107
        go_wp2_with fail
        refine wp_loop_rounds 5 ?_
        rw [rounds_succ]
        go_wp2_with (first | rw [rounds_succ] | (go_at_call 108; refine (Tryd.strings_HasPrefix _ _ _).mono ?_; rintro e w' ⟨rfl, rfl⟩))
        refine (Tryd.strings_IndexByte _ _ _).mono ?_
        rintro e w1 ⟨rfl, rfl⟩
        rw [show (59 : Int).toNat.toUInt8 = (59 : UInt8) from rfl, HTM.out, HXI.out]
        go_wp2_with fail
        refine (Tryd.strings_HasPrefix _ _ _).mono ?_
        rintro e w1 ⟨rfl, rfl⟩
        rw [show (ByteArray.mk #[38, 35]).data.toList = [38, 35] from rfl, C4.out]
        go_wp2_with fail
        refine (Tryd.strings_CutPrefix _ _ _).mono ?_
        rintro e w1 ⟨rfl, rfl⟩
        rw [show (ByteArray.mk #[120]).data.toList = [120] from rfl, HM.out, HT.out, C5.out]
        go_wp2_with fail
        go_ret2
        rw [HE.out]
        exact ⟨rfl, (Below.refl _ _).alloc (Nat.le_refl _) _⟩

end Go.Proofs.YtdbipccopijgeaaDoor
