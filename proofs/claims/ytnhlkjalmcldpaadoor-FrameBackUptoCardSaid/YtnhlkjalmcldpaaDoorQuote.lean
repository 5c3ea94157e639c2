/- The walk of octet.Quote. -/
import Derived.Test.YtnhlkjalmcldpaaDoorOctC
import Derived.Test.YtnhlkjalmcldpaaDoorQuoteL
namespace Go.Proofs.YtnhlkjalmcldpaaDoor
open Go.RowKit

def QuoteRel (s : ByteArray) (w : World) (v i : Value) (wr : World) : Prop :=
  ∃ k : Nat, k ≤ s.size ∧ i = .int .i64 k ∧ OwnB wr w.heap.size v ((s.data.toList.take k).flatMap quoteB) ∧ Below w.heap.size w wr

set_option maxRecDepth 100000 in
set_option maxHeartbeats 1600000 in
theorem Quote_any (s : ByteArray) (w : World) (hs : s.size ≤ 1048576) :
    Calls Tryd.prog 28 #[.string s] w (StrPost (bs (quoteL s.data.toList)) w) := by
  have hL : Hid (s.data.toList.length = s.size) := by unfold Hid; simp
  by_cases h0 : s.data.toList = []
  · have hs0 : s = ByteArray.empty := ext_bs h0
    subst hs0
    go_enter Tryd.func28, Tryd.ntmps28
    go_wp2_with fail
    go_ret
    exact ⟨rfl, Below.refl _ _⟩
  by_cases h1 : s.data.toList = [45]
  · have hs0 : s = bs [45] := ext_bs h1
    subst hs0
    go_enter Tryd.func28, Tryd.ntmps28
    go_wp2_with fail
    go_ret
    exact ⟨rfl, Below.refl _ _⟩
  have HQ : Hid (quoteL s.data.toList = s.data.toList.flatMap quoteB) := by unfold Hid quoteL; rw [if_neg h0, if_neg h1]
  have g0 : (s.toList == []) = false := by rw [Lib.toList_data]; exact beq_eq_false_iff_ne.2 h0
  have g1 : (s.toList == [45]) = false := by rw [Lib.toList_data]; exact beq_eq_false_iff_ne.2 h1
  have g2 : s.toList.isEmpty = false := by rw [Lib.toList_data]; cases h : s.data.toList with | nil => exact absurd h h0 | cons _ _ => rfl
  clear h0 h1
  go_enter Tryd.func28, Tryd.ntmps28
  go_wp2_with fail
  go_loopw [3, 14] (fun v i wr => QuoteRel s w v i wr) (fun _ i _ => s.size - (intOf i).toNat)
  case atStart => exact ⟨0, Nat.zero_le _, rfl, OwnB.nil _ _, Below.refl _ _⟩
  case round =>
    obtain ⟨k, hk, rfl, hown, hbl⟩ := hrel
    have hbase := hbl.size
    by_cases hlt : k < s.size
    · have HT := Lib.hid (take_snoc s k hlt)
      have hql := quote_len (s.data.toList.take k)
      have htl : (s.data.toList.take k).length ≤ k := List.length_take_le _ _
      have hcb := s[k].toNat_lt
      have HFM : Hid ((s.data.toList.take (k + 1)).flatMap quoteB = (s.data.toList.take k).flatMap quoteB ++ quoteB s[k]) := by
        unfold Hid; rw [HT.out, List.flatMap_append]; simp
      rcases quoteB_special s[k] with ⟨hi, hq⟩ | ⟨hi, hq⟩ | ⟨hi, hq⟩ | ⟨hi, hq⟩ | ⟨hi, hq⟩ | ⟨hi, ⟨hr, hq⟩ | ⟨hr1, hr2, hq⟩⟩
      · have HI := Lib.hid hi
        have HQB := Lib.hid hq
        clear hi hq
        go_wp2_with (first | (go_at_call 45; refine (Tryd.strings_IndexByte _ _ _).mono ?_; rintro e w' ⟨rfl, rfl⟩; rw [toUInt8_back, show (ByteArray.mk #[10, 13, 9, 32, 92]).data.toList = qs from rfl, HI.out]) | (at_builtin; refine wpList_append_b rfl _ _ rfl w.heap.size _ _ rfl hown hbase _ [92, 110] rfl 2 2 rfl rfl (by omega) ?_; intro v' w1 hown1 hb1 hbs1))
        exact ⟨⟨k + 1, by omega, by go_num, by rw [HFM.out, HQB.out]; exact hown1, hbl.trans hb1⟩, by simp [intOf]; omega⟩
      · have HI := Lib.hid hi
        have HQB := Lib.hid hq
        clear hi hq
        go_wp2_with (first | (go_at_call 45; refine (Tryd.strings_IndexByte _ _ _).mono ?_; rintro e w' ⟨rfl, rfl⟩; rw [toUInt8_back, show (ByteArray.mk #[10, 13, 9, 32, 92]).data.toList = qs from rfl, HI.out]) | (at_builtin; refine wpList_append_b rfl _ _ rfl w.heap.size _ _ rfl hown hbase _ [92, 114] rfl 2 2 rfl rfl (by omega) ?_; intro v' w1 hown1 hb1 hbs1))
        exact ⟨⟨k + 1, by omega, by go_num, by rw [HFM.out, HQB.out]; exact hown1, hbl.trans hb1⟩, by simp [intOf]; omega⟩
      · have HI := Lib.hid hi
        have HQB := Lib.hid hq
        clear hi hq
        go_wp2_with (first | (go_at_call 45; refine (Tryd.strings_IndexByte _ _ _).mono ?_; rintro e w' ⟨rfl, rfl⟩; rw [toUInt8_back, show (ByteArray.mk #[10, 13, 9, 32, 92]).data.toList = qs from rfl, HI.out]) | (at_builtin; refine wpList_append_b rfl _ _ rfl w.heap.size _ _ rfl hown hbase _ [92, 116] rfl 2 2 rfl rfl (by omega) ?_; intro v' w1 hown1 hb1 hbs1))
        exact ⟨⟨k + 1, by omega, by go_num, by rw [HFM.out, HQB.out]; exact hown1, hbl.trans hb1⟩, by simp [intOf]; omega⟩
      · have HI := Lib.hid hi
        have HQB := Lib.hid hq
        clear hi hq
        go_wp2_with (first | (go_at_call 45; refine (Tryd.strings_IndexByte _ _ _).mono ?_; rintro e w' ⟨rfl, rfl⟩; rw [toUInt8_back, show (ByteArray.mk #[10, 13, 9, 32, 92]).data.toList = qs from rfl, HI.out]) | (at_builtin; refine wpList_append_b rfl _ _ rfl w.heap.size _ _ rfl hown hbase _ [92, 115] rfl 2 2 rfl rfl (by omega) ?_; intro v' w1 hown1 hb1 hbs1))
        exact ⟨⟨k + 1, by omega, by go_num, by rw [HFM.out, HQB.out]; exact hown1, hbl.trans hb1⟩, by simp [intOf]; omega⟩
      · have HI := Lib.hid hi
        have HQB := Lib.hid hq
        clear hi hq
        go_wp2_with (first | (go_at_call 45; refine (Tryd.strings_IndexByte _ _ _).mono ?_; rintro e w' ⟨rfl, rfl⟩; rw [toUInt8_back, show (ByteArray.mk #[10, 13, 9, 32, 92]).data.toList = qs from rfl, HI.out]) | (at_builtin; refine wpList_append_b rfl _ _ rfl w.heap.size _ _ rfl hown hbase _ [92, 92] rfl 2 2 rfl rfl (by omega) ?_; intro v' w1 hown1 hb1 hbs1))
        exact ⟨⟨k + 1, by omega, by go_num, by rw [HFM.out, HQB.out]; exact hown1, hbl.trans hb1⟩, by simp [intOf]; omega⟩
      · have HI := Lib.hid hi
        have HQB := Lib.hid hq
        clear hi hq
        have hq1 : 0 ≤ (s[k].toNat : Int) / 16 := by omega
        have hq2 : (s[k].toNat : Int) / 16 < 16 := by omega
        have hq3 : 0 ≤ (s[k].toNat : Int) % 16 := by omega
        have hq4 : (s[k].toNat : Int) % 16 < 16 := by omega
        have hvs : [Value.int .u8 92, .int .u8 120, .int .u8 ((hexD (UInt8.ofNat (((s[k].toNat : Int) / 16).toNat))).toNat : Int), .int .u8 ((hexD (UInt8.ofNat (((s[k].toNat : Int) % 16).toNat))).toNat : Int)] = [92, 120, hexD (s[k] >>> 4), hexD (s[k] &&& 15)].map byteV := by
          rw [hex_hi, hex_lo]; rfl
        have HVS := Lib.hid hvs
        clear hvs
        have ht := hexTab_at
        have hand : bits .and .u8 (s[k].toNat : Int) 15 = (s[k].toNat : Int) % 16 := u8_and15 _ (by omega) (by omega)
        rcases hr with hr | hr
        all_goals
          go_wp2_with (go_at_call 45; refine (Tryd.strings_IndexByte _ _ _).mono ?_; rintro e w' ⟨rfl, rfl⟩; rw [toUInt8_back, show (ByteArray.mk #[10, 13, 9, 32, 92]).data.toList = qs from rfl, HI.out])
          go_region_law ((refine step_append_b rfl (.tmp 41) (.tmp 48) rfl w.heap.size u3 _ rfl hown.drew hbase _ [92, 120, hexD (s[k] >>> 4), hexD (s[k] &&& 15)] HVS.out 4 4 rfl rfl (by omega) ?_); intro v' w1 hown1 hb1 hbs1)
          all_goals
            go_wp2_with fail
            exact ⟨⟨k + 1, by omega, by go_num, by rw [HFM.out, HQB.out]; exact hown1, hbl.trans ((Below.refl _ _).drew.trans hb1)⟩, by simp [intOf]; omega⟩
      · have HI := Lib.hid hi
        have HQB := Lib.hid hq
        clear hi hq
        go_wp2_with (first | (go_at_call 45; refine (Tryd.strings_IndexByte _ _ _).mono ?_; rintro e w' ⟨rfl, rfl⟩; rw [toUInt8_back, show (ByteArray.mk #[10, 13, 9, 32, 92]).data.toList = qs from rfl, HI.out]) | (at_builtin; refine wpList_append_b rfl _ _ rfl w.heap.size _ _ rfl hown hbase _ [s[k]] rfl 1 1 rfl rfl (by omega) ?_; intro v' w1 hown1 hb1 hbs1))
        exact ⟨⟨k + 1, by omega, by go_num, by rw [HFM.out, HQB.out]; exact hown1, hbl.trans hb1⟩, by simp [intOf]; omega⟩
    · have HK : Hid (s.data.toList.take k = s.data.toList) := List.take_of_length_le (by rw [hL.out]; omega)
      have hcv := hown.string
      clear hown
      go_wp2_with fail
      go_ret
      exact ⟨by rw [HQ.out]; show Ending.returned (.string (bs ((s.data.toList.take k).flatMap quoteB))) = _; rw [HK.out], hbl⟩

end Go.Proofs.YtnhlkjalmcldpaaDoor
