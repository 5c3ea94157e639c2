/- The walk of UrlEncode and of CodingJoins. -/
import Derived.Test.YtedjidammcdkmaaDoorHtml
namespace Go.Proofs.YtedjidammcdkmaaDoor
open Go.RowKit

theorem urlB_keep {b : UInt8} {c i : Int} (hc : c = (b ||| 32).toNat) (hi : i = Lib.indexByte urlSigns b) (h : (97 ≤ c ∧ c ≤ 122) ∨ (48 ≤ (b.toNat : Int) ∧ (b.toNat : Int) ≤ 57) ∨ 0 ≤ i) : urlB b = [b] := by
  subst hi; subst hc
  unfold urlB urlLet
  rw [if_pos]
  simp only [Bool.or_eq_true, Bool.and_eq_true, decide_eq_true_eq]
  omega
theorem urlB_code {b : UInt8} {c i : Int} (hc : c = (b ||| 32).toNat) (hi : i = Lib.indexByte urlSigns b) (h : ¬ ((97 ≤ c ∧ c ≤ 122) ∨ (48 ≤ (b.toNat : Int) ∧ (b.toNat : Int) ≤ 57) ∨ 0 ≤ i)) :
    urlB b = if b = 32 then [43] else [37, hexU (b >>> 4), hexU (b &&& 15)] := by
  subst hi; subst hc
  unfold urlB urlLet
  rw [if_neg]
  simp only [Bool.or_eq_true, Bool.and_eq_true, decide_eq_true_eq]
  omega

set_option maxRecDepth 100000 in
set_option maxHeartbeats 3200000 in
theorem UrlEncode_any (s : ByteArray) (w : World) (hs : s.size ≤ 35184372088832) :
    Calls Tryd.prog 7 #[.string s] w (StrPost (bs (urlEncL s.data.toList)) w) := by
  have hL : Hid (s.data.toList.length = s.size) := by unfold Hid; simp
  go_enter Tryd.func7, Tryd.ntmps7
  go_wp2_with fail
  go_loopw [3, 8] (fun v i wr => FlatRel urlB s w v i wr) (fun _ i _ => s.size - (intOf i).toNat)
  case atStart => exact ⟨0, Nat.zero_le _, rfl, OwnB.nil _ _, Below.refl _ _⟩
  case round =>
    obtain ⟨k, hk, rfl, hown, hbl⟩ := hrel
    have hbase := hbl.size
    by_cases hlt : k < s.size
    · have HT := Lib.hid (take_snoc s k hlt)
      have hql : ((s.data.toList.take k).flatMap urlB).length ≤ 3 * (s.data.toList.take k).length := urlEnc_len (s.data.toList.take k)
      have htl : (s.data.toList.take k).length ≤ k := List.length_take_le _ _
      have hql2 : ((s.data.toList.take k).flatMap urlB).length ≤ 3 * k := by omega
      clear hql htl
      have hcb := s[k].toNat_lt
      have HFM : Hid ((s.data.toList.take (k + 1)).flatMap urlB = (s.data.toList.take k).flatMap urlB ++ urlB s[k]) := by
        unfold Hid; rw [HT.out, List.flatMap_append]; simp
      obtain ⟨c, hc⟩ : ∃ c : Int, c = (s[k] ||| 32).toNat := ⟨_, rfl⟩
      have hor : bits BinOp.or IntKind.u8 (s[k].toNat : Int) 32 = c := by
        rw [hc, UInt8.toNat_or]; exact u8_or_nat _ _ s[k].toNat_lt (by decide)
      have HC := Lib.hid hc
      clear hc
      obtain ⟨ix, hi⟩ : ∃ ix : Int, ix = Lib.indexByte urlSigns s[k] := ⟨_, rfl⟩
      have HI := Lib.hid hi
      clear hi
      by_cases hkeep : (97 ≤ c ∧ c ≤ 122) ∨ (48 ≤ (s[k].toNat : Int) ∧ (s[k].toNat : Int) ≤ 57) ∨ 0 ≤ ix
      · have HQ := Lib.hid (urlB_keep HC.out HI.out hkeep)
        have HKEEP := Lib.hid hkeep
        clear hkeep
        rcases HKEEP.out with ⟨t1, t2⟩ | t | t
        · go_wp2_with (at_builtin; refine wpList_append_b rfl _ _ rfl w.heap.size _ _ rfl (by exact hown) (by exact hbase) _ [s[k]] rfl 1 1 rfl rfl (by omega) ?_; intro v' w1 hown1 hb1 hbs1)
          exact ⟨⟨k + 1, by omega, by go_num, by rw [HFM.out, HQ.out]; exact hown1, hbl.trans hb1⟩, by simp [intOf]; omega⟩
        · obtain ⟨t1, t2⟩ := t
          go_wp2_with (at_builtin; refine wpList_append_b rfl _ _ rfl w.heap.size _ ((s.data.toList.take k).flatMap urlB) rfl (by exact hown) (by exact hbase) _ [s[k]] rfl 1 1 rfl rfl (by omega) ?_; intro v' w1 hown1 hb1 hbs1)
          all_goals exact ⟨⟨k + 1, by omega, by go_num, by rw [HFM.out, HQ.out]; exact hown1, hbl.trans hb1⟩, by simp [intOf]; omega⟩
        · go_wp2_with (first | (go_at_call 12; refine (IndexByte_any _ _ _).mono ?_; rintro e w' ⟨rfl, rfl⟩; rw [show (ByteArray.mk #[45, 46, 95, 126]).data.toList = urlSigns from rfl, ← HI.out]) | (at_builtin; refine wpList_append_b rfl _ _ rfl w.heap.size _ ((s.data.toList.take k).flatMap urlB) rfl (by exact hown) (by exact hbase) _ [s[k]] rfl 1 1 rfl rfl (by omega) ?_; intro v' w1 hown1 hb1 hbs1))
          all_goals exact ⟨⟨k + 1, by omega, by go_num, by rw [HFM.out, HQ.out]; exact hown1, hbl.trans hb1⟩, by simp [intOf]; omega⟩
      · have HQ := Lib.hid (urlB_code HC.out HI.out hkeep)
        have n1 : c < 97 ∨ 122 < c := by omega
        have n2 : (s[k].toNat : Int) < 48 ∨ 57 < (s[k].toNat : Int) := by omega
        have n3 : ix < 0 := by omega
        have N1 := Lib.hid n1
        have N2 := Lib.hid n2
        clear hkeep n1 n2
        have hq1 : 0 ≤ (s[k].toNat : Int) / 16 := by omega
        have hq2 : (s[k].toNat : Int) / 16 < 16 := by omega
        have hq3 : 0 ≤ (s[k].toNat : Int) % 16 := by omega
        have hq4 : (s[k].toNat : Int) % 16 < 16 := by omega
        have hvs : [Value.int .u8 37, Value.int .u8 ((hexU (UInt8.ofNat (((s[k].toNat : Int) / 16).toNat))).toNat : Int), .int .u8 ((hexU (UInt8.ofNat (((s[k].toNat : Int) % 16).toNat))).toNat : Int)] = [37, hexU (s[k] >>> 4), hexU (s[k] &&& 15)].map byteV := by
          rw [hex_hi, hex_lo]; rfl
        have HVS := Lib.hid hvs
        clear hvs
        have ht := hexTabU_at
        have hand : bits .and .u8 (s[k].toNat : Int) 15 = (s[k].toNat : Int) % 16 := u8_and15 _ (by omega) (by omega)
        by_cases hsp : s[k] = 32
        · have q1 : ((s[k].toNat : Int) == 32) = true := by rw [hsp]; decide
          have HQ2 := Lib.hid (HQ.out.trans (if_pos hsp))
          clear hsp ht
          rcases N1.out with n1 | n1 <;> rcases N2.out with n2 | n2
          all_goals
            go_wp2_with (first | (go_at_call 12; refine (IndexByte_any _ _ _).mono ?_; rintro e w' ⟨rfl, rfl⟩; rw [show (ByteArray.mk #[45, 46, 95, 126]).data.toList = urlSigns from rfl, ← HI.out]) | (at_builtin; refine wpList_append_b rfl _ _ rfl w.heap.size _ ((s.data.toList.take k).flatMap urlB) rfl (by exact hown) (by exact hbase) _ [43] rfl 1 1 rfl rfl (by omega) ?_; intro v' w1 hown1 hb1 hbs1))
            all_goals exact ⟨⟨k + 1, by omega, by go_num, by rw [HFM.out, HQ2.out]; exact hown1, hbl.trans hb1⟩, by simp [intOf]; omega⟩
        · have q1 : ((s[k].toNat : Int) == 32) = false := beq_eq_false_iff_ne.2 (fun h => hsp (UInt8.toNat_inj.1 (by show s[k].toNat = 32; omega)))
          have HQ2 := Lib.hid (HQ.out.trans (if_neg hsp))
          clear hsp
          rcases N1.out with n1 | n1 <;> rcases N2.out with n2 | n2
          all_goals
            go_wp2_with (go_at_call 12; refine (IndexByte_any _ _ _).mono ?_; rintro e w' ⟨rfl, rfl⟩; rw [show (ByteArray.mk #[45, 46, 95, 126]).data.toList = urlSigns from rfl, ← HI.out])
            go_region_law ((refine step_append_b rfl (.tmp 14) (.tmp 21) rfl w.heap.size u3 _ rfl hown.drew hbase _ [37, hexU (s[k] >>> 4), hexU (s[k] &&& 15)] HVS.out 3 3 rfl rfl (by omega) ?_); intro v' w1 hown1 hb1 hbs1)
            all_goals
              go_wp2_with fail
              exact ⟨⟨k + 1, by omega, by go_num, by rw [HFM.out, HQ2.out]; exact hown1, hbl.trans ((Below.refl _ _).drew.trans hb1)⟩, by simp [intOf]; omega⟩
    · have HK : Hid (s.data.toList.take k = s.data.toList) := List.take_of_length_le (by rw [hL.out]; omega)
      have hcv := hown.string
      clear hown
      go_wp2_with fail
      go_ret
      exact ⟨by show Ending.returned (.string (bs ((s.data.toList.take k).flatMap urlB))) = _; rw [HK.out]; rfl, hbl⟩

end Go.Proofs.YtedjidammcdkmaaDoor
