/- The walks of coding: pair, UrlDecode, HexEncode, HexDecode. -/
import Derived.Test.YtdbipccopijgeaaDoorUnqW
import Derived.Test.YtdbipccopijgeaaDoorCodL
namespace Go.Proofs.YtdbipccopijgeaaDoor
open Go.RowKit

set_option maxRecDepth 100000 in
set_option maxHeartbeats 800000 in
theorem pair_any (s : ByteArray) (i : Int) (h0 : 0 ≤ i) (h1 : i ≤ 4611686018427387904) (w : World) :
    Calls Tryd.prog 105 #[.string s, .int .i64 i] w fun e w' => e = .returned (.int .i64 (pairI (s.data.toList.drop i.toNat))) ∧ ∃ n, w' = w.drewN n := by
  obtain ⟨n, rfl⟩ := Int.eq_ofNat_of_zero_le h0
  rw [Int.toNat_natCast]
  have hL : s.data.toList.length = s.size := by simp
  by_cases h2 : n + 2 ≤ s.size
  · have HD : Hid (s.data.toList.drop n = s[n] :: s[n + 1] :: s.data.toList.drop (n + 2)) := by
      unfold Hid; rw [drop_cons s n (by omega), drop_cons s (n + 1) (by omega)]
    have HP := Lib.hid (pairI_cons s[n] s[n + 1] (s.data.toList.drop (n + 2)))
    have a1 := digitI_ge s[n]
    have a2 := digitI_ge s[n + 1]
    obtain ⟨a11, a12⟩ := a1
    obtain ⟨a21, a22⟩ := a2
    have i1 : (n : Int) < (s.size : Int) := by omega
    have i2 : (n : Int) + 1 < (s.size : Int) := by omega
    have i3 : 0 ≤ (n : Int) + 1 := by omega
    have i4 : IntKind.i64.wrap ((n : Int) + 1) = (n : Int) + 1 := IntWalk.i64_in _ (by omega)
    have i5 : ((n : Int) + 1).toNat = n + 1 := by omega
    by_cases q1 : digitI s[n] < 0
    · go_enter Tryd.func105, Tryd.ntmps105
      go_wp2_with fail
      go_quiet ((go_at_call 127; exact Calls.quiet_of_same (Digit_any _ _)))
      go_wp2_with fail
      go_ret
      exact ⟨by rw [HD.out, HP.out, if_pos (Or.inl q1)]; rfl, _, rfl⟩
    · by_cases q2 : digitI s[n + 1] < 0
      · go_enter Tryd.func105, Tryd.ntmps105
        go_wp2_with fail
        go_quiet ((go_at_call 127; exact Calls.quiet_of_same (Digit_any _ _)))
        go_wp2_with fail
        go_ret
        exact ⟨by rw [HD.out, HP.out, if_pos (Or.inr q2)]; rfl, _, rfl⟩
      · have q3 : 0 ≤ digitI s[n] := by omega
        have q4 : 0 ≤ digitI s[n + 1] := by omega
        have hor := or_hex (digitI s[n]) (digitI s[n + 1]) q3 a12 q4 a22
        have HF := Lib.hid (HP.out.trans (if_neg (by omega)))
        go_enter Tryd.func105, Tryd.ntmps105
        go_wp2_with fail
        go_quiet ((go_at_call 127; exact Calls.quiet_of_same (Digit_any _ _)))
        go_wp2_with fail
        go_ret
        exact ⟨by rw [HD.out, HF.out]; rfl, _, rfl⟩
  · have HF : Hid (pairI (s.data.toList.drop n) = -1) := by
      have hlen : (s.data.toList.drop n).length < 2 := by rw [List.length_drop]; omega
      have := (pairI_range (s.data.toList.drop n))
      unfold Hid; omega
    go_enter Tryd.func105, Tryd.ntmps105
    go_wp2_with fail
    go_ret
    exact ⟨by rw [HF.out]; rfl, 0, rfl⟩

def UrlRel (s : ByteArray) (w : World) (v i : Value) (wr : World) : Prop :=
  ∃ (k : Nat) (acc : List UInt8), k ≤ s.size ∧ i = .int .i64 k ∧ acc.length ≤ k ∧ OwnB wr w.heap.size v acc ∧ urlDecL s.data.toList = acc ++ urlDecL (s.data.toList.drop k) ∧ Below w.heap.size w wr

theorem wrap_u8 (n : Int) (h0 : 0 ≤ n) (h1 : n ≤ 255) : ((UInt8.ofNat n.toNat).toNat : Int) = n := by
  rw [UInt8.toNat_ofNat', Nat.mod_eq_of_lt (by omega)]; omega

set_option maxRecDepth 100000 in
set_option maxHeartbeats 1600000 in
theorem UrlDecode_any (s : ByteArray) (w : World) (hs : s.size ≤ 140737488351232) :
    Calls Tryd.prog 82 #[.string s] w (StrPost (bs (urlDecL s.data.toList)) w) := by
  have hL : Hid (s.data.toList.length = s.size) := by unfold Hid; simp
  go_enter Tryd.func82, Tryd.ntmps82
  go_wp2_with fail
  go_loopw [3, 4] (fun v i wr => UrlRel s w v i wr) (fun _ i _ => s.size - (intOf i).toNat)
  case atStart => exact ⟨0, [], Nat.zero_le _, rfl, Nat.le_refl _, OwnB.nil _ _, rfl, Below.refl _ _⟩
  case round =>
    obtain ⟨k, acc, hk, rfl, hacc, hown, hr, hbl⟩ := hrel
    have hbase := hbl.size
    have HR := Lib.hid hr
    clear hr
    by_cases hlt : k < s.size
    · have HD := Lib.hid (drop_cons s k hlt)
      have HU := Lib.hid (scan_cons urlStep s[k] (s.data.toList.drop (k + 1)))
      have hcb := s[k].toNat_lt
      by_cases hb1 : s[k] = 43
      · have q1 : ((s[k].toNat : Int) == 43) = true := by rw [hb1]; decide
        have HS : Hid (urlStep s[k] (s.data.toList.drop (k + 1)) = ([32], 0)) := by unfold Hid urlStep; rw [if_pos hb1]
        clear hb1
        go_wp2_with (at_builtin; refine wpList_append_b rfl _ _ rfl w.heap.size _ acc rfl (by exact hown) (by exact hbase) _ [32] rfl 1 1 rfl rfl (by omega) ?_; intro v' w1 hown1 hb1 hbs1)
        exact ⟨⟨k + 1, acc ++ [32], by omega, by go_num, by simp; omega, hown1, by rw [HR.out, HD.out]; unfold urlDecL; rw [HU.out, HS.out]; simp, hbl.trans hb1⟩, by simp [intOf]; omega⟩
      · have q1 : ((s[k].toNat : Int) == 43) = false := beq_eq_false_iff_ne.2 (fun h => hb1 (UInt8.toNat_inj.1 (by show s[k].toNat = 43; omega)))
        by_cases hb2 : s[k] = 37
        · have q2 : ((s[k].toNat : Int) == 37) = true := by rw [hb2]; decide
          have hrg := pairI_range (s.data.toList.drop (k + 1))
          have HSa : Hid (0 ≤ pairI (s.data.toList.drop (k + 1)) → urlStep s[k] (s.data.toList.drop (k + 1)) = ([UInt8.ofNat (pairI (s.data.toList.drop (k + 1))).toNat], 2)) := fun h => by unfold urlStep; rw [if_neg hb1, if_pos ⟨hb2, h⟩]
          have HSb : Hid (¬ 0 ≤ pairI (s.data.toList.drop (k + 1)) → urlStep s[k] (s.data.toList.drop (k + 1)) = ([s[k]], 0)) := fun h => by unfold urlStep; rw [if_neg hb1, if_neg (fun g => h g.2)]
          have hrl := hrg.2.2
          rw [List.length_drop, hL.out] at hrl
          obtain ⟨r1, r2, _⟩ := hrg
          obtain ⟨n, hn⟩ : ∃ n, pairI (s.data.toList.drop (k + 1)) = n := ⟨_, rfl⟩
          rw [hn] at HSa HSb hrl r1 r2
          have HN := Lib.hid hn
          have HB2 := Lib.hid hb2
          clear hn hb1 hb2
          have hkk : ((k : Int) + 1).toNat = k + 1 := by omega
          have HKK := Lib.hid hkk
          clear hkk
          by_cases h3 : 0 ≤ n
          · have hrl2 := hrl h3
            have HSS := Lib.hid (HSa.out h3)
            have HW := Lib.hid (wrap_u8 n h3 r2)
            have hvs : Hid ([Value.int .u8 n] = [UInt8.ofNat n.toNat].map byteV) := by unfold Hid byteV; simp only [List.map_cons, List.map_nil]; rw [HW.out]
            clear hrl
            go_wp2_with (first | (go_at_call 105; refine (pair_any _ _ (by omega) (by omega) _).mono ?_; rintro e w1 ⟨rfl, nq, rfl⟩; rw [HKK.out, HN.out]) | (at_builtin; refine wpList_append_b rfl _ _ rfl w.heap.size _ acc rfl (by exact hown.drewN _) (by exact hbase) _ [UInt8.ofNat n.toNat] hvs.out 1 1 rfl rfl (by omega) ?_; intro v' w1 hown1 hb1 hbs1))
            exact ⟨⟨k + 3, acc ++ [UInt8.ofNat n.toNat], by omega, by first | go_num | (congr 1; omega), by simp; omega, hown1, by rw [HR.out, HD.out]; unfold urlDecL; rw [HU.out, HSS.out, List.drop_drop]; simp, (below_drewN hbl _).trans hb1⟩, by simp [intOf]; omega⟩
          · have HSS := Lib.hid (HSb.out h3)
            clear hrl
            go_wp2_with (first | (go_at_call 105; refine (pair_any _ _ (by omega) (by omega) _).mono ?_; rintro e w1 ⟨rfl, nq, rfl⟩; rw [HKK.out, HN.out]) | (at_builtin; refine wpList_append_b rfl _ _ rfl w.heap.size _ acc rfl (by exact hown.drewN _) (by exact hbase) _ [s[k]] rfl 1 1 rfl rfl (by omega) ?_; intro v' w1 hown1 hb1 hbs1))
            exact ⟨⟨k + 1, acc ++ [s[k]], by omega, by go_num, by simp; omega, hown1, by rw [HR.out, HD.out]; unfold urlDecL; rw [HU.out, HSS.out]; simp, (below_drewN hbl _).trans hb1⟩, by simp [intOf]; omega⟩
        · have q2 : ((s[k].toNat : Int) == 37) = false := beq_eq_false_iff_ne.2 (fun h => hb2 (UInt8.toNat_inj.1 (by show s[k].toNat = 37; omega)))
          have HS : Hid (urlStep s[k] (s.data.toList.drop (k + 1)) = ([s[k]], 0)) := by unfold Hid urlStep; rw [if_neg hb1, if_neg (fun g => hb2 g.1)]
          clear hb1 hb2
          go_wp2_with (at_builtin; refine wpList_append_b rfl _ _ rfl w.heap.size _ acc rfl (by exact hown) (by exact hbase) _ [s[k]] rfl 1 1 rfl rfl (by omega) ?_; intro v' w1 hown1 hb1 hbs1)
          exact ⟨⟨k + 1, acc ++ [s[k]], by omega, by go_num, by simp; omega, hown1, by rw [HR.out, HD.out]; unfold urlDecL; rw [HU.out, HS.out]; simp, hbl.trans hb1⟩, by simp [intOf]; omega⟩
    · have hcv := hown.string
      have HF : Hid (urlDecL s.data.toList = acc) := by unfold Hid; rw [HR.out, List.drop_eq_nil_of_le (by rw [hL.out]; omega)]; unfold urlDecL; rw [scan_nil, List.append_nil]
      clear hown
      go_wp2_with fail
      go_ret
      exact ⟨by rw [HF.out]; rfl, hbl⟩

end Go.Proofs.YtdbipccopijgeaaDoor
