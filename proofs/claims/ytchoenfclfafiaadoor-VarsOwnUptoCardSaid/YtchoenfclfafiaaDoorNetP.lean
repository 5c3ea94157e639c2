/- The walk of nets.Print. -/
import Derived.Test.YtchoenfclfafiaaDoorNetW
import Derived.Test.YtchoenfclfafiaaDoorItoa
import Derived.Laws.Concat
namespace Go.Proofs.YtchoenfclfafiaaDoor
open Go.RowKit

def NPrintPost (a : Nat) (b : Int) (w : World) (e : Ending) (w' : World) : Prop :=
  e = .returned (if netOk a b = true then .tuple #[.string (bs (netT a b)), .int .i64 0] else .tuple #[.string (ByteArray.mk #[]), .int .i64 1]) ∧ Below w.heap.size w w'
def octsL (a : Nat) : List ByteArray := [bs (decS (octN a 24)), bs (decS (octN a 16)), bs (decS (octN a 8)), bs (decS (octN a 0))]
def NPRel (a : Nat) (b : Int) (w W0 : World) (v i : Value) (wr : World) : Prop :=
  ∃ (k : Nat) (z : Int), k ≤ 4 ∧ z = 24 - 8 * (k : Int) ∧ i = .int .i64 z ∧ OwnS wr (w.heap.size + 1) v ((octsL a).take k) ∧ NetAt w.heap.size (a : Int) b wr ∧ Below (w.heap.size + 1) W0 wr

set_option maxRecDepth 100000 in
set_option maxHeartbeats 3200000 in
theorem NPrint_any (a : Nat) (b : Int) (w : World) (ha : a < 4294967296) (htab : TabOk w) :
    Calls Tryd.prog 38 #[.agg #[.int .u32 (a : Int), .int .i64 b]] w (NPrintPost a b w) := by
  obtain ⟨W0, hW0⟩ : ∃ W0, w.alloc (.cells #[.int .u32 (a : Int), .int .i64 b] 82) = W0 := ⟨_, rfl⟩
  have hr0 : NetAt w.heap.size (a : Int) b W0 := by rw [← hW0]; exact heap_alloc_new w _
  have hb0 : Below w.heap.size w W0 := by rw [← hW0]; exact (Below.refl _ _).alloc (Nat.le_refl _) _
  have hz0 : w.heap.size < W0.heap.size := by rw [← hW0]; simp
  have ht0 := htab.below hb0
  have HW0 := Lib.hid hW0
  have HT0 := Lib.hid ht0
  have HB0 := Lib.hid hb0
  have HNO : Hid (netOk a b = (decide (0 ≤ b) && decide (b ≤ 32) && (a % 2 ^ topN b == 0))) := rfl
  have HAN : Hid (bits .andNot .u32 (a : Int) (maskN b : Nat) = ((a % 2 ^ topN b : Nat) : Int)) := by
    unfold Hid
    rw [u32_andNot_nat a (maskN b) ha (maskN_lt b)]
    unfold maskN
    rw [andNot_mask _ _ (topN_le b)]
  have HERR : Hid (netOk a b = false → ∀ n, NPrintPost a b w (.returned (.tuple #[.string (ByteArray.mk #[]), .int .i64 1])) (W0.drewN n)) := fun h n => ⟨by rw [h]; rfl, below_drewN HB0.out n⟩
  have HTW := Lib.hid htab
  clear htab hW0 hb0 ht0
  have ⟨r0, r1⟩ := hr0.cells
  have hand := HAN.out
  by_cases c1 : b < 0
  · have d1 : decide (b < 0) = true := decide_eq_true c1
    have HP := Lib.hid (HERR.out (by rw [HNO.out, decide_eq_false (by omega)]; rfl))
    clear c1 HAN hand
    go_enter Tryd.func38, Tryd.ntmps38
    go_upto_region 1 with fail
    rw [HW0.out]
    go_quiet ((go_at_call 55; exact Calls.quiet_of_same (mask_any _ _)))
    go_wp2_with fail
    exact bodyPost_ret (v := .tuple #[.string (ByteArray.mk #[]), .int .i64 1]) (by simp [results, Tryd.results38, go_sem]) rfl (HP.out nq)
  · have d1 : decide (b < 0) = false := decide_eq_false c1
    by_cases c2 : 32 < b
    · have d2 : decide (32 < b) = true := decide_eq_true c2
      have HP := Lib.hid (HERR.out (by rw [HNO.out, decide_eq_false (by omega : ¬ b ≤ 32), Bool.and_false]; rfl))
      clear c1 c2 HAN hand
      go_enter Tryd.func38, Tryd.ntmps38
      go_upto_region 1 with fail
      rw [HW0.out]
      go_quiet ((go_at_call 55; exact Calls.quiet_of_same (mask_any _ _)))
      go_wp2_with fail
      exact bodyPost_ret (v := .tuple #[.string (ByteArray.mk #[]), .int .i64 1]) (by simp [results, Tryd.results38, go_sem]) rfl (HP.out nq)
    · have d2 : decide (32 < b) = false := decide_eq_false c2
      by_cases hz : a % 2 ^ topN b = 0
      rotate_left
      · have HP := Lib.hid (HERR.out (by rw [HNO.out, beq_eq_false_iff_ne.2 hz, Bool.and_false]))
        generalize a % 2 ^ topN b = z at *
        have e1 : ((z : Int) != 0) = true := by simp; omega
        clear c1 c2 HAN hz HNO
        go_enter Tryd.func38, Tryd.ntmps38
        go_upto_region 1 with fail
        rw [HW0.out]
        go_quiet ((go_at_call 55; exact Calls.quiet_of_same (mask_any _ _)))
        go_wp2_with fail
        exact bodyPost_ret (v := .tuple #[.string (ByteArray.mk #[]), .int .i64 1]) (by simp [results, Tryd.results38, go_sem]) rfl (HP.out nq)
      · have HOK : Hid (netOk a b = true) := by unfold Hid; rw [HNO.out, decide_eq_true (by omega), decide_eq_true (by omega), hz]; rfl
        rw [hz] at hand
        clear HAN hz HNO HERR
        go_enter Tryd.func38, Tryd.ntmps38
        go_upto_region 1 with fail
        rw [HW0.out]
        go_quiet ((go_at_call 55; exact Calls.quiet_of_same (mask_any _ _)))
        go_wp2_with fail
        have hr1 : NetAt w.heap.size (a : Int) b (W0.drewN nq) := hr0
        have hb1 : Below (w.heap.size + 1) W0 (W0.drewN nq) := below_drewN (Below.refl _ _) nq
        go_loopw [4, 5] (fun v i wr => NPRel a b w W0 v i wr) (fun _ i _ => (8 + intOf i).toNat)
        case atStart => exact ⟨0, 24, Nat.zero_le _, rfl, rfl, OwnS.nil _ _, hr1, hb1⟩
        case round =>
          obtain ⟨k, z, hk, hzk, rfl, hO, hA, hB⟩ := hrel
          have HA := Lib.hid ha
          clear hr1 hb1 hr0 hand r0 r1 ha
          have hbw : Below w.heap.size w wr := HB0.out.trans (hB.mono (Nat.le_succ _))
          have HI : Hid (∀ n : Nat, n < 256 → Calls Tryd.prog 32 #[.int .i64 (n : Int)] wr fun e w' => e = .returned (.string (bs (decS n))) ∧ Below wr.heap.size wr w') := fun n hn => itoa_any n wr (by omega) (HTW.out.below hbw)
          have hbase : w.heap.size + 1 ≤ wr.heap.size := Nat.le_trans hz0 hB.size
          have ⟨r0, r1⟩ := hA.cells
          obtain ⟨Ao, co, rfl, _⟩ := hO.form
          have hacl : ((octsL a).take k).length ≤ 4 := by rw [List.length_take]; omega
          by_cases hlt : k < 4
          · have h0z : 0 ≤ z := by omega
            have hz32 : z ≤ 32 := by omega
            have d3 : decide (0 ≤ z) = true := decide_eq_true h0z
            have i8 : IntKind.i64.wrap (z - 8) = z - 8 := IntWalk.i64_in _ (by omega)
            have ho := octN_lt a z.toNat
            have hbit : bits .and .u32 ((a : Int) / 2 ^ z.toNat) 255 = ((octN a z.toNat : Nat) : Int) := by
              have e : (a : Int) / 2 ^ z.toNat = ((a / 2 ^ z.toNat : Nat) : Int) := by push_cast; rfl
              have hle : a / 2 ^ z.toNat < 4294967296 := Nat.lt_of_le_of_lt (Nat.div_le_self _ _) HA.out
              rw [e, show (255 : Int) = ((255 : Nat) : Int) from rfl, u32_and_nat _ _ hle (by decide), show 255 = 2 ^ 8 - 1 from rfl, Nat.and_two_pow_sub_one_eq_mod]
              rfl
            have HNX : Hid ((octsL a).take (k + 1) = (octsL a).take k ++ [bs (decS (octN a z.toNat))]) := by
              unfold Hid
              obtain rfl | rfl | rfl | rfl : k = 0 ∨ k = 1 ∨ k = 2 ∨ k = 3 := by omega
              · obtain rfl : z = 24 := by omega
                rfl
              · obtain rfl : z = 16 := by omega
                rfl
              · obtain rfl : z = 8 := by omega
                rfl
              · obtain rfl : z = 0 := by omega
                rfl
            have HIT := Lib.hid (HI.out (octN a z.toNat) ho)
            have i9 : IntKind.i64.wrap ((octN a z.toNat : Nat) : Int) = ((octN a z.toNat : Nat) : Int) := IntWalk.i64_in _ (by omega)
            generalize octN a z.toNat = oc at *
            generalize (octsL a).take k = acc at *
            have HO := Lib.hid hO
            have HAH := Lib.hid hA
            have HBH := Lib.hid hB
            have HZK := Lib.hid hzk
            clear HI ho hA hO hB hzk
            go_wp2_with (first | (go_at_call 32; refine HIT.out.mono ?_; rintro e w2 ⟨rfl, hb2⟩; have hO2 := HO.out.below hb2; have hbase2 := Nat.le_trans hbase hb2.size) | (at_builtin; refine wpList_append_s rfl (.tmp 28) (.tmp 36) rfl (w.heap.size + 1) (.slice Ao acc.length co) acc rfl hO2 hbase2 _ [bs (decS oc)] rfl 1 1 rfl rfl (by omega) ?_; intro v5 w5 hO5 hb5 hk5 hz5))
            have hb25 : Below (w.heap.size + 1) wr w5 := (hb2.mono hbase).trans hb5
            exact ⟨⟨k + 1, z - 8, by omega, by have := HZK.out; omega, rfl, by rw [HNX.out]; exact hO5, HAH.out.below hb25 (Nat.lt_succ_self _), HBH.out.trans hb25⟩, by dsimp only [intOf]; omega⟩
          · obtain rfl : k = 4 := by omega
            obtain rfl : z = -8 := by omega
            have HDL : ∀ i, (decS (octN a i)).length ≤ 6 := fun i => (dec_len 5 (octN a i) (by have := octN_lt a i; omega)).2
            have HAL : (addrT a).length ≤ 30 := by
              unfold addrT
              rw [join_four]
              have h1 := HDL 24
              have h2 := HDL 16
              have h3 := HDL 8
              have h4 := HDL 0
              simp only [List.length_append, List.length_cons]
              omega
            have hSo := hO.sl
            have htk : (octsL a).take 4 = octsL a := rfl
            rw [htk] at hO hSo
            obtain ⟨bo, oo, rfl, hbo, hco⟩ := hSo.src (by rw [List.length_map]; show 0 < 4; decide)
            have hcap : (octsL a).length ≤ co := by
              rcases hO.2 with ⟨e, _⟩ | ⟨_, _, _, e, _, _, h9, _⟩
              · cases e
              · injection e with _ _ e; rw [e]; exact h9
            have hxs : Lib.join ((octsL a).map (·.data.toList)) [46] = addrT a := rfl
            have hj := Tryd.strings_Join bo oo co (octsL a) ⟨#[46]⟩ wr (fun j x hx => by
              have hjl : j < ((octsL a).map Value.string).length := by rw [List.length_map]; exact (List.getElem?_eq_some_iff.1 hx).1
              rw [hco j hjl, List.getElem_map]
              obtain ⟨h9, h10⟩ := List.getElem?_eq_some_iff.1 hx
              rw [h10]) hbo (by show 4 ≤ _; decide) hcap (by show (Lib.join ((octsL a).map (·.data.toList)) [46]).length ≤ _; rw [hxs]; omega)
            rw [show (ByteArray.mk #[46]).data.toList = [46] from rfl, hxs, show ByteArray.mk (addrT a).toArray = bs (addrT a) from rfl] at hj
            obtain ⟨n4, hn4⟩ : ∃ n4, n4 = (octsL a).length := ⟨_, rfl⟩
            rw [htk, ← hn4]
            rw [← hn4] at hj
            have HJN := Lib.hid hj
            have HBH := Lib.hid hbw
            have HAH := Lib.hid hA
            have hzA : (bs (addrT a)).size ≤ 30 := by rw [bs_size]; exact HAL
            clear hj hO hSo hco hcap hxs HDL HAL HI hB hA hzk htk hn4
            by_cases c3 : b < 32
            · have d4 : decide (b < 32) = true := decide_eq_true c3
              obtain ⟨n, rfl⟩ : ∃ n : Nat, b = (n : Int) := ⟨b.toNat, by omega⟩
              have HNT : Hid (bs (netT a (n : Int)) = bs (addrT a) ++ (ByteArray.mk #[47] ++ bs (decS n))) := by
                unfold Hid netT
                rw [if_pos c3, Int.toNat_natCast]
                apply ByteArray.ext
                simp [bs]
              have hzD : (bs (decS n)).size ≤ 6 := by rw [bs_size]; exact (dec_len 5 n (by omega)).2
              have HIT : Hid (∀ W, Below w.heap.size w W → Calls Tryd.prog 32 #[.int .i64 (n : Int)] W fun e w' => e = .returned (.string (bs (decS n))) ∧ Below W.heap.size W w') := fun W hb => itoa_any n W (by omega) (HTW.out.below hb)
              have s1 : (1 : Nat) + (bs (decS n)).size ≤ 9223372036854775807 := by omega
              have s2 : (bs (addrT a)).size + (1 + (bs (decS n)).size) ≤ 9223372036854775807 := by omega
              generalize bs (addrT a) = AT at *
              generalize bs (decS n) = DT at *
              clear c1 c2 c3
              go_wp2_with (first | (go_at_call 56; refine HJN.out.mono ?_; rintro e w5 ⟨rfl, hb5⟩; have hb6 : Below w.heap.size w w5 := HBH.out.trans (hb5.mono HBH.out.size); have hA5 := HAH.out.below hb5 hbase; have ⟨q0, q1⟩ := hA5.cells) | (go_at_call 32; refine (HIT.out _ hb6).mono ?_; rintro e w7 ⟨rfl, hb7⟩))
              exact bodyPost_ret (v := .tuple #[.string (AT ++ (ByteArray.mk #[47] ++ DT)), .int .i64 0]) (by simp [results, Tryd.results38, go_sem]) rfl ⟨by rw [HOK.out, if_pos rfl, HNT.out], hb6.trans (hb7.mono hb6.size)⟩
            · have d4 : decide (b < 32) = false := decide_eq_false c3
              have HNT : Hid (bs (netT a b) = bs (addrT a)) := by unfold Hid netT; rw [if_neg c3]
              generalize bs (addrT a) = AT at *
              clear c1 c2 c3
              go_wp2_with (go_at_call 56; refine HJN.out.mono ?_; rintro e w5 ⟨rfl, hb5⟩; have hb6 : Below w.heap.size w w5 := HBH.out.trans (hb5.mono HBH.out.size); have hA5 := HAH.out.below hb5 hbase; have ⟨q0, q1⟩ := hA5.cells)
              exact bodyPost_ret (v := .tuple #[.string AT, .int .i64 0]) (by simp [results, Tryd.results38, go_sem]) rfl ⟨by rw [HOK.out, if_pos rfl, HNT.out], hb6⟩
end Go.Proofs.YtchoenfclfafiaaDoor
