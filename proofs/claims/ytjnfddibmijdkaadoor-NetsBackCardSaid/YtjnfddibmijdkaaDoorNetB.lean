/- The walks of nets.In and of NetsBack. -/
import Derived.Test.YtjnfddibmijdkaaDoorNetP
import Derived.Test.YtjnfddibmijdkaaDoorRest
import Derived.Deep.CutRange
namespace Go.Proofs.YtjnfddibmijdkaaDoor
open Go.RowKit

set_option maxRecDepth 100000 in
set_option maxHeartbeats 1600000 in
theorem NIn_any (a x : Nat) (b : Int) (w : World) (ha : a < 4294967296) (hx : x < 4294967296) :
    Calls Tryd.prog 14 #[.agg #[.int .u32 (a : Int), .int .i64 b], .int .u32 (x : Int)] w fun e w' => e = .returned (.bool (inN32 a b x)) ∧ Below w.heap.size w w' := by
  obtain ⟨W0, hW0⟩ : ∃ W0, w.alloc (.cells #[.int .u32 (a : Int), .int .i64 b] 38) = W0 := ⟨_, rfl⟩
  have hr0 : NetAt w.heap.size (a : Int) b W0 := by rw [← hW0]; exact heap_alloc_new w _
  have hb0 : Below w.heap.size w W0 := by rw [← hW0]; exact (Below.refl _ _).alloc (Nat.le_refl _) _
  have hxl : a ^^^ x < 4294967296 := Nat.xor_lt_two_pow (n := 32) ha hx
  have hxor := u32_xor_nat a x ha hx
  have hand := u32_and_nat (a ^^^ x) (maskN b) hxl (maskN_lt b)
  have HR : Hid ((((a ^^^ x) &&& maskN b : Nat) : Int) = 0 ↔ inN32 a b x = true) := by
    unfold Hid inN32 maskN
    rw [decide_eq_true_iff, ← and_mask _ _ hxl (topN_le b)]
    exact Int.natCast_eq_zero
  generalize (a ^^^ x) &&& maskN b = z at *
  generalize a ^^^ x = y at *
  have ⟨r0, r1⟩ := hr0.cells
  have HW0 := Lib.hid hW0
  have HB0 := Lib.hid hb0
  clear hr0 hW0 hb0 ha hx hxl
  have HRB : Hid (((z : Int) == 0) = inN32 a b x) := by
    unfold Hid
    rw [Bool.eq_iff_iff, beq_iff_eq]
    exact HR.out
  clear HR
  generalize inN32 a b x = r at *
  go_enter Tryd.func14, Tryd.ntmps14
  go_upto_region 1 with fail
  rw [HW0.out]
  go_quiet ((go_at_call 32; exact Calls.quiet_of_same (mask_any _ _)))
  go_wp2_with fail
  go_ret
  exact ⟨by rw [HRB.out]; rfl, below_drewN HB0.out nq⟩

set_option maxRecDepth 100000 in
set_option maxHeartbeats 3200000 in
theorem netsBack_nat (a x : Nat) (b k : Int) (w : World) (ha : a < 4294967296) (hx : x < 4294967296) (hlib : LibOk w) (htab : TabOk w) :
    Calls Tryd.prog 5 #[.agg #[.int .u32 (a : Int), .int .i64 b], .int .u32 (x : Int), .int .i64 k] w fun e w' => e = .returned (.bool true) ∧ Below w.heap.size w w' := by
  obtain ⟨W0, hW0⟩ : ∃ W0, w.alloc (.cells #[.int .u32 (a : Int), .int .i64 b] 38) = W0 := ⟨_, rfl⟩
  have hr0 : NetAt w.heap.size (a : Int) b W0 := by rw [← hW0]; exact heap_alloc_new w _
  have hb0 : Below w.heap.size w W0 := by rw [← hW0]; exact (Below.refl _ _).alloc (Nat.le_refl _) _
  have hz0 : w.heap.size < W0.heap.size := by rw [← hW0]; simp
  have HLIB : Hid (∀ W, Below w.heap.size w W → LibOk W) := fun W hb => hlib.below hb
  have HTAB : Hid (∀ W, Below w.heap.size w W → TabOk W) := fun W hb => htab.below hb
  have hp0 : netP (ByteArray.mk #[49, 48, 46, 49, 46, 48, 46, 48, 47, 49, 54]).data.toList = .ok (167837696, 16) := by kernel_rfl
  have h1 := NParse_any ⟨#[49, 48, 46, 49, 46, 48, 46, 48, 47, 49, 54]⟩ W0 (HLIB.out W0 hb0) (by decide)
  unfold NParsePost at h1
  rw [hp0] at h1
  dsimp only [netV] at h1
  have HW0 := Lib.hid hW0
  have HR0 := Lib.hid hr0
  have HB0 := Lib.hid hb0
  have HPARSE := Lib.hid h1
  have HX := Lib.hid (And.intro ha hx)
  clear hW0 hr0 hb0 h1 hp0 hlib htab ha hx
  have HIN : Hid (∀ (c : Int) (y : Nat) W, y < 4294967296 → Calls Tryd.prog 14 #[.agg #[.int .u32 (a : Int), .int .i64 c], .int .u32 (y : Int)] W fun e w' => e = .returned (.bool (inN32 a c y)) ∧ Below W.heap.size W w') := fun c y W h => NIn_any a y c W HX.out.1 h
  have HINA := Lib.hid (fun W => HIN.out b a W HX.out.1)
  have HINX := Lib.hid (fun W => HIN.out b x W HX.out.2)
  have HINW := Lib.hid (fun c W => HIN.out c x W HX.out.2)
  have hin0 := inN32_self a b
  have HREST := Lib.hid (fun W => RestN_any k 33 W (by decide) (by decide))
  have HWIDE : Hid (∀ c, inN32 a b x = true → c ≤ b → inN32 a c x = true) := fun c h1 h2 => inN32_wide a x b c h1 h2
  have HPR : Hid (∀ W, Below w.heap.size w W → Calls Tryd.prog 13 #[.agg #[.int .u32 (a : Int), .int .i64 b]] W (NPrintPost a b W)) := fun W hb => NPrint_any a b W HX.out.1 (HTAB.out W hb)
  have hal : ∀ {B : Nat} {W W' : World} (o : Obj), Below B W W' → B ≤ W'.heap.size → Below B W (W'.alloc o) := fun o h hs => h.alloc hs _
  have hb32 : netOk a b = true → b ≤ 32 := fun h => by unfold netOk at h; simp only [Bool.and_eq_true, decide_eq_true_eq] at h; exact h.1.2
  cases hin : inN32 a b x with
  | false =>
    rw [hin] at HINX
    unfold NPrintPost at HPR
    cases hok : netOk a b with
    | false =>
      rw [hok, if_neg (by decide)] at HPR
      clear HIN hok hin hin0 hb32 HWIDE HINW
      go_enter Tryd.func5, Tryd.ntmps5
      go_upto_region 1 with fail
      rw [HW0.out]
      go_wp2_with (first
        | (go_at_call 12; (with_reducible refine HPARSE.out.mono ?_); rintro e w1 ⟨rfl, hb1⟩; have hB1 : Below w.heap.size w w1 := HB0.out.trans (hb1.mono (Nat.le_of_lt hz0)); have hz1 := Nat.lt_of_lt_of_le hz0 hb1.size; have hA1 := HR0.out.below hb1 hz0; have ⟨p0, p1⟩ := hA1.cells; have hB1a := fun o => hal o hB1 (Nat.le_of_lt hz1))
        | (go_at_call 13; (with_reducible refine (HPR.out _ (hB1a _)).mono ?_); rintro e w2 ⟨rfl, hb2⟩; have hb2' := below_new hb2 (Nat.le_refl _); have hB2 : Below w.heap.size w w2 := hB1.trans (hb2'.mono (Nat.le_of_lt hz1)); have hz2 := Nat.lt_of_lt_of_le hz1 hb2'.size; have hA2 := hA1.below hb2' hz1; have ⟨q0, q1⟩ := hA2.cells)
        | (go_at_call 15; (with_reducible refine (HREST.out _).mono ?_); rintro e w4 ⟨j, rfl, hj, rfl⟩)
        | (go_at_call 14; (with_reducible refine (HINX.out _).mono ?_); rintro e w5 ⟨rfl, hb5⟩; have hb5' := below_new hb5 (Nat.le_refl _)))
      go_ret
      exact ⟨rfl, hB2.trans (hb5'.mono (Nat.le_of_lt hz2))⟩
    | true =>
      rw [hok, if_pos rfl] at HPR
      have HP2 : Hid (∀ W, Below w.heap.size w W → Calls Tryd.prog 12 #[.string (bs (netT a b))] W fun e w' => e = .returned (.tuple #[.agg #[.int .u32 (a : Int), .int .i64 b], .int .i64 0]) ∧ Below W.heap.size W w') := fun W hb => by
        have h := NParse_any (bs (netT a b)) W (HLIB.out W hb) (by rw [bs_size]; exact Nat.le_trans (netT_len a b (hb32 hok)) (by decide))
        unfold NParsePost at h
        rw [bs_toList, net_back a b HX.out.1 hok] at h
        exact h
      rw [hin0] at HINA
      generalize bs (netT a b) = NT at *
      clear HIN hok hin hin0 hb32 HWIDE HINW
      go_enter Tryd.func5, Tryd.ntmps5
      go_upto_region 1 with fail
      rw [HW0.out]
      go_wp2_with (first
        | (go_at_call 12; (with_reducible refine HPARSE.out.mono ?_); rintro e w1 ⟨rfl, hb1⟩; have hB1 : Below w.heap.size w w1 := HB0.out.trans (hb1.mono (Nat.le_of_lt hz0)); have hz1 := Nat.lt_of_lt_of_le hz0 hb1.size; have hA1 := HR0.out.below hb1 hz0; have ⟨p0, p1⟩ := hA1.cells; have hB1a := fun o => hal o hB1 (Nat.le_of_lt hz1))
        | (go_at_call 13; (with_reducible refine (HPR.out _ (hB1a _)).mono ?_); rintro e w2 ⟨rfl, hb2⟩; have hb2' := below_new hb2 (Nat.le_refl _); have hB2 : Below w.heap.size w w2 := hB1.trans (hb2'.mono (Nat.le_of_lt hz1)); have hz2 := Nat.lt_of_lt_of_le hz1 hb2'.size; have hA2 := hA1.below hb2' hz1; have ⟨q0, q1⟩ := hA2.cells)
        | (go_at_call 12; (with_reducible refine (HP2.out _ hB2).mono ?_); rintro e w3 ⟨rfl, hb3⟩; have hB3 : Below w.heap.size w w3 := hB2.trans (hb3.mono (Nat.le_of_lt hz2)); have hz3 := Nat.lt_of_lt_of_le hz2 hb3.size; have hA3 := hA2.below hb3 hz2; have ⟨t0, t1⟩ := hA3.cells)
        | (go_at_call 14; (with_reducible refine (HINA.out _).mono ?_); rintro e w6 ⟨rfl, hb6⟩; have hb6' := below_new hb6 (Nat.le_refl _); have hB6 : Below w.heap.size w w6 := hB3.trans (hb6'.mono (Nat.le_of_lt hz3)); have hz6 := Nat.lt_of_lt_of_le hz3 hb6'.size; have hA6 := hA3.below hb6' hz3; have ⟨y0, y1⟩ := hA6.cells)
        | (go_at_call 15; (with_reducible refine (HREST.out _).mono ?_); rintro e w4 ⟨j, rfl, hj, hw4⟩; rw [hw4])
        | (go_at_call 14; (with_reducible refine (HINX.out _).mono ?_); rintro e w5 ⟨rfl, hb5⟩; have hb5' := below_new hb5 (Nat.le_refl _)))
      go_ret
      exact ⟨rfl, hB6.trans (hb5'.mono (Nat.le_of_lt hz6))⟩
  | true =>
    rw [hin] at HINX
    unfold NPrintPost at HPR
    have HWID : Hid (∀ c, c ≤ b → inN32 a c x = true) := fun c h => HWIDE.out c hin h
    cases hok : netOk a b with
    | false =>
      rw [hok, if_neg (by decide)] at HPR
      clear HIN hok hin hin0 hb32
      go_enter Tryd.func5, Tryd.ntmps5
      go_upto_region 1 with fail
      rw [HW0.out]
      go_wp2_with (first
        | (go_at_call 12; (with_reducible refine HPARSE.out.mono ?_); rintro e w1 ⟨rfl, hb1⟩; have hB1 : Below w.heap.size w w1 := HB0.out.trans (hb1.mono (Nat.le_of_lt hz0)); have hz1 := Nat.lt_of_lt_of_le hz0 hb1.size; have hA1 := HR0.out.below hb1 hz0; have ⟨p0, p1⟩ := hA1.cells; have hB1a := fun o => hal o hB1 (Nat.le_of_lt hz1))
        | (go_at_call 13; (with_reducible refine (HPR.out _ (hB1a _)).mono ?_); rintro e w2 ⟨rfl, hb2⟩; have hb2' := below_new hb2 (Nat.le_refl _); have hB2 : Below w.heap.size w w2 := hB1.trans (hb2'.mono (Nat.le_of_lt hz1)); have hz2 := Nat.lt_of_lt_of_le hz1 hb2'.size; have hA2 := hA1.below hb2' hz1; have ⟨q0, q1⟩ := hA2.cells)
        | (go_at_call 15; (with_reducible refine (HREST.out _).mono ?_); rintro e w4 ⟨j, rfl, hj, rfl⟩)
        | (go_at_call 14; (with_reducible refine (HINX.out _).mono ?_); rintro e w5 ⟨rfl, hb5⟩; have hb5' := below_new hb5 (Nat.le_refl _); have hz5 := Nat.lt_of_lt_of_le hz2 hb5'.size; have c0 := new_cell hb5 0; have c1 := new_cell hb5 1; simp only [List.getElem?_toArray, List.getElem?_cons_zero, List.getElem?_cons_succ] at c0 c1)
        | (go_at_call 14; (with_reducible refine (HINW.out _ _).mono ?_); rintro e w7 ⟨rfl, hb7⟩))
      go_ret
      exact ⟨by rw [HWID.out _ (Int.min_le_right _ _)]; rfl, (hB2.trans (hb5'.mono (Nat.le_of_lt hz2))).trans (hb7.mono (Nat.le_of_lt hz5))⟩
    | true =>
      rw [hok, if_pos rfl] at HPR
      have HP2 : Hid (∀ W, Below w.heap.size w W → Calls Tryd.prog 12 #[.string (bs (netT a b))] W fun e w' => e = .returned (.tuple #[.agg #[.int .u32 (a : Int), .int .i64 b], .int .i64 0]) ∧ Below W.heap.size W w') := fun W hb => by
        have h := NParse_any (bs (netT a b)) W (HLIB.out W hb) (by rw [bs_size]; exact Nat.le_trans (netT_len a b (hb32 hok)) (by decide))
        unfold NParsePost at h
        rw [bs_toList, net_back a b HX.out.1 hok] at h
        exact h
      rw [hin0] at HINA
      generalize bs (netT a b) = NT at *
      clear HIN hok hin hin0 hb32
      go_enter Tryd.func5, Tryd.ntmps5
      go_upto_region 1 with fail
      rw [HW0.out]
      go_wp2_with (first
        | (go_at_call 12; (with_reducible refine HPARSE.out.mono ?_); rintro e w1 ⟨rfl, hb1⟩; have hB1 : Below w.heap.size w w1 := HB0.out.trans (hb1.mono (Nat.le_of_lt hz0)); have hz1 := Nat.lt_of_lt_of_le hz0 hb1.size; have hA1 := HR0.out.below hb1 hz0; have ⟨p0, p1⟩ := hA1.cells; have hB1a := fun o => hal o hB1 (Nat.le_of_lt hz1))
        | (go_at_call 13; (with_reducible refine (HPR.out _ (hB1a _)).mono ?_); rintro e w2 ⟨rfl, hb2⟩; have hb2' := below_new hb2 (Nat.le_refl _); have hB2 : Below w.heap.size w w2 := hB1.trans (hb2'.mono (Nat.le_of_lt hz1)); have hz2 := Nat.lt_of_lt_of_le hz1 hb2'.size; have hA2 := hA1.below hb2' hz1; have ⟨q0, q1⟩ := hA2.cells)
        | (go_at_call 12; (with_reducible refine (HP2.out _ hB2).mono ?_); rintro e w3 ⟨rfl, hb3⟩; have hB3 : Below w.heap.size w w3 := hB2.trans (hb3.mono (Nat.le_of_lt hz2)); have hz3 := Nat.lt_of_lt_of_le hz2 hb3.size; have hA3 := hA2.below hb3 hz2; have ⟨t0, t1⟩ := hA3.cells)
        | (go_at_call 14; (with_reducible refine (HINA.out _).mono ?_); rintro e w6 ⟨rfl, hb6⟩; have hb6' := below_new hb6 (Nat.le_refl _); have hB6 : Below w.heap.size w w6 := hB3.trans (hb6'.mono (Nat.le_of_lt hz3)); have hz6 := Nat.lt_of_lt_of_le hz3 hb6'.size; have hA6 := hA3.below hb6' hz3; have ⟨y0, y1⟩ := hA6.cells)
        | (go_at_call 15; (with_reducible refine (HREST.out _).mono ?_); rintro e w4 ⟨j, rfl, hj, hw4⟩; rw [hw4])
        | (go_at_call 14; (with_reducible refine (HINX.out _).mono ?_); rintro e w5 ⟨rfl, hb5⟩; have hb5' := below_new hb5 (Nat.le_refl _); have hz5 := Nat.lt_of_lt_of_le hz6 hb5'.size; have c0 := new_cell hb5 0; have c1 := new_cell hb5 1; simp only [List.getElem?_toArray, List.getElem?_cons_zero, List.getElem?_cons_succ] at c0 c1)
        | (go_at_call 14; (with_reducible refine (HINW.out _ _).mono ?_); rintro e w7 ⟨rfl, hb7⟩))
      go_ret
      exact ⟨by rw [HWID.out _ (Int.min_le_right _ _)]; rfl, (hB6.trans (hb5'.mono (Nat.le_of_lt hz6))).trans (hb7.mono (Nat.le_of_lt hz5))⟩
theorem netsBack_any (a b x k : Int) (w : World) (ha : 0 ≤ a ∧ a ≤ 4294967295) (_ : -9223372036854775808 ≤ b ∧ b ≤ 9223372036854775807) (hx : 0 ≤ x ∧ x ≤ 4294967295) (_ : -9223372036854775808 ≤ k ∧ k ≤ 9223372036854775807) (hlib : LibOk w)
    (htab : Lib.TabIs Tryd.prog w "internal/strconv.uint64pow10" .u64 Lib.pow10Tab) :
    Calls Tryd.prog 5 #[.agg #[.int .u32 a, .int .i64 b], .int .u32 x, .int .i64 k] w fun e w' => e = .returned (.bool true) ∧ Below w.heap.size w w' := by
  obtain ⟨n, rfl⟩ := Int.eq_ofNat_of_zero_le ha.1
  obtain ⟨m, rfl⟩ := Int.eq_ofNat_of_zero_le hx.1
  exact netsBack_nat n m b k w (by omega) (by omega) hlib (.of htab)
end Go.Proofs.YtjnfddibmijdkaaDoor
