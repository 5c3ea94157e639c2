/- The walk of OneMore. -/
import Derived.Test.YtjnfddibmijdkaaDoorOneM
import Derived.Test.YtjnfddibmijdkaaDoorRest
import Derived.Deep.RegionHeld3
import Derived.Deep.CutRange
namespace Go.Proofs.YtjnfddibmijdkaaDoor
open Go.RowKit

def getS : ByteArray := ByteArray.mk #[71, 69, 84, 32, 47]
theorem get_more : oneR getS.data.toList 4096 4096 = .error 7 := by kernel_rfl
theorem one_err_any {s : ByteArray} {H B A0 x : Int} {W : World} (hb : boundsB H B A0 = true) (hx : oneR s.data.toList H B = .error x) (hl : LibOk W) (hs : s.size ≤ 4611686018427387904) :
    Calls Tryd.prog 18 #[.string s, .agg #[.int .i64 H, .int .i64 B, .int .i64 A0]] W fun e w' => e = .returned (.tuple #[.agg #[.string (ByteArray.mk #[]), .string (ByteArray.mk #[]), .slice none 0 0, .string (ByteArray.mk #[])], .int .i64 0, .int .i64 x]) ∧ Below W.heap.size W w' := by
  refine (One_any s H B A0 W hb hl hs).mono ?_
  rintro e w' (⟨y, hy, rfl, hb⟩ | ⟨q, n, A, c, hy, _⟩)
  · rw [hx] at hy
    injection hy with hy
    subst hy
    exact ⟨rfl, hb⟩
  · rw [hx] at hy; cases hy
theorem one_ok_any {s : ByteArray} {H B A0 : Int} {q : ReqV} {n : Nat} {W : World} (hb : boundsB H B A0 = true) (hx : oneR s.data.toList H B = .ok (q, n)) (hl : LibOk W) (hs : s.size ≤ 4611686018427387904) :
    Calls Tryd.prog 18 #[.string s, .agg #[.int .i64 H, .int .i64 B, .int .i64 A0]] W fun e w' => ∃ A c, e = .returned (.tuple #[.agg #[.string q.h.m, .string q.h.t, .slice A q.h.fs.length c, .string (bs q.b)], .int .i64 (n : Int), .int .i64 0]) ∧ OwnV w' W.heap.size (.slice A q.h.fs.length c) q.h.fs ∧ Below W.heap.size W w' := by
  refine (One_any s H B A0 W hb hl hs).mono ?_
  rintro e w' (⟨y, hy, _⟩ | ⟨p, k, A, c, hy, rfl, hO, hb⟩)
  · rw [hx] at hy; cases hy
  · rw [hx] at hy
    injection hy with hy
    injection hy with h1 h2
    subst h1; subst h2
    exact ⟨A, c, rfl, hO, hb⟩

theorem req_new {W w' : World} (hb : Below (W.alloc (.cells #[.string (ByteArray.mk #[]), .string (ByteArray.mk #[]), .slice none 0 0, .string (ByteArray.mk #[])] 53)).heap.size (W.alloc (.cells #[.string (ByteArray.mk #[]), .string (ByteArray.mk #[]), .slice none 0 0, .string (ByteArray.mk #[])] 53)) w') : ReqAt W.heap.size w' :=
  (hb.block W.heap.size (by simp)).trans (heap_alloc_new W _)
set_option maxRecDepth 100000 in
set_option maxHeartbeats 3200000 in
theorem oneMore_any (s : ByteArray) (H B A0 : Int) (atp : Int) (more : ByteArray) (w : World) (hs : s.size ≤ 140737488351232) (_ : -9223372036854775808 ≤ atp ∧ atp ≤ 9223372036854775807) (hm : more.size ≤ 140737488351232) (hlib : LibOk w) :
    Calls Tryd.prog 7 #[.string s, .agg #[.int .i64 H, .int .i64 B, .int .i64 A0], .int .i64 atp, .string more] w fun e w' => e = .returned (.bool true) ∧ Below w.heap.size w w' := by
  have hbx : ∀ W, Below (w.heap.size + 1) (w.alloc (.cells #[.int .i64 H, .int .i64 B, .int .i64 A0] 51)) W → (W.cell? ⟨w.heap.size, 0, none⟩ = some (.int .i64 H) ∧ W.cell? ⟨w.heap.size, 1, none⟩ = some (.int .i64 B) ∧ W.cell? ⟨w.heap.size, 2, none⟩ = some (.int .i64 A0)) ∧ Below w.heap.size w W ∧ LibOk W := fun W hb => by
    obtain ⟨h1, h2⟩ := box_facts hb
    exact ⟨⟨h1 0, h1 1, h1 2⟩, h2, hlib.below h2⟩
  have HBX := Lib.hid hbx
  obtain ⟨W0, hW0⟩ : ∃ W0, w.alloc (.cells #[.int .i64 H, .int .i64 B, .int .i64 A0] 51) = W0 := ⟨_, rfl⟩
  have hz0 : w.heap.size + 1 ≤ W0.heap.size := by rw [← hW0]; simp
  rw [hW0] at HBX
  have HW0 := Lib.hid hW0
  have HG : Hid (∀ W, LibOk W → _) := fun W hl => one_err_any (s := getS) (A0 := 40) (by decide) get_more hl (by decide)
  clear hbx hlib hW0
  cases hbb : boundsB H B A0 with
  | false =>
    have HO := fun W => Lib.hid (One_bad s H B A0 W hbb)
    unfold zReq at HO
    clear hbb
    go_enter Tryd.func7, Tryd.ntmps7
    go_upto_region 1 with fail
    rw [HW0.out]
    go_wp2_with fail
    refine (wide_any _).mono ?_
    rintro e w1 ⟨rfl, hb1⟩
    have hb1 := hb1.mono hz0
    have HGX := Lib.hid (HG.out w1 (HBX.out w1 hb1).2.2)
    go_wp2_with fail
    refine HGX.out.mono ?_
    rintro e w2 ⟨rfl, hb2⟩
    have hz1 : w.heap.size + 1 ≤ w1.heap.size := Nat.le_trans hz0 hb1.size
    have hb3 := (hb1.trans (hb2.mono hz1)).alloc (o := .cells #[.string (ByteArray.mk #[]), .string (ByteArray.mk #[]), .slice none 0 0, .string (ByteArray.mk #[])] 53) (Nat.le_trans hz1 hb2.size)
    have ⟨⟨b0, b1, b2⟩, _, _⟩ := HBX.out _ hb3
    have hz2 : w.heap.size < w2.heap.size := Nat.lt_of_lt_of_le (Nat.lt_of_lt_of_le (Nat.lt_succ_self _) hz1) hb2.size
    have ⟨⟨d0, d1, d2⟩, _, _⟩ := HBX.out _ (hb1.trans (hb2.mono hz1))
    go_wp2_with fail
    refine (HO _).out.mono ?_
    rintro e w4 ⟨rfl, hb4⟩
    have hb5 := (hb3.trans (hb4.mono (Nat.le_trans hz0 hb3.size))).alloc (o := .cells #[.string (ByteArray.mk #[]), .string (ByteArray.mk #[]), .slice none 0 0, .string (ByteArray.mk #[])] 53) (Nat.le_trans (Nat.le_trans hz0 hb3.size) hb4.size)
    have HSR := Lib.hid (SameReq_yes (ByteArray.mk #[]) (ByteArray.mk #[]) (ByteArray.mk #[]) [] none none 0 0 (w4.alloc (.cells #[.string (ByteArray.mk #[]), .string (ByteArray.mk #[]), .slice none 0 0, .string (ByteArray.mk #[])] 53)) (Sl.nil _ _ _ _) (Sl.nil _ _ _ _) (by decide))
    have HB5 := Lib.hid hb5
    clear b0 b1 b2 d0 d1 d2 hb1 hb2 hb3 hb4 hb5
    go_wp2_with (go_at_call 20; refine HSR.out.mono ?_; rintro e w6 ⟨rfl, hb6⟩)
    go_ret
    exact ⟨rfl, (HBX.out _ (HB5.out.trans (hb6.mono (Nat.le_trans hz0 HB5.out.size)))).2.1⟩
  | true =>
    cases hx : oneR s.data.toList H B with
    | error x =>
      have HO : Hid (∀ W, LibOk W → _) := fun W hl => one_err_any (s := s) (A0 := A0) hbb hx hl (by omega)
      have q0 : (x != 0) = true := bne_iff_ne.2 (one_ne hx)
      have q1 : (x == 0) = false := beq_eq_false_iff_ne.2 (one_ne hx)
      clear hbb hx
      go_enter Tryd.func7, Tryd.ntmps7
      go_upto_region 1 with fail
      rw [HW0.out]
      go_wp2_with fail
      refine (wide_any _).mono ?_
      rintro e w1 ⟨rfl, hb1⟩
      have hb1 := hb1.mono hz0
      have HGX := Lib.hid (HG.out w1 (HBX.out w1 hb1).2.2)
      go_wp2_with fail
      refine HGX.out.mono ?_
      rintro e w2 ⟨rfl, hb2⟩
      have hz1 : w.heap.size + 1 ≤ w1.heap.size := Nat.le_trans hz0 hb1.size
      have hb3 := (hb1.trans (hb2.mono hz1)).alloc (o := .cells #[.string (ByteArray.mk #[]), .string (ByteArray.mk #[]), .slice none 0 0, .string (ByteArray.mk #[])] 53) (Nat.le_trans hz1 hb2.size)
      have ⟨⟨b0, b1, b2⟩, _, _⟩ := HBX.out _ hb3
      have hz2 : w.heap.size < w2.heap.size := Nat.lt_of_lt_of_le (Nat.lt_of_lt_of_le (Nat.lt_succ_self _) hz1) hb2.size
      have ⟨⟨d0, d1, d2⟩, _, _⟩ := HBX.out _ (hb1.trans (hb2.mono hz1))
      go_wp2_with fail
      refine (HO.out _ (HBX.out _ hb3).2.2).mono ?_
      rintro e w4 ⟨rfl, hb4⟩
      have hb5 := (hb3.trans (hb4.mono (Nat.le_trans hz0 hb3.size))).alloc (o := .cells #[.string (ByteArray.mk #[]), .string (ByteArray.mk #[]), .slice none 0 0, .string (ByteArray.mk #[])] 53) (Nat.le_trans (Nat.le_trans hz0 hb3.size) hb4.size)
      have HSR := Lib.hid (SameReq_yes (ByteArray.mk #[]) (ByteArray.mk #[]) (ByteArray.mk #[]) [] none none 0 0 (w4.alloc (.cells #[.string (ByteArray.mk #[]), .string (ByteArray.mk #[]), .slice none 0 0, .string (ByteArray.mk #[])] 53)) (Sl.nil _ _ _ _) (Sl.nil _ _ _ _) (by decide))
      have HB5 := Lib.hid hb5
      clear b0 b1 b2 d0 d1 d2 hb1 hb2 hb3 hb4 hb5
      go_wp2_with (go_at_call 20; refine HSR.out.mono ?_; rintro e w6 ⟨rfl, hb6⟩)
      go_ret
      exact ⟨rfl, (HBX.out _ (HB5.out.trans (hb6.mono (Nat.le_trans hz0 HB5.out.size)))).2.1⟩
    | ok p =>
      obtain ⟨q, n⟩ := p
      obtain ⟨hH, hB⟩ := bounds_in hbb
      have hH0 : 0 ≤ H := by omega
      obtain ⟨hqb, hn1, hn2⟩ := one_len hH0 hB.1 hx
      have hss : s.data.toList.length = s.size := by simp
      rw [hss] at hn2
      have HO : Hid (∀ W, LibOk W → _) := fun W hl => one_ok_any (s := s) (A0 := A0) hbb hx hl (by omega)
      have hx2 : oneR (s ++ more).data.toList H B = .ok (q, n) := by
        rw [ByteArray.data_append, Array.toList_append]
        exact one_more hH0 hx
      have HM : Hid (∀ W, LibOk W → _) := fun W hl => one_ok_any (s := s ++ more) (A0 := A0) hbb hx2 hl (by rw [ByteArray.size_append]; omega)
      have HC : Hid (∀ j : Nat, (j : Int) < (n : Int) → ∀ W, LibOk W → Calls Tryd.prog 18 #[.string (s.extract 0 j), .agg #[.int .i64 H, .int .i64 B, .int .i64 A0]] W fun e w' => e = .returned (.tuple #[.agg #[.string (ByteArray.mk #[]), .string (ByteArray.mk #[]), .slice none 0 0, .string (ByteArray.mk #[])], .int .i64 0, .int .i64 7]) ∧ Below W.heap.size W w') := fun j hj W hl => by
        refine one_err_any hbb ?_ hl (by rw [ByteArray.size_extract]; omega)
        have e : (s.extract 0 j).data.toList = s.data.toList.take j := by rw [Lib.extract_data]; simp
        rw [e]
        exact one_cut hH0 hx (by omega)
      have HR : Hid (∀ W, _) := fun W => RestN_any atp (n : Int) W (by omega) (by omega)
      have y1 : ∀ W, (Op.stringOp .add s more).run Tryd.prog W = .ok (.string (s ++ more)) W := fun W => run_string_add_sum W s more (by omega)
      have hfl : q.h.fs.length ≤ 4398046511104 := by
        obtain ⟨i, k, _, hp, _, _⟩ := one_ok hH0 hx
        have := (head_ok (parse_ok hp).2.1).few
        omega
      have HSAME : Hid (∀ W A1 A2 c1 c2, _ → _ → _) := fun W A1 A2 c1 c2 h1 h2 => SameReq_yes q.h.m q.h.t (bs q.b) q.h.fs A1 A2 c1 c2 W h1 h2 hfl
      have dl : decide ((q.b.length : Int) ≤ B) = true := decide_eq_true hqb
      obtain ⟨⟨m, t, fs⟩, b⟩ := q
      dsimp only at HO HM HSAME dl
      obtain ⟨bb, hbbe⟩ : ∃ bb, bs b = bb := ⟨_, rfl⟩
      have dl2 : decide ((bb.size : Int) ≤ B) = true := by rw [← hbbe, bs_size]; exact dl
      rw [hbbe] at HO HM HSAME
      clear hbb hx hx2 hH hB hH0 hqb hss hfl dl hbbe
      go_enter Tryd.func7, Tryd.ntmps7
      go_upto_region 1 with fail
      rw [HW0.out]
      go_wp2_with fail
      refine (wide_any _).mono ?_
      rintro e w1 ⟨rfl, hb1⟩
      have hb1 := hb1.mono hz0
      have HGX := Lib.hid (HG.out w1 (HBX.out w1 hb1).2.2)
      go_wp2_with fail
      refine HGX.out.mono ?_
      rintro e w2 ⟨rfl, hb2⟩
      have hz1 : w.heap.size + 1 ≤ w1.heap.size := Nat.le_trans hz0 hb1.size
      have hb3 := (hb1.trans (hb2.mono hz1)).alloc (o := .cells #[.string (ByteArray.mk #[]), .string (ByteArray.mk #[]), .slice none 0 0, .string (ByteArray.mk #[])] 53) (Nat.le_trans hz1 hb2.size)
      have hz2 : w.heap.size < w2.heap.size := Nat.lt_of_lt_of_le (Nat.lt_of_lt_of_le (Nat.lt_succ_self _) hz1) hb2.size
      have ⟨⟨d0, d1, d2⟩, _, _⟩ := HBX.out _ (hb1.trans (hb2.mono hz1))
      have HO2 := Lib.hid (HO.out _ (HBX.out _ hb3).2.2)
      clear HO
      go_wp2_with fail
      refine HO2.out.mono ?_
      rintro e w4 ⟨A4, c4, rfl, hO4, hb4⟩
      have hb5 := hb3.trans (hb4.mono (Nat.le_trans hz0 hb3.size))
      have hz4 : w.heap.size + 1 ≤ w4.heap.size := Nat.le_trans hz0 hb5.size
      have hN : ∀ W, Below (w4.heap.size + 1) (w4.alloc (.cells #[.string m, .string t, .slice A4 fs.length c4, .string bb] 53)) W → (W.cell? ⟨w4.heap.size, 0, none⟩ = some (.string m) ∧ W.cell? ⟨w4.heap.size, 1, none⟩ = some (.string t) ∧ W.cell? ⟨w4.heap.size, 2, none⟩ = some (.slice A4 fs.length c4) ∧ W.cell? ⟨w4.heap.size, 3, none⟩ = some (.string bb)) ∧ Sl W W.heap.size 2 A4 fs.length (fs.flatMap cellsV) ∧ Below (w.heap.size + 1) W0 W := fun W hb => by
        obtain ⟨h1, h2⟩ := box_facts hb
        exact ⟨⟨h1 0, h1 1, h1 2, h1 3⟩, (hO4.sl.below h2).more h2.size, hb5.trans (h2.mono hz4)⟩
      have HN := Lib.hid hN
      have hz5 : w4.heap.size + 1 ≤ (w4.alloc (.cells #[.string m, .string t, .slice A4 fs.length c4, .string bb] 53)).heap.size := by simp
      have hb55 := (hN _ (Below.refl _ _)).2.2
      have ⟨⟨e0, e1, e2⟩, _, hl5⟩ := HBX.out _ hb55
      have ⟨⟨a0, a1, a2⟩, _, _⟩ := HBX.out _ hb5
      have HM2 := Lib.hid (HM.out _ hl5)
      have hz44 : w.heap.size < w4.heap.size := hz4
      clear HM d0 d1 d2 hb1 hb2 hb3 hb4 hN hO4 hb55
      go_wp2_with fail
      refine HM2.out.mono ?_
      rintro e w6 ⟨A6, c6, rfl, hO6, hb6⟩
      have hb6' := hb6.mono hz5
      have hz6 : w4.heap.size + 1 ≤ w6.heap.size := Nat.le_trans hz5 hb6.size
      have hM : ∀ W, Below (w6.heap.size + 1) (w6.alloc (.cells #[.string m, .string t, .slice A6 fs.length c6, .string bb] 53)) W → (W.cell? ⟨w6.heap.size, 0, none⟩ = some (.string m) ∧ W.cell? ⟨w6.heap.size, 1, none⟩ = some (.string t) ∧ W.cell? ⟨w6.heap.size, 2, none⟩ = some (.slice A6 fs.length c6) ∧ W.cell? ⟨w6.heap.size, 3, none⟩ = some (.string bb)) ∧ Sl W W.heap.size 2 A6 fs.length (fs.flatMap cellsV) ∧ Below (w4.heap.size + 1) (w4.alloc (.cells #[.string m, .string t, .slice A4 fs.length c4, .string bb] 53)) W := fun W hb => by
        obtain ⟨h1, h2⟩ := box_facts hb
        exact ⟨⟨h1 0, h1 1, h1 2, h1 3⟩, (hO6.sl.below h2).more h2.size, hb6'.trans (h2.mono hz6)⟩
      have HM := Lib.hid hM
      obtain ⟨W7, hW7⟩ : ∃ W7, w6.alloc (.cells #[.string m, .string t, .slice A6 fs.length c6, .string bb] 53) = W7 := ⟨_, rfl⟩
      rw [hW7] at HM
      have hz7 : w6.heap.size + 1 ≤ W7.heap.size := by rw [← hW7]; simp
      have ⟨⟨p0, p1, p2, p3⟩, _, hb7⟩ := HM.out W7 (Below.refl _ _)
      have ⟨⟨q0, q1, q2, q3⟩, _, hb77⟩ := HN.out W7 hb7
      have ⟨⟨g0, g1, g2⟩, _, hl7⟩ := HBX.out W7 hb77
      have HW7 := Lib.hid hW7
      have HS : Hid (∀ W, Below W7.heap.size W7 W → W.cell? ⟨w.heap.size, 0, none⟩ = some (.int .i64 H) ∧ W.cell? ⟨w.heap.size, 1, none⟩ = some (.int .i64 B) ∧ W.cell? ⟨w.heap.size, 2, none⟩ = some (.int .i64 A0)) := fun W hb => ⟨cell_kept hb g0, cell_kept hb g1, cell_kept hb g2⟩
      have HL7 : Hid (∀ W, Below W7.heap.size W7 W → LibOk W) := fun W hb => hl7.below hb
      have hzz : w.heap.size < w6.heap.size := by omega
      have i0 : (0 : Int) ≤ 0 := by decide
      clear e0 e1 e2 a0 a1 a2 hb5 hb6 hb6' hM hO6 hW7 hl5 hl7 hb7 hb77
      go_upto_region 8 with fail
      rw [HW7.out]
      go_cut [18, 19, 20] from 54 to 64 (fun _ _ s20 wx => s20 = .int .i64 7 ∧ Below W7.heap.size W7 wx)
      case first =>
        go_region_held3 (fun w' => w'.cell? ⟨w.heap.size, 0, none⟩ = some (.int .i64 H) ∧ w'.cell? ⟨w.heap.size, 1, none⟩ = some (.int .i64 B) ∧ w'.cell? ⟨w.heap.size, 2, none⟩ = some (.int .i64 A0))
          (first | exact HS.out _ (hb9.alloc hb9.size _) | exact HS.out _ hb9 | exact HS.out _ (putReq_below hb9 (Nat.le_refl _) _ _ _ _) | exact HS.out _ (putReq_below (hb9.alloc hb9.size _) hb9.size _ _ _ _) | exact HS.out _ ((Below.refl W7.heap.size W7)) | exact HS.out _ ((Below.refl W7.heap.size W7).drew) | exact HS.out _ (((Below.refl W7.heap.size W7).alloc (Nat.le_refl _) (.cells #[.string (ByteArray.mk #[]), .string (ByteArray.mk #[]), .slice none 0 0, .string (ByteArray.mk #[])] 53)).drew) | exact HS.out _ (((Below.refl W7.heap.size W7).drew).alloc (Nat.le_refl _) (.cells #[.string (ByteArray.mk #[]), .string (ByteArray.mk #[]), .slice none 0 0, .string (ByteArray.mk #[])] 53)) | exact HS.out _ ((Below.refl W7.heap.size W7).alloc (Nat.le_refl _) (.cells #[.string (ByteArray.mk #[]), .string (ByteArray.mk #[]), .slice none 0 0, .string (ByteArray.mk #[])] 53)) | go_keep)
          (first
            | (go_at_call 15; (with_reducible refine (HR.out _).mono ?_); rintro e w8 ⟨j, rfl, hj, rfl⟩; have hj2 : (j : Int) ≤ (s.size : Int) := (by omega); have hj3 : (0 : Int) ≤ (j : Int) := (by omega))
            | (go_at_call 18; (with_reducible refine (HC.out j hj _ ?_).mono ?_); (first | exact HL7.out _ ((Below.refl W7.heap.size W7)) | exact HL7.out _ ((Below.refl W7.heap.size W7).drew) | exact HL7.out _ (((Below.refl W7.heap.size W7).alloc (Nat.le_refl _) (.cells #[.string (ByteArray.mk #[]), .string (ByteArray.mk #[]), .slice none 0 0, .string (ByteArray.mk #[])] 53)).drew) | exact HL7.out _ (((Below.refl W7.heap.size W7).drew).alloc (Nat.le_refl _) (.cells #[.string (ByteArray.mk #[]), .string (ByteArray.mk #[]), .slice none 0 0, .string (ByteArray.mk #[])] 53)) | exact HL7.out _ ((Below.refl W7.heap.size W7).alloc (Nat.le_refl _) (.cells #[.string (ByteArray.mk #[]), .string (ByteArray.mk #[]), .slice none 0 0, .string (ByteArray.mk #[])] 53))); rintro e w9 ⟨rfl, hb9'⟩; have hb9 : Below W7.heap.size W7 w9 := (by first | exact ((Below.refl W7.heap.size W7)).trans (hb9'.mono ((Below.refl W7.heap.size W7)).size) | exact ((Below.refl W7.heap.size W7).drew).trans (hb9'.mono ((Below.refl W7.heap.size W7).drew).size) | exact (((Below.refl W7.heap.size W7).alloc (Nat.le_refl _) (.cells #[.string (ByteArray.mk #[]), .string (ByteArray.mk #[]), .slice none 0 0, .string (ByteArray.mk #[])] 53)).drew).trans (hb9'.mono (((Below.refl W7.heap.size W7).alloc (Nat.le_refl _) (.cells #[.string (ByteArray.mk #[]), .string (ByteArray.mk #[]), .slice none 0 0, .string (ByteArray.mk #[])] 53)).drew).size) | exact (((Below.refl W7.heap.size W7).drew).alloc (Nat.le_refl _) (.cells #[.string (ByteArray.mk #[]), .string (ByteArray.mk #[]), .slice none 0 0, .string (ByteArray.mk #[])] 53)).trans (hb9'.mono (((Below.refl W7.heap.size W7).drew).alloc (Nat.le_refl _) (.cells #[.string (ByteArray.mk #[]), .string (ByteArray.mk #[]), .slice none 0 0, .string (ByteArray.mk #[])] 53)).size) | exact ((Below.refl W7.heap.size W7).alloc (Nat.le_refl _) (.cells #[.string (ByteArray.mk #[]), .string (ByteArray.mk #[]), .slice none 0 0, .string (ByteArray.mk #[])] 53)).trans (hb9'.mono ((Below.refl W7.heap.size W7).alloc (Nat.le_refl _) (.cells #[.string (ByteArray.mk #[]), .string (ByteArray.mk #[]), .slice none 0 0, .string (ByteArray.mk #[])] 53)).size)); (first | (have hq9 : ReqAt W7.heap.size w9 := (by first | exact req_new hb9' | exact req_new (undrew hb9')); have ⟨k0, k1, k2, k3⟩ := hq9.cells; have l0 := hq9.free 0; have l1 := hq9.free 1; have l2 := hq9.free 2; have l3 := hq9.free 3) | skip)))
        all_goals (go_wp2_with fail; go_meet)
        all_goals exact ⟨rfl, by first | exact hb9.alloc hb9.size _ | exact hb9 | exact putReq_below hb9 (Nat.le_refl _) _ _ _ _⟩
      case rest =>
        obtain ⟨rfl, hb9⟩ := hcut
        have hb99 := hb9.mono hz7
        have ⟨⟨r0, r1, r2, r3⟩, hsl6, hbm⟩ := HM.out wc hb99
        have ⟨⟨u0, u1, u2, u3⟩, hsl4, hbn⟩ := HN.out wc hbm
        have ⟨⟨v0, v1, v2⟩, hbw, _⟩ := HBX.out wc hbn
        have HSM := Lib.hid (HSAME.out wc A6 A4 c6 c4 hsl6 hsl4)
        have HBW := Lib.hid hbw
        have HBN : Hid (∀ W, Below wc.heap.size wc W → W.cell? ⟨w4.heap.size, 3, none⟩ = some (.string bb) ∧ W.cell? ⟨w.heap.size, 1, none⟩ = some (.int .i64 B)) := fun W hb => ⟨cell_kept hb u3, cell_kept hb v1⟩
        have e1 : ((n : Int) == (n : Int)) = true := by simp
        clear hb9 hb99 hbm hbn hbw hsl6 hsl4 p0 p1 p2 p3 q0 q1 q2 q3 g0 g1 g2
        go_wp2_with (go_at_call 20; refine HSM.out.mono ?_; rintro e w10 ⟨rfl, hb10⟩; have ⟨x0, x1⟩ := HBN.out w10 hb10)
        go_ret
        exact ⟨rfl, HBW.out.trans (hb10.mono HBW.out.size)⟩
end Go.Proofs.YtjnfddibmijdkaaDoor
