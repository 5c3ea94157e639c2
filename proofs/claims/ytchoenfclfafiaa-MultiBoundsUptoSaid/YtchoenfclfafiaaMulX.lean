/- The walk of MultiBounds. -/
import Derived.Test.YtchoenfclfafiaaMulK
namespace Go.Proofs.Ytchoenfclfafiaa
open Go.RowKit

theorem bdy_none {v : List UInt8} (h : (bdyR v).2 = false) : bdyR v = ([], false) := by
  unfold bdyR at h ⊢
  split at h
  · rename_i h1; rw [if_pos h1]
  · rename_i h1
    rw [if_neg h1]
    split at h
    · rename_i h2; rw [if_pos h2]
    · cases h
theorem bdy_right {v : List UInt8} (h : (bdyR v).2 = true) : rightB (bdyR v).1 = true := by
  unfold bdyR at h ⊢
  split at h
  · cases h
  · rename_i h1
    rw [if_neg h1]
    split at h
    · cases h
    · rename_i h2
      rw [if_neg h2]
      cases hr : rightB (unqR (frontR (trimL (Lib.cut v [59]).2.1) bdL).1) with
      | true => rfl
      | false => exact absurd hr h2
theorem trimPre_len (s p : List UInt8) : (Lib.trimPrefix s p).length ≤ s.length := by
  unfold Lib.trimPrefix
  split
  · rw [List.length_drop]; omega
  · exact Nat.le_refl _
theorem part_small {s b : List UInt8} {n v r : List UInt8} (h : partR s b = some ((n, v), r)) : n.length ≤ s.length ∧ v.length ≤ s.length + 2 := by
  unfold partR at h
  split at h
  · cases h
  · cases hk : skipL (Lib.cut s nlL).2.1 with
    | none => rw [hk] at h; cases h
    | some q =>
      rw [hk] at h
      dsimp only at h
      split at h
      · cases h
      · have e := Option.some.inj h
        obtain ⟨l1, l2⟩ := cut_len s nlL
        obtain ⟨l3, l4⟩ := cut_len (nlL ++ q) (nlL ++ lineM b)
        have l5 := skip_len hk
        have e2 : nlL.length = 2 := rfl
        rw [List.length_append, e2] at l3
        have e3 := congrArg (fun x => x.1.1) e
        have e4 := congrArg (fun x => x.1.2) e
        dsimp only at e3 e4
        have m1 : n.length ≤ s.length := by
          rw [← e3]
          exact Nat.le_trans (trimSuf_len _ _) (Nat.le_trans (front_len _ _) l1)
        have m2 : v.length ≤ s.length + 2 := by
          rw [← e4]
          have := trimPre_len (Lib.cut (nlL ++ q) (nlL ++ lineM b)).1 nlL
          omega
        exact ⟨m1, m2⟩
theorem partsR_facts {b : List UInt8} (hb : rightB b = true) (most : Int) (N : Nat) : ∀ (f : Nat) (s : List UInt8) (out : List PartV), s.length ≤ N → (∀ a ∈ out, a.1.length + a.2.length ≤ 2 * N + 2) →
    ((partsR f s b most out).1 ≠ 0 → (partsR f s b most out).2 = []) ∧ ∀ a ∈ (partsR f s b most out).2, a.1.length + a.2.length ≤ 2 * N + 2
  | 0, s, out, _, _ => ⟨fun _ => rfl, fun a ha => by cases ha⟩
  | f + 1, s, out, hs, ho => by
    rw [partsR]
    by_cases h1 : s = [45, 45, 13, 10]
    · rw [if_pos h1]; exact ⟨fun h => absurd rfl h, ho⟩
    rw [if_neg h1]
    by_cases h2 : Lib.hasPrefix s nlL = false
    · rw [if_pos h2]; exact ⟨fun _ => rfl, fun a ha => by cases ha⟩
    rw [if_neg h2]
    have hd : (s.drop 2).length ≤ N := by rw [List.length_drop]; omega
    cases hp : partR (s.drop 2) b with
    | none => exact ⟨fun _ => rfl, fun a ha => by cases ha⟩
    | some z =>
      obtain ⟨⟨n, v⟩, r⟩ := z
      dsimp only
      by_cases h3 : most ≤ (out.length : Int)
      · rw [if_pos h3]; exact ⟨fun _ => rfl, fun a ha => by cases ha⟩
      · rw [if_neg h3]
        obtain ⟨k1, k2⟩ := part_small hp
        have k3 := (part_good hb hp).2
        refine partsR_facts hb most N f r (out ++ [(n, v)]) (by omega) fun a ha => ?_
        rcases List.mem_append.1 ha with ha | ha
        · exact ho a ha
        · rw [List.mem_singleton.1 ha]
          show n.length + v.length ≤ _
          omega
theorem partsL_facts {s b : List UInt8} (most : Int) : ((partsL s b most).1 ≠ 0 → (partsL s b most).2 = []) ∧ ∀ a ∈ (partsL s b most).2, a.1.length + a.2.length ≤ 8194 := by
  unfold partsL
  by_cases hb : rightB b = false
  · rw [if_pos hb]; exact ⟨fun _ => rfl, fun a ha => by cases ha⟩
  rw [if_neg hb]
  by_cases h1 : 4096 < s.length
  · rw [if_pos h1]; exact ⟨fun _ => rfl, fun a ha => by cases ha⟩
  rw [if_neg h1]
  by_cases h2 : Lib.hasPrefix s (lineM b) = false
  · rw [if_pos h2]; exact ⟨fun _ => rfl, fun a ha => by cases ha⟩
  rw [if_neg h2]
  exact partsR_facts (by cases h : rightB b with | true => rfl | false => exact absurd h hb) most 4096 _ _ _ (by rw [List.length_drop]; omega) fun a ha => by cases ha
theorem pair_back (l : List PartV) : (l.map pairB).map toP = l := by
  rw [List.map_map]
  conv => rhs; rw [← List.map_id l]
  rfl
theorem bdy_c : bdyR [109, 117, 108, 116, 105, 112, 97, 114, 116, 47, 70, 79, 82, 77, 45, 100, 97, 116, 97, 59, 32, 66, 111, 117, 110, 100, 97, 114, 121, 61, 34, 120, 34] = ([120], true) := by decide +kernel

set_option maxRecDepth 100000 in
set_option maxHeartbeats 6400000 in
theorem multiBounds_any (v s : ByteArray) (w : World) (hv : v.size ≤ 1048576) (hs : s.size ≤ 1048576) (hlib : LibOk w) :
    Calls Try.prog 6 #[.string v, .string s] w fun e w' => e = .returned (.bool true) ∧ Below w.heap.size w w' := by
  have HL : Hid (∀ W, Below w.heap.size w W → LibOk W) := fun W h => hlib.below h
  have hc := Boundary_any (ByteArray.mk #[109, 117, 108, 116, 105, 112, 97, 114, 116, 47, 70, 79, 82, 77, 45, 100, 97, 116, 97, 59, 32, 66, 111, 117, 110, 100, 97, 114, 121, 61, 34, 120, 34]) w (by decide) hlib
  have ec : (ByteArray.mk #[109, 117, 108, 116, 105, 112, 97, 114, 116, 47, 70, 79, 82, 77, 45, 100, 97, 116, 97, 59, 32, 66, 111, 117, 110, 100, 97, 114, 121, 61, 34, 120, 34]).data.toList = [109, 117, 108, 116, 105, 112, 97, 114, 116, 47, 70, 79, 82, 77, 45, 100, 97, 116, 97, 59, 32, 66, 111, 117, 110, 100, 97, 114, 121, 61, 34, 120, 34] := rfl
  rw [ec, bdy_c] at hc
  have hc2 : Calls Try.prog 20 #[.string (ByteArray.mk #[109, 117, 108, 116, 105, 112, 97, 114, 116, 47, 70, 79, 82, 77, 45, 100, 97, 116, 97, 59, 32, 66, 111, 117, 110, 100, 97, 114, 121, 61, 34, 120, 34])] w fun e w' => e = .returned (.tuple #[.string (ByteArray.mk #[120]), .bool true]) ∧ Below w.heap.size w w' := hc
  have HC := Lib.hid hc2
  have HV : Hid (∀ W, Below w.heap.size w W → Calls Try.prog 20 #[.string v] W fun e w' => e = .returned (.tuple #[.string (bs (bdyR v.data.toList).1), .bool (bdyR v.data.toList).2]) ∧ Below W.heap.size W w') := fun W h => Boundary_any v W (by omega) (HL.out W h)
  clear hc hc2 ec hlib
  have hno : (bdyR v.data.toList).2 = false → bdyR v.data.toList = ([], false) := bdy_none
  have hyes : (bdyR v.data.toList).2 = true → rightB (bdyR v.data.toList).1 = true := bdy_right
  generalize bdyR v.data.toList = R at *
  obtain ⟨B, o⟩ := R
  dsimp only at hno hyes HV
  cases o with
  | false =>
    have e0 := congrArg Prod.fst (hno rfl)
    dsimp only at e0
    subst e0
    clear hno hyes

    go_enter Try.func6, Try.ntmps6
    go_wp2_with (go_at_call 20; apply Hid.out)
    unfold Hid
    refine HC.out.mono ?_
    rintro e w1 ⟨rfl, hb1⟩
    have HB1 := Lib.hid hb1
    clear hb1 HC
    go_wp2_with (go_at_call 20; apply Hid.out)
    unfold Hid
    refine (HV.out w1 HB1.out).mono ?_
    rintro e w2 ⟨rfl, hb2⟩
    have HB2 := Lib.hid (HB1.out.trans (hb2.mono HB1.out.size))
    clear hb2 HB1 HV
    go_wp2_with fail
    go_ret
    exact ⟨rfl, HB2.out⟩
  | true =>
  have hrb := hyes rfl
  clear hno hyes
  have hbl := (right_len hrb).2
  have hJ0 : ∀ W, Below w.heap.size w W → Calls Try.prog 17 #[.slice none 0 0, .string (bs B)] W fun e w' => (∃ t, e = .returned (.tuple #[.string t, .int .i64 0])) ∧ Below W.heap.size W w' := fun W h => by
    have := MJoin_any [] none 0 (bs B) W (Sl.nil _ _ _ _) (by simp) (by rw [bs_size]; unfold maxLen; omega) (HL.out W h)
    have e : joinE ([].map toP) (bs B).data.toList = 0 := by unfold joinE; rw [bs_toList, hrb]; rfl
    unfold JoinPost at this
    rw [e] at this
    exact this.mono fun e w' h => ⟨⟨_, h.1⟩, h.2⟩
  have HJ0 := Lib.hid hJ0
  have hP : ∀ W, Below w.heap.size w W → Calls Try.prog 18 #[.string s, .string (bs B), .int .i64 20] W (PartsPost (partsL s.data.toList B 20) W) := fun W h =>
    MParts_any s (bs B) 20 W (by unfold maxLen; omega) (by rw [bs_size]; unfold maxLen; omega) (HL.out W h)
  have hfac := partsL_facts (s := s.data.toList) (b := B) 20
  have hpj : ∀ l, partsL s.data.toList B 20 = (0, l) → joinE l B = 0 := fun l h => parts_join h
  generalize partsL s.data.toList B 20 = F at *
  obtain ⟨x, l⟩ := F
  dsimp only at hfac
  have HP := Lib.hid hP
  clear hJ0 hP
  by_cases hx : x = 0
  rotate_left
  · have hl0 := hfac.1 hx
    subst hl0
    have q0 : (x != 0) = true := bne_iff_ne.2 hx
    clear hfac hpj hx hrb hbl

    go_enter Try.func6, Try.ntmps6
    go_wp2_with (go_at_call 20; apply Hid.out)
    unfold Hid
    refine HC.out.mono ?_
    rintro e w1 ⟨rfl, hb1⟩
    have HB1 := Lib.hid hb1
    clear hb1 HC
    go_wp2_with (go_at_call 20; apply Hid.out)
    unfold Hid
    refine (HV.out w1 HB1.out).mono ?_
    rintro e w2 ⟨rfl, hb2⟩
    have HB2 := Lib.hid (HB1.out.trans (hb2.mono HB1.out.size))
    clear hb2 HB1 HV

    go_wp2_with (go_at_call 17; apply Hid.out)
    unfold Hid
    refine (HJ0.out w2 HB2.out).mono ?_
    rintro e w3 ⟨⟨t0, rfl⟩, hb3⟩
    have HB3 := Lib.hid (HB2.out.trans (hb3.mono HB2.out.size))
    clear hb3 HJ0

    go_wp2_with (go_at_call 18; apply Hid.out)
    unfold Hid
    refine (HP.out w3 HB3.out).mono ?_
    rintro e w4 ⟨vv, rfl, hO4, hb4⟩
    have HB4 := Lib.hid (HB3.out.trans (hb4.mono HB3.out.size))
    clear hb4 HP

    obtain ⟨Ao, co, rfl, _⟩ := hO4.form
    clear hO4
    go_wp2_with fail
    go_ret
    exact ⟨rfl, HB4.out⟩
  subst hx
  have hje := hpj l rfl
  have hpm : (l.map pairB).map toP = l := pair_back l
  have hz : ∀ y ∈ l.map pairB, y.1.size + y.2.size ≤ 4194304 := fun y hy => by
    obtain ⟨a, ha, rfl⟩ := List.mem_map.1 hy
    have := hfac.2 a ha
    show a.1.length + a.2.length ≤ _
    omega
  have hpb := join_back_m hje
  have hjl : (joinM l B).length ≤ 83900000 := by
    have := join_len (l := l.map pairB) (b := B) (by rw [hpm]; exact hje) hz
    rw [hpm] at this
    exact this
  have hlen : (l.map pairB).length ≤ 20 := by rw [List.length_map]; exact (joinE_zero hje).2
  have HJ : Hid (∀ W A c, Below w.heap.size w W → Sl W W.heap.size 2 A (l.map pairB).length ((l.map pairB).flatMap cellsA) → Calls Try.prog 17 #[.slice A (l.map pairB).length c, .string (bs B)] W fun e w' => e = .returned (.tuple #[.string (bs (joinM l B)), .int .i64 0]) ∧ Below W.heap.size W w') := fun W A c h h2 => by
    have := MJoin_any (l.map pairB) A c (bs B) W h2 hz (by rw [bs_size]; unfold maxLen; omega) (HL.out W h)
    unfold JoinPost at this
    rw [hpm, bs_toList, hje, if_pos rfl] at this
    exact this
  have hP2 : ∀ W, Below w.heap.size w W → Calls Try.prog 18 #[.string (bs (joinM l B)), .string (bs B), .int .i64 20] W (PartsPost (if 4096 < (joinM l B).length then (2, []) else (0, l)) W) := fun W h => by
    have := MParts_any (bs (joinM l B)) (bs B) 20 W (by rw [bs_size]; unfold maxLen; omega) (by rw [bs_size]; unfold maxLen; omega) (HL.out W h)
    rw [bs_toList, bs_toList, hpb] at this
    exact this
  generalize hJv : joinM l B = J at *
  have hbz : (bs J).size = J.length := rfl
  generalize bs J = S at *
  have HPF : Hid (∀ W e w', PartsPost (0, l) W e w' → ∃ A c, e = .returned (.tuple #[.slice A (l.map pairB).length c, .int .i64 0]) ∧ OwnA w' W.heap.size (.slice A (l.map pairB).length c) (l.map pairB) ∧ Below W.heap.size W w') := fun W e w' h => by
    obtain ⟨vv, h1, h2, h3⟩ := h
    obtain ⟨A, c, rfl, _⟩ := h2.form
    exact ⟨A, c, h1, h2, h3⟩
  generalize hPO : l.map pairB = PO at *
  clear hfac hpj hrb hje hpb hz hpm hJv hPO
  by_cases hlong : 4096 < J.length
  · have hP3 : ∀ W, Below w.heap.size w W → Calls Try.prog 18 #[.string S, .string (bs B), .int .i64 20] W (PartsPost (2, []) W) := fun W h => by
      have := hP2 W h
      rw [if_pos hlong] at this
      exact this
    have HP2 := Lib.hid hP3
    have d1 : decide ((4096 : Int) < (S.size : Int)) = true := decide_eq_true (by omega)
    clear hP2 hP3 hlong hbz hjl

    go_enter Try.func6, Try.ntmps6
    go_wp2_with (go_at_call 20; apply Hid.out)
    unfold Hid
    refine HC.out.mono ?_
    rintro e w1 ⟨rfl, hb1⟩
    have HB1 := Lib.hid hb1
    clear hb1 HC
    go_wp2_with (go_at_call 20; apply Hid.out)
    unfold Hid
    refine (HV.out w1 HB1.out).mono ?_
    rintro e w2 ⟨rfl, hb2⟩
    have HB2 := Lib.hid (HB1.out.trans (hb2.mono HB1.out.size))
    clear hb2 HB1 HV

    go_wp2_with (go_at_call 17; apply Hid.out)
    unfold Hid
    refine (HJ0.out w2 HB2.out).mono ?_
    rintro e w3 ⟨⟨t0, rfl⟩, hb3⟩
    have HB3 := Lib.hid (HB2.out.trans (hb3.mono HB2.out.size))
    clear hb3 HJ0

    go_wp2_with (go_at_call 18; apply Hid.out)
    unfold Hid
    refine (HP.out w3 HB3.out).mono ?_
    rintro e w4 hp4
    obtain ⟨Ao, co, rfl, hO4, hb4⟩ := HPF.out _ _ _ hp4
    have HB4 := Lib.hid (HB3.out.trans (hb4.mono HB3.out.size))
    have HS4 := Lib.hid (ownA_sl hO4)
    clear hp4 hb4 HP hO4
    go_wp2_with (go_at_call 17; apply Hid.out)
    unfold Hid
    refine (HJ.out w4 Ao co HB4.out HS4.out).mono ?_
    rintro e w5 ⟨rfl, hb5⟩
    have HB5 := Lib.hid (HB4.out.trans (hb5.mono HB4.out.size))
    clear hb5 HJ

    go_wp2_with (go_at_call 18; apply Hid.out)
    unfold Hid
    refine (HP2.out w5 HB5.out).mono ?_
    rintro e w6 ⟨vv, rfl, _, hb6⟩
    have HB6 := Lib.hid (HB5.out.trans (hb6.mono HB5.out.size))
    clear hb6 HP2

    go_wp2_with fail
    go_ret
    exact ⟨rfl, HB6.out⟩
  · have hP3 : ∀ W, Below w.heap.size w W → Calls Try.prog 18 #[.string S, .string (bs B), .int .i64 20] W (PartsPost (0, l) W) := fun W h => by
      have := hP2 W h
      rw [if_neg hlong] at this
      exact this
    have HP2 := Lib.hid hP3
    have d1 : decide ((4096 : Int) < (S.size : Int)) = false := decide_eq_false (by omega)
    clear hP2 hP3 hlong hbz hjl

    go_enter Try.func6, Try.ntmps6
    go_wp2_with (go_at_call 20; apply Hid.out)
    unfold Hid
    refine HC.out.mono ?_
    rintro e w1 ⟨rfl, hb1⟩
    have HB1 := Lib.hid hb1
    clear hb1 HC
    go_wp2_with (go_at_call 20; apply Hid.out)
    unfold Hid
    refine (HV.out w1 HB1.out).mono ?_
    rintro e w2 ⟨rfl, hb2⟩
    have HB2 := Lib.hid (HB1.out.trans (hb2.mono HB1.out.size))
    clear hb2 HB1 HV

    go_wp2_with (go_at_call 17; apply Hid.out)
    unfold Hid
    refine (HJ0.out w2 HB2.out).mono ?_
    rintro e w3 ⟨⟨t0, rfl⟩, hb3⟩
    have HB3 := Lib.hid (HB2.out.trans (hb3.mono HB2.out.size))
    clear hb3 HJ0

    go_wp2_with (go_at_call 18; apply Hid.out)
    unfold Hid
    refine (HP.out w3 HB3.out).mono ?_
    rintro e w4 hp4
    obtain ⟨Ao, co, rfl, hO4, hb4⟩ := HPF.out _ _ _ hp4
    have HB4 := Lib.hid (HB3.out.trans (hb4.mono HB3.out.size))
    have HO4 := Lib.hid hO4
    have HS4 := Lib.hid (ownA_sl hO4)
    clear hp4 hb4 HP hO4
    go_wp2_with (go_at_call 17; apply Hid.out)
    unfold Hid
    refine (HJ.out w4 Ao co HB4.out HS4.out).mono ?_
    rintro e w5 ⟨rfl, hb5⟩
    have HB5 := Lib.hid (HB4.out.trans (hb5.mono HB4.out.size))
    have HO5 := Lib.hid (HO4.out.below hb5)
    clear hb5 HJ HO4
    go_wp2_with (go_at_call 18; apply Hid.out)
    unfold Hid
    refine (HP2.out w5 HB5.out).mono ?_
    rintro e w6 hp6
    obtain ⟨Am, cm, rfl, hO6, hb6⟩ := HPF.out _ _ _ hp6
    have HB6 := Lib.hid (HB5.out.trans (hb6.mono HB5.out.size))
    have HEQ := Lib.hid (EqualA_yes PO Ao Am co cm w6 (ownA_sl (HO5.out.below hb6)) (ownA_sl hO6) (by omega))
    clear hp6 hb6 HP2 hO6 HO5
    go_wp2_with (go_at_call 19; apply Hid.out)
    unfold Hid
    refine (HEQ.out).mono ?_
    rintro e w7 ⟨rfl, hb7⟩
    have HB7 := Lib.hid (HB6.out.trans (hb7.mono HB6.out.size))
    clear hb7 HEQ

    go_wp2_with fail
    go_ret
    exact ⟨rfl, HB7.out⟩
end Go.Proofs.Ytchoenfclfafiaa
