/- The laws and walks of CodingOne. -/
import Derived.Test.YteinbjopclblaaaB64D
import Derived.Test.YteinbjopclblaaaOLower
namespace Go.Proofs.Yteinbjopclblaaa
open Go.RowKit

theorem urlB_all (b : UInt8) : (urlB b = [b] ∧ b ≠ 43 ∧ b ≠ 37) ∨ (b = 32 ∧ urlB b = [43]) ∨ (urlB b = [37, hexU (b >>> 4), hexU (b &&& 15)] ∧ 0 ≤ digitI (hexU (b >>> 4)) ∧ 0 ≤ digitI (hexU (b &&& 15)) ∧ digitI (hexU (b >>> 4)) * 16 + digitI (hexU (b &&& 15)) = (b.toNat : Int)) :=
  of_decide_eq_true (all_bytes (p := fun b => decide ((urlB b = [b] ∧ b ≠ 43 ∧ b ≠ 37) ∨ (b = 32 ∧ urlB b = [43]) ∨ (urlB b = [37, hexU (b >>> 4), hexU (b &&& 15)] ∧ 0 ≤ digitI (hexU (b >>> 4)) ∧ 0 ≤ digitI (hexU (b &&& 15)) ∧ digitI (hexU (b >>> 4)) * 16 + digitI (hexU (b &&& 15)) = (b.toNat : Int)))) (by decide +kernel) b)
theorem urlDec_back (l : List UInt8) : urlDecL (urlEncL l) = l := by
  induction l with
  | nil => rfl
  | cons b l ih =>
    have e : urlEncL (b :: l) = urlB b ++ urlEncL l := by simp [urlEncL]
    rw [e]
    unfold urlDecL at *
    rcases urlB_all b with ⟨h, h1, h2⟩ | ⟨h1, h⟩ | ⟨h, h1, h2, h3⟩
    · have hs : urlStep b (urlEncL l) = ([b], 0) := by unfold urlStep; rw [if_neg h1, if_neg (fun h => h2 h.1)]
      rw [h, List.cons_append, List.nil_append, scan_cons, hs, List.drop_zero, ih]; rfl
    · have hs : urlStep 43 (urlEncL l) = ([32], 0) := by unfold urlStep; rw [if_pos rfl]
      rw [h, List.cons_append, List.nil_append, scan_cons, hs, List.drop_zero, ih, h1]; rfl
    · have hp : pairI (hexU (b >>> 4) :: hexU (b &&& 15) :: urlEncL l) = b.toNat := by
        rw [pairI_cons, if_neg (by omega), h3]
      have hs : urlStep 37 (hexU (b >>> 4) :: hexU (b &&& 15) :: urlEncL l) = ([b], 2) := by
        unfold urlStep
        rw [if_neg (by decide), if_pos ⟨rfl, by rw [hp]; omega⟩, hp, Int.toNat_natCast, ofNat_is rfl]
      rw [h, List.cons_append, List.cons_append, List.cons_append, List.nil_append, scan_cons, hs]
      show [b] ++ scan urlStep (urlEncL l) = _
      rw [ih]; rfl

theorem digit_low (b : UInt8) : 0 ≤ digitI b → hexD (UInt8.ofNat (digitI b).toNat) = lowerB b ∧ digitI b < 16 :=
  of_decide_eq_true (all_bytes (p := fun b => decide (0 ≤ digitI b → hexD (UInt8.ofNat (digitI b).toNat) = lowerB b ∧ digitI b < 16)) (by decide +kernel) b)
theorem nib_all : ((List.range 16).all fun a => (List.range 16).all fun b => decide (UInt8.ofNat (a * 16 + b) >>> 4 = UInt8.ofNat a ∧ UInt8.ofNat (a * 16 + b) &&& 15 = UInt8.ofNat b)) = true := by decide +kernel
theorem nib_of (a b : Nat) (ha : a < 16) (hb : b < 16) : UInt8.ofNat (a * 16 + b) >>> 4 = UInt8.ofNat a ∧ UInt8.ofNat (a * 16 + b) &&& 15 = UInt8.ofNat b :=
  of_decide_eq_true (List.all_eq_true.1 (List.all_eq_true.1 nib_all a (List.mem_range.2 ha)) b (List.mem_range.2 hb))
theorem hex_one : ∀ (n : Nat) (l r : List UInt8), l.length ≤ n → hexDecL l = some r → hexEncL r = lowerL l := by
  intro n
  induction n with
  | zero =>
    intro l r hl h
    have : l = [] := List.eq_nil_of_length_eq_zero (by omega)
    subst this; rw [hexDec_nil] at h; cases h; rfl
  | succ n ih =>
    intro l r hl h
    by_cases h0 : l.length = 0
    · have : l = [] := List.eq_nil_of_length_eq_zero h0
      subst this; rw [hexDec_nil] at h; cases h; rfl
    · by_cases hp : pairI l < 0
      · rw [hexDec_bad l (by omega) hp] at h; cases h
      · rw [hexDec_step l (by omega) hp] at h
        obtain ⟨t, ht, rfl⟩ := Option.map_eq_some_iff.1 h
        match l, hl, hp, ht with
        | [], _, hp, _ => exact absurd (by decide) hp
        | [_], _, hp, _ => exact absurd (by show (-1 : Int) < 0; decide) hp
        | x :: y :: q, hl, hp, ht =>
          rw [pairI_cons] at hp ⊢
          by_cases hd : digitI x < 0 ∨ digitI y < 0
          · rw [if_pos hd] at hp; exact absurd (by decide) hp
          · rw [if_neg hd]
            obtain ⟨d1, d2⟩ := digit_low x (by omega)
            obtain ⟨d3, d4⟩ := digit_low y (by omega)
            have e := ih q t (by simp only [List.length_cons] at hl; omega) ht
            obtain ⟨n1, n2⟩ := nib_of (digitI x).toNat (digitI y).toNat (by omega) (by omega)
            rw [show (digitI x * 16 + digitI y).toNat = (digitI x).toNat * 16 + (digitI y).toNat by omega]
            show hexB _ ++ hexEncL t = lowerB x :: lowerB y :: lowerL q
            unfold hexB
            rw [n1, n2, d1, d3, e]; rfl

theorem b64_dlen (l b : List UInt8) (h : b64D l = some b) : b.length ≤ l.length := by
  have e := b64_one l b h
  rw [← e, b64_split, List.length_append]
  have : ∀ l : List UInt8, l.length ≤ (b64B l).length := by
    intro l
    induction l using three_ind with
    | h0 => exact Nat.le_refl _
    | h1 a => show 1 ≤ 2; decide
    | h2 a b => show 2 ≤ 3; decide
    | h3 a b c r ih =>
      rw [b64B, List.length_append, show (grp (b64N a.toNat b.toNat c.toNat)).length = 4 from rfl, List.length_cons, List.length_cons, List.length_cons]
      omega
  have := this b
  omega
theorem one_a : hexDecL (ByteArray.mk #[52, 65, 52, 98]).data.toList = some [74, 75] := by decide

set_option maxRecDepth 100000 in
set_option maxHeartbeats 1600000 in
theorem codingOne_any (s : ByteArray) (w : World) (hs : s.size ≤ 140737488351232) :
    Calls Try.prog 12 #[.string s] w fun e w' => e = .returned (.bool true) ∧ Below w.heap.size w w' := by
  have hL : s.data.toList.length = s.size := by simp
  obtain ⟨o, ho⟩ : ∃ o, hexDecL s.data.toList = o := ⟨_, rfl⟩
  obtain ⟨p, hp⟩ : ∃ p, b64D s.data.toList = p := ⟨_, rfl⟩
  have HO := Lib.hid ho
  have HP := Lib.hid hp
  cases o with
  | none =>
    cases p with
    | none =>
      clear ho hp hL
      go_enter Try.func12, Try.ntmps12
      go_wp2_with fail
      refine (HexDecode_any _ _ (by decide)).mono ?_
      rintro e w1 ⟨rfl, hb1⟩
      rw [one_a]
      simp only [strRes]
      go_wp2_with fail
      refine (HexDecode_any _ _ (by omega)).mono ?_
      rintro e w2 ⟨rfl, hb2⟩
      rw [HO.out]
      simp only [strRes]
      go_wp2_with fail
      refine (Base64Decode_any _ _ (by omega)).mono ?_
      rintro e w5 ⟨rfl, hb5⟩
      rw [HP.out]
      simp only [strRes]
      go_wp2_with fail
      have g2 := hb1.trans (hb2.mono hb1.size)
      have g5 := g2.trans (hb5.mono g2.size)
      go_ret
      exact ⟨rfl, g5⟩
    | some b =>
      have HB := Lib.hid (b64_one _ _ hp)
      have heq : (s.data.toList == s.toList) = true := by rw [Lib.toList_data]; exact beq_self_eq_true _
      have zb : (b64E (bs b).data.toList).length ≤ 140737488351232 := by rw [bs_toList, b64_one _ _ hp]; omega
      clear ho hp hL
      go_enter Try.func12, Try.ntmps12
      go_wp2_with fail
      refine (HexDecode_any _ _ (by decide)).mono ?_
      rintro e w1 ⟨rfl, hb1⟩
      rw [one_a]
      simp only [strRes]
      go_wp2_with fail
      refine (HexDecode_any _ _ (by omega)).mono ?_
      rintro e w2 ⟨rfl, hb2⟩
      rw [HO.out]
      simp only [strRes]
      go_wp2_with fail
      refine (Base64Decode_any _ _ (by omega)).mono ?_
      rintro e w5 ⟨rfl, hb5⟩
      rw [HP.out]
      simp only [strRes]
      go_wp2_with fail
      refine (Base64Encode_any _ _ zb).mono ?_
      rintro e w6 ⟨rfl, hb6⟩
      rw [bs_toList, HB.out]
      go_wp2_with fail
      have g2 := hb1.trans (hb2.mono hb1.size)
      have g5 := g2.trans (hb5.mono g2.size)
      have g6 := g5.trans (hb6.mono g5.size)
      go_ret
      exact ⟨rfl, g6⟩
  | some a =>
    cases p with
    | none =>
      have HA := Lib.hid (hex_one _ _ _ (Nat.le_refl _) ho)
      have hln := hexDec_len _ _ _ (Nat.le_refl _) ho
      have za : (bs a).size ≤ 70368744177664 := by rw [bs_size]; omega
      clear ho hp hL hln
      go_enter Try.func12, Try.ntmps12
      go_wp2_with fail
      refine (HexDecode_any _ _ (by decide)).mono ?_
      rintro e w1 ⟨rfl, hb1⟩
      rw [one_a]
      simp only [strRes]
      go_wp2_with fail
      refine (HexDecode_any _ _ (by omega)).mono ?_
      rintro e w2 ⟨rfl, hb2⟩
      rw [HO.out]
      simp only [strRes]
      go_wp2_with fail
      refine (HexEncode_any _ _ za).mono ?_
      rintro e w3 ⟨rfl, hb3⟩
      rw [bs_toList, HA.out]
      go_wp2_with fail
      refine (Lower_any _ _ (by unfold maxLen; omega)).mono ?_
      rintro e w4 ⟨rfl, hb4⟩
      go_wp2_with fail
      refine (Base64Decode_any _ _ (by omega)).mono ?_
      rintro e w5 ⟨rfl, hb5⟩
      rw [HP.out]
      simp only [strRes]
      go_wp2_with fail
      have g2 := hb1.trans (hb2.mono hb1.size)
      have g3 := g2.trans (hb3.mono g2.size)
      have g4 := g3.trans (hb4.mono g3.size)
      have g5 := g4.trans (hb5.mono g4.size)
      go_ret
      exact ⟨rfl, g5⟩
    | some b =>
      have HA := Lib.hid (hex_one _ _ _ (Nat.le_refl _) ho)
      have hln := hexDec_len _ _ _ (Nat.le_refl _) ho
      have za : (bs a).size ≤ 70368744177664 := by rw [bs_size]; omega
      have HB := Lib.hid (b64_one _ _ hp)
      have heq : (s.data.toList == s.toList) = true := by rw [Lib.toList_data]; exact beq_self_eq_true _
      have zb : (b64E (bs b).data.toList).length ≤ 140737488351232 := by rw [bs_toList, b64_one _ _ hp]; omega
      clear ho hp hL hln
      go_enter Try.func12, Try.ntmps12
      go_wp2_with fail
      refine (HexDecode_any _ _ (by decide)).mono ?_
      rintro e w1 ⟨rfl, hb1⟩
      rw [one_a]
      simp only [strRes]
      go_wp2_with fail
      refine (HexDecode_any _ _ (by omega)).mono ?_
      rintro e w2 ⟨rfl, hb2⟩
      rw [HO.out]
      simp only [strRes]
      go_wp2_with fail
      refine (HexEncode_any _ _ za).mono ?_
      rintro e w3 ⟨rfl, hb3⟩
      rw [bs_toList, HA.out]
      go_wp2_with fail
      refine (Lower_any _ _ (by unfold maxLen; omega)).mono ?_
      rintro e w4 ⟨rfl, hb4⟩
      go_wp2_with fail
      refine (Base64Decode_any _ _ (by omega)).mono ?_
      rintro e w5 ⟨rfl, hb5⟩
      rw [HP.out]
      simp only [strRes]
      go_wp2_with fail
      refine (Base64Encode_any _ _ zb).mono ?_
      rintro e w6 ⟨rfl, hb6⟩
      rw [bs_toList, HB.out]
      go_wp2_with fail
      have g2 := hb1.trans (hb2.mono hb1.size)
      have g3 := g2.trans (hb3.mono g2.size)
      have g4 := g3.trans (hb4.mono g3.size)
      have g5 := g4.trans (hb5.mono g4.size)
      have g6 := g5.trans (hb6.mono g5.size)
      go_ret
      exact ⟨rfl, g6⟩

end Go.Proofs.Yteinbjopclblaaa
