/- The walk of Base64Decode. -/
import Derived.Test.YtdbipccopijgeaaDoorB64E
namespace Go.Proofs.YtdbipccopijgeaaDoor
open Go.RowKit

def D64Rel (s : ByteArray) (w : World) (v n b i : Value) (wr : World) : Prop :=
  ∃ (k m bt : Nat) (acc : List UInt8), k ≤ s.size ∧ i = .int .i64 k ∧ n = .int .u32 m ∧ b = .int .i64 bt ∧ (bt = 0 ∧ m = 0 ∨ bt = 2 ∧ m < 4 ∨ bt = 4 ∧ m < 16 ∨ bt = 6 ∧ m < 64) ∧ acc.length ≤ k ∧ OwnB wr w.heap.size v acc ∧
    decGo 0 0 s.data.toList = (decGo m bt (s.data.toList.drop k)).map (acc ++ ·) ∧ Below w.heap.size w wr

theorem or_dec (m k : Nat) (hm : m < 64) (hk : k < 64) : bits .or .u32 ((m : Int) * 64) (k : Int) = ((m * 64 + k : Nat) : Int) := by
  rw [or_b64 _ _ 6 (by omega) (by omega) (by omega) (by omega) (by omega) (by omega)]; omega

theorem and_mask (M i : Nat) (h : M < 4294967296) (hi : i ≤ 32) : bits .and .u32 (M : Int) (2 ^ i - 1) = ((M % 2 ^ i : Nat) : Int) := by
  rw [bits_mask .u32 32 (by decide) (fun n h0 h1 => by rw [IntKind.wrap_u32]; omega) i hi (M : Int) (by omega) (by omega)]; simp
theorem TrimE_any (t : ByteArray) (W : World) (h : t.size ≤ 140737488351232) : Calls Tryd.prog 106 #[.string t, .string (ByteArray.mk #[61])] W fun e w' => e = .returned (.string (bs (trimE t.data.toList))) ∧ w' = W :=
  Tryd.strings_TrimSuffix t (ByteArray.mk #[61]) W (by omega)

set_option maxRecDepth 100000 in
set_option maxHeartbeats 3200000 in
theorem Base64Decode_any (s : ByteArray) (w : World) (hs : s.size ≤ 140737488351232) :
    Calls Tryd.prog 85 #[.string s] w (ResPost (strRes 4 (b64D s.data.toList)) w) := by
  have hL : s.data.toList.length = s.size := by simp
  by_cases h4 : s.size % 4 = 0
  · have q4 : ((s.size : Int) % 4 != 0) = false := by rw [show (s.size : Int) % 4 = 0 by omega]; rfl
    have HD : Hid (b64D s.data.toList = decGo 0 0 (trimE (trimE s.data.toList))) := by unfold Hid b64D; rw [if_neg (by omega)]
    have z1 : (bs (trimE s.data.toList)).size ≤ s.size := by
      rw [bs_size]; rcases trimE_cases s.data.toList with ⟨e, -⟩ | e
      · rw [e]; omega
      · have := congrArg List.length e; rw [List.length_append] at this; omega
    have z2 : (bs (trimE (trimE s.data.toList))).size ≤ s.size := by
      rw [bs_size] at z1 ⊢; rcases trimE_cases (trimE s.data.toList) with ⟨e, -⟩ | e
      · rw [e]; omega
      · have := congrArg List.length e; rw [List.length_append] at this; omega
    clear hL h4
    go_enter Tryd.func85, Tryd.ntmps85
    go_wp2_with fail
    refine (TrimE_any _ _ hs).mono ?_
    rintro e w1 ⟨rfl, hw⟩
    have hw := hw.symm
    subst hw
    go_wp2_with fail
    refine (TrimE_any _ _ (by omega)).mono ?_
    rintro e w1 ⟨rfl, hw⟩
    have hw := hw.symm
    subst hw
    rw [bs_toList]
    obtain ⟨z, hz⟩ : ∃ z, bs (trimE (trimE s.data.toList)) = z := ⟨_, rfl⟩
    rw [hz] at z2 ⊢
    have HD2 : Hid (b64D s.data.toList = decGo 0 0 z.data.toList) := by unfold Hid; rw [HD.out, ← hz]; rfl
    clear hz HD z1
    have hL : Hid (z.data.toList.length = z.size) := by unfold Hid; simp
    go_wp2_with fail
    go_loopw [5, 6, 7, 19] (fun v n b i wr => D64Rel z w v n b i wr) (fun _ _ _ i _ => z.size - (intOf i).toNat)
    case atStart => exact ⟨0, 0, 0, [], Nat.zero_le _, rfl, rfl, rfl, .inl ⟨rfl, rfl⟩, Nat.le_refl _, OwnB.nil _ _, by simp, Below.refl _ _⟩
    case round =>
      obtain ⟨k, m, bt, acc, hk, rfl, rfl, rfl, hbm, hacc, hown, hr, hbl⟩ := hrel
      have hbase := hbl.size
      have HR := Lib.hid hr
      clear hr
      by_cases hlt : k < z.size
      · have HDC := Lib.hid (drop_cons z k hlt)
        have hlt' : (k : Int) < (z.size : Int) := by omega
        have hia := idx_all z[k]
        obtain ⟨x, hx⟩ : ∃ x, idx z[k] = x := ⟨_, rfl⟩
        have HB := Lib.hid (fun (h : idx z[k] < 0) n b => dec_bad n b z[k] (z.data.toList.drop (k + 1)) h)
        have H0 := Lib.hid (fun (h : ¬ idx z[k] < 0) n => dec_0 n z[k] (z.data.toList.drop (k + 1)) h)
        have H2 := Lib.hid (fun (h : ¬ idx z[k] < 0) n => dec_2 n z[k] (z.data.toList.drop (k + 1)) h)
        have H4 := Lib.hid (fun (h : ¬ idx z[k] < 0) n => dec_4 n z[k] (z.data.toList.drop (k + 1)) h)
        have H6 := Lib.hid (fun (h : ¬ idx z[k] < 0) n => dec_6 n z[k] (z.data.toList.drop (k + 1)) h)
        rw [hx] at HB H0 H2 H4 H6 hia
        obtain ⟨x1, x2, -⟩ := hia
        have HX := Lib.hid hx
        clear hx
        by_cases hneg : x < 0
        · have HF := Lib.hid (HB.out hneg m bt)
          clear HB H0 H2 H4 H6
          go_wp2_with (go_at_call 103; refine (IndexByte_any _ _ _).mono ?_; rintro e w' ⟨rfl, rfl⟩; rw [show (Lib.indexByte (ByteArray.mk #[65, 66, 67, 68, 69, 70, 71, 72, 73, 74, 75, 76, 77, 78, 79, 80, 81, 82, 83, 84, 85, 86, 87, 88, 89, 90, 97, 98, 99, 100, 101, 102, 103, 104, 105, 106, 107, 108, 109, 110, 111, 112, 113, 114, 115, 116, 117, 118, 119, 120, 121, 122, 48, 49, 50, 51, 52, 53, 54, 55, 56, 57, 43, 47]).data.toList z[k] = x) from HX.out])
          go_ret2
          exact ⟨by rw [HD2.out, HR.out, HDC.out, HF.out]; rfl, hbl⟩
        · obtain ⟨y, rfl⟩ := Int.eq_ofNat_of_zero_le (Int.not_lt.1 hneg)
          rw [Int.toNat_natCast] at H0 H2 H4 H6
          have H0 := Lib.hid (H0.out hneg)
          have H2 := Lib.hid (H2.out hneg)
          have H4 := Lib.hid (H4.out hneg)
          have H6 := Lib.hid (H6.out hneg)
          have hy : y < 64 := by omega
          clear HB hneg x1 x2
          have hor := or_dec m y (by omega) hy
          obtain ⟨M, hM⟩ : ∃ M, m * 64 + y = M := ⟨_, rfl⟩
          rw [hM] at hor
          rcases hbm with ⟨rfl, rfl⟩ | ⟨rfl, hm⟩ | ⟨rfl, hm⟩ | ⟨rfl, hm⟩
          · have HF := Lib.hid (H0.out 0)
            have hor0 : bits .or .u32 0 (y : Int) = y := by have := or_dec 0 y (by omega) hy; simpa using this
            clear H0 H2 H4 H6 hM hor
            go_wp2_with (go_at_call 103; refine (IndexByte_any _ _ _).mono ?_; rintro e w' ⟨rfl, rfl⟩; rw [show (Lib.indexByte (ByteArray.mk #[65, 66, 67, 68, 69, 70, 71, 72, 73, 74, 75, 76, 77, 78, 79, 80, 81, 82, 83, 84, 85, 86, 87, 88, 89, 90, 97, 98, 99, 100, 101, 102, 103, 104, 105, 106, 107, 108, 109, 110, 111, 112, 113, 114, 115, 116, 117, 118, 119, 120, 121, 122, 48, 49, 50, 51, 52, 53, 54, 55, 56, 57, 43, 47]).data.toList z[k] = y) from HX.out])
            exact ⟨⟨k + 1, y, 6, acc, by omega, by go_num, rfl, rfl, by omega, by omega, hown, by rw [HR.out, HDC.out, HF.out, Nat.zero_mul, Nat.zero_add], hbl⟩, by simp [intOf]; omega⟩
          · have HF := Lib.hid (H2.out m)
            rw [hM] at HF
            have hvs : Hid ([Value.int .u8 ((M : Int) % 256)] = [UInt8.ofNat (M)].map byteV) := by
              unfold Hid byteV; simp only [List.map_cons, List.map_nil, UInt8.toNat_ofNat']; rfl
            have hand : bits .and .u32 (M : Int) 0 = ((M % 1 : Nat) : Int) := and_mask M 0 (by omega) (by omega)
            obtain ⟨Q, hQ⟩ : ∃ Q, M % 1 = Q := ⟨_, rfl⟩
            have HMM := Lib.hid hM
            rw [hQ] at hand
            have HQ := Lib.hid hQ
            have hQ2 : Q < 1 := by omega
            clear H0 H2 H4 H6 hM hQ
            go_wp2_with (first | (go_at_call 103; refine (IndexByte_any _ _ _).mono ?_; rintro e w' ⟨rfl, rfl⟩; rw [show (Lib.indexByte (ByteArray.mk #[65, 66, 67, 68, 69, 70, 71, 72, 73, 74, 75, 76, 77, 78, 79, 80, 81, 82, 83, 84, 85, 86, 87, 88, 89, 90, 97, 98, 99, 100, 101, 102, 103, 104, 105, 106, 107, 108, 109, 110, 111, 112, 113, 114, 115, 116, 117, 118, 119, 120, 121, 122, 48, 49, 50, 51, 52, 53, 54, 55, 56, 57, 43, 47]).data.toList z[k] = y) from HX.out]) | (at_builtin; refine wpList_append_b rfl _ _ rfl w.heap.size _ acc rfl (by exact hown) (by exact hbase) _ [UInt8.ofNat (M)] hvs.out 1 1 rfl rfl (by omega) ?_; intro v' w1 hown1 hb1 hbs1))
            exact ⟨⟨k + 1, 0, 0, acc ++ [UInt8.ofNat (M)], by omega, by go_num, by go_num, rfl, by omega, by simp; omega, hown1, by rw [HR.out, HDC.out, HF.out, Option.map_map]; congr 1; funext y; simp, hbl.trans hb1⟩, by simp [intOf]; omega⟩
          · have HF := Lib.hid (H4.out m)
            rw [hM] at HF
            have hvs : Hid ([Value.int .u8 ((M : Int) / 4 % 256)] = [UInt8.ofNat (M / 4)].map byteV) := by
              unfold Hid byteV; simp only [List.map_cons, List.map_nil, UInt8.toNat_ofNat']; rfl
            have hand : bits .and .u32 (M : Int) 3 = ((M % 4 : Nat) : Int) := and_mask M 2 (by omega) (by omega)
            obtain ⟨Q, hQ⟩ : ∃ Q, M % 4 = Q := ⟨_, rfl⟩
            have HMM := Lib.hid hM
            rw [hQ] at hand HF
            have HQ := Lib.hid hQ
            have hQ2 : Q < 4 := by omega
            clear H0 H2 H4 H6 hM hQ
            go_wp2_with (first | (go_at_call 103; refine (IndexByte_any _ _ _).mono ?_; rintro e w' ⟨rfl, rfl⟩; rw [show (Lib.indexByte (ByteArray.mk #[65, 66, 67, 68, 69, 70, 71, 72, 73, 74, 75, 76, 77, 78, 79, 80, 81, 82, 83, 84, 85, 86, 87, 88, 89, 90, 97, 98, 99, 100, 101, 102, 103, 104, 105, 106, 107, 108, 109, 110, 111, 112, 113, 114, 115, 116, 117, 118, 119, 120, 121, 122, 48, 49, 50, 51, 52, 53, 54, 55, 56, 57, 43, 47]).data.toList z[k] = y) from HX.out]) | (at_builtin; refine wpList_append_b rfl _ _ rfl w.heap.size _ acc rfl (by exact hown) (by exact hbase) _ [UInt8.ofNat (M / 4)] hvs.out 1 1 rfl rfl (by omega) ?_; intro v' w1 hown1 hb1 hbs1))
            exact ⟨⟨k + 1, Q, 2, acc ++ [UInt8.ofNat (M / 4)], by omega, by go_num, rfl, rfl, by omega, by simp; omega, hown1, by rw [HR.out, HDC.out, HF.out, Option.map_map]; congr 1; funext y; simp, hbl.trans hb1⟩, by simp [intOf]; omega⟩
          · have HF := Lib.hid (H6.out m)
            rw [hM] at HF
            have hvs : Hid ([Value.int .u8 ((M : Int) / 16 % 256)] = [UInt8.ofNat (M / 16)].map byteV) := by
              unfold Hid byteV; simp only [List.map_cons, List.map_nil, UInt8.toNat_ofNat']; rfl
            have hand : bits .and .u32 (M : Int) 15 = ((M % 16 : Nat) : Int) := and_mask M 4 (by omega) (by omega)
            obtain ⟨Q, hQ⟩ : ∃ Q, M % 16 = Q := ⟨_, rfl⟩
            have HMM := Lib.hid hM
            rw [hQ] at hand HF
            have HQ := Lib.hid hQ
            have hQ2 : Q < 16 := by omega
            clear H0 H2 H4 H6 hM hQ
            go_wp2_with (first | (go_at_call 103; refine (IndexByte_any _ _ _).mono ?_; rintro e w' ⟨rfl, rfl⟩; rw [show (Lib.indexByte (ByteArray.mk #[65, 66, 67, 68, 69, 70, 71, 72, 73, 74, 75, 76, 77, 78, 79, 80, 81, 82, 83, 84, 85, 86, 87, 88, 89, 90, 97, 98, 99, 100, 101, 102, 103, 104, 105, 106, 107, 108, 109, 110, 111, 112, 113, 114, 115, 116, 117, 118, 119, 120, 121, 122, 48, 49, 50, 51, 52, 53, 54, 55, 56, 57, 43, 47]).data.toList z[k] = y) from HX.out]) | (at_builtin; refine wpList_append_b rfl _ _ rfl w.heap.size _ acc rfl (by exact hown) (by exact hbase) _ [UInt8.ofNat (M / 16)] hvs.out 1 1 rfl rfl (by omega) ?_; intro v' w1 hown1 hb1 hbs1))
            exact ⟨⟨k + 1, Q, 4, acc ++ [UInt8.ofNat (M / 16)], by omega, by go_num, rfl, rfl, by omega, by simp; omega, hown1, by rw [HR.out, HDC.out, HF.out, Option.map_map]; congr 1; funext y; simp, hbl.trans hb1⟩, by simp [intOf]; omega⟩
      · have HN : Hid (z.data.toList.drop k = []) := List.drop_eq_nil_of_le (by rw [hL.out]; omega)
        have hcv := hown.string
        clear hown
        by_cases hm : m = 0 ∧ bt ≠ 6
        · obtain ⟨rfl, hm⟩ := hm
          have HF : Hid (decGo 0 0 z.data.toList = some acc) := by unfold Hid; rw [HR.out, HN.out, decGo, if_neg (by omega)]; simp
          have qb : ((bt : Int) == 6) = false := beq_eq_false_iff_ne.2 (by omega)
          clear hbm
          go_wp2_with fail
          go_ret2
          exact ⟨by rw [HD2.out, HF.out]; rfl, hbl⟩
        · have HF : Hid (decGo 0 0 z.data.toList = none) := by unfold Hid; rw [HR.out, HN.out, decGo, if_pos (by omega)]; rfl
          by_cases hm0 : m = 0
          · have qm : ((m : Int) != 0) = false := by rw [hm0]; rfl
            have qb : ((bt : Int) == 6) = true := by rw [show bt = 6 by omega]; rfl
            clear hm hbm hm0
            go_wp2_with fail
            go_ret2
            exact ⟨by rw [HD2.out, HF.out]; rfl, hbl⟩
          · have qm : ((m : Int) != 0) = true := bne_iff_ne.2 (by omega)
            clear hm hbm hm0
            go_wp2_with fail
            go_ret2
            exact ⟨by rw [HD2.out, HF.out]; rfl, hbl⟩
  · have q4 : ((s.size : Int) % 4 != 0) = true := bne_iff_ne.2 (by omega)
    have HD : Hid (b64D s.data.toList = none) := by unfold Hid b64D; rw [if_pos (by omega)]
    clear hL h4
    go_enter Tryd.func85, Tryd.ntmps85
    go_wp2_with fail
    go_ret2
    exact ⟨by rw [HD.out]; rfl, Below.refl _ _⟩

end Go.Proofs.YtdbipccopijgeaaDoor
