/- Part 37 of the proof: lemmas and walks that the last texts use. -/
import Derived.Test.YthfjmlcjkbgboaaGreatDoorM26
import Derived.Test.YthfjmlcjkbgboaaGreatDoorM27
import Derived.Test.YthfjmlcjkbgboaaGreatDoorM32
import Derived.Test.YthfjmlcjkbgboaaGreatDoorM36
namespace Go.Proofs.YthfjmlcjkbgboaaGreatDoor
open Go.RowKit
theorem or_b64 (x y : Int) (i : Nat) (hx₀ : 0 ≤ x) (hx : x % 2 ^ i = 0) (hx₁ : x < 4294967296) (hy₀ : 0 ≤ y) (hy : y < 2 ^ i) (hy₁ : y < 4294967296) : bits .or .u32 x y = x + y :=
  bits_join .u32 32 (by decide) (fun n h0 h1 => by rw [IntKind.wrap_u32]; omega) i x y hx₀ hx (by omega) hy₀ hy (by omega)
/-- What the walk asks of three bytes' number. -/
structure B64Eq (a b c : Nat) (M N : Int) (q0 q1 q2 q3 : Nat) : Prop where
  h1 : bits BinOp.or IntKind.u32 0 ((a : Int) % 4294967296) = a
  h2 : bits BinOp.or IntKind.u32 ((a : Int) * 256 % 4294967296) ((b : Int) % 4294967296) = M
  h3 : bits BinOp.or IntKind.u32 (M * 256 % 4294967296) ((c : Int) % 4294967296) = N
  m0 : (a : Int) * 256 % 4294967296 = a * 256
  k0 : bits BinOp.and IntKind.u32 (N / 262144) 63 = q0
  k1 : bits BinOp.and IntKind.u32 (N / 4096) 63 = q1
  k2 : bits BinOp.and IntKind.u32 (N / 64) 63 = q2
  k3 : bits BinOp.and IntKind.u32 N 63 = q3
  b0 : q0 < 64
  b1 : q1 < 64
  b2 : q2 < 64
  b3 : q3 < 64
  g : grp (b64N a b c) = [sgn q0, sgn q1, sgn q2, sgn q3]
  n0 : c = 0 → M * 256 % 4294967296 = N
  n1 : b = 0 → c = 0 → (a : Int) * 256 % 4294967296 * 256 % 4294967296 = N
end Go.Proofs.YthfjmlcjkbgboaaGreatDoor
namespace Go.Proofs.YthfjmlcjkbgboaaGreatDoor
open Go.RowKit
def D64Rel (s : ByteArray) (w : World) (v n b i : Value) (wr : World) : Prop :=
  ∃ (k m bt : Nat) (acc : List UInt8), k ≤ s.size ∧ i = .int .i64 k ∧ n = .int .u32 m ∧ b = .int .i64 bt ∧ (bt = 0 ∧ m = 0 ∨ bt = 2 ∧ m < 4 ∨ bt = 4 ∧ m < 16 ∨ bt = 6 ∧ m < 64) ∧ acc.length ≤ k ∧ OwnB wr w.heap.size v acc ∧
    decGo 0 0 s.data.toList = (decGo m bt (s.data.toList.drop k)).map (acc ++ ·) ∧ Below w.heap.size w wr
theorem or_dec (m k : Nat) (hm : m < 64) (hk : k < 64) : bits .or .u32 ((m : Int) * 64) (k : Int) = ((m * 64 + k : Nat) : Int) := by
  rw [or_b64 _ _ 6 (by omega) (by omega) (by omega) (by omega) (by omega) (by omega)]; omega
theorem and_mask6 (M i : Nat) (h : M < 4294967296) (hi : i ≤ 32) : bits .and .u32 (M : Int) (2 ^ i - 1) = ((M % 2 ^ i : Nat) : Int) := by
  rw [bits_mask .u32 32 (by decide) (fun n h0 h1 => by rw [IntKind.wrap_u32]; omega) i hi (M : Int) (by omega) (by omega)]; simp
theorem TrimE_any (t : ByteArray) (W : World) (h : t.size ≤ 140737488351232) : Calls Tryz.prog 114 #[.string t, .string (ByteArray.mk #[61])] W fun e w' => e = .returned (.string (bs (trimE t.data.toList))) ∧ w' = W :=
  Tryz.strings_TrimSuffix t (ByteArray.mk #[61]) W (by omega)
set_option maxRecDepth 100000 in
set_option maxHeartbeats 3200000 in
theorem Base64Decode_any (s : ByteArray) (w : World) (hs : s.size ≤ 140737488351232) :
    Calls Tryz.prog 69 #[.string s] w (ResPost (strRes 4 (b64D s.data.toList)) w) := by
  have hL : s.data.toList.length = s.size := by simp
  by_cases h4 : s.size % 4 = 0
  · have q4 : ((s.size : Int) % 4 != 0) = false := by rw [show (s.size : Int) % 4 = 0 by omega]; rfl
    have HD : Hid (b64D s.data.toList = decGo 0 0 (trimE (trimE s.data.toList))) := by unfold Hid b64D; rw [if_neg (by omega)]
    have z1 : (bs (trimE s.data.toList)).size ≤ s.size := by
      rw [bs_size]; rcases trimE_cases s.data.toList with ⟨e, -⟩ | e
      · rw [e]; omega
      · have := congrArg List.length e; rw [List.length_append] at this; omega
    have z2 : (bs (trimE (trimE s.data.toList))).size ≤ s.size := by
      rw [bs_size] at z1 ⊢; rcases trimE_cases (trimE s.data.toList) with ⟨e, -⟩ | e
      · rw [e]; omega
      · have := congrArg List.length e; rw [List.length_append] at this; omega
    clear hL h4
    go_enter Tryz.func69, Tryz.ntmps69
    go_wp2_with fail
    refine (TrimE_any _ _ hs).mono ?_
    rintro e w1 ⟨rfl, hw⟩
    have hw := hw.symm
    subst hw
    go_wp2_with fail
    refine (TrimE_any _ _ (by omega)).mono ?_
    rintro e w1 ⟨rfl, hw⟩
    have hw := hw.symm
    subst hw
    rw [bs_toList]
    obtain ⟨z, hz⟩ : ∃ z, bs (trimE (trimE s.data.toList)) = z := ⟨_, rfl⟩
    rw [hz] at z2 ⊢
    have HD2 : Hid (b64D s.data.toList = decGo 0 0 z.data.toList) := by unfold Hid; rw [HD.out, ← hz]; rfl
    clear hz HD z1
    have hL : Hid (z.data.toList.length = z.size) := by unfold Hid; simp
    go_wp2_with fail
    go_loopw [5, 6, 7, 19] (fun v n b i wr => D64Rel z w v n b i wr) (fun _ _ _ i _ => z.size - (intOf i).toNat)
    case atStart => exact ⟨0, 0, 0, [], Nat.zero_le _, rfl, rfl, rfl, .inl ⟨rfl, rfl⟩, Nat.le_refl _, OwnB.nil _ _, by simp, Below.refl _ _⟩
    case round =>
      obtain ⟨k, m, bt, acc, hk, rfl, rfl, rfl, hbm, hacc, hown, hr, hbl⟩ := hrel
      have hbase := hbl.size
      have HR := Lib.hid hr
      clear hr
      by_cases hlt : k < z.size
      · have HDC := Lib.hid (drop_cons z k hlt)
        have hlt' : (k : Int) < (z.size : Int) := by omega
        have hia := idx_all z[k]
        obtain ⟨x, hx⟩ : ∃ x, idx z[k] = x := ⟨_, rfl⟩
        have HB := Lib.hid (fun (h : idx z[k] < 0) n b => dec_bad n b z[k] (z.data.toList.drop (k + 1)) h)
        have H0 := Lib.hid (fun (h : ¬ idx z[k] < 0) n => dec_0 n z[k] (z.data.toList.drop (k + 1)) h)
        have H2 := Lib.hid (fun (h : ¬ idx z[k] < 0) n => dec_2 n z[k] (z.data.toList.drop (k + 1)) h)
        have H4 := Lib.hid (fun (h : ¬ idx z[k] < 0) n => dec_4 n z[k] (z.data.toList.drop (k + 1)) h)
        have H6 := Lib.hid (fun (h : ¬ idx z[k] < 0) n => dec_6 n z[k] (z.data.toList.drop (k + 1)) h)
        rw [hx] at HB H0 H2 H4 H6 hia
        obtain ⟨x1, x2, -⟩ := hia
        have HX := Lib.hid hx
        clear hx
        by_cases hneg : x < 0
        · have HF := Lib.hid (HB.out hneg m bt)
          clear HB H0 H2 H4 H6
          go_wp2_with (go_at_call 115; refine (IndexByte_any _ _ _).mono ?_; rintro e w' ⟨rfl, rfl⟩; rw [show (Lib.indexByte (ByteArray.mk #[65, 66, 67, 68, 69, 70, 71, 72, 73, 74, 75, 76, 77, 78, 79, 80, 81, 82, 83, 84, 85, 86, 87, 88, 89, 90, 97, 98, 99, 100, 101, 102, 103, 104, 105, 106, 107, 108, 109, 110, 111, 112, 113, 114, 115, 116, 117, 118, 119, 120, 121, 122, 48, 49, 50, 51, 52, 53, 54, 55, 56, 57, 43, 47]).data.toList z[k] = x) from HX.out])
          go_ret2
          exact ⟨by rw [HD2.out, HR.out, HDC.out, HF.out]; rfl, hbl⟩
        · obtain ⟨y, rfl⟩ := Int.eq_ofNat_of_zero_le (Int.not_lt.1 hneg)
          rw [Int.toNat_natCast] at H0 H2 H4 H6
          have H0 := Lib.hid (H0.out hneg)
          have H2 := Lib.hid (H2.out hneg)
          have H4 := Lib.hid (H4.out hneg)
          have H6 := Lib.hid (H6.out hneg)
          have hy : y < 64 := by omega
          clear HB hneg x1 x2
          have hor := or_dec m y (by omega) hy
          obtain ⟨M, hM⟩ : ∃ M, m * 64 + y = M := ⟨_, rfl⟩
          rw [hM] at hor
          rcases hbm with ⟨rfl, rfl⟩ | ⟨rfl, hm⟩ | ⟨rfl, hm⟩ | ⟨rfl, hm⟩
          · have HF := Lib.hid (H0.out 0)
            have hor0 : bits .or .u32 0 (y : Int) = y := by have := or_dec 0 y (by omega) hy; simpa using this
            clear H0 H2 H4 H6 hM hor
            go_wp2_with (go_at_call 115; refine (IndexByte_any _ _ _).mono ?_; rintro e w' ⟨rfl, rfl⟩; rw [show (Lib.indexByte (ByteArray.mk #[65, 66, 67, 68, 69, 70, 71, 72, 73, 74, 75, 76, 77, 78, 79, 80, 81, 82, 83, 84, 85, 86, 87, 88, 89, 90, 97, 98, 99, 100, 101, 102, 103, 104, 105, 106, 107, 108, 109, 110, 111, 112, 113, 114, 115, 116, 117, 118, 119, 120, 121, 122, 48, 49, 50, 51, 52, 53, 54, 55, 56, 57, 43, 47]).data.toList z[k] = y) from HX.out])
            exact ⟨⟨k + 1, y, 6, acc, by omega, by go_num, rfl, rfl, by omega, by omega, hown, by rw [HR.out, HDC.out, HF.out, Nat.zero_mul, Nat.zero_add], hbl⟩, by simp [intOf]; omega⟩
          · have HF := Lib.hid (H2.out m)
            rw [hM] at HF
            have hvs : Hid ([Value.int .u8 ((M : Int) % 256)] = [UInt8.ofNat (M)].map byteV) := by
              unfold Hid byteV; simp only [List.map_cons, List.map_nil, UInt8.toNat_ofNat']; rfl
            have hand : bits .and .u32 (M : Int) 0 = ((M % 1 : Nat) : Int) := and_mask6 M 0 (by omega) (by omega)
            obtain ⟨Q, hQ⟩ : ∃ Q, M % 1 = Q := ⟨_, rfl⟩
            have HMM := Lib.hid hM
            rw [hQ] at hand
            have HQ := Lib.hid hQ
            have hQ2 : Q < 1 := by omega
            clear H0 H2 H4 H6 hM hQ
            go_wp2_with (first | (go_at_call 115; refine (IndexByte_any _ _ _).mono ?_; rintro e w' ⟨rfl, rfl⟩; rw [show (Lib.indexByte (ByteArray.mk #[65, 66, 67, 68, 69, 70, 71, 72, 73, 74, 75, 76, 77, 78, 79, 80, 81, 82, 83, 84, 85, 86, 87, 88, 89, 90, 97, 98, 99, 100, 101, 102, 103, 104, 105, 106, 107, 108, 109, 110, 111, 112, 113, 114, 115, 116, 117, 118, 119, 120, 121, 122, 48, 49, 50, 51, 52, 53, 54, 55, 56, 57, 43, 47]).data.toList z[k] = y) from HX.out]) | (at_builtin; refine wpList_append_b rfl _ _ rfl w.heap.size _ acc rfl (by exact hown) (by exact hbase) _ [UInt8.ofNat (M)] hvs.out 1 1 rfl rfl (by omega) ?_; intro v' w1 hown1 hb1 hbs1))
            exact ⟨⟨k + 1, 0, 0, acc ++ [UInt8.ofNat (M)], by omega, by go_num, by go_num, rfl, by omega, by simp; omega, hown1, by rw [HR.out, HDC.out, HF.out, Option.map_map]; congr 1; funext y; simp, hbl.trans hb1⟩, by simp [intOf]; omega⟩
          · have HF := Lib.hid (H4.out m)
            rw [hM] at HF
            have hvs : Hid ([Value.int .u8 ((M : Int) / 4 % 256)] = [UInt8.ofNat (M / 4)].map byteV) := by
              unfold Hid byteV; simp only [List.map_cons, List.map_nil, UInt8.toNat_ofNat']; rfl
            have hand : bits .and .u32 (M : Int) 3 = ((M % 4 : Nat) : Int) := and_mask6 M 2 (by omega) (by omega)
            obtain ⟨Q, hQ⟩ : ∃ Q, M % 4 = Q := ⟨_, rfl⟩
            have HMM := Lib.hid hM
            rw [hQ] at hand HF
            have HQ := Lib.hid hQ
            have hQ2 : Q < 4 := by omega
            clear H0 H2 H4 H6 hM hQ
            go_wp2_with (first | (go_at_call 115; refine (IndexByte_any _ _ _).mono ?_; rintro e w' ⟨rfl, rfl⟩; rw [show (Lib.indexByte (ByteArray.mk #[65, 66, 67, 68, 69, 70, 71, 72, 73, 74, 75, 76, 77, 78, 79, 80, 81, 82, 83, 84, 85, 86, 87, 88, 89, 90, 97, 98, 99, 100, 101, 102, 103, 104, 105, 106, 107, 108, 109, 110, 111, 112, 113, 114, 115, 116, 117, 118, 119, 120, 121, 122, 48, 49, 50, 51, 52, 53, 54, 55, 56, 57, 43, 47]).data.toList z[k] = y) from HX.out]) | (at_builtin; refine wpList_append_b rfl _ _ rfl w.heap.size _ acc rfl (by exact hown) (by exact hbase) _ [UInt8.ofNat (M / 4)] hvs.out 1 1 rfl rfl (by omega) ?_; intro v' w1 hown1 hb1 hbs1))
            exact ⟨⟨k + 1, Q, 2, acc ++ [UInt8.ofNat (M / 4)], by omega, by go_num, rfl, rfl, by omega, by simp; omega, hown1, by rw [HR.out, HDC.out, HF.out, Option.map_map]; congr 1; funext y; simp, hbl.trans hb1⟩, by simp [intOf]; omega⟩
          · have HF := Lib.hid (H6.out m)
            rw [hM] at HF
            have hvs : Hid ([Value.int .u8 ((M : Int) / 16 % 256)] = [UInt8.ofNat (M / 16)].map byteV) := by
              unfold Hid byteV; simp only [List.map_cons, List.map_nil, UInt8.toNat_ofNat']; rfl
            have hand : bits .and .u32 (M : Int) 15 = ((M % 16 : Nat) : Int) := and_mask6 M 4 (by omega) (by omega)
            obtain ⟨Q, hQ⟩ : ∃ Q, M % 16 = Q := ⟨_, rfl⟩
            have HMM := Lib.hid hM
            rw [hQ] at hand HF
            have HQ := Lib.hid hQ
            have hQ2 : Q < 16 := by omega
            clear H0 H2 H4 H6 hM hQ
            go_wp2_with (first | (go_at_call 115; refine (IndexByte_any _ _ _).mono ?_; rintro e w' ⟨rfl, rfl⟩; rw [show (Lib.indexByte (ByteArray.mk #[65, 66, 67, 68, 69, 70, 71, 72, 73, 74, 75, 76, 77, 78, 79, 80, 81, 82, 83, 84, 85, 86, 87, 88, 89, 90, 97, 98, 99, 100, 101, 102, 103, 104, 105, 106, 107, 108, 109, 110, 111, 112, 113, 114, 115, 116, 117, 118, 119, 120, 121, 122, 48, 49, 50, 51, 52, 53, 54, 55, 56, 57, 43, 47]).data.toList z[k] = y) from HX.out]) | (at_builtin; refine wpList_append_b rfl _ _ rfl w.heap.size _ acc rfl (by exact hown) (by exact hbase) _ [UInt8.ofNat (M / 16)] hvs.out 1 1 rfl rfl (by omega) ?_; intro v' w1 hown1 hb1 hbs1))
            exact ⟨⟨k + 1, Q, 4, acc ++ [UInt8.ofNat (M / 16)], by omega, by go_num, rfl, rfl, by omega, by simp; omega, hown1, by rw [HR.out, HDC.out, HF.out, Option.map_map]; congr 1; funext y; simp, hbl.trans hb1⟩, by simp [intOf]; omega⟩
      · have HN : Hid (z.data.toList.drop k = []) := List.drop_eq_nil_of_le (by rw [hL.out]; omega)
        have hcv := hown.string
        clear hown
        by_cases hm : m = 0 ∧ bt ≠ 6
        · obtain ⟨rfl, hm⟩ := hm
          have HF : Hid (decGo 0 0 z.data.toList = some acc) := by unfold Hid; rw [HR.out, HN.out, decGo, if_neg (by omega)]; simp
          have qb : ((bt : Int) == 6) = false := beq_eq_false_iff_ne.2 (by omega)
          clear hbm
          go_wp2_with fail
          go_ret2
          exact ⟨by rw [HD2.out, HF.out]; rfl, hbl⟩
        · have HF : Hid (decGo 0 0 z.data.toList = none) := by unfold Hid; rw [HR.out, HN.out, decGo, if_pos (by omega)]; rfl
          by_cases hm0 : m = 0
          · have qm : ((m : Int) != 0) = false := by rw [hm0]; rfl
            have qb : ((bt : Int) == 6) = true := by rw [show bt = 6 by omega]; rfl
            clear hm hbm hm0
            go_wp2_with fail
            go_ret2
            exact ⟨by rw [HD2.out, HF.out]; rfl, hbl⟩
          · have qm : ((m : Int) != 0) = true := bne_iff_ne.2 (by omega)
            clear hm hbm hm0
            go_wp2_with fail
            go_ret2
            exact ⟨by rw [HD2.out, HF.out]; rfl, hbl⟩
  · have q4 : ((s.size : Int) % 4 != 0) = true := bne_iff_ne.2 (by omega)
    have HD : Hid (b64D s.data.toList = none) := by unfold Hid b64D; rw [if_pos (by omega)]
    clear hL h4
    go_enter Tryz.func69, Tryz.ntmps69
    go_wp2_with fail
    go_ret2
    exact ⟨by rw [HD.out]; rfl, Below.refl _ _⟩
end Go.Proofs.YthfjmlcjkbgboaaGreatDoor
namespace Go.Proofs.YthfjmlcjkbgboaaGreatDoor
def whiteB (b : UInt8) : Bool := decide (9 ≤ b.toNat) && decide (b.toNat ≤ 13) || b == 32
def sqGo : Bool → List UInt8 → List UInt8
  | _, [] => []
  | p, b :: l => if whiteB b = true then (if p = true then sqGo true l else 32 :: sqGo true l) else b :: sqGo false l
def squeezeL (l : List UInt8) : List UInt8 := sqGo false l
def outL (set l : List UInt8) : List UInt8 := l.filter fun b => decide (Lib.indexByte set b < 0)
def commaB (b : UInt8) : UInt8 := if b = 44 ∨ b = 59 then 32 else b
def dsL : List UInt8 → List UInt8
  | [] => []
  | [b] => [b]
  | b :: c :: l => if b = 32 ∧ (c = 47 ∨ c = 40) then dsL (c :: l) else b :: dsL (c :: l)
def cmdSet : List UInt8 := [92, 34, 39, 94]
def cmdL (l : List UInt8) : List UInt8 := lowerL (dsL (squeezeL ((outL cmdSet l).map commaB)))
def n2 (a b : UInt8) : Bool := !(a == 32 && b == 32)
def n3 (a b : UInt8) : Bool := !(a == 32 && (b == 47 || b == 40))
theorem sq_len : ∀ (l : List UInt8) (p : Bool), (sqGo p l).length ≤ l.length
  | [], _ => Nat.le_refl _
  | b :: l, p => by
    have h1 := sq_len l true
    have h2 := sq_len l false
    unfold sqGo
    (repeat' split) <;> simp only [List.length_cons] <;> omega
theorem ds_len : ∀ l : List UInt8, (dsL l).length ≤ l.length
  | [] => Nat.le_refl _
  | [_] => Nat.le_refl _
  | a :: c :: l => by
    have h := ds_len (c :: l)
    unfold dsL
    split <;> simp only [List.length_cons] at * <;> omega
end Go.Proofs.YthfjmlcjkbgboaaGreatDoor
namespace Go.Proofs.YthfjmlcjkbgboaaGreatDoor
open Go.RowKit
set_option maxHeartbeats 400000 in
theorem white_any (b : UInt8) (w : World) :
    Calls Tryz.prog 120 #[.int .u8 b.toNat] w fun e w' => e = .returned (.bool (whiteB b)) ∧ w' = w := by
  have hb : (b.toNat : Int) ≤ 255 := by have := b.toNat_lt; omega
  have h32 : (b == 32) = decide (b.toNat = 32) := by
    rw [Bool.eq_iff_iff, beq_iff_eq, decide_eq_true_eq]
    exact ⟨fun h => by rw [h]; rfl, fun h => UInt8.toNat_inj.1 h⟩
  unfold whiteB
  rw [h32]
  generalize b.toNat = n at *
  go_enter Tryz.func120, Tryz.ntmps120
  go_wp2
  all_goals
    go_ret
    refine ⟨ret_bool ?_, rfl⟩
    rw [Bool.eq_iff_iff]
    simp
    try omega
def SqRel (s : ByteArray) (w : World) (v i : Value) (wr : World) : Prop :=
  ∃ (k : Nat) (acc : List UInt8) (p : Bool), k ≤ s.size ∧ i = .int .i64 k ∧ acc.length ≤ k ∧ OwnB wr w.heap.size v acc ∧ squeezeL s.data.toList = acc ++ sqGo p (s.data.toList.drop k) ∧
    (k = 0 → p = false) ∧ (∀ j (h : j < s.size), k = j + 1 → p = whiteB s[j]) ∧ Below w.heap.size w wr
theorem sqGo_cons (p : Bool) (b : UInt8) (l : List UInt8) : sqGo p (b :: l) = if whiteB b = true then (if p = true then sqGo true l else 32 :: sqGo true l) else b :: sqGo false l := rfl
set_option maxRecDepth 100000 in
set_option maxHeartbeats 1600000 in
theorem Squeeze_any (s : ByteArray) (w : World) (hs : s.size ≤ 140737488351232) :
    Calls Tryz.prog 72 #[.string s] w (StrPost (bs (squeezeL s.data.toList)) w) := by
  have hL : Hid (s.data.toList.length = s.size) := by unfold Hid; simp
  go_enter Tryz.func72, Tryz.ntmps72
  go_wp2_with fail
  go_loopw [3, 7] (fun v i wr => SqRel s w v i wr) (fun _ i _ => s.size - (intOf i).toNat)
  case atStart => exact ⟨0, [], false, Nat.zero_le _, rfl, Nat.le_refl _, OwnB.nil _ _, rfl, fun _ => rfl, fun j _ h => absurd h (by omega), Below.refl _ _⟩
  case round =>
    obtain ⟨k, acc, p, hk, rfl, hacc, hown, hr, hp0, hp1, hbl⟩ := hrel
    have hbase := hbl.size
    have HR := Lib.hid hr
    clear hr
    by_cases hlt : k < s.size
    · have HD := Lib.hid (drop_cons s k hlt)
      have HC := Lib.hid (sqGo_cons p s[k] (s.data.toList.drop (k + 1)))
      cases hw : whiteB s[k] with
      | false =>
        have HW := Lib.hid hw
        have HPREV : Hid (∀ i (h : i < s.size), k + 1 = i + 1 → whiteB s[k] = whiteB s[i]) := fun i h e => by
          have e2 : k = i := by omega
          subst e2; rfl
        rw [hw] at HPREV
        have hstep : sqGo p (s[k] :: s.data.toList.drop (k + 1)) = s[k] :: sqGo false (s.data.toList.drop (k + 1)) := by rw [HC.out, hw, if_neg (by decide)]
        have HS := Lib.hid hstep
        clear hw hp0 hp1 hstep
        go_wp2_with (first | (go_at_call 120; refine (white_any _ _).mono ?_; rintro e w1 ⟨rfl, rfl⟩; rw [HW.out]) | (at_builtin; refine wpList_append_b rfl _ _ rfl w.heap.size _ acc rfl (by exact hown) (by exact hbase) _ [s[k]] rfl 1 1 rfl rfl (by omega) ?_; intro v' w2 hown1 hb1 hbs1))
        exact ⟨⟨k + 1, acc ++ [s[k]], false, by omega, by go_num, by simp; omega, hown1, by rw [HR.out, HD.out, HS.out]; simp, fun h => absurd h (by omega), HPREV.out, hbl.trans hb1⟩, by simp [intOf]; omega⟩
      | true =>
        have HW := Lib.hid hw
        have HPREV : Hid (∀ i (h : i < s.size), k + 1 = i + 1 → whiteB s[k] = whiteB s[i]) := fun i h e => by
          have e2 : k = i := by omega
          subst e2; rfl
        rw [hw] at HPREV
        have hstep : sqGo p (s[k] :: s.data.toList.drop (k + 1)) = if p = true then sqGo true (s.data.toList.drop (k + 1)) else 32 :: sqGo true (s.data.toList.drop (k + 1)) := by rw [HC.out, hw, if_pos rfl]
        have HS := Lib.hid hstep
        clear hw hstep
        by_cases hk0 : k = 0
        · have HP := Lib.hid (hp0 hk0)
          have hkz : ((k : Int) == 0) = true := beq_iff_eq.2 (by omega)
          have HK0 := Lib.hid hk0
          clear hk0 hp0 hp1
          go_wp2_with (first | (go_at_call 120; refine (white_any _ _).mono ?_; rintro e w1 ⟨rfl, rfl⟩; rw [HW.out]) | (at_builtin; refine wpList_append_b rfl _ _ rfl w.heap.size _ acc rfl (by exact hown) (by exact hbase) _ [32] rfl 1 1 rfl rfl (by omega) ?_; intro v' w2 hown1 hb1 hbs1))
          exact ⟨⟨k + 1, acc ++ [32], true, by omega, by go_num, by simp; omega, hown1, by rw [HR.out, HD.out, HS.out, HP.out, if_neg (by decide)]; simp, fun h => absurd h (by omega), HPREV.out, hbl.trans hb1⟩, by simp [intOf]; omega⟩
        · obtain ⟨j, rfl⟩ : ∃ j, k = j + 1 := ⟨k - 1, by omega⟩
          have hj : j < s.size := by omega
          have hpj := hp1 j hj rfl
          have hkz : ((j : Int) + 1 == 0) = false := beq_eq_false_iff_ne.2 (by omega)
          have hj1 : (j : Int) + 1 - 1 = j := by omega
          have HJ1 := Lib.hid hj1
          clear hk0 hp0 hp1 hj1
          cases p with
          | true =>
            have HP := Lib.hid hpj.symm
            clear hpj
            go_wp2_with (first | (go_at_call 120; refine (white_any _ _).mono ?_; rintro e w1 ⟨rfl, rfl⟩; first | rw [HW.out] | rw [HP.out]) | (at_builtin; refine wpList_append_b rfl _ _ rfl w.heap.size _ acc rfl (by exact hown) (by exact hbase) _ [32] rfl 1 1 rfl rfl (by omega) ?_; intro v' w2 hown1 hb1 hbs1))
            exact ⟨⟨j + 2, acc, true, by omega, by go_num, by omega, hown, by rw [HR.out, HD.out, HS.out]; simp, fun h => absurd h (by omega), HPREV.out, hbl⟩, by simp [intOf]; omega⟩
          | false =>
            have HP := Lib.hid hpj.symm
            clear hpj
            go_wp2_with (first | (go_at_call 120; refine (white_any _ _).mono ?_; rintro e w1 ⟨rfl, rfl⟩; first | rw [HW.out] | rw [HP.out]) | (at_builtin; refine wpList_append_b rfl _ _ rfl w.heap.size _ acc rfl (by exact hown) (by exact hbase) _ [32] rfl 1 1 rfl rfl (by omega) ?_; intro v' w2 hown1 hb1 hbs1))
            exact ⟨⟨j + 2, acc ++ [32], true, by omega, by go_num, by simp; omega, hown1, by rw [HR.out, HD.out, HS.out, if_neg (by decide)]; simp, fun h => absurd h (by omega), HPREV.out, hbl.trans hb1⟩, by simp [intOf]; omega⟩
    · have hcv := hown.string
      have HF : Hid (squeezeL s.data.toList = acc) := by unfold Hid; rw [HR.out, List.drop_eq_nil_of_le (by rw [hL.out]; omega)]; cases p <;> simp [sqGo]
      clear hown
      go_wp2_with fail
      go_ret
      exact ⟨by rw [HF.out]; rfl, hbl⟩
def OutRel (s t : ByteArray) (w : World) (v i : Value) (wr : World) : Prop :=
  ∃ k : Nat, k ≤ s.size ∧ i = .int .i64 k ∧ OwnB wr w.heap.size v (outL t.data.toList (s.data.toList.take k)) ∧ Below w.heap.size w wr
set_option maxRecDepth 100000 in
set_option maxHeartbeats 1600000 in
theorem without_any (s t : ByteArray) (w : World) (hs : s.size ≤ 140737488351232) :
    Calls Tryz.prog 121 #[.string s, .string t] w (StrPost (bs (outL t.data.toList s.data.toList)) w) := by
  have hL : Hid (s.data.toList.length = s.size) := by unfold Hid; simp
  go_enter Tryz.func121, Tryz.ntmps121
  go_wp2_with fail
  go_loopw [5, 9] (fun v i wr => OutRel s t w v i wr) (fun _ i _ => s.size - (intOf i).toNat)
  case atStart => exact ⟨0, Nat.zero_le _, rfl, OwnB.nil _ _, Below.refl _ _⟩
  case round =>
    obtain ⟨k, hk, rfl, hown, hbl⟩ := hrel
    have hbase := hbl.size
    by_cases hlt : k < s.size
    · have HT := Lib.hid (take_snoc s k hlt)
      have hql : (outL t.data.toList (s.data.toList.take k)).length ≤ (s.data.toList.take k).length := List.length_filter_le _ _
      have htl : (s.data.toList.take k).length ≤ k := List.length_take_le _ _
      have hql2 : (outL t.data.toList (s.data.toList.take k)).length ≤ k := by omega
      clear hql htl
      obtain ⟨x, hx⟩ : ∃ x, Lib.indexByte t.data.toList s[k] = x := ⟨_, rfl⟩
      have HX := Lib.hid hx
      have HFM : Hid (outL t.data.toList (s.data.toList.take (k + 1)) = outL t.data.toList (s.data.toList.take k) ++ (if x < 0 then [s[k]] else [])) := by
        unfold Hid outL; rw [HT.out, List.filter_append]
        congr 1
        by_cases h : x < 0
        · rw [if_pos h]; simp [hx, h]
        · rw [if_neg h]; simp [hx, h]
      clear hx
      by_cases h : x < 0
      · have HF2 : Hid (outL t.data.toList (s.data.toList.take (k + 1)) = outL t.data.toList (s.data.toList.take k) ++ [s[k]]) := by unfold Hid; rw [HFM.out, if_pos h]
        go_wp2_with (first | (go_at_call 115; refine (IndexByte_any _ _ _).mono ?_; rintro e w' ⟨rfl, rfl⟩; rw [HX.out]) | (at_builtin; refine wpList_append_b rfl _ _ rfl w.heap.size _ (outL t.data.toList (s.data.toList.take k)) rfl (by exact hown) (by exact hbase) _ [s[k]] rfl 1 1 rfl rfl (by omega) ?_; intro v' w1 hown1 hb1 hbs1))
        exact ⟨⟨k + 1, by omega, by go_num, by rw [HF2.out]; exact hown1, hbl.trans hb1⟩, by simp [intOf]; omega⟩
      · have HF2 : Hid (outL t.data.toList (s.data.toList.take (k + 1)) = outL t.data.toList (s.data.toList.take k)) := by unfold Hid; rw [HFM.out, if_neg h, List.append_nil]
        go_wp2_with (go_at_call 115; refine (IndexByte_any _ _ _).mono ?_; rintro e w' ⟨rfl, rfl⟩; rw [HX.out])
        exact ⟨⟨k + 1, by omega, by go_num, by rw [HF2.out]; exact hown, hbl⟩, by simp [intOf]; omega⟩
    · have HK : Hid (s.data.toList.take k = s.data.toList) := List.take_of_length_le (by rw [hL.out]; omega)
      have hcv := hown.string
      clear hown
      go_wp2_with fail
      go_ret
      exact ⟨by show Ending.returned (.string (bs (outL t.data.toList (s.data.toList.take k)))) = _; rw [HK.out], hbl⟩
theorem NoNull_any (s : ByteArray) (w : World) (hs : s.size ≤ 140737488351232) :
    Calls Tryz.prog 73 #[.string s] w (StrPost (bs (outL [0] s.data.toList)) w) := by
  go_enter Tryz.func73, Tryz.ntmps73
  go_wp2_with (go_at_call 121; refine (without_any _ _ _ hs).mono ?_; rintro e w' ⟨rfl, hb1⟩)
  go_ret
  exact ⟨rfl, hb1⟩
end Go.Proofs.YthfjmlcjkbgboaaGreatDoor
namespace Go.Proofs.YthfjmlcjkbgboaaGreatDoor
open Go.RowKit
def mapTo (f : UInt8 → UInt8) (k : Nat) (l : List UInt8) : List UInt8 := (l.take k).map f ++ l.drop k
theorem mapTo_length (f : UInt8 → UInt8) (k : Nat) (l : List UInt8) : (mapTo f k l).length = l.length := by simp [mapTo]; omega
theorem mapTo_at (f : UInt8 → UInt8) (k : Nat) (l : List UInt8) (h : k < l.length) (h' : k < (mapTo f k l).length) : (mapTo f k l)[k] = l[k] := by
  have e : (mapTo f k l)[k]? = l[k]? := by
    unfold mapTo
    rw [List.getElem?_append_right (by simp; omega)]
    simp [Nat.min_eq_left (Nat.le_of_lt h)]
  rw [List.getElem?_eq_getElem h', List.getElem?_eq_getElem h] at e
  exact Option.some.inj e
theorem mapTo_set (f : UInt8 → UInt8) (k : Nat) (l : List UInt8) (h : k < l.length) : (mapTo f k l).set k (f l[k]) = mapTo f (k + 1) l := by
  have hlen : ((l.take k).map f).length = k := by simp; omega
  unfold mapTo
  rw [List.set_append_right k _ (by omega), hlen, Nat.sub_self, List.drop_eq_getElem_cons h, List.set_cons_zero, List.take_succ_eq_append_getElem h, List.map_append, List.append_assoc]
  rfl
theorem mapTo_keep (f : UInt8 → UInt8) (k : Nat) (l : List UInt8) (h : k < l.length) (e : f l[k] = l[k]) : mapTo f k l = mapTo f (k + 1) l := by
  rw [← mapTo_set f k l h, e]
  refine (List.ext_getElem (by simp) fun i h1 h2 => ?_).symm
  rw [List.getElem_set]
  split
  · rename_i h3; subst h3; rw [mapTo_at f _ _ h]
  · rfl
theorem mapTo_zero (f : UInt8 → UInt8) (l : List UInt8) : mapTo f 0 l = l := by simp [mapTo]
theorem mapTo_all (f : UInt8 → UInt8) (k : Nat) (l : List UInt8) (h : l.length ≤ k) : mapTo f k l = l.map f := by
  simp [mapTo, List.take_of_length_le h, List.drop_eq_nil_of_le h]
theorem ds_cons (b : UInt8) (r : List UInt8) : dsL (b :: r) = if b = 32 ∧ (r.head? = some 47 ∨ r.head? = some 40) then dsL r else b :: dsL r := by
  cases r with
  | nil => rw [if_neg (by simp)]; rfl
  | cons c r => rw [dsL]; simp
def CmdRelA (l : List UInt8) (w : World) (g : Nat) (i : Value) (wr : World) : Prop :=
  ∃ k : Nat, k ≤ l.length ∧ i = .int .i64 k ∧ BytesAt wr g (mapTo commaB k l) ∧ Below w.heap.size w wr
def CmdRelB (l : List UInt8) (w : World) (v i : Value) (wr : World) : Prop :=
  ∃ (k : Nat) (acc : List UInt8), k ≤ l.length ∧ i = .int .i64 k ∧ acc.length ≤ k ∧ OwnB wr w.heap.size v acc ∧ dsL l = acc ++ dsL (l.drop k) ∧ Below w.heap.size w wr
set_option maxRecDepth 100000 in
set_option maxHeartbeats 3200000 in
theorem Cmd_any (s : ByteArray) (w : World) (hs : s.size ≤ 140737488351232) :
    Calls Tryz.prog 75 #[.string s] w (StrPost (bs (cmdL s.data.toList)) w) := by
  have hfl : (outL cmdSet s.data.toList).length ≤ s.data.toList.length := List.length_filter_le _ _
  rw [show s.data.toList.length = s.size by simp] at hfl
  have HCMD : Hid (cmdL s.data.toList = lowerL (dsL (squeezeL ((outL cmdSet s.data.toList).map commaB)))) := rfl
  obtain ⟨y, hy⟩ : ∃ y, outL cmdSet s.data.toList = y := ⟨_, rfl⟩
  have HY := Lib.hid hy
  rw [hy] at hfl HCMD
  clear hy
  go_enter Tryz.func75, Tryz.ntmps75
  go_wp2_with (first | (go_at_call 121; refine (without_any _ _ _ hs).mono ?_; rintro e w1 ⟨rfl, hb1⟩; rw [show (ByteArray.mk #[92, 34, 39, 94]).data.toList = cmdSet from rfl, HY.out]) | (refine wpList_to_bytes rfl _ 9 159 5 rfl Tryz.underlying9 Tryz.underlying159 Tryz.underlying5 _ rfl ?_; intro c w2 hc hbt hbl hsz))
  have hg : w.heap.size ≤ w1.heap.size := hb1.size
  have hbl2 := hb1.trans (hbl.mono hg)
  rw [bs_toList] at hbt
  have HZ := Lib.hid hsz
  clear hsz hc
  obtain ⟨g, hgg⟩ : ∃ g, w1.heap.size = g := ⟨_, rfl⟩
  rw [hgg] at hbt hg
  have HGG := Lib.hid hgg
  simp only [hgg]
  clear hgg hbl hb1
  go_loopw [13] (fun i wr => CmdRelA y w g i wr) (fun i _ => y.length - (intOf i).toNat)
  case atStart => exact ⟨0, Nat.zero_le _, rfl, by rw [mapTo_zero]; exact hbt, hbl2⟩
  case round =>
    obtain ⟨k, hk, rfl, hb, hbl3⟩ := hrel
    clear hbt hbl2
    have hlen : Hid ((mapTo commaB k y).length = y.length) := mapTo_length _ _ _
    by_cases hlt : k < y.length
    · have hl : k < (mapTo commaB k y).length := by rw [hlen.out]; exact hlt
      have hc1 := hb.cell hl
      have hf1 := hb.free hl
      have hat := mapTo_at commaB k y hlt hl
      rw [hat] at hc1
      have HB := Lib.hid hb
      have hby := (y[k]).toNat_lt
      clear hb hat
      by_cases g1 : y[k] = 44 ∨ y[k] = 59
      · have hcm : Hid (commaB y[k] = 32) := by unfold Hid commaB; rw [if_pos g1]
        have hcase : (((y[k].toNat : Int) == 44) = true) ∨ (((y[k].toNat : Int) == 44) = false ∧ ((y[k].toNat : Int) == 59) = true) := by
          rcases g1 with h | h
          · left; rw [h]; decide
          · right; rw [h]; exact ⟨by decide, by decide⟩
        clear g1
        rcases hcase with q1 | ⟨q1, q2⟩
        all_goals
          go_wp2
          refine ⟨⟨k + 1, by omega, by go_num, ?_, hbl3.setCell (p := ⟨g, k, none⟩) hg _⟩, by simp [intOf]; omega⟩
          rw [← mapTo_set commaB k _ hlt, hcm.out]
          exact HB.out.set hl 32
      · have hcm : Hid (commaB y[k] = y[k]) := by unfold Hid commaB; rw [if_neg g1]
        have q1 : ((y[k].toNat : Int) == 44) = false := beq_eq_false_iff_ne.2 (fun h => g1 (.inl (UInt8.toNat_inj.1 (by show y[k].toNat = 44; omega))))
        have q2 : ((y[k].toNat : Int) == 59) = false := beq_eq_false_iff_ne.2 (fun h => g1 (.inr (UInt8.toNat_inj.1 (by show y[k].toNat = 59; omega))))
        clear g1
        go_wp2
        refine ⟨⟨k + 1, by omega, by go_num, ?_, hbl3⟩, by simp [intOf]; omega⟩
        rw [← mapTo_keep commaB k _ hlt hcm.out]
        exact HB.out
    · have hcv := run_string_of_bytes (P := Tryz.prog) hb 159 9 5 y.length c (by rw [hlen.out]) Tryz.underlying159 Tryz.underlying5 Tryz.underlying9
      rw [mapTo_all commaB k y (by omega)] at hcv
      have hml : (y.map commaB).length = y.length := List.length_map _
      have hbase := hbl3.size
      clear hb
      have hsq : (bs (y.map commaB)).size ≤ 140737488351232 := by rw [bs_size, hml]; omega
      have hsl := sq_len (y.map commaB) false
      rw [hml] at hsl
      obtain ⟨z, hz⟩ : ∃ z, bs (squeezeL (y.map commaB)) = z := ⟨_, rfl⟩
      have hzd : z.data.toList = squeezeL (y.map commaB) := by rw [← hz]; rfl
      have hzl : z.size ≤ y.length := by rw [← hz, bs_size]; exact hsl
      rw [← hzd] at HCMD
      have HZZ := Lib.hid hz
      have hL2 : Hid (z.data.toList.length = z.size) := by unfold Hid; simp
      clear hz hsl hml hzd
      go_wp2_with (go_at_call 72; refine (Squeeze_any _ _ hsq).mono ?_; rintro e w3 ⟨rfl, hb3⟩; rw [bs_toList, HZZ.out])
      go_loopw [6, 33] (fun v i wr => CmdRelB z.data.toList w v i wr) (fun _ i _ => z.size - (intOf i).toNat)
      case atStart => exact ⟨0, [], Nat.zero_le _, rfl, Nat.le_refl _, OwnB.nil _ _, rfl, hbl3.trans (hb3.mono hbase)⟩
      case round =>
        obtain ⟨k2, acc, hk2, rfl, hacc, hown, hr, hbl4⟩ := hrel
        have hbase2 := hbl4.size
        rw [hL2.out] at hk2
        have HR := Lib.hid hr
        clear hr
        by_cases hlt2 : k2 < z.size
        · have HD := Lib.hid (drop_cons z k2 hlt2)
          have HDS := Lib.hid (ds_cons z[k2] (z.data.toList.drop (k2 + 1)))
          have hz2 : (k2 : Int) < (z.size : Int) := by omega
          by_cases c1 : z[k2] = 32
          · have q1 : ((z[k2].toNat : Int) == 32) = true := by rw [c1]; decide
            by_cases c2 : k2 + 1 < z.size
            · have hh : (z.data.toList.drop (k2 + 1)).head? = some z[k2 + 1] := by rw [List.head?_drop, Lib.data_getElem? z _ c2]
              have q2 : (k2 : Int) + 1 < (z.size : Int) := by omega
              have i3 : 0 ≤ (k2 : Int) + 1 := by omega
              have i5 : ((k2 : Int) + 1).toNat = k2 + 1 := by omega
              by_cases c3 : z[k2 + 1] = 47 ∨ z[k2 + 1] = 40
              · have HF : Hid (dsL (z[k2] :: z.data.toList.drop (k2 + 1)) = dsL (z.data.toList.drop (k2 + 1))) := by
                  unfold Hid; rw [HDS.out, hh, if_pos ⟨c1, by rcases c3 with h | h; exact .inl (by rw [h]); exact .inr (by rw [h])⟩]
                have hcase : (((z[k2 + 1].toNat : Int) == 47) = true) ∨ (((z[k2 + 1].toNat : Int) == 47) = false ∧ ((z[k2 + 1].toNat : Int) == 40) = true) := by
                  rcases c3 with h | h
                  · left; rw [h]; decide
                  · right; rw [h]; exact ⟨by decide, by decide⟩
                clear c1 c3 hh
                rcases hcase with q3 | ⟨q3, q4⟩
                all_goals
                  go_wp2_with fail
                  exact ⟨⟨k2 + 1, acc, by rw [hL2.out]; omega, by go_num, by omega, hown, by rw [HR.out, HD.out, HF.out], hbl4⟩, by simp [intOf]; omega⟩
              · have HF : Hid (dsL (z[k2] :: z.data.toList.drop (k2 + 1)) = z[k2] :: dsL (z.data.toList.drop (k2 + 1))) := by
                  unfold Hid; rw [HDS.out, hh, if_neg (by rintro ⟨_, h | h⟩; exact c3 (.inl (Option.some.inj h)); exact c3 (.inr (Option.some.inj h)))]
                have q3 : ((z[k2 + 1].toNat : Int) == 47) = false := beq_eq_false_iff_ne.2 (fun h => c3 (.inl (UInt8.toNat_inj.1 (by show z[k2 + 1].toNat = 47; omega))))
                have q4 : ((z[k2 + 1].toNat : Int) == 40) = false := beq_eq_false_iff_ne.2 (fun h => c3 (.inr (UInt8.toNat_inj.1 (by show z[k2 + 1].toNat = 40; omega))))
                clear c1 c3 hh
                go_wp2_with (at_builtin; refine wpList_append_b rfl _ _ rfl w.heap.size _ acc rfl (by exact hown) (by exact hbase2) _ [z[k2]] rfl 1 1 rfl rfl (by omega) ?_; intro v' w4 hown1 hb4 hbs4)
                exact ⟨⟨k2 + 1, acc ++ [z[k2]], by rw [hL2.out]; omega, by go_num, by simp; omega, hown1, by rw [HR.out, HD.out, HF.out]; simp, hbl4.trans hb4⟩, by simp [intOf]; omega⟩
            · have HF : Hid (dsL (z[k2] :: z.data.toList.drop (k2 + 1)) = z[k2] :: dsL (z.data.toList.drop (k2 + 1))) := by
                unfold Hid; rw [HDS.out, if_neg (by rw [List.drop_eq_nil_of_le (by rw [hL2.out]; omega)]; simp)]
              have q2 : (z.size : Int) ≤ (k2 : Int) + 1 := by omega
              clear c1
              go_wp2_with (at_builtin; refine wpList_append_b rfl _ _ rfl w.heap.size _ acc rfl (by exact hown) (by exact hbase2) _ [z[k2]] rfl 1 1 rfl rfl (by omega) ?_; intro v' w4 hown1 hb4 hbs4)
              exact ⟨⟨k2 + 1, acc ++ [z[k2]], by rw [hL2.out]; omega, by go_num, by simp; omega, hown1, by rw [HR.out, HD.out, HF.out]; simp, hbl4.trans hb4⟩, by simp [intOf]; omega⟩
          · have HF : Hid (dsL (z[k2] :: z.data.toList.drop (k2 + 1)) = z[k2] :: dsL (z.data.toList.drop (k2 + 1))) := by
              unfold Hid; rw [HDS.out, if_neg (fun h => c1 h.1)]
            have q1 : ((z[k2].toNat : Int) == 32) = false := beq_eq_false_iff_ne.2 (fun h => c1 (UInt8.toNat_inj.1 (by show z[k2].toNat = 32; omega)))
            clear c1
            go_wp2_with (at_builtin; refine wpList_append_b rfl _ _ rfl w.heap.size _ acc rfl (by exact hown) (by exact hbase2) _ [z[k2]] rfl 1 1 rfl rfl (by omega) ?_; intro v' w4 hown1 hb4 hbs4)
            exact ⟨⟨k2 + 1, acc ++ [z[k2]], by rw [hL2.out]; omega, by go_num, by simp; omega, hown1, by rw [HR.out, HD.out, HF.out]; simp, hbl4.trans hb4⟩, by simp [intOf]; omega⟩
        · have hcv2 := hown.string
          have HF : Hid (dsL z.data.toList = acc) := by unfold Hid; rw [HR.out, List.drop_eq_nil_of_le (by rw [hL2.out]; omega)]; simp [dsL]
          have hal : (bs acc).size ≤ maxLen := by rw [bs_size]; unfold maxLen; omega
          clear hown
          go_wp2_with (go_at_call 65; refine (Lower_any _ _ hal).mono ?_; rintro e w5 ⟨rfl, hb5⟩; rw [bs_toList])
          go_ret
          exact ⟨by rw [HCMD.out, HF.out]; rfl, hbl4.trans (hb5.mono hbase2)⟩
theorem cmd_len (l : List UInt8) : (cmdL l).length ≤ l.length := by
  have h1 : (outL cmdSet l).length ≤ l.length := List.length_filter_le _ _
  have h2 := sq_len ((outL cmdSet l).map commaB) false
  have h3 := ds_len (squeezeL ((outL cmdSet l).map commaB))
  rw [List.length_map] at h2
  unfold cmdL lowerL
  rw [List.length_map]
  unfold squeezeL at *
  omega
end Go.Proofs.YthfjmlcjkbgboaaGreatDoor
