/- The walk of CodingBack. -/
import Derived.Test.YteinbjopclblaaaCodB
namespace Go.Proofs.Yteinbjopclblaaa
open Go.RowKit

def PlainRel (n : Nat) (W : World) (i : Value) (wr : World) : Prop := ∃ k : Nat, k ≤ n ∧ i = .int .i64 k ∧ wr = W
def PlainB (U : ByteArray) : Prop := ∀ (k : Nat) (h : k < U.size), 33 ≤ (U[k].toNat : Int) ∧ (U[k].toNat : Int) ≤ 126
theorem plainB_of (l : List UInt8) (U : ByteArray) (h : bs l = U) (hm : ∀ x ∈ l, 33 ≤ x.toNat ∧ x.toNat ≤ 126) : PlainB U := by
  intro k hk
  subst h
  have e : (bs l)[k] ∈ l := List.mem_of_getElem? (Lib.data_getElem? (bs l) k hk)
  have := hm _ e
  omega

set_option maxRecDepth 100000 in
set_option maxHeartbeats 3200000 in
theorem codingBack_any (s : ByteArray) (w : World) (hs : s.size ≤ 1048576) :
    Calls Try.prog 14 #[.string s] w fun e w' => e = .returned (.bool true) ∧ Below w.heap.size w w' := by
  have hL : s.data.toList.length = s.size := by simp
  have H1 := hexDec_back s.data.toList
  have H2 := b64_back s.data.toList
  have H3 := urlDec_back s.data.toList
  have l1 := hexEnc_len s.data.toList
  have l2 := b64_len s.data.toList
  have l3 := urlEnc_len s.data.toList
  have p1 := fun U h => plainB_of _ U h (hexEnc_mem s.data.toList)
  have p2 := fun U h => plainB_of _ U h (b64E_mem s.data.toList)
  have p3 := fun U h => plainB_of _ U h (urlEnc_mem s.data.toList)
  have z4 : (b64E s.data.toList).length ≤ 140737488351232 := by omega
  have heq : (s.data.toList == s.toList) = true := by rw [Lib.toList_data]; exact beq_self_eq_true _
  obtain ⟨X, hX⟩ : ∃ X, bs (hexEncL s.data.toList) = X := ⟨_, rfl⟩
  obtain ⟨B, hB⟩ : ∃ B, bs (b64E s.data.toList) = B := ⟨_, rfl⟩
  obtain ⟨U, hU⟩ : ∃ U, bs (urlEncL s.data.toList) = U := ⟨_, rfl⟩
  have p1 := Lib.hid (p1 X hX)
  have p2 := Lib.hid (p2 B hB)
  have p3 := Lib.hid (p3 U hU)
  have z1 : X.size = 2 * s.size := by rw [← hX, bs_size]; omega
  have z2 : B.size % 4 = 0 ∧ B.size ≤ 4 * s.size := by rw [← hB, bs_size]; omega
  have z3 : U.size ≤ 3 * s.size := by rw [← hU, bs_size]; omega
  have H1 : Hid (hexDecL X.data.toList = some s.data.toList) := by unfold Hid; rw [← hX]; exact H1
  have H2 : Hid (b64D B.data.toList = some s.data.toList) := by unfold Hid; rw [← hB]; exact H2
  have H3 : Hid (urlDecL U.data.toList = s.data.toList) := by unfold Hid; rw [← hU]; exact H3
  have HX := Lib.hid hX
  have HB := Lib.hid hB
  have HU := Lib.hid hU
  obtain ⟨z21, z22⟩ := z2
  have q1 : ((X.size : Int) == 2 * (s.size : Int)) = true := beq_iff_eq.2 (by omega)
  have q2 : ((B.size : Int) % 4 == 0) = true := beq_iff_eq.2 (by omega)
  have z1' : X.size ≤ 2 * s.size := by omega
  clear hL l1 l2 l3 hX hB hU z1 z21
  go_enter Try.func14, Try.ntmps14
  go_wp2_with fail
  refine (HexEncode_any _ _ (by omega)).mono ?_
  rintro e w1 ⟨rfl, hb1⟩
  rw [HX.out]
  go_wp2_with fail
  refine (HexDecode_any _ _ (by omega)).mono ?_
  rintro e w2 ⟨rfl, hb2⟩
  rw [H1.out]
  simp only [strRes]
  go_wp2_with fail
  refine (Base64Encode_any _ _ z4).mono ?_
  rintro e w3 ⟨rfl, hb3⟩
  rw [HB.out]
  go_wp2_with fail
  refine (Base64Decode_any _ _ (by omega)).mono ?_
  rintro e w4 ⟨rfl, hb4⟩
  rw [H2.out]
  simp only [strRes]
  go_wp2_with fail
  refine (UrlEncode_any _ _ (by omega)).mono ?_
  rintro e w5 ⟨rfl, hb5⟩
  rw [HU.out]
  go_wp2_with fail
  refine (UrlDecode_any _ _ (by omega)).mono ?_
  rintro e w6 ⟨rfl, hb6⟩
  rw [H3.out]
  go_wp2_with fail
  refine (UrlEncode_any _ _ (by omega)).mono ?_
  rintro e w7 ⟨rfl, hb7⟩
  rw [HU.out]
  go_wp2_with fail
  refine (HexEncode_any _ _ (by omega)).mono ?_
  rintro e w8 ⟨rfl, hb8⟩
  rw [HX.out]
  go_wp2_with fail
  refine (Base64Encode_any _ _ z4).mono ?_
  rintro e w9 ⟨rfl, hb9⟩
  rw [HB.out]
  have g2 := hb1.trans (hb2.mono hb1.size)
  have g3 := g2.trans (hb3.mono g2.size)
  have g4 := g3.trans (hb4.mono g3.size)
  have g5 := g4.trans (hb5.mono g4.size)
  have g6 := g5.trans (hb6.mono g5.size)
  have g7 := g6.trans (hb7.mono g6.size)
  have g8 := g7.trans (hb8.mono g7.size)
  have g9 := g8.trans (hb9.mono g8.size)
  clear hb1 hb2 hb3 hb4 hb5 hb6 hb7 hb8 hb9 g2 g3 g4 g5 g6 g7 g8
  go_wp2_with fail
  refine wp_loop_rounds 4 ?_
  rw [rounds_succ]
  go_wp2_with fail
  go_loopw [59] (fun i wr => PlainRel U.size (w9.alloc (.cells #[.string U, .string X, .string B] 9)) i wr) (fun i _ => U.size - (intOf i).toNat)
  case atStart => exact ⟨0, Nat.zero_le _, rfl, rfl⟩
  case round =>
    obtain ⟨k, hk, rfl, rfl⟩ := hrel
    by_cases hlt : k < U.size
    · have hlt' : (k : Int) < (U.size : Int) := by omega
      have ⟨f1, f2⟩ := p3.out k hlt
      go_wp2_with fail
      exact ⟨⟨k + 1, by omega, by go_num, rfl⟩, by simp [intOf]; omega⟩
    · have hge : (U.size : Int) ≤ (k : Int) := by omega
      clear hk hlt
      go_wp2_with (first | rw [rounds_succ] | fail)
      go_loopw [59] (fun i wr => PlainRel X.size (w9.alloc (.cells #[.string U, .string X, .string B] 9)) i wr) (fun i _ => X.size - (intOf i).toNat)
      case atStart => exact ⟨0, Nat.zero_le _, rfl, rfl⟩
      case round =>
        obtain ⟨k, hk, rfl, rfl⟩ := hrel
        by_cases hlt : k < X.size
        · have hlt' : (k : Int) < (X.size : Int) := by omega
          have ⟨f1, f2⟩ := p1.out k hlt
          go_wp2_with fail
          exact ⟨⟨k + 1, by omega, by go_num, rfl⟩, by simp [intOf]; omega⟩
        · have hge : (X.size : Int) ≤ (k : Int) := by omega
          clear hk hlt
          go_wp2_with (first | rw [rounds_succ] | fail)
          go_loopw [59] (fun i wr => PlainRel B.size (w9.alloc (.cells #[.string U, .string X, .string B] 9)) i wr) (fun i _ => B.size - (intOf i).toNat)
          case atStart => exact ⟨0, Nat.zero_le _, rfl, rfl⟩
          case round =>
            obtain ⟨k, hk, rfl, rfl⟩ := hrel
            by_cases hlt : k < B.size
            · have hlt' : (k : Int) < (B.size : Int) := by omega
              have ⟨f1, f2⟩ := p2.out k hlt
              go_wp2_with fail
              exact ⟨⟨k + 1, by omega, by go_num, rfl⟩, by simp [intOf]; omega⟩
            · have hge : (B.size : Int) ≤ (k : Int) := by omega
              clear hk hlt
              go_wp2_with (first | rw [rounds_succ] | fail)
              refine (HexEncode_any _ _ (by omega)).mono ?_
              rintro e w10 ⟨rfl, hb10⟩
              rw [HX.out]
              go_wp2_with fail
              refine (Base64Encode_any _ _ z4).mono ?_
              rintro e w11 ⟨rfl, hb11⟩
              rw [HB.out]
              have g10 := (g9.alloc g9.size (.cells #[.string U, .string X, .string B] 9)).trans (hb10.mono (by simp; exact Nat.le_succ_of_le g9.size))
              have g11 := g10.trans (hb11.mono g10.size)
              go_wp2_with fail
              go_ret
              exact ⟨rfl, g11⟩

end Go.Proofs.Yteinbjopclblaaa
