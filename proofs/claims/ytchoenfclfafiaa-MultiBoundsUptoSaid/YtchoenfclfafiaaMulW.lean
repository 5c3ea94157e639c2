/- The walks of multi.right, multi.front, multi.Boundary. -/
import Derived.Test.YtchoenfclfafiaaMulL
import Derived.Test.YtchoenfclfafiaaOctB
import Derived.Test.YtchoenfclfafiaaOctC
import Derived.Test.YtchoenfclfafiaaArgL
import Derived.Test.YtchoenfclfafiaaUnqW
namespace Go.Proofs.Ytchoenfclfafiaa
open Go.RowKit

def bndSigns : List UInt8 := [39, 43, 95, 45, 46]
theorem bndB_t {b : UInt8} {c i : Int} (hc : c = (b ||| 32).toNat) (hi : i = Lib.indexByte bndSigns b) (h : (97 ≤ c ∧ c ≤ 122) ∨ (48 ≤ (b.toNat : Int) ∧ (b.toNat : Int) ≤ 57) ∨ 0 ≤ i) : bndB b = true := by
  subst hi; subst hc
  unfold bndB letB bndSigns at *
  simp only [Bool.or_eq_true, Bool.and_eq_true, decide_eq_true_eq]
  omega
theorem bndB_f {b : UInt8} {c i : Int} (hc : c = (b ||| 32).toNat) (hi : i = Lib.indexByte bndSigns b) (h : ¬ ((97 ≤ c ∧ c ≤ 122) ∨ (48 ≤ (b.toNat : Int) ∧ (b.toNat : Int) ≤ 57) ∨ 0 ≤ i)) : bndB b = false := by
  subst hi; subst hc
  unfold bndB letB bndSigns at *
  simp only [Bool.or_eq_false_iff, Bool.and_eq_false_iff, decide_eq_false_iff_not]
  omega
def RightRel (s : ByteArray) (i : Value) : Prop := ∃ k : Nat, k ≤ s.size ∧ i = .int .i64 k ∧ s.data.toList.all bndB = (s.data.toList.drop k).all bndB
set_option maxRecDepth 100000 in
set_option maxHeartbeats 1600000 in
theorem right_any (s : ByteArray) (w : World) (hs : s.size ≤ maxLen) :
    Calls Try.prog 37 #[.string s] w fun e w' => e = .returned (.bool (rightB s.data.toList)) ∧ w' = w := by
  unfold maxLen at hs
  have hL : Hid (s.data.toList.length = s.size) := by unfold Hid; simp
  go_enter Try.func37, Try.ntmps37
  go_wp2_with fail
  go_loop [8] (fun i => RightRel s i) (fun i => s.size - (intOf i).toNat)
  case atStart => exact ⟨0, Nat.zero_le _, rfl, rfl⟩
  case round =>
    obtain ⟨k, hk, rfl, hr⟩ := hrel
    have HR := Lib.hid hr
    clear hr
    by_cases hlt : k < s.size
    · have HD := Lib.hid (drop_cons s k hlt)
      have hcb := s[k].toNat_lt
      obtain ⟨c, hc⟩ : ∃ c : Int, c = (s[k] ||| 32).toNat := ⟨_, rfl⟩
      have hor : bits BinOp.or IntKind.u8 (s[k].toNat : Int) 32 = c := by
        rw [hc, UInt8.toNat_or]; exact u8_or_nat _ _ s[k].toNat_lt (by decide)
      have HC := Lib.hid hc
      clear hc
      obtain ⟨ix, hi⟩ : ∃ ix : Int, ix = Lib.indexByte bndSigns s[k] := ⟨_, rfl⟩
      have HI := Lib.hid hi
      clear hi
      go_wp2_with (go_at_call 64; refine (Try.strings_IndexByte _ _ _).mono ?_; rintro e w' ⟨rfl, rfl⟩; rw [toUInt8_back, show (ByteArray.mk #[39, 43, 95, 45, 46]).data.toList = bndSigns from rfl, ← HI.out])
      all_goals first
        | (go_ret
           exact ⟨ret_bool (by unfold rightB; rw [HR.out, HD.out, List.all_cons, bndB_f HC.out HI.out (by omega)]; rfl), rfl⟩)
        | (try simp only [Bool.not_eq_eq_eq_not, Bool.not_false, decide_eq_true_eq] at *
           exact ⟨⟨k + 1, by omega, by go_num, by rw [HR.out, HD.out, List.all_cons, bndB_t HC.out HI.out (by omega)]; rfl⟩, by simp [intOf]; omega⟩)
        | (go_round
           case rel => exact ⟨k + 1, by omega, by go_num, by rw [HR.out, HD.out, List.all_cons, bndB_t HC.out HI.out (by omega)]; rfl⟩
           case measure => simp [intOf] <;> omega)
    · have HT : Hid (s.data.toList.all bndB = true) := by
        unfold Hid; rw [HR.out, List.drop_eq_nil_of_le (by rw [hL.out]; omega)]; rfl
      have HF : Hid (rightB s.data.toList = (decide (1 ≤ s.size) && decide (s.size ≤ 70))) := by
        unfold Hid rightB; rw [HT.out, hL.out]; rfl
      by_cases h1 : 1 ≤ s.size
      · by_cases h2 : s.size ≤ 70
        · have d1 : decide ((1 : Int) ≤ (s.size : Int)) = true := by simp; omega
          have d2 : decide ((s.size : Int) ≤ 70) = true := by simp; omega
          go_wp2_with fail
          go_ret
          exact ⟨ret_bool (by rw [HF.out, decide_eq_true h1, decide_eq_true h2]; rfl), rfl⟩
        · have d1 : decide ((1 : Int) ≤ (s.size : Int)) = true := by simp; omega
          have d2 : decide ((s.size : Int) ≤ 70) = false := by simp; omega
          go_wp2_with fail
          go_ret
          exact ⟨ret_bool (by rw [HF.out, decide_eq_true h1, decide_eq_false h2]; rfl), rfl⟩
      · have d1 : decide ((1 : Int) ≤ (s.size : Int)) = false := by simp; omega
        go_wp2_with fail
        go_ret
        exact ⟨ret_bool (by rw [HF.out, decide_eq_false h1]; rfl), rfl⟩
set_option maxRecDepth 100000 in
set_option maxHeartbeats 1600000 in
theorem front_any (s p : ByteArray) (w : World) (hs : s.size ≤ maxLen) :
    Calls Try.prog 45 #[.string s, .string p] w fun e w' => e = .returned (.tuple #[.string (bs (frontR s.data.toList p.data.toList).1), .bool (frontR s.data.toList p.data.toList).2]) ∧ Below w.heap.size w w' := by
  unfold maxLen at hs
  have hL : s.data.toList.length = s.size := by simp
  have hP : p.data.toList.length = p.size := by simp
  by_cases hlt : s.size < p.size
  · have d1 : decide ((s.size : Int) < (p.size : Int)) = true := by simp; omega
    have HF : Hid (frontR s.data.toList p.data.toList = (s.data.toList, false)) := by unfold Hid frontR; rw [if_pos (.inl (by omega))]
    rw [HF.out]
    dsimp only
    rw [bs_eta]
    go_enter Try.func45, Try.ntmps45
    go_wp2_with fail
    exact bodyPost_ret (v := .tuple #[.string s, .bool false]) (by simp [results, Try.results45, go_sem]) rfl ⟨rfl, Below.refl _ _⟩
  · have d1 : decide ((s.size : Int) < (p.size : Int)) = false := by simp; omega
    have i1 : (p.size : Int) ≤ (s.size : Int) := by omega
    have hex : (s.extract 0 p.size).data.toList = s.data.toList.take p.size := by rw [Lib.extract_data]; simp
    have HLOW := Lib.hid (Lower_any (s.extract 0 p.size) w (by unfold maxLen; rw [ByteArray.size_extract]; omega))
    have hdr : s.extract p.size s.size = bs (s.data.toList.drop p.size) := ext_bs (Lib.extract_to_end s p.size)
    rw [hex] at HLOW
    have HDR := Lib.hid hdr
    by_cases heq : lowerL (s.data.toList.take p.size) = p.data.toList
    · have HF : Hid (frontR s.data.toList p.data.toList = (s.data.toList.drop p.size, true)) := by
        unfold Hid frontR
        rw [hP, if_neg]
        rintro (h | h)
        · omega
        · exact h heq
      rw [HF.out]
      dsimp only
      rw [← HDR.out]
      have q1 : ((bs (lowerL (s.data.toList.take p.size))).toList == p.toList) = true := by rw [bs_list, heq, Lib.toList_data]; simp
      generalize bs (lowerL (s.data.toList.take p.size)) = X at *
      clear heq hex hdr hL hP
      go_enter Try.func45, Try.ntmps45
      go_wp2_with fail
      refine HLOW.out.mono ?_
      rintro e w1 ⟨rfl, hb⟩
      go_wp2_with fail
      exact bodyPost_ret (v := .tuple #[.string (s.extract p.size s.size), .bool true]) (by simp [results, Try.results45, go_sem]) rfl ⟨rfl, hb⟩
    · have HF : Hid (frontR s.data.toList p.data.toList = (s.data.toList, false)) := by
        unfold Hid frontR
        rw [hP, if_pos (.inr heq)]
      rw [HF.out]
      dsimp only
      rw [bs_eta]
      have q1 : ((bs (lowerL (s.data.toList.take p.size))).toList == p.toList) = false := by rw [bs_list, Lib.toList_data]; exact beq_eq_false_iff_ne.2 heq
      generalize bs (lowerL (s.data.toList.take p.size)) = X at *
      clear heq hex hdr hL hP
      go_enter Try.func45, Try.ntmps45
      go_wp2_with fail
      refine HLOW.out.mono ?_
      rintro e w1 ⟨rfl, hb⟩
      go_wp2_with fail
      exact bodyPost_ret (v := .tuple #[.string s, .bool false]) (by simp [results, Try.results45, go_sem]) rfl ⟨rfl, hb⟩
/-- What is told as a boundary. -/
def mfL : List UInt8 := [109, 117, 108, 116, 105, 112, 97, 114, 116, 47, 102, 111, 114, 109, 45, 100, 97, 116, 97]
def bdL : List UInt8 := [98, 111, 117, 110, 100, 97, 114, 121, 61]
def unqR (b : List UInt8) : List UInt8 := if 2 ≤ b.length ∧ b[0]? = some 34 ∧ b[b.length - 1]? = some 34 then (b.drop 1).take (b.length - 2) else b
def bdyR (v : List UInt8) : List UInt8 × Bool :=
  if lowerL (Lib.cut v [59]).1 ≠ mfL ∨ (frontR (trimL (Lib.cut v [59]).2.1) bdL).2 = false then ([], false)
  else if rightB (unqR (frontR (trimL (Lib.cut v [59]).2.1) bdL).1) = false then ([], false) else (unqR (frontR (trimL (Lib.cut v [59]).2.1) bdL).1, true)
theorem bytes_at (s : ByteArray) (i : Nat) (h : i < s.size) (x : UInt8) : (s.data.toList[i]? = some x) = ((s[i].toNat : Int) = (x.toNat : Int)) := by
  rw [Lib.data_getElem? s i h, propext_iff]
  constructor
  · intro e; rw [Option.some.inj e]
  · intro e; rw [Lib.byte_eq_of_toNat e]
theorem Cut_any (s sep : ByteArray) (W : World) (hs : s.size < 4294967281) (hl : LibOk W) {a b : List UInt8} {c : Bool} (hc : Lib.cut s.data.toList sep.data.toList = (a, b, c)) :
    Calls Try.prog 44 #[.string s, .string sep] W fun e w' => e = .returned (.tuple #[.string (bs a), .string (bs b), .bool c]) ∧ Below W.heap.size W w' := by
  obtain ⟨m0, hm0⟩ := hl
  refine (Try.strings_Cut s sep m0 W hs hm0).mono ?_
  rintro e w' ⟨rfl, n, rfl⟩
  rw [hc]
  exact ⟨rfl, below_drewN (Below.refl _ _) n⟩
theorem bdyR_eq {v ca cb : List UInt8} {cc : Bool} (hC : Lib.cut v [59] = (ca, cb, cc)) : bdyR v = if lowerL ca ≠ mfL ∨ (frontR (trimL cb) bdL).2 = false then ([], false)
    else if rightB (unqR (frontR (trimL cb) bdL).1) = false then ([], false) else (unqR (frontR (trimL cb) bdL).1, true) := by
  unfold bdyR; rw [hC]
theorem trimM_len (l : List UInt8) : (trimL l).length ≤ l.length := by
  unfold trimL rtrimL
  rw [List.length_reverse]
  refine Nat.le_trans (List.dropWhile_sublist _).length_le ?_
  rw [List.length_reverse]
  exact (List.dropWhile_sublist _).length_le
theorem front_len (s p : List UInt8) : (frontR s p).1.length ≤ s.length := by
  unfold frontR
  split
  · exact Nat.le_refl _
  · show (s.drop _).length ≤ _; rw [List.length_drop]; omega
set_option maxRecDepth 100000 in
set_option maxHeartbeats 6400000 in
theorem Boundary_any (v : ByteArray) (w : World) (hv : v.size < 4294967281) (hlib : LibOk w) :
    Calls Try.prog 20 #[.string v] w fun e w' => e = .returned (.tuple #[.string (bs (bdyR v.data.toList).1), .bool (bdyR v.data.toList).2]) ∧ Below w.heap.size w w' := by
  obtain ⟨ca, cb, cc, hC⟩ : ∃ a b c, Lib.cut v.data.toList (ByteArray.mk #[59]).data.toList = (a, b, c) := ⟨_, _, _, rfl⟩
  have HCUT := Lib.hid (Cut_any v (ByteArray.mk #[59]) w hv hlib hC)
  have e59 : (ByteArray.mk #[59]).data.toList = [59] := rfl
  rw [e59] at hC
  obtain ⟨l1, l2⟩ := cut_len v.data.toList [59]
  have hvl : v.data.toList.length = v.size := by simp
  have HBD := Lib.hid (bdyR_eq hC)
  generalize bdyR v.data.toList = R at *
  rw [hC] at l1 l2
  dsimp only at l1 l2
  have HTR : Hid (∀ W, Calls Try.prog 46 #[.string (bs cb)] W fun e w' => e = .returned (.string (bs (trimL cb))) ∧ w' = W) := fun W => by
    have := Trim_any (bs cb) W (by rw [bs_size]; unfold maxLen; omega)
    rw [bs_toList] at this
    exact this
  have htl := trimM_len cb
  have HLO : Hid (∀ W, Calls Try.prog 47 #[.string (bs ca)] W (StrPost (bs (lowerL ca)) W)) := fun W => by
    have := Lower_any (bs ca) W (by rw [bs_size]; unfold maxLen; omega)
    rw [bs_toList] at this
    exact this
  have hFR : ∀ W, Calls Try.prog 45 #[.string (bs (trimL cb)), .string (ByteArray.mk #[98, 111, 117, 110, 100, 97, 114, 121, 61])] W fun e w' => e = .returned (.tuple #[.string (bs (frontR (trimL cb) bdL).1), .bool (frontR (trimL cb) bdL).2]) ∧ Below W.heap.size W w' := fun W => by
    have := front_any (bs (trimL cb)) (ByteArray.mk #[98, 111, 117, 110, 100, 97, 114, 121, 61]) W (by rw [bs_size]; unfold maxLen; omega)
    have eb : (ByteArray.mk #[98, 111, 117, 110, 100, 97, 114, 121, 61]).data.toList = bdL := rfl
    rw [bs_toList, eb] at this
    exact this
  have hfl := front_len (trimL cb) bdL
  generalize frontR (trimL cb) bdL = F at *
  obtain ⟨fb, fo⟩ := F
  dsimp only at HBD hFR hfl
  have HFR := Lib.hid hFR
  have HRI : Hid (∀ (l : List UInt8) W, l.length ≤ v.size → Calls Try.prog 37 #[.string (bs l)] W fun e w' => e = .returned (.bool (rightB l)) ∧ w' = W) := fun l W h => by
    have := right_any (bs l) W (by rw [bs_size]; unfold maxLen; omega)
    rw [bs_toList] at this
    exact this
  have hfz : fb.length ≤ v.size := by omega
  generalize trimL cb = tb at *
  generalize hX : bs (lowerL ca) = X at *
  have q1 : ((X.toList == [109, 117, 108, 116, 105, 112, 97, 114, 116, 47, 102, 111, 114, 109, 45, 100, 97, 116, 97]) = true) = (lowerL ca = mfL) := by
    rw [← hX, bs_list, beq_iff_eq]; rfl
  have HQ1 := Lib.hid q1
  clear hFR hC e59 hX q1 htl hfl l1 l2 hvl hlib
  go_enter Try.func20, Try.ntmps20
  go_wp2_with (go_at_call 44; apply Hid.out)
  unfold Hid
  refine HCUT.out.mono ?_
  rintro e w1 ⟨rfl, hb1⟩
  have HB1 := Lib.hid hb1
  clear hb1 HCUT
  go_wp2_with (first | (go_at_call 46; refine (HTR.out _).mono ?_; rintro e w9 ⟨rfl, hw⟩; rw [hw]) | (go_at_call 45; apply Hid.out))
  unfold Hid
  refine (HFR.out w1).mono ?_
  rintro e w2 ⟨rfl, hb2⟩
  have HB2 := Lib.hid (HB1.out.trans (hb2.mono HB1.out.size))
  clear hb2 HB1 HFR HTR
  go_wp2_with (go_at_call 47; apply Hid.out)
  unfold Hid
  refine (HLO.out w2).mono ?_
  rintro e w3 ⟨rfl, hb3⟩
  have HB3 := Lib.hid (HB2.out.trans (hb3.mono HB2.out.size))
  clear hb3 HB2 HLO
  by_cases hlow : (X.toList == [109, 117, 108, 116, 105, 112, 97, 114, 116, 47, 102, 111, 114, 109, 45, 100, 97, 116, 97]) = true
  · have HLW : Hid (lowerL ca = mfL) := by rw [← HQ1.out]; exact hlow
    cases fo with
    | false =>
      have HE : Hid (R = ([], false)) := by unfold Hid; rw [HBD.out, if_pos (.inr rfl)]
      go_wp2_with fail
      exact bodyPost_ret (v := .tuple #[.string (ByteArray.mk #[]), .bool false]) (by simp [results, Try.results20, go_sem]) rfl ⟨by rw [HE.out]; rfl, HB3.out⟩
    | true =>
      have HE : Hid (R = if rightB (unqR fb) = false then ([], false) else (unqR fb, true)) := by
        unfold Hid; rw [HBD.out, if_neg]; rintro (h | h)
        · exact h HLW.out
        · cases h
      have hbz : (bs fb).size = fb.length := bs_size fb
      have hbl : (bs fb).data.toList = fb := rfl
      have HU : Hid (unqR fb = if 2 ≤ fb.length ∧ fb[0]? = some 34 ∧ fb[fb.length - 1]? = some 34 then (fb.drop 1).take (fb.length - 2) else fb) := rfl
      have hat : ∀ i (h : i < (bs fb).size), (fb[i]? = some 34) = (((bs fb)[i].toNat : Int) = 34) := fun i h => bytes_at (bs fb) i h 34
      by_cases c1 : 2 ≤ fb.length
      · have d1 : decide ((2 : Int) ≤ (fb.length : Int)) = true := by simp; omega
        have i1 : (0 : Int) < (fb.length : Int) := by omega
        have i2 : IntKind.i64.wrap ((fb.length : Int) - 1) = (fb.length : Int) - 1 := IntWalk.i64_in _ (by omega)
        have i3 : (0 : Int) ≤ (fb.length : Int) - 1 := by omega
        have i4 : (fb.length : Int) - 1 < (fb.length : Int) := by omega
        have i5 : ((fb.length : Int) - 1).toNat = fb.length - 1 := by omega
        have i6 : (1 : Int) ≤ (fb.length : Int) - 1 := by omega
        have i7 : (fb.length : Int) - 1 ≤ (fb.length : Int) := by omega
        by_cases c2 : fb[0]? = some 34
        · have q2 : (((bs fb)[0]'(by rw [hbz]; omega)).toNat : Int) = 34 := by rw [← hat]; exact c2
          by_cases c3 : fb[fb.length - 1]? = some 34
          · have q3 : (((bs fb)[fb.length - 1]'(by rw [hbz]; omega)).toNat : Int) = 34 := by rw [← hat]; exact c3
            have HU1 : Hid (unqR fb = (fb.drop 1).take (fb.length - 2)) := by unfold Hid; rw [HU.out, if_pos ⟨c1, c2, c3⟩]
            have hex : (bs fb).extract 1 (fb.length - 1) = bs ((fb.drop 1).take (fb.length - 2)) := ext_bs (by rw [Lib.extract_data, hbl, show fb.length - 1 - 1 = fb.length - 2 by omega])
            have hrl : ((fb.drop 1).take (fb.length - 2)).length ≤ v.size := by rw [List.length_take]; omega
            rw [HU1.out] at HE
            obtain ⟨U, hU⟩ : ∃ U, (fb.drop 1).take (fb.length - 2) = U := ⟨_, rfl⟩
            rw [hU] at HE hex hrl
            clear hU HU1 HU
            have HRU := Lib.hid (HRI.out (U) w3 hrl)
            clear hat hbl
            cases hr : rightB (U) with
            | true =>
              rw [hr] at HRU HE
              have HE2 : Hid (R = (U, true)) := by unfold Hid; rw [HE.out, if_neg (by decide)]
              clear hr
              go_wp2_with (go_at_call 37; refine HRU.out.mono ?_; rintro e w9 ⟨rfl, hw⟩; rw [hw])
              exact bodyPost_ret (v := .tuple #[.string (bs (U)), .bool true]) (by simp [results, Try.results20, go_sem]) rfl ⟨by rw [HE2.out], HB3.out⟩
            | false =>
              rw [hr] at HRU HE
              have HE2 : Hid (R = ([], false)) := by unfold Hid; rw [HE.out, if_pos rfl]
              clear hr
              go_wp2_with (go_at_call 37; refine HRU.out.mono ?_; rintro e w9 ⟨rfl, hw⟩; rw [hw])
              exact bodyPost_ret (v := .tuple #[.string (ByteArray.mk #[]), .bool false]) (by simp [results, Try.results20, go_sem]) rfl ⟨by rw [HE2.out]; rfl, HB3.out⟩
          · have q3 : ((((bs fb)[fb.length - 1]'(by rw [hbz]; omega)).toNat : Int) == 34) = false := beq_eq_false_iff_ne.2 (by rw [← hat] at *; intro e; apply c3; rw [hat _ (by rw [hbz]; omega)]; exact e)
            have HU1 : Hid (unqR fb = fb) := by unfold Hid; rw [HU.out, if_neg (fun h => c3 h.2.2)]
            rw [HU1.out] at HE
            have HRU := Lib.hid (HRI.out (fb) w3 hfz)
            clear hat hbl
            cases hr : rightB (fb) with
            | true =>
              rw [hr] at HRU HE
              have HE2 : Hid (R = (fb, true)) := by unfold Hid; rw [HE.out, if_neg (by decide)]
              clear hr
              go_wp2_with (go_at_call 37; refine HRU.out.mono ?_; rintro e w9 ⟨rfl, hw⟩; rw [hw])
              exact bodyPost_ret (v := .tuple #[.string (bs (fb)), .bool true]) (by simp [results, Try.results20, go_sem]) rfl ⟨by rw [HE2.out], HB3.out⟩
            | false =>
              rw [hr] at HRU HE
              have HE2 : Hid (R = ([], false)) := by unfold Hid; rw [HE.out, if_pos rfl]
              clear hr
              go_wp2_with (go_at_call 37; refine HRU.out.mono ?_; rintro e w9 ⟨rfl, hw⟩; rw [hw])
              exact bodyPost_ret (v := .tuple #[.string (ByteArray.mk #[]), .bool false]) (by simp [results, Try.results20, go_sem]) rfl ⟨by rw [HE2.out]; rfl, HB3.out⟩
        · have q2 : ((((bs fb)[0]'(by rw [hbz]; omega)).toNat : Int) == 34) = false := beq_eq_false_iff_ne.2 (by intro e; apply c2; rw [hat _ (by rw [hbz]; omega)]; exact e)
          have HU1 : Hid (unqR fb = fb) := by unfold Hid; rw [HU.out, if_neg (fun h => c2 h.2.1)]
          rw [HU1.out] at HE
          have HRU := Lib.hid (HRI.out (fb) w3 hfz)
          clear hat hbl
          cases hr : rightB (fb) with
          | true =>
            rw [hr] at HRU HE
            have HE2 : Hid (R = (fb, true)) := by unfold Hid; rw [HE.out, if_neg (by decide)]
            clear hr
            go_wp2_with (go_at_call 37; refine HRU.out.mono ?_; rintro e w9 ⟨rfl, hw⟩; rw [hw])
            exact bodyPost_ret (v := .tuple #[.string (bs (fb)), .bool true]) (by simp [results, Try.results20, go_sem]) rfl ⟨by rw [HE2.out], HB3.out⟩
          | false =>
            rw [hr] at HRU HE
            have HE2 : Hid (R = ([], false)) := by unfold Hid; rw [HE.out, if_pos rfl]
            clear hr
            go_wp2_with (go_at_call 37; refine HRU.out.mono ?_; rintro e w9 ⟨rfl, hw⟩; rw [hw])
            exact bodyPost_ret (v := .tuple #[.string (ByteArray.mk #[]), .bool false]) (by simp [results, Try.results20, go_sem]) rfl ⟨by rw [HE2.out]; rfl, HB3.out⟩
      · have d1 : decide ((2 : Int) ≤ (fb.length : Int)) = false := by simp; omega
        have HU1 : Hid (unqR fb = fb) := by unfold Hid; rw [HU.out, if_neg (fun h => c1 h.1)]
        rw [HU1.out] at HE
        have HRU := Lib.hid (HRI.out (fb) w3 hfz)
        clear hat hbl
        cases hr : rightB (fb) with
        | true =>
          rw [hr] at HRU HE
          have HE2 : Hid (R = (fb, true)) := by unfold Hid; rw [HE.out, if_neg (by decide)]
          clear hr
          go_wp2_with (go_at_call 37; refine HRU.out.mono ?_; rintro e w9 ⟨rfl, hw⟩; rw [hw])
          exact bodyPost_ret (v := .tuple #[.string (bs (fb)), .bool true]) (by simp [results, Try.results20, go_sem]) rfl ⟨by rw [HE2.out], HB3.out⟩
        | false =>
          rw [hr] at HRU HE
          have HE2 : Hid (R = ([], false)) := by unfold Hid; rw [HE.out, if_pos rfl]
          clear hr
          go_wp2_with (go_at_call 37; refine HRU.out.mono ?_; rintro e w9 ⟨rfl, hw⟩; rw [hw])
          exact bodyPost_ret (v := .tuple #[.string (ByteArray.mk #[]), .bool false]) (by simp [results, Try.results20, go_sem]) rfl ⟨by rw [HE2.out]; rfl, HB3.out⟩
  · have hl2 : (X.toList == [109, 117, 108, 116, 105, 112, 97, 114, 116, 47, 102, 111, 114, 109, 45, 100, 97, 116, 97]) = false := by simpa using hlow
    have HE : Hid (R = ([], false)) := by unfold Hid; rw [HBD.out, if_pos (.inl (fun h => hlow (by rw [HQ1.out]; exact h)))]
    clear hlow
    go_wp2_with fail
    exact bodyPost_ret (v := .tuple #[.string (ByteArray.mk #[]), .bool false]) (by simp [results, Try.results20, go_sem]) rfl ⟨by rw [HE.out]; rfl, HB3.out⟩
end Go.Proofs.Ytchoenfclfafiaa
