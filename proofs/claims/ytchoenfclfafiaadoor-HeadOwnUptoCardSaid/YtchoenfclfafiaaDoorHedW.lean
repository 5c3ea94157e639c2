/- The walks of head.plain, head.value, head.Check. -/
import Derived.Test.YtchoenfclfafiaaDoorHedP
namespace Go.Proofs.YtchoenfclfafiaaDoor
open Go.RowKit

def AllRel (p : UInt8 → Bool) (s : ByteArray) (i : Value) : Prop := ∃ k : Nat, k ≤ s.size ∧ i = .int .i64 k ∧ s.data.toList.all p = (s.data.toList.drop k).all p
theorem all_end {p : UInt8 → Bool} {s : ByteArray} {k : Nat} (h : s.size ≤ k) : (s.data.toList.drop k).all p = true := by
  rw [List.drop_eq_nil_of_le (by simpa using h)]; rfl

set_option maxRecDepth 100000 in
set_option maxHeartbeats 800000 in
theorem plain_any (s : ByteArray) (w : World) (hs : s.size ≤ maxLen) :
    Calls Tryd.prog 65 #[.string s] w fun e w' => e = .returned (.bool (plainL s.data.toList)) ∧ w' = w := by
  unfold maxLen at hs
  go_enter Tryd.func65, Tryd.ntmps65
  go_wp2_with fail
  go_loop [6] (fun i => AllRel plainB s i) (fun i => s.size - (intOf i).toNat)
  case atStart => exact ⟨0, Nat.zero_le _, rfl, rfl⟩
  case round =>
    obtain ⟨k, hk, rfl, hr⟩ := hrel
    have HR := Lib.hid hr
    clear hr
    by_cases hlt : k < s.size
    · have HD := Lib.hid (drop_cons s k hlt)
      have hcb := s[k].toNat_lt
      by_cases c1 : s[k].toNat < 33
      · have HP : Hid (plainL s.data.toList = false) := by unfold Hid plainL; rw [HR.out, HD.out, List.all_cons]; simp [plainB, c1]
        have d1 : decide ((s[k].toNat : Int) < 33) = true := decide_eq_true (by omega)
        clear c1
        go_wp2_with fail
        go_ret
        exact ⟨ret_bool HP.out.symm, rfl⟩
      · have d1 : decide ((s[k].toNat : Int) < 33) = false := decide_eq_false (by omega)
        by_cases c2 : 126 < s[k].toNat
        · have HP : Hid (plainL s.data.toList = false) := by unfold Hid plainL; rw [HR.out, HD.out, List.all_cons]; simp [plainB, c2]
          have d2 : decide ((126 : Int) < (s[k].toNat : Int)) = true := decide_eq_true (by omega)
          clear c1 c2
          go_wp2_with fail
          go_ret
          exact ⟨ret_bool HP.out.symm, rfl⟩
        · have d2 : decide ((126 : Int) < (s[k].toNat : Int)) = false := decide_eq_false (by omega)
          have HN : Hid (s.data.toList.all plainB = (s.data.toList.drop (k + 1)).all plainB) := by unfold Hid; rw [HR.out, HD.out, List.all_cons]; simp [plainB, c1, c2]
          clear c1 c2
          go_wp2_with fail
          go_round
          case rel => exact ⟨k + 1, by omega, by go_num, HN.out⟩
          case measure => simp [intOf] <;> omega
    · have HP : Hid (plainL s.data.toList = true) := by unfold Hid plainL; rw [HR.out, all_end (by omega)]
      obtain rfl : k = s.size := by omega
      go_wp2_with fail
      go_ret
      exact ⟨ret_bool HP.out.symm, rfl⟩

set_option maxRecDepth 100000 in
set_option maxHeartbeats 800000 in
theorem value_any (s : ByteArray) (w : World) (hs : s.size ≤ maxLen) :
    Calls Tryd.prog 66 #[.string s] w fun e w' => e = .returned (.bool (valueL s.data.toList)) ∧ w' = w := by
  have hs0 := hs
  unfold maxLen at hs
  go_enter Tryd.func66, Tryd.ntmps66
  go_wp2_with fail
  go_loop [7] (fun i => AllRel valB s i) (fun i => s.size - (intOf i).toNat)
  case atStart => exact ⟨0, Nat.zero_le _, rfl, rfl⟩
  case round =>
    obtain ⟨k, hk, rfl, hr⟩ := hrel
    have HR := Lib.hid hr
    clear hr
    by_cases hlt : k < s.size
    · have HD := Lib.hid (drop_cons s k hlt)
      have hcb := s[k].toNat_lt
      have HBAD : Hid (valB s[k] = false → valueL s.data.toList = false) := fun h => by unfold valueL; rw [HR.out, HD.out, List.all_cons, h]; rfl
      have HGOOD : Hid (valB s[k] = true → s.data.toList.all valB = (s.data.toList.drop (k + 1)).all valB) := fun h => by rw [HR.out, HD.out, List.all_cons, h]; rfl
      by_cases c1 : s[k].toNat < 32
      · have d1 : decide ((s[k].toNat : Int) < 32) = true := decide_eq_true (by omega)
        by_cases c2 : s[k].toNat = 9
        · have d2 : ((s[k].toNat : Int) != 9) = false := by rw [bne_eq_false_iff_eq]; omega
          have d3 : ((s[k].toNat : Int) == 127) = false := by rw [beq_eq_false_iff_ne]; omega
          have HN := Lib.hid (HGOOD.out (by unfold valB; simp [c2]))
          clear c1 c2
          go_wp2_with fail
          go_round
          case rel => exact ⟨k + 1, by omega, by go_num, HN.out⟩
          case measure => simp [intOf] <;> omega
        · have d2 : ((s[k].toNat : Int) != 9) = true := by rw [bne_iff_ne]; omega
          have HP := Lib.hid (HBAD.out (by unfold valB; simp [c1, c2]))
          clear c1 c2
          go_wp2_with fail
          go_ret
          exact ⟨ret_bool HP.out.symm, rfl⟩
      · have d1 : decide ((s[k].toNat : Int) < 32) = false := decide_eq_false (by omega)
        by_cases c3 : s[k].toNat = 127
        · have d3 : ((s[k].toNat : Int) == 127) = true := by rw [beq_iff_eq]; omega
          have HP := Lib.hid (HBAD.out (by unfold valB; simp [c3]))
          clear c1 c3
          go_wp2_with fail
          go_ret
          exact ⟨ret_bool HP.out.symm, rfl⟩
        · have d3 : ((s[k].toNat : Int) == 127) = false := by rw [beq_eq_false_iff_ne]; omega
          have HN := Lib.hid (HGOOD.out (by unfold valB; simp [c1, c3]))
          clear c1 c3
          go_wp2_with fail
          go_round
          case rel => exact ⟨k + 1, by omega, by go_num, HN.out⟩
          case measure => simp [intOf] <;> omega
    · have HP : Hid (valueL s.data.toList = (trimL s.data.toList == s.data.toList)) := by unfold Hid valueL; rw [HR.out, all_end (by omega)]; rfl
      obtain rfl : k = s.size := by omega
      go_wp2_with (go_at_call 47; refine (Trim_any _ _ hs0).mono ?_; rintro e w' ⟨rfl, rfl⟩)
      go_ret
      exact ⟨ret_bool (by rw [HP.out, Lib.toList_data]), rfl⟩

theorem tok_int {s : ByteArray} {w : World} (hs : s.size ≤ maxLen) {b : Bool} (h : tokenL s.data.toList = b) : Calls Tryd.prog 64 #[.string s] w fun e w' => e = .returned (.bool b) ∧ w' = w := by
  rw [← h]; exact Token_any s w hs
theorem plain_int {s : ByteArray} {w : World} (hs : s.size ≤ maxLen) {b : Bool} (h : plainL s.data.toList = b) : Calls Tryd.prog 65 #[.string s] w fun e w' => e = .returned (.bool b) ∧ w' = w := by
  rw [← h]; exact plain_any s w hs
theorem value_int {s : ByteArray} {w : World} (hs : s.size ≤ maxLen) {b : Bool} (h : valueL s.data.toList = b) : Calls Tryd.prog 66 #[.string s] w fun e w' => e = .returned (.bool b) ∧ w' = w := by
  rw [← h]; exact value_any s w hs

def ChkRel (h : HeadV) (w : World) (i : Value) (wr : World) : Prop :=
  ∃ k : Nat, k ≤ h.fs.length ∧ i = .int .i64 k ∧ Hid (fieldsE h.fs = fieldsE (h.fs.drop k)) ∧ Below w.heap.size w wr
theorem fieldsE_bad {f : PairV} {r : List PairV} (h : fieldE f ≠ 0) : fieldsE (f :: r) = fieldE f := by rw [fieldsE, if_neg h]
theorem fieldsE_good {f : PairV} {r : List PairV} (h : fieldE f = 0) : fieldsE (f :: r) = fieldsE r := by rw [fieldsE, if_pos h]

set_option maxRecDepth 100000 in
set_option maxHeartbeats 1600000 in
theorem HCheck_any (h : HeadV) (A : Option Addr) (c : Nat) (w : World) (hf : Sl w w.heap.size 2 A h.fs.length (h.fs.flatMap cellsV)) (hm : h.m.size ≤ maxLen) (ht : h.t.size ≤ maxLen)
    (hs : ∀ f ∈ h.fs, f.1.size ≤ maxLen ∧ f.2.size ≤ maxLen) (hl : h.fs.length ≤ 4398046511104) :
    Calls Tryd.prog 49 #[.agg #[.string h.m, .string h.t, .slice A h.fs.length c]] w fun e w' => e = .returned (.int .i64 (checkH h)) ∧ Below w.heap.size w w' := by
  have hml : h.m.data.toList.length = h.m.size := by simp
  have hb0 : ∀ o, Below w.heap.size w (w.alloc o) := fun o => (Below.refl _ _).alloc (Nat.le_refl _) o
  have HB0 := Lib.hid hb0
  clear hb0
  by_cases cl : lineOneB h.m.data.toList h.t.data.toList = false
  · have HR : Hid (checkH h = 4) := by unfold Hid checkH; rw [if_pos cl]
    cases h1 : tokenL h.m.data.toList with
    | false =>
      have HT := fun W => Lib.hid (tok_int (w := W) hm h1)
      clear cl h1
      go_enter Tryd.func49, Tryd.ntmps49
      go_wp2_with (go_at_call 64; refine (HT _).out.mono ?_; rintro e w' ⟨rfl, rfl⟩)
      go_ret
      exact ⟨ret_int HR.out.symm, HB0.out _⟩
    | true =>
      have HT := fun W => Lib.hid (tok_int (w := W) hm h1)
      by_cases h2 : 20 < h.m.size
      · have d2 : decide ((20 : Int) < (h.m.size : Int)) = true := decide_eq_true (by omega)
        clear cl h1 h2
        go_enter Tryd.func49, Tryd.ntmps49
        go_wp2_with (go_at_call 64; refine (HT _).out.mono ?_; rintro e w' ⟨rfl, rfl⟩)
        go_ret
        exact ⟨ret_int HR.out.symm, HB0.out _⟩
      · have d2 : decide ((20 : Int) < (h.m.size : Int)) = false := decide_eq_false (by omega)
        cases h3 : h.t.data.toList.isEmpty with
        | true =>
          have q3 : h.t.toList.isEmpty = true := by rw [Lib.toList_data]; exact h3
          clear cl h1 h2 h3
          go_enter Tryd.func49, Tryd.ntmps49
          go_wp2_with (go_at_call 64; refine (HT _).out.mono ?_; rintro e w' ⟨rfl, rfl⟩)
          go_ret
          exact ⟨ret_int HR.out.symm, HB0.out _⟩
        | false =>
          have q3 : h.t.toList.isEmpty = false := by rw [Lib.toList_data]; exact h3
          have h4 : plainL h.t.data.toList = false := by
            unfold lineOneB at cl
            rw [h1, h3, hml, decide_eq_true (by omega : h.m.size ≤ 20)] at cl
            simpa using cl
          have HP := fun W => Lib.hid (plain_int (w := W) ht h4)
          clear cl h1 h2 h3 h4
          go_enter Tryd.func49, Tryd.ntmps49
          go_wp2_with (first | (go_at_call 64; refine (HT _).out.mono ?_; rintro e w' ⟨rfl, rfl⟩) | (go_at_call 65; refine (HP _).out.mono ?_; rintro e w' ⟨rfl, rfl⟩))
          go_ret
          exact ⟨ret_int HR.out.symm, HB0.out _⟩
  · rw [Bool.not_eq_false] at cl
    have cl2 := cl
    unfold lineOneB at cl2
    simp only [Bool.and_eq_true, decide_eq_true_eq, Bool.not_eq_true', hml] at cl2
    obtain ⟨⟨⟨h1, h2⟩, h3⟩, h4⟩ := cl2
    have HT := fun W => Lib.hid (tok_int (w := W) hm h1)
    have HP := fun W => Lib.hid (plain_int (w := W) ht h4)
    have d2 : decide ((20 : Int) < (h.m.size : Int)) = false := decide_eq_false (by omega)
    have q3 : h.t.toList.isEmpty = false := by rw [Lib.toList_data]; exact h3
    have HR : Hid (checkH h = if 1000 < h.t.size ∨ 30 < h.fs.length then 5 else fieldsE h.fs) := by unfold Hid checkH; rw [if_neg (by rw [cl]; decide)]
    clear cl h1 h2 h3 h4
    by_cases h5 : 1000 < h.t.size
    · have d5 : decide ((1000 : Int) < (h.t.size : Int)) = true := decide_eq_true (by omega)
      have HR2 : Hid (checkH h = 5) := by unfold Hid; rw [HR.out, if_pos (.inl h5)]
      clear h5 HR
      go_enter Tryd.func49, Tryd.ntmps49
      go_wp2_with (first | (go_at_call 64; refine (HT _).out.mono ?_; rintro e w' ⟨rfl, rfl⟩) | (go_at_call 65; refine (HP _).out.mono ?_; rintro e w' ⟨rfl, rfl⟩))
      go_ret
      exact ⟨ret_int HR2.out.symm, HB0.out _⟩
    · have d5 : decide ((1000 : Int) < (h.t.size : Int)) = false := decide_eq_false (by omega)
      by_cases h6 : 30 < h.fs.length
      · have d6 : decide ((30 : Int) < (h.fs.length : Int)) = true := decide_eq_true (by omega)
        have HR2 : Hid (checkH h = 5) := by unfold Hid; rw [HR.out, if_pos (.inr h6)]
        clear h5 h6 HR
        go_enter Tryd.func49, Tryd.ntmps49
        go_wp2_with (first | (go_at_call 64; refine (HT _).out.mono ?_; rintro e w' ⟨rfl, rfl⟩) | (go_at_call 65; refine (HP _).out.mono ?_; rintro e w' ⟨rfl, rfl⟩))
        go_ret
        exact ⟨ret_int HR2.out.symm, HB0.out _⟩
      · have d6 : decide ((30 : Int) < (h.fs.length : Int)) = false := decide_eq_false (by omega)
        have HR2 : Hid (checkH h = fieldsE h.fs) := by unfold Hid; rw [HR.out, if_neg (by omega)]
        have hb0 := HB0.out (.cells #[.string h.m, .string h.t, .slice A h.fs.length c] 29)
        have hfl : h.fs.length ≤ 30 := by omega
        clear h5 h6 HR
        go_enter Tryd.func49, Tryd.ntmps49
        go_wp2_with (first | (go_at_call 64; refine (HT _).out.mono ?_; rintro e w' ⟨rfl, rfl⟩) | (go_at_call 65; refine (HP _).out.mono ?_; rintro e w' ⟨rfl, rfl⟩))
        go_loopw [41] (fun i wr => ChkRel h w i wr) (fun i _ => h.fs.length - (intOf i).toNat)
        case atStart => exact ⟨0, Nat.zero_le _, rfl, by unfold Hid; rw [List.drop_zero], hb0⟩
        case round =>
          obtain ⟨k, hk, rfl, HE, hb⟩ := hrel
          clear hb0
          by_cases hlt : k < h.fs.length
          · have d1 : decide ((k : Int) < (h.fs.length : Int)) = true := decide_eq_true (by omega)
            have i7 : IntKind.i64.wrap ((k : Int) + 1) = (k : Int) + 1 := IntWalk.i64_in _ (by omega)
            obtain ⟨b, off, rfl, hbB, hc1, hc2⟩ := fld_at (hf.below hb) k hlt
            have HS := hs _ (List.getElem_mem hlt)
            have HDR : Hid (h.fs.drop k = h.fs[k] :: h.fs.drop (k + 1)) := List.drop_eq_getElem_cons hlt
            have HB := Lib.hid hb
            have hb2 : Below w.heap.size w (wr.alloc (.cells #[.string h.fs[k].1, .string h.fs[k].2] 65)) := hb.alloc hb.size _
            have HB2 := Lib.hid hb2
            generalize h.fs[k] = f at *
            obtain ⟨n, v⟩ := f
            dsimp only at hc1 hc2 HS HB2
            have hns := HS.1
            have hvs := HS.2
            unfold maxLen at hns hvs
            clear hb hf hb2 hs
            have HBAD : Hid (∀ e, fieldE (n, v) = e → e ≠ 0 → checkH h = e) := fun e h1 h2 => by rw [HR2.out, HE.out, HDR.out, fieldsE_bad (by rw [h1]; exact h2), h1]
            cases t1 : tokenL n.data.toList with
            | false =>
              have HT := fun W => Lib.hid (tok_int (w := W) HS.1 t1)
              have HC := Lib.hid (HBAD.out 4 (by unfold fieldE; rw [if_pos]; dsimp only; rw [t1]; rfl) (by decide))
              clear t1 HBAD
              go_wp2_with (first | (go_at_call 64; refine (HT _).out.mono ?_; rintro e w' ⟨rfl, rfl⟩))
              go_ret
              exact ⟨ret_int HC.out.symm, HB2.out⟩
            | true =>
              have HT := fun W => Lib.hid (tok_int (w := W) HS.1 t1)
              cases t2 : valueL v.data.toList with
              | false =>
                have HV := fun W => Lib.hid (value_int (w := W) HS.2 t2)
                have HC := Lib.hid (HBAD.out 4 (by unfold fieldE; rw [if_pos]; dsimp only; rw [t1, t2]; rfl) (by decide))
                clear t1 t2 HBAD
                go_wp2_with (first | (go_at_call 64; refine (HT _).out.mono ?_; rintro e w' ⟨rfl, rfl⟩) | (go_at_call 66; refine (HV _).out.mono ?_; rintro e w' ⟨rfl, rfl⟩))
                go_ret
                exact ⟨ret_int HC.out.symm, HB2.out⟩
              | true =>
                have HV := fun W => Lib.hid (value_int (w := W) HS.2 t2)
                by_cases t3 : 1000 < n.size
                · have d3 : decide ((1000 : Int) < (n.size : Int)) = true := decide_eq_true (by omega)
                  have HC := Lib.hid (HBAD.out 5 (by unfold fieldE; rw [if_neg (by dsimp only; rw [t1, t2]; decide), if_pos (by dsimp only; omega)]) (by decide))
                  clear t1 t2 t3 HBAD
                  go_wp2_with (first | (go_at_call 64; refine (HT _).out.mono ?_; rintro e w' ⟨rfl, rfl⟩) | (go_at_call 66; refine (HV _).out.mono ?_; rintro e w' ⟨rfl, rfl⟩))
                  go_ret
                  exact ⟨ret_int HC.out.symm, HB2.out⟩
                · have d3 : decide ((1000 : Int) < (n.size : Int)) = false := decide_eq_false (by omega)
                  have i8 : IntKind.i64.wrap (1000 - (n.size : Int)) = 1000 - (n.size : Int) := IntWalk.i64_in _ (by omega)
                  by_cases t4 : 1000 < n.size + v.size
                  · have d4 : decide ((1000 : Int) - (n.size : Int) < (v.size : Int)) = true := decide_eq_true (by omega)
                    have HC := Lib.hid (HBAD.out 5 (by unfold fieldE; rw [if_neg (by dsimp only; rw [t1, t2]; decide), if_pos (by dsimp only; omega)]) (by decide))
                    clear t1 t2 t3 t4 HBAD
                    go_wp2_with (first | (go_at_call 64; refine (HT _).out.mono ?_; rintro e w' ⟨rfl, rfl⟩) | (go_at_call 66; refine (HV _).out.mono ?_; rintro e w' ⟨rfl, rfl⟩))
                    go_ret
                    exact ⟨ret_int HC.out.symm, HB2.out⟩
                  · have d4 : decide ((1000 : Int) - (n.size : Int) < (v.size : Int)) = false := decide_eq_false (by omega)
                    have HN : Hid (fieldsE h.fs = fieldsE (h.fs.drop (k + 1))) := by
                      unfold Hid
                      rw [HE.out, HDR.out, fieldsE_good]
                      unfold fieldE
                      rw [if_neg (by dsimp only; rw [t1, t2]; decide), if_neg (by dsimp only; omega)]
                    clear t1 t2 t3 t4 HBAD
                    go_wp2_with (first | (go_at_call 64; refine (HT _).out.mono ?_; rintro e w' ⟨rfl, rfl⟩) | (go_at_call 66; refine (HV _).out.mono ?_; rintro e w' ⟨rfl, rfl⟩))
                    go_roundw
                    case rel => exact ⟨k + 1, by omega, by go_num, HN, HB2.out⟩
                    case measure => simp [intOf] <;> omega
          · obtain rfl : k = h.fs.length := by omega
            have d1 : decide ((h.fs.length : Int) < (h.fs.length : Int)) = false := by simp
            have HC : Hid (checkH h = 0) := by unfold Hid; rw [HR2.out, HE.out, List.drop_length]; rfl
            go_wp2_with fail
            go_ret
            exact ⟨ret_int HC.out.symm, hb⟩
end Go.Proofs.YtchoenfclfafiaaDoor
