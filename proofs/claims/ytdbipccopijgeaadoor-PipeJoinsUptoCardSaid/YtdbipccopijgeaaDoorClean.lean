/- The walks of clean: white, Squeeze, without, NoNull, Cmd, and of CleanAgain. -/
import Derived.Test.YtdbipccopijgeaaDoorCleanL
import Derived.Test.YtdbipccopijgeaaDoorUnq
namespace Go.Proofs.YtdbipccopijgeaaDoor
open Go.RowKit

set_option maxHeartbeats 400000 in
theorem white_any (b : UInt8) (w : World) :
    Calls Tryd.prog 109 #[.int .u8 b.toNat] w fun e w' => e = .returned (.bool (whiteB b)) ∧ w' = w := by
  have hb : (b.toNat : Int) ≤ 255 := by have := b.toNat_lt; omega
  have h32 : (b == 32) = decide (b.toNat = 32) := by
    rw [Bool.eq_iff_iff, beq_iff_eq, decide_eq_true_eq]
    exact ⟨fun h => by rw [h]; rfl, fun h => UInt8.toNat_inj.1 h⟩
  unfold whiteB
  rw [h32]
  generalize b.toNat = n at *
  go_enter Tryd.func109, Tryd.ntmps109
  go_wp2
  all_goals
    go_ret
    refine ⟨ret_bool ?_, rfl⟩
    rw [Bool.eq_iff_iff]
    simp
    try omega

def SqRel (s : ByteArray) (w : World) (v i : Value) (wr : World) : Prop :=
  ∃ (k : Nat) (acc : List UInt8) (p : Bool), k ≤ s.size ∧ i = .int .i64 k ∧ acc.length ≤ k ∧ OwnB wr w.heap.size v acc ∧ squeezeL s.data.toList = acc ++ sqGo p (s.data.toList.drop k) ∧
    (k = 0 → p = false) ∧ (∀ j (h : j < s.size), k = j + 1 → p = whiteB s[j]) ∧ Below w.heap.size w wr

theorem sqGo_cons (p : Bool) (b : UInt8) (l : List UInt8) : sqGo p (b :: l) = if whiteB b = true then (if p = true then sqGo true l else 32 :: sqGo true l) else b :: sqGo false l := rfl

set_option maxRecDepth 100000 in
set_option maxHeartbeats 1600000 in
theorem Squeeze_any (s : ByteArray) (w : World) (hs : s.size ≤ 140737488351232) :
    Calls Tryd.prog 88 #[.string s] w (StrPost (bs (squeezeL s.data.toList)) w) := by
  have hL : Hid (s.data.toList.length = s.size) := by unfold Hid; simp
  go_enter Tryd.func88, Tryd.ntmps88
  go_wp2_with fail
  go_loopw [3, 7] (fun v i wr => SqRel s w v i wr) (fun _ i _ => s.size - (intOf i).toNat)
  case atStart => exact ⟨0, [], false, Nat.zero_le _, rfl, Nat.le_refl _, OwnB.nil _ _, rfl, fun _ => rfl, fun j _ h => absurd h (by omega), Below.refl _ _⟩
  case round =>
    obtain ⟨k, acc, p, hk, rfl, hacc, hown, hr, hp0, hp1, hbl⟩ := hrel
    have hbase := hbl.size
    have HR := Lib.hid hr
    clear hr
    by_cases hlt : k < s.size
    · have HD := Lib.hid (drop_cons s k hlt)
      have HC := Lib.hid (sqGo_cons p s[k] (s.data.toList.drop (k + 1)))
      cases hw : whiteB s[k] with
      | false =>
        have HW := Lib.hid hw
        have HPREV : Hid (∀ i (h : i < s.size), k + 1 = i + 1 → whiteB s[k] = whiteB s[i]) := fun i h e => by
          have e2 : k = i := by omega
          subst e2; rfl
        rw [hw] at HPREV
        have hstep : sqGo p (s[k] :: s.data.toList.drop (k + 1)) = s[k] :: sqGo false (s.data.toList.drop (k + 1)) := by rw [HC.out, hw, if_neg (by decide)]
        have HS := Lib.hid hstep
        clear hw hp0 hp1 hstep
        go_wp2_with (first | (go_at_call 109; refine (white_any _ _).mono ?_; rintro e w1 ⟨rfl, rfl⟩; rw [HW.out]) | (at_builtin; refine wpList_append_b rfl _ _ rfl w.heap.size _ acc rfl (by exact hown) (by exact hbase) _ [s[k]] rfl 1 1 rfl rfl (by omega) ?_; intro v' w2 hown1 hb1 hbs1))
        exact ⟨⟨k + 1, acc ++ [s[k]], false, by omega, by go_num, by simp; omega, hown1, by rw [HR.out, HD.out, HS.out]; simp, fun h => absurd h (by omega), HPREV.out, hbl.trans hb1⟩, by simp [intOf]; omega⟩
      | true =>
        have HW := Lib.hid hw
        have HPREV : Hid (∀ i (h : i < s.size), k + 1 = i + 1 → whiteB s[k] = whiteB s[i]) := fun i h e => by
          have e2 : k = i := by omega
          subst e2; rfl
        rw [hw] at HPREV
        have hstep : sqGo p (s[k] :: s.data.toList.drop (k + 1)) = if p = true then sqGo true (s.data.toList.drop (k + 1)) else 32 :: sqGo true (s.data.toList.drop (k + 1)) := by rw [HC.out, hw, if_pos rfl]
        have HS := Lib.hid hstep
        clear hw hstep
        by_cases hk0 : k = 0
        · have HP := Lib.hid (hp0 hk0)
          have hkz : ((k : Int) == 0) = true := beq_iff_eq.2 (by omega)
          have HK0 := Lib.hid hk0
          clear hk0 hp0 hp1
          go_wp2_with (first | (go_at_call 109; refine (white_any _ _).mono ?_; rintro e w1 ⟨rfl, rfl⟩; rw [HW.out]) | (at_builtin; refine wpList_append_b rfl _ _ rfl w.heap.size _ acc rfl (by exact hown) (by exact hbase) _ [32] rfl 1 1 rfl rfl (by omega) ?_; intro v' w2 hown1 hb1 hbs1))
          exact ⟨⟨k + 1, acc ++ [32], true, by omega, by go_num, by simp; omega, hown1, by rw [HR.out, HD.out, HS.out, HP.out, if_neg (by decide)]; simp, fun h => absurd h (by omega), HPREV.out, hbl.trans hb1⟩, by simp [intOf]; omega⟩
        · obtain ⟨j, rfl⟩ : ∃ j, k = j + 1 := ⟨k - 1, by omega⟩
          have hj : j < s.size := by omega
          have hpj := hp1 j hj rfl
          have hkz : ((j : Int) + 1 == 0) = false := beq_eq_false_iff_ne.2 (by omega)
          have hj1 : (j : Int) + 1 - 1 = j := by omega
          have HJ1 := Lib.hid hj1
          clear hk0 hp0 hp1 hj1
          cases p with
          | true =>
            have HP := Lib.hid hpj.symm
            clear hpj
            go_wp2_with (first | (go_at_call 109; refine (white_any _ _).mono ?_; rintro e w1 ⟨rfl, rfl⟩; first | rw [HW.out] | rw [HP.out]) | (at_builtin; refine wpList_append_b rfl _ _ rfl w.heap.size _ acc rfl (by exact hown) (by exact hbase) _ [32] rfl 1 1 rfl rfl (by omega) ?_; intro v' w2 hown1 hb1 hbs1))
            exact ⟨⟨j + 2, acc, true, by omega, by go_num, by omega, hown, by rw [HR.out, HD.out, HS.out]; simp, fun h => absurd h (by omega), HPREV.out, hbl⟩, by simp [intOf]; omega⟩
          | false =>
            have HP := Lib.hid hpj.symm
            clear hpj
            go_wp2_with (first | (go_at_call 109; refine (white_any _ _).mono ?_; rintro e w1 ⟨rfl, rfl⟩; first | rw [HW.out] | rw [HP.out]) | (at_builtin; refine wpList_append_b rfl _ _ rfl w.heap.size _ acc rfl (by exact hown) (by exact hbase) _ [32] rfl 1 1 rfl rfl (by omega) ?_; intro v' w2 hown1 hb1 hbs1))
            exact ⟨⟨j + 2, acc ++ [32], true, by omega, by go_num, by simp; omega, hown1, by rw [HR.out, HD.out, HS.out, if_neg (by decide)]; simp, fun h => absurd h (by omega), HPREV.out, hbl.trans hb1⟩, by simp [intOf]; omega⟩
    · have hcv := hown.string
      have HF : Hid (squeezeL s.data.toList = acc) := by unfold Hid; rw [HR.out, List.drop_eq_nil_of_le (by rw [hL.out]; omega)]; cases p <;> simp [sqGo]
      clear hown
      go_wp2_with fail
      go_ret
      exact ⟨by rw [HF.out]; rfl, hbl⟩

def OutRel (s t : ByteArray) (w : World) (v i : Value) (wr : World) : Prop :=
  ∃ k : Nat, k ≤ s.size ∧ i = .int .i64 k ∧ OwnB wr w.heap.size v (outL t.data.toList (s.data.toList.take k)) ∧ Below w.heap.size w wr

set_option maxRecDepth 100000 in
set_option maxHeartbeats 1600000 in
theorem without_any (s t : ByteArray) (w : World) (hs : s.size ≤ 140737488351232) :
    Calls Tryd.prog 110 #[.string s, .string t] w (StrPost (bs (outL t.data.toList s.data.toList)) w) := by
  have hL : Hid (s.data.toList.length = s.size) := by unfold Hid; simp
  go_enter Tryd.func110, Tryd.ntmps110
  go_wp2_with fail
  go_loopw [5, 9] (fun v i wr => OutRel s t w v i wr) (fun _ i _ => s.size - (intOf i).toNat)
  case atStart => exact ⟨0, Nat.zero_le _, rfl, OwnB.nil _ _, Below.refl _ _⟩
  case round =>
    obtain ⟨k, hk, rfl, hown, hbl⟩ := hrel
    have hbase := hbl.size
    by_cases hlt : k < s.size
    · have HT := Lib.hid (take_snoc s k hlt)
      have hql : (outL t.data.toList (s.data.toList.take k)).length ≤ (s.data.toList.take k).length := List.length_filter_le _ _
      have htl : (s.data.toList.take k).length ≤ k := List.length_take_le _ _
      have hql2 : (outL t.data.toList (s.data.toList.take k)).length ≤ k := by omega
      clear hql htl
      obtain ⟨x, hx⟩ : ∃ x, Lib.indexByte t.data.toList s[k] = x := ⟨_, rfl⟩
      have HX := Lib.hid hx
      have HFM : Hid (outL t.data.toList (s.data.toList.take (k + 1)) = outL t.data.toList (s.data.toList.take k) ++ (if x < 0 then [s[k]] else [])) := by
        unfold Hid outL; rw [HT.out, List.filter_append]
        congr 1
        by_cases h : x < 0
        · rw [if_pos h]; simp [hx, h]
        · rw [if_neg h]; simp [hx, h]
      clear hx
      by_cases h : x < 0
      · have HF2 : Hid (outL t.data.toList (s.data.toList.take (k + 1)) = outL t.data.toList (s.data.toList.take k) ++ [s[k]]) := by unfold Hid; rw [HFM.out, if_pos h]
        go_wp2_with (first | (go_at_call 103; refine (IndexByte_any _ _ _).mono ?_; rintro e w' ⟨rfl, rfl⟩; rw [HX.out]) | (at_builtin; refine wpList_append_b rfl _ _ rfl w.heap.size _ (outL t.data.toList (s.data.toList.take k)) rfl (by exact hown) (by exact hbase) _ [s[k]] rfl 1 1 rfl rfl (by omega) ?_; intro v' w1 hown1 hb1 hbs1))
        exact ⟨⟨k + 1, by omega, by go_num, by rw [HF2.out]; exact hown1, hbl.trans hb1⟩, by simp [intOf]; omega⟩
      · have HF2 : Hid (outL t.data.toList (s.data.toList.take (k + 1)) = outL t.data.toList (s.data.toList.take k)) := by unfold Hid; rw [HFM.out, if_neg h, List.append_nil]
        go_wp2_with (go_at_call 103; refine (IndexByte_any _ _ _).mono ?_; rintro e w' ⟨rfl, rfl⟩; rw [HX.out])
        exact ⟨⟨k + 1, by omega, by go_num, by rw [HF2.out]; exact hown, hbl⟩, by simp [intOf]; omega⟩
    · have HK : Hid (s.data.toList.take k = s.data.toList) := List.take_of_length_le (by rw [hL.out]; omega)
      have hcv := hown.string
      clear hown
      go_wp2_with fail
      go_ret
      exact ⟨by show Ending.returned (.string (bs (outL t.data.toList (s.data.toList.take k)))) = _; rw [HK.out], hbl⟩

theorem NoNull_any (s : ByteArray) (w : World) (hs : s.size ≤ 140737488351232) :
    Calls Tryd.prog 89 #[.string s] w (StrPost (bs (outL [0] s.data.toList)) w) := by
  go_enter Tryd.func89, Tryd.ntmps89
  go_wp2_with (go_at_call 110; refine (without_any _ _ _ hs).mono ?_; rintro e w' ⟨rfl, hb1⟩)
  go_ret
  exact ⟨rfl, hb1⟩

end Go.Proofs.YtdbipccopijgeaaDoor
