/- Part 8 of the proof: lemmas and walks that the last texts use. -/
import Derived.Test.YtdkbfljhfhjofaaGreatDoorM07
import Derived.Shelf.GgClosure.Gives
namespace Go.Proofs.YtdkbfljhfhjofaaGreatDoor
open Go.RowKit
def CodePost (c : Int) (w : World) (e : Ending) (w' : World) : Prop := e = .returned (.int .i64 c) ∧ Below w.heap.size w w'
theorem nameB_t {b : UInt8} (h : (97 ≤ (b.toNat : Int) ∧ (b.toNat : Int) ≤ 122) ∨ (48 ≤ (b.toNat : Int) ∧ (b.toNat : Int) ≤ 57) ∨ (b.toNat : Int) = 45 ∨ (b.toNat : Int) = 95) : nameB b = true := by
  unfold nameB
  simp only [Bool.or_eq_true, Bool.and_eq_true, decide_eq_true_eq, beq_iff_eq]
  rcases h with h | h | h | h
  · left; left; left; omega
  · left; left; right; omega
  · left; right; exact UInt8.toNat_inj.1 (by show b.toNat = 45; omega)
  · right; exact UInt8.toNat_inj.1 (by show b.toNat = 95; omega)
theorem nameB_f {b : UInt8} (h : ¬ ((97 ≤ (b.toNat : Int) ∧ (b.toNat : Int) ≤ 122) ∨ (48 ≤ (b.toNat : Int) ∧ (b.toNat : Int) ≤ 57) ∨ (b.toNat : Int) = 45 ∨ (b.toNat : Int) = 95)) : nameB b = false := by
  cases hb : nameB b with
  | false => rfl
  | true =>
    unfold nameB at hb
    simp only [Bool.or_eq_true, Bool.and_eq_true, decide_eq_true_eq, beq_iff_eq] at hb
    exfalso
    rcases hb with ((hb | hb) | hb) | hb
    · omega
    · omega
    · subst hb; exact h (.inr (.inr (.inl rfl)))
    · subst hb; exact h (.inr (.inr (.inr rfl)))
def NamRel (s : ByteArray) (i : Value) : Prop := ∃ k : Nat, k ≤ s.size ∧ i = .int .i64 k ∧ s.data.toList.all nameB = (s.data.toList.drop k).all nameB
set_option maxRecDepth 100000 in
set_option maxHeartbeats 1600000 in
theorem named_any (s : ByteArray) (w : World) (hs : s.size ≤ maxLen) :
    Calls Tryz.prog 88 #[.string s] w fun e w' => e = .returned (.bool (namedL s.data.toList)) ∧ w' = w := by
  unfold maxLen at hs
  have hL : Hid (s.data.toList.length = s.size) := by unfold Hid; simp
  go_enter Tryz.func88, Tryz.ntmps88
  go_wp2_with fail
  go_loop [7] (fun i => NamRel s i) (fun i => s.size - (intOf i).toNat)
  case atStart => exact ⟨0, Nat.zero_le _, rfl, rfl⟩
  case round =>
    obtain ⟨k, hk, rfl, hr⟩ := hrel
    have HR := Lib.hid hr
    clear hr
    by_cases hlt : k < s.size
    · have HD := Lib.hid (drop_cons s k hlt)
      have hcb := s[k].toNat_lt
      by_cases hn : (97 ≤ (s[k].toNat : Int) ∧ (s[k].toNat : Int) ≤ 122) ∨ (48 ≤ (s[k].toNat : Int) ∧ (s[k].toNat : Int) ≤ 57) ∨ (s[k].toNat : Int) = 45 ∨ (s[k].toNat : Int) = 95
      · have HN := Lib.hid (nameB_t hn)
        have HE : Hid (NamRel s (.int .i64 ((k : Int) + 1))) := ⟨k + 1, by omega, rfl, by rw [HR.out, HD.out, List.all_cons, HN.out]; rfl⟩
        rcases hn with hn | hn | hn | hn
        all_goals
          go_wp2_with fail
          exact ⟨HE.out, by simp [intOf] <;> omega⟩
      · have HN := Lib.hid (nameB_f hn)
        have n1 : (s[k].toNat : Int) ≠ 45 := fun e => hn (.inr (.inr (.inl e)))
        have n2 : (s[k].toNat : Int) ≠ 95 := fun e => hn (.inr (.inr (.inr e)))
        have n3 : (s[k].toNat : Int) < 48 ∨ (57 < (s[k].toNat : Int) ∧ (s[k].toNat : Int) < 97) ∨ 122 < (s[k].toNat : Int) := by omega
        have HF : Hid (namedL s.data.toList = false) := by unfold Hid namedL; rw [HR.out, HD.out, List.all_cons, HN.out]; rfl
        have m1 : ((s[k].toNat : Int) != 45) = true := bne_iff_ne.2 n1
        have m2 : ((s[k].toNat : Int) != 95) = true := bne_iff_ne.2 n2
        clear hn
        rcases n3 with n3 | n3 | n3
        all_goals
          go_wp2_with fail
          go_ret
          exact ⟨ret_bool HF.out.symm, rfl⟩
    · have hk' : k = s.size := by omega
      have HT : Hid (s.data.toList.all nameB = true) := by
        unfold Hid; rw [HR.out, List.drop_eq_nil_of_le (by rw [hL.out]; omega)]; rfl
      have HF : Hid (namedL s.data.toList = (decide (1 ≤ s.size) && decide (s.size ≤ 20))) := by
        unfold Hid namedL; rw [HT.out, hL.out]; rfl
      clear hk'
      by_cases h1 : 1 ≤ s.size
      · by_cases h2 : s.size ≤ 20
        · have d1 : decide ((1 : Int) ≤ (s.size : Int)) = true := by simp; omega
          have d2 : decide ((s.size : Int) ≤ 20) = true := by simp; omega
          go_wp2_with fail
          go_ret
          exact ⟨ret_bool (by rw [HF.out, decide_eq_true h1, decide_eq_true h2]; rfl), rfl⟩
        · have d1 : decide ((1 : Int) ≤ (s.size : Int)) = true := by simp; omega
          have d2 : decide ((s.size : Int) ≤ 20) = false := by simp; omega
          go_wp2_with fail
          go_ret
          exact ⟨ret_bool (by rw [HF.out, decide_eq_true h1, decide_eq_false h2]; rfl), rfl⟩
      · have d1 : decide ((1 : Int) ≤ (s.size : Int)) = false := by simp; omega
        go_wp2_with fail
        go_ret
        exact ⟨ret_bool (by rw [HF.out, decide_eq_false h1]; rfl), rfl⟩
set_option maxRecDepth 100000 in
set_option maxHeartbeats 1600000 in
theorem variable_any (v : RuVar) (w : World) (hs : v.n.size ≤ maxLen) :
    Calls Tryz.prog 48 #[.agg #[.int .i64 v.k, .int .i64 v.m, .string v.n]] w (CodePost (varC v) w) := by
  have hvc : varC v = if v.k < 1 ∨ 12 < v.k ∨ v.m < 0 ∨ 2 < v.m ∨ (v.n.data.toList ≠ [] ∧ (ofK v.k && namedL v.n.data.toList) = false) then 1 else 0 := rfl
  obtain ⟨k, m, n⟩ := v
  dsimp only at hs hvc ⊢
  have HN : Hid (∀ W, Calls Tryz.prog 88 #[.string n] W fun e w' => e = .returned (.bool (namedL n.data.toList)) ∧ w' = W) := fun W => named_any n W hs
  unfold CodePost
  have hkk : (k < 1 ∨ 12 < k) ∨ (1 ≤ k ∧ k ≤ 12 ∧ k ≠ 6 ∧ k ≠ 8 ∧ k ≠ 10) ∨ k = 6 ∨ k = 8 ∨ k = 10 := by omega
  rcases hkk with hkk | hkk
  · have q6 : (k == 6) = false := beq_eq_false_iff_ne.2 (by omega)
    have q8 : (k == 8) = false := beq_eq_false_iff_ne.2 (by omega)
    have q10 : (k == 10) = false := beq_eq_false_iff_ne.2 (by omega)
    have HF : Hid (varC ⟨k, m, n⟩ = 1) := Lib.hid (by rw [hvc, if_pos (by omega)])
    clear hvc
    rcases hkk with hkk | hkk
    · go_enter Tryz.func48, Tryz.ntmps48
      go_wp2_with fail
      go_ret
      exact ⟨ret_int HF.out.symm, (Below.refl _ _).alloc (Nat.le_refl _) _⟩
    · have hk1 : 1 ≤ k := by omega
      go_enter Tryz.func48, Tryz.ntmps48
      go_wp2_with fail
      go_ret
      exact ⟨ret_int HF.out.symm, (Below.refl _ _).alloc (Nat.le_refl _) _⟩
  · have hk1 : 1 ≤ k := by omega
    have hk2 : k ≤ 12 := by omega
    by_cases hm : m < 0
    · have HF : Hid (varC ⟨k, m, n⟩ = 1) := Lib.hid (by rw [hvc, if_pos (by omega)])
      clear hvc
      rcases hkk with hkk | rfl | rfl | rfl
      · have q6 : (k == 6) = false := beq_eq_false_iff_ne.2 (by omega)
        have q8 : (k == 8) = false := beq_eq_false_iff_ne.2 (by omega)
        have q10 : (k == 10) = false := beq_eq_false_iff_ne.2 (by omega)
        clear hkk
        go_enter Tryz.func48, Tryz.ntmps48
        go_wp2_with fail
        go_ret
        exact ⟨ret_int HF.out.symm, (Below.refl _ _).alloc (Nat.le_refl _) _⟩
      · go_enter Tryz.func48, Tryz.ntmps48
        go_wp2_with fail
        go_ret
        exact ⟨ret_int HF.out.symm, (Below.refl _ _).alloc (Nat.le_refl _) _⟩
      · go_enter Tryz.func48, Tryz.ntmps48
        go_wp2_with fail
        go_ret
        exact ⟨ret_int HF.out.symm, (Below.refl _ _).alloc (Nat.le_refl _) _⟩
      · go_enter Tryz.func48, Tryz.ntmps48
        go_wp2_with fail
        go_ret
        exact ⟨ret_int HF.out.symm, (Below.refl _ _).alloc (Nat.le_refl _) _⟩
    by_cases hm2 : 2 < m
    · have HF : Hid (varC ⟨k, m, n⟩ = 1) := Lib.hid (by rw [hvc, if_pos (by omega)])
      clear hvc
      rcases hkk with hkk | rfl | rfl | rfl
      · have q6 : (k == 6) = false := beq_eq_false_iff_ne.2 (by omega)
        have q8 : (k == 8) = false := beq_eq_false_iff_ne.2 (by omega)
        have q10 : (k == 10) = false := beq_eq_false_iff_ne.2 (by omega)
        clear hkk
        go_enter Tryz.func48, Tryz.ntmps48
        go_wp2_with fail
        go_ret
        exact ⟨ret_int HF.out.symm, (Below.refl _ _).alloc (Nat.le_refl _) _⟩
      · go_enter Tryz.func48, Tryz.ntmps48
        go_wp2_with fail
        go_ret
        exact ⟨ret_int HF.out.symm, (Below.refl _ _).alloc (Nat.le_refl _) _⟩
      · go_enter Tryz.func48, Tryz.ntmps48
        go_wp2_with fail
        go_ret
        exact ⟨ret_int HF.out.symm, (Below.refl _ _).alloc (Nat.le_refl _) _⟩
      · go_enter Tryz.func48, Tryz.ntmps48
        go_wp2_with fail
        go_ret
        exact ⟨ret_int HF.out.symm, (Below.refl _ _).alloc (Nat.le_refl _) _⟩
    by_cases hn : n.data.toList = []
    · have qe : (n.toList == []) = true := by rw [Lib.toList_data, hn]; rfl
      have qe2 : n.toList.isEmpty = true := by rw [Lib.toList_data, hn]; rfl
      have HF : Hid (varC ⟨k, m, n⟩ = 0) := Lib.hid (by rw [hvc, if_neg]; rintro (h | h | h | h | h); omega; omega; omega; omega; exact h.1 hn)
      clear hvc hn
      rcases hkk with hkk | rfl | rfl | rfl
      · have q6 : (k == 6) = false := beq_eq_false_iff_ne.2 (by omega)
        have q8 : (k == 8) = false := beq_eq_false_iff_ne.2 (by omega)
        have q10 : (k == 10) = false := beq_eq_false_iff_ne.2 (by omega)
        clear hkk
        go_enter Tryz.func48, Tryz.ntmps48
        go_wp2_with fail
        go_ret
        exact ⟨ret_int HF.out.symm, (Below.refl _ _).alloc (Nat.le_refl _) _⟩
      · go_enter Tryz.func48, Tryz.ntmps48
        go_wp2_with fail
        go_ret
        exact ⟨ret_int HF.out.symm, (Below.refl _ _).alloc (Nat.le_refl _) _⟩
      · go_enter Tryz.func48, Tryz.ntmps48
        go_wp2_with fail
        go_ret
        exact ⟨ret_int HF.out.symm, (Below.refl _ _).alloc (Nat.le_refl _) _⟩
      · go_enter Tryz.func48, Tryz.ntmps48
        go_wp2_with fail
        go_ret
        exact ⟨ret_int HF.out.symm, (Below.refl _ _).alloc (Nat.le_refl _) _⟩
    have qe : (n.toList == []) = false := by rw [Lib.toList_data]; exact beq_eq_false_iff_ne.2 hn
    have qe2 : n.toList.isEmpty = false := by rw [Lib.toList_data]; cases hh : n.data.toList with | nil => exact absurd hh hn | cons a r => rfl
    rcases hkk with hkk | hkk
    · have HF : Hid (varC ⟨k, m, n⟩ = 1) := Lib.hid (by
        rw [hvc, if_pos]
        refine .inr (.inr (.inr (.inr ⟨hn, ?_⟩)))
        have : ofK k = false := by
          unfold ofK
          rw [beq_eq_false_iff_ne.2 hkk.2.2.1, beq_eq_false_iff_ne.2 hkk.2.2.2.1, beq_eq_false_iff_ne.2 hkk.2.2.2.2]; rfl
        rw [this, Bool.false_and])
      clear hvc hn
      have q6 : (k == 6) = false := beq_eq_false_iff_ne.2 (by omega)
      have q8 : (k == 8) = false := beq_eq_false_iff_ne.2 (by omega)
      have q10 : (k == 10) = false := beq_eq_false_iff_ne.2 (by omega)
      clear hkk
      go_enter Tryz.func48, Tryz.ntmps48
      go_wp2_with fail
      go_ret
      exact ⟨ret_int HF.out.symm, (Below.refl _ _).alloc (Nat.le_refl _) _⟩
    · have hof : ofK k = true := by rcases hkk with rfl | rfl | rfl <;> rfl
      rw [hof, Bool.true_and] at hvc
      cases hb : namedL n.data.toList with
      | true =>
        rw [hb] at HN hvc
        have HF : Hid (varC ⟨k, m, n⟩ = 0) := Lib.hid (by rw [hvc, if_neg]; rintro (h | h | h | h | h); omega; omega; omega; omega; exact absurd h.2 (by decide))
        clear hvc hn hof hb
        rcases hkk with rfl | rfl | rfl
        · go_enter Tryz.func48, Tryz.ntmps48
          go_wp2_with (go_at_call 88; refine (HN.out _).mono ?_; rintro e w1 ⟨rfl, rfl⟩)
          go_ret
          exact ⟨ret_int HF.out.symm, (Below.refl _ _).alloc (Nat.le_refl _) _⟩
        · go_enter Tryz.func48, Tryz.ntmps48
          go_wp2_with (go_at_call 88; refine (HN.out _).mono ?_; rintro e w1 ⟨rfl, rfl⟩)
          go_ret
          exact ⟨ret_int HF.out.symm, (Below.refl _ _).alloc (Nat.le_refl _) _⟩
        · go_enter Tryz.func48, Tryz.ntmps48
          go_wp2_with (go_at_call 88; refine (HN.out _).mono ?_; rintro e w1 ⟨rfl, rfl⟩)
          go_ret
          exact ⟨ret_int HF.out.symm, (Below.refl _ _).alloc (Nat.le_refl _) _⟩
      | false =>
        rw [hb] at HN hvc
        have HF : Hid (varC ⟨k, m, n⟩ = 1) := Lib.hid (by rw [hvc, if_pos]; exact .inr (.inr (.inr (.inr ⟨hn, rfl⟩))))
        clear hvc hn hof hb
        rcases hkk with rfl | rfl | rfl
        · go_enter Tryz.func48, Tryz.ntmps48
          go_wp2_with (go_at_call 88; refine (HN.out _).mono ?_; rintro e w1 ⟨rfl, rfl⟩)
          go_ret
          exact ⟨ret_int HF.out.symm, (Below.refl _ _).alloc (Nat.le_refl _) _⟩
        · go_enter Tryz.func48, Tryz.ntmps48
          go_wp2_with (go_at_call 88; refine (HN.out _).mono ?_; rintro e w1 ⟨rfl, rfl⟩)
          go_ret
          exact ⟨ret_int HF.out.symm, (Below.refl _ _).alloc (Nat.le_refl _) _⟩
        · go_enter Tryz.func48, Tryz.ntmps48
          go_wp2_with (go_at_call 88; refine (HN.out _).mono ?_; rintro e w1 ⟨rfl, rfl⟩)
          go_ret
          exact ⟨ret_int HF.out.symm, (Below.refl _ _).alloc (Nat.le_refl _) _⟩
set_option maxRecDepth 100000 in
set_option maxHeartbeats 1600000 in
theorem act_any (a : RuAct) (w : World) :
    Calls Tryz.prog 51 #[.agg #[.int .i64 a.k, .int .i64 a.n]] w (CodePost (actC a) w) := by
  have hvc : actC a = if a.k < 1 ∨ 5 < a.k ∨ a.n < loA a.k ∨ hiA a.k < a.n then 1 else 0 := rfl
  obtain ⟨k, n⟩ := a
  dsimp only at hvc ⊢
  unfold CodePost
  have hkk : (k < 1 ∨ 5 < k) ∨ k = 1 ∨ k = 2 ∨ k = 3 ∨ k = 4 ∨ k = 5 := by omega
  rcases hkk with hkk | rfl | rfl | rfl | rfl | rfl
  · have HF : Hid (actC ⟨k, n⟩ = 1) := Lib.hid (by rw [hvc, if_pos (by omega)])
    have q1 : (k == 1) = false := beq_eq_false_iff_ne.2 (by omega)
    have q2 : (k == 2) = false := beq_eq_false_iff_ne.2 (by omega)
    have q3 : (k == 3) = false := beq_eq_false_iff_ne.2 (by omega)
    have q4 : (k == 4) = false := beq_eq_false_iff_ne.2 (by omega)
    have q5 : (k == 5) = false := beq_eq_false_iff_ne.2 (by omega)
    clear hvc hkk
    go_enter Tryz.func51, Tryz.ntmps51
    go_wp2_with fail
    go_ret
    exact ⟨ret_int HF.out.symm, (Below.refl _ _).alloc (Nat.le_refl _) _⟩
  · have hl : loA 1 = 0 := rfl
    have hh : hiA 1 = 0 := rfl
    rw [hl, hh] at hvc
    clear hl hh
    by_cases h1 : n < 0
    · have HF : Hid (actC ⟨1, n⟩ = 1) := Lib.hid (by rw [hvc, if_pos (by omega)])
      clear hvc
      go_enter Tryz.func51, Tryz.ntmps51
      go_wp2_with fail
      go_ret
      exact ⟨ret_int HF.out.symm, (Below.refl _ _).alloc (Nat.le_refl _) _⟩
    by_cases h2 : 0 < n
    · have HF : Hid (actC ⟨1, n⟩ = 1) := Lib.hid (by rw [hvc, if_pos (by omega)])
      clear hvc
      go_enter Tryz.func51, Tryz.ntmps51
      go_wp2_with fail
      go_ret
      exact ⟨ret_int HF.out.symm, (Below.refl _ _).alloc (Nat.le_refl _) _⟩
    · have HF : Hid (actC ⟨1, n⟩ = 0) := Lib.hid (by rw [hvc, if_neg (by omega)])
      clear hvc
      go_enter Tryz.func51, Tryz.ntmps51
      go_wp2_with fail
      go_ret
      exact ⟨ret_int HF.out.symm, (Below.refl _ _).alloc (Nat.le_refl _) _⟩
  · have hl : loA 2 = 400 := rfl
    have hh : hiA 2 = 599 := rfl
    rw [hl, hh] at hvc
    clear hl hh
    by_cases h1 : n < 400
    · have HF : Hid (actC ⟨2, n⟩ = 1) := Lib.hid (by rw [hvc, if_pos (by omega)])
      clear hvc
      go_enter Tryz.func51, Tryz.ntmps51
      go_wp2_with fail
      go_ret
      exact ⟨ret_int HF.out.symm, (Below.refl _ _).alloc (Nat.le_refl _) _⟩
    by_cases h2 : 599 < n
    · have HF : Hid (actC ⟨2, n⟩ = 1) := Lib.hid (by rw [hvc, if_pos (by omega)])
      clear hvc
      go_enter Tryz.func51, Tryz.ntmps51
      go_wp2_with fail
      go_ret
      exact ⟨ret_int HF.out.symm, (Below.refl _ _).alloc (Nat.le_refl _) _⟩
    · have HF : Hid (actC ⟨2, n⟩ = 0) := Lib.hid (by rw [hvc, if_neg (by omega)])
      clear hvc
      go_enter Tryz.func51, Tryz.ntmps51
      go_wp2_with fail
      go_ret
      exact ⟨ret_int HF.out.symm, (Below.refl _ _).alloc (Nat.le_refl _) _⟩
  · have hl : loA 3 = 1 := rfl
    have hh : hiA 3 = 1000 := rfl
    rw [hl, hh] at hvc
    clear hl hh
    by_cases h1 : n < 1
    · have HF : Hid (actC ⟨3, n⟩ = 1) := Lib.hid (by rw [hvc, if_pos (by omega)])
      clear hvc
      go_enter Tryz.func51, Tryz.ntmps51
      go_wp2_with fail
      go_ret
      exact ⟨ret_int HF.out.symm, (Below.refl _ _).alloc (Nat.le_refl _) _⟩
    by_cases h2 : 1000 < n
    · have HF : Hid (actC ⟨3, n⟩ = 1) := Lib.hid (by rw [hvc, if_pos (by omega)])
      clear hvc
      go_enter Tryz.func51, Tryz.ntmps51
      go_wp2_with fail
      go_ret
      exact ⟨ret_int HF.out.symm, (Below.refl _ _).alloc (Nat.le_refl _) _⟩
    · have HF : Hid (actC ⟨3, n⟩ = 0) := Lib.hid (by rw [hvc, if_neg (by omega)])
      clear hvc
      go_enter Tryz.func51, Tryz.ntmps51
      go_wp2_with fail
      go_ret
      exact ⟨ret_int HF.out.symm, (Below.refl _ _).alloc (Nat.le_refl _) _⟩
  · have hl : loA 4 = 1 := rfl
    have hh : hiA 4 = 9 := rfl
    rw [hl, hh] at hvc
    clear hl hh
    by_cases h1 : n < 1
    · have HF : Hid (actC ⟨4, n⟩ = 1) := Lib.hid (by rw [hvc, if_pos (by omega)])
      clear hvc
      go_enter Tryz.func51, Tryz.ntmps51
      go_wp2_with fail
      go_ret
      exact ⟨ret_int HF.out.symm, (Below.refl _ _).alloc (Nat.le_refl _) _⟩
    by_cases h2 : 9 < n
    · have HF : Hid (actC ⟨4, n⟩ = 1) := Lib.hid (by rw [hvc, if_pos (by omega)])
      clear hvc
      go_enter Tryz.func51, Tryz.ntmps51
      go_wp2_with fail
      go_ret
      exact ⟨ret_int HF.out.symm, (Below.refl _ _).alloc (Nat.le_refl _) _⟩
    · have HF : Hid (actC ⟨4, n⟩ = 0) := Lib.hid (by rw [hvc, if_neg (by omega)])
      clear hvc
      go_enter Tryz.func51, Tryz.ntmps51
      go_wp2_with fail
      go_ret
      exact ⟨ret_int HF.out.symm, (Below.refl _ _).alloc (Nat.le_refl _) _⟩
  · have hl : loA 5 = 0 := rfl
    have hh : hiA 5 = 0 := rfl
    rw [hl, hh] at hvc
    clear hl hh
    by_cases h1 : n < 0
    · have HF : Hid (actC ⟨5, n⟩ = 1) := Lib.hid (by rw [hvc, if_pos (by omega)])
      clear hvc
      go_enter Tryz.func51, Tryz.ntmps51
      go_wp2_with fail
      go_ret
      exact ⟨ret_int HF.out.symm, (Below.refl _ _).alloc (Nat.le_refl _) _⟩
    by_cases h2 : 0 < n
    · have HF : Hid (actC ⟨5, n⟩ = 1) := Lib.hid (by rw [hvc, if_pos (by omega)])
      clear hvc
      go_enter Tryz.func51, Tryz.ntmps51
      go_wp2_with fail
      go_ret
      exact ⟨ret_int HF.out.symm, (Below.refl _ _).alloc (Nat.le_refl _) _⟩
    · have HF : Hid (actC ⟨5, n⟩ = 0) := Lib.hid (by rw [hvc, if_neg (by omega)])
      clear hvc
      go_enter Tryz.func51, Tryz.ntmps51
      go_wp2_with fail
      go_ret
      exact ⟨ret_int HF.out.symm, (Below.refl _ _).alloc (Nat.le_refl _) _⟩
theorem ruV_at {w : World} {B m : Nat} {A : Option Addr} {l : List RuVar} (h : Sl w B 3 A m (l.flatMap cellsRuV)) (k : Nat) (hk : k < l.length) :
    ∃ b off, A = some ⟨b, off, none⟩ ∧ b < B ∧ w.cell? ⟨b, off + k * 3, none⟩ = some (.int .i64 l[k].k) ∧ w.cell? ⟨b, off + k * 3 + 1, none⟩ = some (.int .i64 l[k].m) ∧ w.cell? ⟨b, off + k * 3 + 2, none⟩ = some (.string l[k].n) := by
  have hl := flat_len cellsRuV 3 (fun _ => rfl) l
  obtain ⟨b, off, e, hb, hc⟩ := h.src (by omega)
  have hat : ∀ j, j < 3 → ∀ v, (cellsRuV l[k])[j]? = some v → w.cell? ⟨b, off + k * 3 + j, none⟩ = some v := fun j hj v hv => by
    have h1 := flat_at cellsRuV 3 (fun _ => rfl) l k j hk hj
    have h2 : k * 3 + j < (l.flatMap cellsRuV).length := by omega
    rw [Nat.add_assoc, hc (k * 3 + j) h2]
    rw [List.getElem?_eq_getElem h2] at h1
    rw [h1, hv]
  exact ⟨b, off, e, hb, hat 0 (by decide) _ rfl, hat 1 (by decide) _ rfl, hat 2 (by decide) _ rfl⟩
set_option maxRecDepth 100000 in
set_option maxHeartbeats 800000 in
theorem firstV_any (g : Nat) (lb : Array Value) (eg : ∀ args w, (callFunc g args).run Tryz.prog w = .ok (.enter g args) w) (f : RuVar → Int) (l : List RuVar) (A : Option Addr) (c : Nat) (w : World)
    (h : Sl w w.heap.size 3 A l.length (l.flatMap cellsRuV)) (hl : l.length ≤ 1048576)
    (hp : ∀ W, ∀ x ∈ l, Below w.heap.size w W → Calls Tryz.prog g (#[.agg #[.int .i64 x.k, .int .i64 x.m, .string x.n]] ++ lb) W (CodePost (f x) W)) :
    Calls Tryz.prog 47 #[.slice A l.length c, .func (.func g) #[] lb] w (CodePost (firstC f l) w) := by
  have HP := Lib.hid hp
  have HD : Hid (∀ k (hk : k < l.length), l.drop k = l[k] :: l.drop (k + 1)) := fun k hk => List.drop_eq_getElem_cons hk
  clear hp
  go_enter Tryz.func47, Tryz.ntmps47
  go_wp2_with fail
  go_loopw [10] (fun i wr => ∃ k : Nat, k ≤ l.length ∧ i = .int .i64 k ∧ Below w.heap.size w wr ∧ Hid (firstC f l = firstC f (l.drop k))) (fun i _ => l.length - (intOf i).toNat)
  case atStart => exact ⟨0, Nat.zero_le _, rfl, Below.refl _ _, rfl⟩
  case round =>
    obtain ⟨k, hk, rfl, hb, hr⟩ := hrel
    by_cases hlt : k < l.length
    · obtain ⟨b, off, rfl, hbB, x0, x1, x2⟩ := ruV_at (h.below hb) k hlt
      have hc := fun W hW => HP.out W l[k] (List.getElem_mem hlt) hW
      have hd := HD.out k hlt
      generalize l[k] = x at *
      obtain ⟨p, q, r⟩ := x
      dsimp only at x0 x1 x2 hc
      have HC := Lib.hid (hc _ (hb.alloc hb.size (.cells #[.int .i64 p, .int .i64 q, .string r] 49)))
      have hz := hb.size
      clear hc
      by_cases hq : f ⟨p, q, r⟩ = 0
      · have HR : Hid (firstC f l = firstC f (l.drop (k + 1))) := Lib.hid (by rw [hr.out, hd, firstC, if_neg (by rw [hq]; decide)])
        rw [hq] at HC
        clear hd hr hq
        go_wp2_with (go_at_fn g; refine HC.out.mono ?_; rintro e w1 ⟨rfl, hb1⟩)
        go_roundw
        case rel => exact ⟨k + 1, by omega, by go_num, hb.trans (below_new hb1 hz), HR⟩
        case measure => simp [intOf] <;> omega
      · have HR : Hid (firstC f l = f ⟨p, q, r⟩) := Lib.hid (by rw [hr.out, hd, firstC, if_pos hq])
        have qn : (f ⟨p, q, r⟩ == 0) = false := beq_eq_false_iff_ne.2 hq
        clear hd hr hq
        generalize f ⟨p, q, r⟩ = cd at *
        go_wp2_with (go_at_fn g; refine HC.out.mono ?_; rintro e w1 ⟨rfl, hb1⟩)
        go_ret
        exact ⟨ret_int HR.out.symm, hb.trans (below_new hb1 hz)⟩
    · obtain rfl : k = l.length := by omega
      have HR : Hid (firstC f l = 0) := Lib.hid (by rw [hr.out, List.drop_eq_nil_of_le (Nat.le_refl _)]; rfl)
      go_wp2_with fail
      go_ret
      exact ⟨ret_int HR.out.symm, hb⟩
theorem ruA_at {w : World} {B m : Nat} {A : Option Addr} {l : List RuAct} (h : Sl w B 2 A m (l.flatMap cellsRuA)) (k : Nat) (hk : k < l.length) :
    ∃ b off, A = some ⟨b, off, none⟩ ∧ b < B ∧ w.cell? ⟨b, off + k * 2, none⟩ = some (.int .i64 l[k].k) ∧ w.cell? ⟨b, off + k * 2 + 1, none⟩ = some (.int .i64 l[k].n) := by
  have hl := flat_len cellsRuA 2 (fun _ => rfl) l
  obtain ⟨b, off, e, hb, hc⟩ := h.src (by omega)
  have hat : ∀ j, j < 2 → ∀ v, (cellsRuA l[k])[j]? = some v → w.cell? ⟨b, off + k * 2 + j, none⟩ = some v := fun j hj v hv => by
    have h1 := flat_at cellsRuA 2 (fun _ => rfl) l k j hk hj
    have h2 : k * 2 + j < (l.flatMap cellsRuA).length := by omega
    rw [Nat.add_assoc, hc (k * 2 + j) h2]
    rw [List.getElem?_eq_getElem h2] at h1
    rw [h1, hv]
  exact ⟨b, off, e, hb, hat 0 (by decide) _ rfl, hat 1 (by decide) _ rfl⟩
set_option maxRecDepth 100000 in
set_option maxHeartbeats 800000 in
theorem firstA_any (g : Nat) (lb : Array Value) (eg : ∀ args w, (callFunc g args).run Tryz.prog w = .ok (.enter g args) w) (f : RuAct → Int) (l : List RuAct) (A : Option Addr) (c : Nat) (w : World)
    (h : Sl w w.heap.size 2 A l.length (l.flatMap cellsRuA)) (hl : l.length ≤ 1048576)
    (hp : ∀ W, ∀ x ∈ l, Below w.heap.size w W → Calls Tryz.prog g (#[.agg #[.int .i64 x.k, .int .i64 x.n]] ++ lb) W (CodePost (f x) W)) :
    Calls Tryz.prog 50 #[.slice A l.length c, .func (.func g) #[] lb] w (CodePost (firstC f l) w) := by
  have HP := Lib.hid hp
  have HD : Hid (∀ k (hk : k < l.length), l.drop k = l[k] :: l.drop (k + 1)) := fun k hk => List.drop_eq_getElem_cons hk
  clear hp
  go_enter Tryz.func50, Tryz.ntmps50
  go_wp2_with fail
  go_loopw [10] (fun i wr => ∃ k : Nat, k ≤ l.length ∧ i = .int .i64 k ∧ Below w.heap.size w wr ∧ Hid (firstC f l = firstC f (l.drop k))) (fun i _ => l.length - (intOf i).toNat)
  case atStart => exact ⟨0, Nat.zero_le _, rfl, Below.refl _ _, rfl⟩
  case round =>
    obtain ⟨k, hk, rfl, hb, hr⟩ := hrel
    by_cases hlt : k < l.length
    · obtain ⟨b, off, rfl, hbB, x0, x1⟩ := ruA_at (h.below hb) k hlt
      have hc := fun W hW => HP.out W l[k] (List.getElem_mem hlt) hW
      have hd := HD.out k hlt
      generalize l[k] = x at *
      obtain ⟨p, q⟩ := x
      dsimp only at x0 x1 hc
      have HC := Lib.hid (hc _ (hb.alloc hb.size (.cells #[.int .i64 p, .int .i64 q] 70)))
      have hz := hb.size
      clear hc
      by_cases hq : f ⟨p, q⟩ = 0
      · have HR : Hid (firstC f l = firstC f (l.drop (k + 1))) := Lib.hid (by rw [hr.out, hd, firstC, if_neg (by rw [hq]; decide)])
        rw [hq] at HC
        clear hd hr hq
        go_wp2_with (go_at_fn g; refine HC.out.mono ?_; rintro e w1 ⟨rfl, hb1⟩)
        go_roundw
        case rel => exact ⟨k + 1, by omega, by go_num, hb.trans (below_new hb1 hz), HR⟩
        case measure => simp [intOf] <;> omega
      · have HR : Hid (firstC f l = f ⟨p, q⟩) := Lib.hid (by rw [hr.out, hd, firstC, if_pos hq])
        have qn : (f ⟨p, q⟩ == 0) = false := beq_eq_false_iff_ne.2 hq
        clear hd hr hq
        generalize f ⟨p, q⟩ = cd at *
        go_wp2_with (go_at_fn g; refine HC.out.mono ?_; rintro e w1 ⟨rfl, hb1⟩)
        go_ret
        exact ⟨ret_int HR.out.symm, hb.trans (below_new hb1 hz)⟩
    · obtain rfl : k = l.length := by omega
      have HR : Hid (firstC f l = 0) := Lib.hid (by rw [hr.out, List.drop_eq_nil_of_le (Nat.le_refl _)]; rfl)
      go_wp2_with fail
      go_ret
      exact ⟨ret_int HR.out.symm, hb⟩
end Go.Proofs.YtdkbfljhfhjofaaGreatDoor
