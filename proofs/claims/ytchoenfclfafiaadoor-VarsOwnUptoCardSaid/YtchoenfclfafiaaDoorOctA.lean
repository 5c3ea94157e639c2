/- The walks of octet: numbers. -/
import Derived.Test.YtchoenfclfafiaaDoorOct
namespace Go.Proofs.YtchoenfclfafiaaDoor
open Go.RowKit

theorem digitI_lt (b : UInt8) : digitI b < 16 := by
  have := b.toNat_lt
  unfold digitI; (repeat' split) <;> omega

def numGo (base : Int) : List UInt8 → Int → Option Int
  | [], n => some n
  | b :: l, n => if digitI b < 0 ∨ base ≤ digitI b then none else numGo base l (n * base + digitI b)
def numL (base : Int) (most : Nat) (l : List UInt8) : Option Int :=
  if l.length = 0 ∨ most < l.length then none else numGo base l 0

def numRes (o : Option Int) : Value := match o with
  | some n => .tuple #[.int .i64 n, .int .i64 0]
  | none => .tuple #[.int .i64 0, .int .i64 4]

def NumRel (base : Int) (most : Nat) (s : ByteArray) (n i : Value) : Prop :=
  ∃ (k : Nat) (v : Int), k ≤ s.size ∧ i = .int .i64 k ∧ n = .int .i64 v ∧ 0 ≤ v ∧ v < 16 ^ k ∧ numL base most s.data.toList = numGo base (s.data.toList.drop k) v

set_option maxHeartbeats 800000 in
theorem number10 (s : ByteArray) (w : World) (hs : s.size ≤ maxLen) :
    Calls Tryd.prog 60 #[.string s, .int .i64 10, .int .i64 9] w fun e w' => e = .returned (numRes (numL 10 9 s.data.toList)) ∧ w' = w := by
  unfold maxLen at hs
  have hlen : s.data.toList.length = s.size := by simp
  by_cases h0 : s.size = 0 ∨ 9 < s.size
  · have H : Hid (numL 10 9 s.data.toList = none) := by unfold numL; rw [if_pos (by omega)]; exact rfl
    rcases h0 with h0 | h0
    all_goals
      clear hlen
      go_enter Tryd.func60, Tryd.ntmps60
      go_wp2
      all_goals (go_ret2; exact ⟨by rw [H.out]; rfl, rfl⟩)
  · obtain ⟨g0, g1⟩ := not_or.1 h0
    have H : Hid (numL 10 9 s.data.toList = numGo 10 s.data.toList 0) := by unfold numL; rw [if_neg (by omega)]; exact rfl
    have h1 : ((s.size : Int) == 0) = false := beq_eq_false_iff_ne.2 (by omega)
    have h2 : (s.size : Int) ≤ 9 := by omega
    have h3 : s.size ≤ 9 := by omega
    clear hlen h0
    go_enter Tryd.func60, Tryd.ntmps60
    go_wp2
    go_loop [8, 22] (fun n i => NumRel 10 9 s n i) (fun _ i => s.size - (intOf i).toNat)
    case atStart => exact ⟨0, 0, Nat.zero_le _, rfl, rfl, by decide, by decide, H⟩
    case round =>
      obtain ⟨k, v, hk, rfl, rfl, hv0, hv1, HV0⟩ := hrel
      have HV := Lib.hid HV0
      clear HV0
      have hp : (16 : Int) ^ k ≤ 68719476736 := by
        have : (16 : Nat) ^ k ≤ 16 ^ 9 := Nat.pow_le_pow_right (by decide) (by omega)
        have h : ((16 ^ k : Nat) : Int) ≤ 68719476736 := by omega
        simpa using h
      by_cases hlt : k < s.size
      · have hd := digitI_lt s[k]
        have HD := Lib.hid (drop_cons s k hlt)
        have HP : Hid ((16 : Int) ^ (k + 1) = 16 ^ k * 16) := Int.pow_succ _ _
        go_wp2_with (go_at_call 75; refine (digit_any _ _).mono ?_; rintro e w' ⟨rfl, rfl⟩)
        all_goals first
          | (go_ret2
             exact ⟨by rw [HV.out, HD.out, numGo, if_pos (by omega)]; rfl, rfl⟩)
          | (go_round
             case rel => exact ⟨k + 1, _, by omega, by go_num, rfl, by omega, by rw [HP.out]; omega, by rw [HV.out, HD.out, numGo, if_neg (by omega)]⟩
             case measure => simp [intOf]; omega)
      · go_wp2
        go_ret2
        exact ⟨by rw [HV.out, List.drop_eq_nil_of_le (by simp; omega)]; rfl, rfl⟩

theorem Dec_any (s : ByteArray) (w : World) (hs : s.size ≤ maxLen) :
    Calls Tryd.prog 43 #[.string s] w fun e w' => e = .returned (numRes (numL 10 9 s.data.toList)) ∧ w' = w := by
  go_enter Tryd.func43, Tryd.ntmps43
  cases h : numL 10 9 s.data.toList
  all_goals
    have H := Lib.hid h
    clear h
    go_wp2_with (go_at_call 60; refine (number10 _ _ hs).mono ?_; rintro e w' ⟨rfl, rfl⟩; rw [H.out]; simp only [numRes])
    go_ret2
    exact ⟨rfl, rfl⟩

set_option maxHeartbeats 800000 in
theorem number16 (s : ByteArray) (w : World) (hs : s.size ≤ maxLen) :
    Calls Tryd.prog 60 #[.string s, .int .i64 16, .int .i64 7] w fun e w' => e = .returned (numRes (numL 16 7 s.data.toList)) ∧ w' = w := by
  unfold maxLen at hs
  have hlen : s.data.toList.length = s.size := by simp
  by_cases h0 : s.size = 0 ∨ 7 < s.size
  · have H : Hid (numL 16 7 s.data.toList = none) := by unfold numL; rw [if_pos (by omega)]; exact rfl
    rcases h0 with h0 | h0
    all_goals
      clear hlen
      go_enter Tryd.func60, Tryd.ntmps60
      go_wp2
      all_goals (go_ret2; exact ⟨by rw [H.out]; rfl, rfl⟩)
  · obtain ⟨g0, g1⟩ := not_or.1 h0
    have H : Hid (numL 16 7 s.data.toList = numGo 16 s.data.toList 0) := by unfold numL; rw [if_neg (by omega)]; exact rfl
    have h1 : ((s.size : Int) == 0) = false := beq_eq_false_iff_ne.2 (by omega)
    have h2 : (s.size : Int) ≤ 7 := by omega
    have h3 : s.size ≤ 7 := by omega
    clear hlen h0
    go_enter Tryd.func60, Tryd.ntmps60
    go_wp2
    go_loop [8, 22] (fun n i => NumRel 16 7 s n i) (fun _ i => s.size - (intOf i).toNat)
    case atStart => exact ⟨0, 0, Nat.zero_le _, rfl, rfl, by decide, by decide, H⟩
    case round =>
      obtain ⟨k, v, hk, rfl, rfl, hv0, hv1, HV0⟩ := hrel
      have HV := Lib.hid HV0
      clear HV0
      have hp : (16 : Int) ^ k ≤ 68719476736 := by
        have : (16 : Nat) ^ k ≤ 16 ^ 9 := Nat.pow_le_pow_right (by decide) (by omega)
        have h : ((16 ^ k : Nat) : Int) ≤ 68719476736 := by omega
        simpa using h
      by_cases hlt : k < s.size
      · have hd := digitI_lt s[k]
        have HD := Lib.hid (drop_cons s k hlt)
        have HP : Hid ((16 : Int) ^ (k + 1) = 16 ^ k * 16) := Int.pow_succ _ _
        go_wp2_with (go_at_call 75; refine (digit_any _ _).mono ?_; rintro e w' ⟨rfl, rfl⟩)
        all_goals first
          | (go_ret2
             exact ⟨by rw [HV.out, HD.out, numGo, if_pos (by omega)]; rfl, rfl⟩)
          | (go_round
             case rel => exact ⟨k + 1, _, by omega, by go_num, rfl, by omega, by rw [HP.out]; omega, by rw [HV.out, HD.out, numGo, if_neg (by omega)]⟩
             case measure => simp [intOf]; omega)
      · go_wp2
        go_ret2
        exact ⟨by rw [HV.out, List.drop_eq_nil_of_le (by simp; omega)]; rfl, rfl⟩

theorem Hex_any (s : ByteArray) (w : World) (hs : s.size ≤ maxLen) :
    Calls Tryd.prog 111 #[.string s] w fun e w' => e = .returned (numRes (numL 16 7 s.data.toList)) ∧ w' = w := by
  go_enter Tryd.func111, Tryd.ntmps111
  cases h : numL 16 7 s.data.toList
  all_goals
    have H := Lib.hid h
    clear h
    go_wp2_with (go_at_call 60; refine (number16 _ _ hs).mono ?_; rintro e w' ⟨rfl, rfl⟩; rw [H.out]; simp only [numRes])
    go_ret2
    exact ⟨rfl, rfl⟩

end Go.Proofs.YtchoenfclfafiaaDoor
