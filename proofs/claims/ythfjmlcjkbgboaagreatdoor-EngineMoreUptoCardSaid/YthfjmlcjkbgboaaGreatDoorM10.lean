/- Part 10 of the proof: lemmas and walks that the last texts use. -/
import Derived.Test.YthfjmlcjkbgboaaGreatDoorM02
import Derived.Test.YthfjmlcjkbgboaaGreatDoorM03
import Derived.Test.YthfjmlcjkbgboaaGreatDoorM04
import Derived.Lib.SplitLaws
import Derived.Laws.Bits64b
import Derived.Shelf.GgClosure.Gives
import Derived.Laws.Bits64
namespace Go.Proofs.YthfjmlcjkbgboaaGreatDoor
open Go.RowKit
/-- The pieces between a byte's occurrences. -/
def splL (c : UInt8) : List UInt8 → List (List UInt8)
  | [] => [[]]
  | b :: l => if b = c then [] :: splL c l else match splL c l with
    | [] => [[b]]
    | x :: r => (b :: x) :: r
theorem splL_ne (c : UInt8) (l : List UInt8) : splL c l ≠ [] := by
  cases l with
  | nil => simp [splL]
  | cons b l =>
    rw [splL]
    split
    · simp
    · split <;> simp
theorem splL_len (c : UInt8) (l : List UInt8) : (splL c l).length ≤ l.length + 1 := by
  induction l with
  | nil => exact Nat.le_refl _
  | cons b l ih =>
    rw [splL]
    split
    · simp only [List.length_cons]; omega
    · cases h : splL c l with
      | nil => simp
      | cons x r => rw [h] at ih; simp only [List.length_cons] at ih ⊢; omega
theorem splL_piece (c : UInt8) (l : List UInt8) : ∀ x ∈ splL c l, x.length ≤ l.length := by
  induction l with
  | nil => intro x hx; simp [splL] at hx; subst hx; exact Nat.le_refl _
  | cons b l ih =>
    intro x hx
    rw [splL] at hx
    split at hx
    · rcases List.mem_cons.1 hx with h | h
      · subst h; simp
      · have := ih x h; simp only [List.length_cons]; omega
    · cases h : splL c l with
      | nil => exact absurd h (splL_ne c l)
      | cons y r =>
        rw [h] at hx ih
        rcases List.mem_cons.1 hx with h1 | h1
        · subst h1; have := ih y (by simp); simp only [List.length_cons]; omega
        · have := ih x (by simp [h1]); simp only [List.length_cons]; omega
theorem index_cons_ne (b c : UInt8) (l : List UInt8) (h : b ≠ c) : Lib.index (b :: l) [c] = if Lib.index l [c] == -1 then -1 else Lib.index l [c] + 1 := by
  have hp : ([c] : List UInt8).isPrefixOf (b :: l) = false := by simp [List.isPrefixOf, Ne.symm h]
  rw [Lib.index, hp]; simp
theorem splitK_one (c : UInt8) : ∀ l : List UInt8, Lib.splitK [c] 0 (Lib.count l [c]) l = splL c l
  | [] => by rw [Lib.count_miss (by simp [Lib.index])]; rfl
  | b :: l => by
    have ih := splitK_one c l
    by_cases h : b = c
    · subst h
      have hix : Lib.index (b :: l) [b] = 0 := by rw [Lib.index]; simp [List.isPrefixOf]
      rw [Lib.count_cons_eq, Nat.add_comm, Lib.splitK, if_neg (by rw [hix]; decide), hix, splL, if_pos rfl, ← ih]
      rfl
    · rw [Lib.count_cons_ne b c l h, splL, if_neg h, ← ih]
      by_cases hm : Lib.index l [c] = -1
      · rw [Lib.count_miss hm]; rfl
      · have hge := Lib.index_ge l [c]
        obtain ⟨j, hj⟩ : ∃ j : Nat, Lib.index l [c] = j := ⟨(Lib.index l [c]).toNat, by omega⟩
        have e : Lib.count l [c] = Lib.count (l.drop (j + 1)) [c] + 1 := by rw [Lib.count_hit (by simp) hj, Nat.add_comm]; rfl
        have hix : Lib.index (b :: l) [c] = ((j + 1 : Nat) : Int) := by rw [index_cons_ne b c l h, if_neg (fun e => hm (beq_iff_eq.1 e)), hj]; omega
        rw [e, Lib.splitK, if_neg (by rw [hix, beq_iff_eq]; omega), hix, Lib.splitK, if_neg (by rw [hj, beq_iff_eq]; omega), hj]
        rfl
/-- What Split hands back at one byte. -/
theorem split_one (c : UInt8) (s : ByteArray) : (Lib.splitB ⟨#[c]⟩ 0 (Lib.countB s ⟨#[c]⟩) s).map (·.data.toList) = splL c s.data.toList := by
  rw [Lib.splitB_data]
  exact splitK_one c _
theorem cut_len (l sep : List UInt8) : (Lib.cut l sep).1.length ≤ l.length ∧ (Lib.cut l sep).2.1.length ≤ l.length := by
  unfold Lib.cut
  split
  · exact ⟨by rw [List.length_take]; exact Nat.min_le_right _ _, by rw [List.length_drop]; exact Nat.sub_le _ _⟩
  · exact ⟨Nat.le_refl _, Nat.zero_le _⟩
end Go.Proofs.YthfjmlcjkbgboaaGreatDoor
namespace Go.Proofs.YthfjmlcjkbgboaaGreatDoor
open Go.RowKit
def digitI (b : UInt8) : Int :=
  if 48 ≤ b.toNat ∧ b.toNat ≤ 57 then (b.toNat : Int) - 48 else if 97 ≤ b.toNat ∧ b.toNat ≤ 102 then (b.toNat : Int) - 87 else if 65 ≤ b.toNat ∧ b.toNat ≤ 70 then (b.toNat : Int) - 55 else -1
set_option maxHeartbeats 400000 in
theorem digit_any (b : UInt8) (w : World) :
    Calls Tryz.prog 177 #[.int .u8 b.toNat] w fun e w' => e = .returned (.int .i64 (digitI b)) ∧ w' = w := by
  have hb : (b.toNat : Int) ≤ 255 := by have := b.toNat_lt; omega
  unfold digitI
  generalize b.toNat = n at *
  go_enter Tryz.func177, Tryz.ntmps177
  go_wp2
  all_goals
    go_ret
    exact ⟨ret_int (by (repeat' split) <;> omega), rfl⟩
theorem Digit_any (b : UInt8) (w : World) :
    Calls Tryz.prog 158 #[.int .u8 b.toNat] w fun e w' => e = .returned (.int .i64 (digitI b)) ∧ w' = w := by
  go_enter Tryz.func158, Tryz.ntmps158
  go_wp2_with (go_at_call 177; refine (digit_any _ _).mono ?_; rintro e w' ⟨rfl, rfl⟩)
  go_ret
  exact ⟨rfl, rfl⟩
end Go.Proofs.YthfjmlcjkbgboaaGreatDoor
namespace Go.Proofs.YthfjmlcjkbgboaaGreatDoor
open Go.RowKit
theorem digitI_lt (b : UInt8) : digitI b < 16 := by
  have := b.toNat_lt
  unfold digitI; (repeat' split) <;> omega
def numGo (base : Int) : List UInt8 → Int → Option Int
  | [], n => some n
  | b :: l, n => if digitI b < 0 ∨ base ≤ digitI b then none else numGo base l (n * base + digitI b)
def numL (base : Int) (most : Nat) (l : List UInt8) : Option Int :=
  if l.length = 0 ∨ most < l.length then none else numGo base l 0
def numRes (o : Option Int) : Value := match o with
  | some n => .tuple #[.int .i64 n, .int .i64 0]
  | none => .tuple #[.int .i64 0, .int .i64 4]
def NumRel (base : Int) (most : Nat) (s : ByteArray) (n i : Value) : Prop :=
  ∃ (k : Nat) (v : Int), k ≤ s.size ∧ i = .int .i64 k ∧ n = .int .i64 v ∧ 0 ≤ v ∧ v < 16 ^ k ∧ numL base most s.data.toList = numGo base (s.data.toList.drop k) v
set_option maxHeartbeats 800000 in
theorem number10 (s : ByteArray) (w : World) (hs : s.size ≤ maxLen) :
    Calls Tryz.prog 135 #[.string s, .int .i64 10, .int .i64 9] w fun e w' => e = .returned (numRes (numL 10 9 s.data.toList)) ∧ w' = w := by
  unfold maxLen at hs
  have hlen : s.data.toList.length = s.size := by simp
  by_cases h0 : s.size = 0 ∨ 9 < s.size
  · have H : Hid (numL 10 9 s.data.toList = none) := by unfold numL; rw [if_pos (by omega)]; exact rfl
    rcases h0 with h0 | h0
    all_goals
      clear hlen
      go_enter Tryz.func135, Tryz.ntmps135
      go_wp2
      all_goals (go_ret2; exact ⟨by rw [H.out]; rfl, rfl⟩)
  · obtain ⟨g0, g1⟩ := not_or.1 h0
    have H : Hid (numL 10 9 s.data.toList = numGo 10 s.data.toList 0) := by unfold numL; rw [if_neg (by omega)]; exact rfl
    have h1 : ((s.size : Int) == 0) = false := beq_eq_false_iff_ne.2 (by omega)
    have h2 : (s.size : Int) ≤ 9 := by omega
    have h3 : s.size ≤ 9 := by omega
    clear hlen h0
    go_enter Tryz.func135, Tryz.ntmps135
    go_wp2
    go_loop [8, 22] (fun n i => NumRel 10 9 s n i) (fun _ i => s.size - (intOf i).toNat)
    case atStart => exact ⟨0, 0, Nat.zero_le _, rfl, rfl, by decide, by decide, H⟩
    case round =>
      obtain ⟨k, v, hk, rfl, rfl, hv0, hv1, HV0⟩ := hrel
      have HV := Lib.hid HV0
      clear HV0
      have hp : (16 : Int) ^ k ≤ 68719476736 := by
        have : (16 : Nat) ^ k ≤ 16 ^ 9 := Nat.pow_le_pow_right (by decide) (by omega)
        have h : ((16 ^ k : Nat) : Int) ≤ 68719476736 := by omega
        simpa using h
      by_cases hlt : k < s.size
      · have hd := digitI_lt s[k]
        have HD := Lib.hid (drop_cons s k hlt)
        have HP : Hid ((16 : Int) ^ (k + 1) = 16 ^ k * 16) := Int.pow_succ _ _
        go_wp2_with (go_at_call 177; refine (digit_any _ _).mono ?_; rintro e w' ⟨rfl, rfl⟩)
        all_goals first
          | (go_ret2
             exact ⟨by rw [HV.out, HD.out, numGo, if_pos (by omega)]; rfl, rfl⟩)
          | (go_round
             case rel => exact ⟨k + 1, _, by omega, by go_num, rfl, by omega, by rw [HP.out]; omega, by rw [HV.out, HD.out, numGo, if_neg (by omega)]⟩
             case measure => simp [intOf]; omega)
      · go_wp2
        go_ret2
        exact ⟨by rw [HV.out, List.drop_eq_nil_of_le (by simp; omega)]; rfl, rfl⟩
theorem Dec_any (s : ByteArray) (w : World) (hs : s.size ≤ maxLen) :
    Calls Tryz.prog 91 #[.string s] w fun e w' => e = .returned (numRes (numL 10 9 s.data.toList)) ∧ w' = w := by
  go_enter Tryz.func91, Tryz.ntmps91
  cases h : numL 10 9 s.data.toList
  all_goals
    have H := Lib.hid h
    clear h
    go_wp2_with (go_at_call 135; refine (number10 _ _ hs).mono ?_; rintro e w' ⟨rfl, rfl⟩; rw [H.out]; simp only [numRes])
    go_ret2
    exact ⟨rfl, rfl⟩
set_option maxHeartbeats 800000 in
theorem number16 (s : ByteArray) (w : World) (hs : s.size ≤ maxLen) :
    Calls Tryz.prog 135 #[.string s, .int .i64 16, .int .i64 7] w fun e w' => e = .returned (numRes (numL 16 7 s.data.toList)) ∧ w' = w := by
  unfold maxLen at hs
  have hlen : s.data.toList.length = s.size := by simp
  by_cases h0 : s.size = 0 ∨ 7 < s.size
  · have H : Hid (numL 16 7 s.data.toList = none) := by unfold numL; rw [if_pos (by omega)]; exact rfl
    rcases h0 with h0 | h0
    all_goals
      clear hlen
      go_enter Tryz.func135, Tryz.ntmps135
      go_wp2
      all_goals (go_ret2; exact ⟨by rw [H.out]; rfl, rfl⟩)
  · obtain ⟨g0, g1⟩ := not_or.1 h0
    have H : Hid (numL 16 7 s.data.toList = numGo 16 s.data.toList 0) := by unfold numL; rw [if_neg (by omega)]; exact rfl
    have h1 : ((s.size : Int) == 0) = false := beq_eq_false_iff_ne.2 (by omega)
    have h2 : (s.size : Int) ≤ 7 := by omega
    have h3 : s.size ≤ 7 := by omega
    clear hlen h0
    go_enter Tryz.func135, Tryz.ntmps135
    go_wp2
    go_loop [8, 22] (fun n i => NumRel 16 7 s n i) (fun _ i => s.size - (intOf i).toNat)
    case atStart => exact ⟨0, 0, Nat.zero_le _, rfl, rfl, by decide, by decide, H⟩
    case round =>
      obtain ⟨k, v, hk, rfl, rfl, hv0, hv1, HV0⟩ := hrel
      have HV := Lib.hid HV0
      clear HV0
      have hp : (16 : Int) ^ k ≤ 68719476736 := by
        have : (16 : Nat) ^ k ≤ 16 ^ 9 := Nat.pow_le_pow_right (by decide) (by omega)
        have h : ((16 ^ k : Nat) : Int) ≤ 68719476736 := by omega
        simpa using h
      by_cases hlt : k < s.size
      · have hd := digitI_lt s[k]
        have HD := Lib.hid (drop_cons s k hlt)
        have HP : Hid ((16 : Int) ^ (k + 1) = 16 ^ k * 16) := Int.pow_succ _ _
        go_wp2_with (go_at_call 177; refine (digit_any _ _).mono ?_; rintro e w' ⟨rfl, rfl⟩)
        all_goals first
          | (go_ret2
             exact ⟨by rw [HV.out, HD.out, numGo, if_pos (by omega)]; rfl, rfl⟩)
          | (go_round
             case rel => exact ⟨k + 1, _, by omega, by go_num, rfl, by omega, by rw [HP.out]; omega, by rw [HV.out, HD.out, numGo, if_neg (by omega)]⟩
             case measure => simp [intOf]; omega)
      · go_wp2
        go_ret2
        exact ⟨by rw [HV.out, List.drop_eq_nil_of_le (by simp; omega)]; rfl, rfl⟩
theorem Hex_any (s : ByteArray) (w : World) (hs : s.size ≤ maxLen) :
    Calls Tryz.prog 162 #[.string s] w fun e w' => e = .returned (numRes (numL 16 7 s.data.toList)) ∧ w' = w := by
  go_enter Tryz.func162, Tryz.ntmps162
  cases h : numL 16 7 s.data.toList
  all_goals
    have H := Lib.hid h
    clear h
    go_wp2_with (go_at_call 135; refine (number16 _ _ hs).mono ?_; rintro e w' ⟨rfl, rfl⟩; rw [H.out]; simp only [numRes])
    go_ret2
    exact ⟨rfl, rfl⟩
end Go.Proofs.YthfjmlcjkbgboaaGreatDoor
namespace Go.Proofs.YthfjmlcjkbgboaaGreatDoor
open Go.RowKit
/-- The number whose low bits are these. -/
def bitsN (f : Nat → Bool) : Nat → Nat
  | 0 => 0
  | i + 1 => bitsN f i ||| if f i then 2 ^ i else 0
theorem bitsN_lt (f : Nat → Bool) : ∀ n, bitsN f n < 2 ^ n
  | 0 => Nat.one_pos
  | n + 1 => by
    have h := bitsN_lt f n
    rw [bitsN]
    refine Nat.or_lt_two_pow (Nat.lt_of_lt_of_le h (Nat.pow_le_pow_right (by decide) (by omega))) ?_
    split
    · exact Nat.pow_lt_pow_right (by decide) (by omega)
    · exact Nat.two_pow_pos _
theorem bitsN_test (f : Nat → Bool) : ∀ n i, (bitsN f n).testBit i = (decide (i < n) && f i)
  | 0, i => by simp [bitsN]
  | n + 1, i => by
    have ih := bitsN_test f n i
    rw [bitsN, Nat.testBit_or, ih]
    have hp : (if f n then 2 ^ n else 0).testBit i = (decide (n = i) && f n) := by
      split
      · rename_i h; rw [Nat.testBit_two_pow, h, Bool.and_true]
      · rename_i h; simp [h]
    rw [hp]
    by_cases e : i = n
    · subst e; simp
    · have e2 : ¬ n = i := fun h => e h.symm
      by_cases h2 : i < n
      · simp [h2, Nat.lt_succ_of_lt h2, e2]
      · have : ¬ i < n + 1 := by omega
        simp [h2, this, e2]
/-- The word j of the set of a test. -/
def wdF (f : Nat → Bool) (j : Nat) : Nat := bitsN (fun i => f (64 * j + i)) 64
theorem wdF_lt (f : Nat → Bool) (j : Nat) : wdF f j < 18446744073709551616 := bitsN_lt _ 64
theorem wdF_test (f : Nat → Bool) (j i : Nat) : (wdF f j).testBit i = (decide (i < 64) && f (64 * j + i)) := bitsN_test _ 64 i
theorem wdF_or (f g : Nat → Bool) (j : Nat) : wdF f j ||| wdF g j = wdF (fun k => f k || g k) j := by
  refine Nat.eq_of_testBit_eq fun i => ?_
  rw [Nat.testBit_or, wdF_test, wdF_test, wdF_test]
  cases decide (i < 64) <;> simp
theorem wdF_one (f : Nat → Bool) (k : Nat) : wdF f (k / 64) ||| 2 ^ (k % 64) = wdF (fun x => f x || decide (x = k)) (k / 64) := by
  refine Nat.eq_of_testBit_eq fun i => ?_
  rw [Nat.testBit_or, wdF_test, wdF_test, Nat.testBit_two_pow]
  by_cases h : i < 64
  · by_cases e : k % 64 = i
    · have : 64 * (k / 64) + i = k := by omega
      simp [h, e, this]
    · have : ¬ 64 * (k / 64) + i = k := by omega
      simp [h, e, this]
  · have : ¬ k % 64 = i := by omega
    simp [h, this]
theorem wdF_other (f : Nat → Bool) (k j : Nat) (h : j ≠ k / 64) : wdF (fun x => f x || decide (x = k)) j = wdF f j := by
  refine Nat.eq_of_testBit_eq fun i => ?_
  rw [wdF_test, wdF_test]
  by_cases h2 : i < 64
  · have : ¬ 64 * j + i = k := by omega
    simp [h2, this]
  · simp [h2]
theorem wdF_congr {f g : Nat → Bool} {j : Nat} (hj : j < 4) (h : ∀ k, k < 256 → f k = g k) : wdF f j = wdF g j := by
  refine Nat.eq_of_testBit_eq fun i => ?_
  rw [wdF_test, wdF_test]
  by_cases h2 : i < 64
  · rw [h _ (by omega)]
  · simp [h2]
def setF (f : Nat → Bool) : Set4 := ⟨wdF f 0, wdF f 1, wdF f 2, wdF f 3⟩
theorem setF_word (f : Nat → Bool) (j : Nat) (hj : j < 4) : (setF f).word j = (wdF f j : Nat) := by
  match j, hj with
  | 0, _ => rfl
  | 1, _ => rfl
  | 2, _ => rfl
  | 3, _ => rfl
theorem setF_congr {f g : Nat → Bool} (h : ∀ k, k < 256 → f k = g k) : setF f = setF g := by
  unfold setF
  rw [wdF_congr (by decide) h, wdF_congr (by decide) h, wdF_congr (by decide) h, wdF_congr (by decide) h]
theorem wdF_none (j : Nat) : wdF (fun _ => false) j = 0 := Nat.eq_of_testBit_eq fun i => by rw [wdF_test]; simp
theorem setF_none : setF (fun _ => false) = .zero := by
  unfold setF Set4.zero
  simp only [wdF_none]
  rfl
def numB (most : Int) (l : List UInt8) : Int := match numL 10 9 l with
  | some n => if most < n ∨ (l.head? = some 48 ∧ 1 < l.length) then -1 else n
  | none => -1
def loR (x : List UInt8) : Int := numB 255 (Lib.cut x [45]).1
def hiR (x : List UInt8) : Int := numB 255 (if (Lib.cut x [45]).2.2 = true then (Lib.cut x [45]).2.1 else (Lib.cut x [45]).1)
def okR (x : List UInt8) : Bool := decide (0 ≤ loR x) && decide (loR x ≤ hiR x)
def inR (x : List UInt8) (k : Nat) : Bool := decide (loR x ≤ k) && decide ((k : Int) ≤ hiR x)
def anyR (ps : List (List UInt8)) (k : Nat) : Bool := ps.any fun x => inR x k
def okB (l : List UInt8) : Bool := (splL 44 l).all okR
def inB (l : List UInt8) : Nat → Bool := anyR (splL 44 l)
theorem numGo_nonneg : ∀ (l : List UInt8) (n v : Int), 0 ≤ n → numGo 10 l n = some v → 0 ≤ v
  | [], n, v, h, e => by cases e; exact h
  | b :: l, n, v, h, e => by
    rw [numGo] at e
    split at e
    · cases e
    · exact numGo_nonneg l _ v (by omega) e
theorem numB_le (most : Int) (l : List UInt8) (h : 0 ≤ most) : numB most l ≤ most := by
  unfold numB
  split
  · split <;> omega
  · omega
theorem numB_ge (most : Int) (l : List UInt8) : -1 ≤ numB most l := by
  unfold numB
  split
  · rename_i n hn
    have : 0 ≤ n := by
      unfold numL at hn
      split at hn
      · cases hn
      · exact numGo_nonneg l 0 n (by decide) hn
    split <;> omega
  · omega
end Go.Proofs.YthfjmlcjkbgboaaGreatDoor
namespace Go.Proofs.YthfjmlcjkbgboaaGreatDoor
open Go.RowKit
def setA (s : Set4) : Value := .agg #[.int .u64 s.a, .int .u64 s.b, .int .u64 s.c, .int .u64 s.d]
/-- Four cells that are known whole. -/
def FourW (w : World) (g : Nat) (s : Set4) : Prop := w.heap[g]? = some (.cells #[.int .u64 s.a, .int .u64 s.b, .int .u64 s.c, .int .u64 s.d] 214 (0, 0))
section
variable {w w' : World} {g : Nat} {s : Set4}
theorem FourW.cells (h : FourW w g s) : w.cell? ⟨g, 0, none⟩ = some (.int .u64 s.a) ∧ w.cell? ⟨g, 1, none⟩ = some (.int .u64 s.b) ∧ w.cell? ⟨g, 2, none⟩ = some (.int .u64 s.c) ∧ w.cell? ⟨g, 3, none⟩ = some (.int .u64 s.d) :=
  ⟨cell_of_row w g 0 _ _ (0, 0) h, cell_of_row w g 1 _ _ (0, 0) h, cell_of_row w g 2 _ _ (0, 0) h, cell_of_row w g 3 _ _ (0, 0) h⟩
theorem FourW.cell (h : FourW w g s) (j : Nat) (hj : j < 4) : w.cell? ⟨g, j, none⟩ = some (.int .u64 (s.word j)) := by
  obtain ⟨h0, h1, h2, h3⟩ := h.cells
  match j, hj with
  | 0, _ => exact h0
  | 1, _ => exact h1
  | 2, _ => exact h2
  | 3, _ => exact h3
theorem FourW.free (h : FourW w g s) (j : Nat) : w.frozen? ⟨g, j, none⟩ = false := by unfold FourW at h; simp [World.frozen?, h]
theorem FourW.far (h : FourW w g s) {k : Nat} (hne : g ≠ k) (j : Nat) (u : Value) : FourW (w.setCell ⟨k, j, none⟩ u) g s := (Below.heap_setCell w ⟨k, j, none⟩ u g hne).trans h
theorem FourW.lt (h : FourW w g s) : g < w.heap.size := by
  unfold FourW at h
  rw [Array.getElem?_eq_some_iff] at h
  exact h.1
theorem FourW.drew (h : FourW w g s) : FourW w.drew g s := h
theorem FourW.below {B : Nat} (h : FourW w g s) (hb : Below B w w') (hg : g < B) : FourW w' g s := (hb.block g hg).trans h
def putW (s : Set4) (j : Nat) (u : Int) : Set4 := if j = 0 then ⟨u, s.b, s.c, s.d⟩ else if j = 1 then ⟨s.a, u, s.c, s.d⟩ else if j = 2 then ⟨s.a, s.b, u, s.d⟩ else ⟨s.a, s.b, s.c, u⟩
theorem FourW.put (h : FourW w g s) (j : Nat) (hj : j < 4) (u : Int) : FourW (w.setCell ⟨g, j, none⟩ (.int .u64 u)) g (putW s j u) := by
  unfold FourW at h ⊢
  match j, hj with
  | 0, _ => simp [World.setCell, Array.getElem?_modify, h, putW]
  | 1, _ => simp [World.setCell, Array.getElem?_modify, h, putW]
  | 2, _ => simp [World.setCell, Array.getElem?_modify, h, putW]
  | 3, _ => simp [World.setCell, Array.getElem?_modify, h, putW]
theorem FourW.fill (h : FourW w g s) (t : Set4) : FourW ((((w.setCell ⟨g, 0, none⟩ (.int .u64 t.a)).setCell ⟨g, 1, none⟩ (.int .u64 t.b)).setCell ⟨g, 2, none⟩ (.int .u64 t.c)).setCell ⟨g, 3, none⟩ (.int .u64 t.d)) g t := by unfold FourW at h ⊢; simp [World.setCell, Array.getElem?_modify, h]
theorem FourW.new (w : World) : FourW (w.alloc (.cells #[.int .u64 0, .int .u64 0, .int .u64 0, .int .u64 0] 214)) w.heap.size (setF fun _ => false) := by rw [setF_none]; exact heap_alloc_new w _
end
theorem putW_one (f : Nat → Bool) (k : Nat) (hk : k < 256) : putW (setF f) (k / 64) ((wdF f (k / 64) ||| 2 ^ (k % 64) : Nat) : Int) = setF (fun x => f x || decide (x = k)) := by
  have hj : k / 64 < 4 := by omega
  rw [wdF_one]
  have h0 := wdF_other f k
  generalize hjj : k / 64 = j at *
  unfold putW setF
  match j, hj with
  | 0, _ => simp [h0 1 (by decide), h0 2 (by decide), h0 3 (by decide)]
  | 1, _ => simp [h0 0 (by decide), h0 2 (by decide), h0 3 (by decide)]
  | 2, _ => simp [h0 0 (by decide), h0 1 (by decide), h0 3 (by decide)]
  | 3, _ => simp [h0 0 (by decide), h0 1 (by decide), h0 2 (by decide)]
theorem or_one (f : Nat → Bool) (k : Nat) : bits .or .u64 ((wdF f (k / 64) : Nat) : Int) (IntKind.u64.wrap (2 ^ (k % 64))) = ((wdF f (k / 64) ||| 2 ^ (k % 64) : Nat) : Int) := by
  have h1 : 2 ^ (k % 64) < 18446744073709551616 := by have h := Nat.pow_lt_pow_right (a := 2) (by decide) (Nat.mod_lt k (show 64 > 0 by decide)); exact h
  have := bits_or_u64_nat (wdF f (k / 64)) (2 ^ (k % 64)) (wdF_lt _ _) h1
  have h2 : IntKind.u64.wrap (2 ^ (k % 64)) = ((2 ^ (k % 64) : Nat) : Int) := by
    rw [IntKind.wrap_u64, show (2 : Int) ^ (k % 64) = ((2 ^ (k % 64) : Nat) : Int) by rw [Int.natCast_pow]; rfl]
    generalize 2 ^ (k % 64) = q at h1
    omega
  rw [← this, h2]
def SetPostW (s : Set4) (w : World) (e : Ending) (w' : World) : Prop := e = .returned (setA s) ∧ Below w.heap.size w w'
theorem and_63 (k : Nat) (hk : k < 256) : bits .and .i64 (k : Int) 63 = ((k % 64 : Nat) : Int) := by
  have h : ∀ k : Fin 256, bits .and .i64 ((k.val : Nat) : Int) 63 = ((k.val % 64 : Nat) : Int) := by decide +kernel
  exact h ⟨k, hk⟩
def RgRel (lo hi : Nat) (w : World) (b : Value) (wr : World) : Prop :=
  ∃ k : Nat, lo ≤ k ∧ k ≤ hi + 1 ∧ b = .int .i64 k ∧ FourW wr (w.heap.size + 1) (setF fun x => decide (lo ≤ x) && decide (x < k)) ∧ FourW wr w.heap.size (setF fun _ => false) ∧ Below w.heap.size w wr
set_option maxRecDepth 100000 in
set_option maxHeartbeats 1600000 in
theorem Range_any (lo hi : Nat) (h1 : lo ≤ hi) (h2 : hi < 256) (w : World) :
    Calls Tryz.prog 193 #[.int .i64 lo, .int .i64 hi] w (SetPostW (setF fun x => decide (lo ≤ x) && decide (x ≤ hi)) w) := by
  have h0 : ∀ W, W = (w.alloc (.cells #[.int .u64 0, .int .u64 0, .int .u64 0, .int .u64 0] 214)).alloc (.cells #[.int .u64 0, .int .u64 0, .int .u64 0, .int .u64 0] 214) → FourW W (w.heap.size + 1) (setF fun x => decide (lo ≤ x) && decide (x < lo)) ∧ FourW W w.heap.size (setF fun _ => false) ∧ Below w.heap.size w W := fun W hW => by
    have hb : Below w.heap.size w W := by rw [hW]; exact ((Below.refl _ _).alloc (Nat.le_refl _) _).alloc (by simp) _
    refine ⟨?_, ?_, hb⟩
    · have := FourW.new (w.alloc (.cells #[.int .u64 0, .int .u64 0, .int .u64 0, .int .u64 0] 214))
      rw [World.size_alloc] at this
      rw [hW, setF_congr (g := fun _ => false) (fun k _ => by simp)]
      exact this
    · rw [hW]
      exact (Below.heap_alloc _ _ _ (by simp)).trans (FourW.new w)
  have H0 := Lib.hid h0
  clear h0
  go_enter Tryz.func193, Tryz.ntmps193
  go_wp2_with fail
  go_loopw [6] (fun b wr => RgRel lo hi w b wr) (fun b _ => 256 - (intOf b).toNat)
  case atStart => exact ⟨lo, Nat.le_refl _, by omega, rfl, H0.out _ rfl⟩
  case round =>
    obtain ⟨k, hk1, hk2, rfl, hF, hZ, hb⟩ := hrel
    by_cases hlt : k ≤ hi
    · have d1 : decide ((k : Int) ≤ (hi : Int)) = true := by simp; omega
      have HU2 : Hid ((fun x => (decide (lo ≤ x) && decide (x < k)) || decide (x = k)) = fun x => decide (lo ≤ x) && decide (x < k + 1)) := by
        unfold Hid
        funext x
        by_cases e : x = k
        · subst e; simp [hk1]
        · by_cases h2 : x < k
          · simp [h2, e, Nat.lt_succ_of_lt h2]
          · have : ¬ x < k + 1 := by omega
            simp [h2, e, this]
      have hcell := hF.cell (k / 64) (by omega)
      rw [setF_word _ _ (by omega)] at hcell
      have hfr := hF.free (k / 64)
      have HPW := Lib.hid (putW_one (fun x => decide (lo ≤ x) && decide (x < k)) k (by omega))
      have hor := or_one (fun x => decide (lo ≤ x) && decide (x < k)) k
      have h63 := and_63 k (by omega)
      rw [HU2.out] at HPW
      generalize wdF (fun x => decide (lo ≤ x) && decide (x < k)) (k / 64) = wd at *
      have HF2 := Lib.hid hF
      have HZ2 := Lib.hid hZ
      have HB2 := Lib.hid hb
      clear hF hZ hb
      go_wp2_with fail
      go_region
      have hF3 := HF2.out.put (k / 64) (by omega) ((wd ||| 2 ^ (k % 64) : Nat) : Int)
      rw [HPW.out] at hF3
      have hZ3 := HZ2.out.far (k := w.heap.size + 1) (by omega) (k / 64) (.int .u64 ((wd ||| 2 ^ (k % 64) : Nat) : Int))
      have hB3 := HB2.out.setCell (p := ⟨w.heap.size + 1, k / 64, none⟩) (Nat.le_succ _) (.int .u64 ((wd ||| 2 ^ (k % 64) : Nat) : Int))
      clear hcell hfr
      generalize wr.setCell ⟨w.heap.size + 1, k / 64, none⟩ (.int .u64 ((wd ||| 2 ^ (k % 64) : Nat) : Int)) = w3 at *
      go_wp2_with fail
      go_roundw
      case rel => exact ⟨k + 1, by omega, by omega, by go_num, hF3.drew, hZ3.drew, hB3.drew⟩
      case measure => simp [intOf] <;> omega
    · obtain rfl : k = hi + 1 := by omega
      have d1 : decide (((hi + 1 : Nat) : Int) ≤ (hi : Int)) = false := by simp; omega
      have HU2 : Hid (setF (fun x => decide (lo ≤ x) && decide (x < hi + 1)) = setF fun x => decide (lo ≤ x) && decide (x ≤ hi)) := setF_congr fun x hx => by
        rw [show decide (x < hi + 1) = decide (x ≤ hi) from decide_eq_decide.2 Nat.lt_succ_iff]
      rw [HU2.out] at hF
      obtain ⟨S, hS⟩ : ∃ S, S = setF fun x => decide (lo ≤ x) && decide (x ≤ hi) := ⟨_, rfl⟩
      rw [← hS] at hF
      have HS := Lib.hid hS
      clear hS
      have ⟨c0, c1, c2, c3⟩ := hF.cells
      have ⟨z0, z1, z2, z3⟩ := hZ.cells
      have y0 := hZ.free 0
      have y1 := hZ.free 1
      have y2 := hZ.free 2
      have y3 := hZ.free 3
      go_wp2_with fail
      have hFW := hZ.fill S
      have hbW := (((hb.setCell (p := ⟨w.heap.size, 0, none⟩) (Nat.le_refl _) (.int .u64 S.a)).setCell (p := ⟨w.heap.size, 1, none⟩) (Nat.le_refl _) (.int .u64 S.b)).setCell (p := ⟨w.heap.size, 2, none⟩) (Nat.le_refl _) (.int .u64 S.c)).setCell (p := ⟨w.heap.size, 3, none⟩) (Nat.le_refl _) (.int .u64 S.d)
      generalize ((((wr.setCell ⟨w.heap.size, 0, none⟩ (.int .u64 S.a)).setCell ⟨w.heap.size, 1, none⟩ (.int .u64 S.b)).setCell ⟨w.heap.size, 2, none⟩ (.int .u64 S.c)).setCell ⟨w.heap.size, 3, none⟩ (.int .u64 S.d)) = WF at *
      obtain ⟨s0, s1, s2, s3⟩ := hFW.cells
      exact bodyPost_ret (v := setA S) (by simp [results, Tryz.results193, go_sem, s0, s1, s2, s3, setA]) rfl ⟨by rw [HS.out], hbW⟩
end Go.Proofs.YthfjmlcjkbgboaaGreatDoor
namespace Go.Proofs.YthfjmlcjkbgboaaGreatDoor
open Go.RowKit
theorem wdF_if (f h : Nat → Bool) (k j : Nat) : wdF (fun x => if x / 64 = k then h x else f x) j = if j = k then wdF h j else wdF f j := by
  have e : ∀ i, i < 64 → (64 * j + i) / 64 = j := fun i hi => by omega
  by_cases hjk : j = k
  · rw [if_pos hjk]
    refine Nat.eq_of_testBit_eq fun i => ?_
    rw [wdF_test, wdF_test]
    by_cases hi : i < 64
    · rw [e i hi, if_pos hjk]
    · simp [hi]
  · rw [if_neg hjk]
    refine Nat.eq_of_testBit_eq fun i => ?_
    rw [wdF_test, wdF_test]
    by_cases hi : i < 64
    · rw [e i hi, if_neg hjk]
    · simp [hi]
theorem putW_if (f h : Nat → Bool) (k : Nat) (hk : k < 4) : putW (setF f) k ((wdF h k : Nat) : Int) = setF (fun x => if x / 64 = k then h x else f x) := by
  unfold setF
  rw [wdF_if, wdF_if, wdF_if, wdF_if]
  have : k = 0 ∨ k = 1 ∨ k = 2 ∨ k = 3 := by omega
  rcases this with rfl | rfl | rfl | rfl <;> rfl
def upW (f h : Nat → Bool) (k : Nat) (x : Nat) : Bool := if x / 64 < k then h x else f x
theorem upW_step (f h : Nat → Bool) (k : Nat) (hk : k < 4) : putW (setF (upW f h k)) k ((wdF h k : Nat) : Int) = setF (upW f h (k + 1)) := by
  rw [putW_if _ _ _ hk]
  refine setF_congr fun x _ => ?_
  unfold upW
  by_cases e : x / 64 = k
  · rw [if_pos e, if_pos (by omega)]
  · rw [if_neg e]
    by_cases e2 : x / 64 < k
    · rw [if_pos e2, if_pos (by omega)]
    · rw [if_neg e2, if_neg (by omega)]
theorem upW_word (f h : Nat → Bool) (k : Nat) : wdF (upW f h k) k = wdF f k := by
  refine Nat.eq_of_testBit_eq fun i => ?_
  rw [wdF_test, wdF_test]
  by_cases hi : i < 64
  · unfold upW; rw [if_neg (by omega)]
  · simp [hi]
theorem upW_zero (f h : Nat → Bool) : setF (upW f h 0) = setF f := setF_congr fun x _ => by unfold upW; rw [if_neg (by omega)]
theorem upW_all (f h : Nat → Bool) : setF (upW f h 4) = setF h := setF_congr fun x hx => by unfold upW; rw [if_pos (by omega)]
theorem or_words (f h : Nat → Bool) (j : Nat) : bits .or .u64 ((wdF f j : Nat) : Int) ((wdF h j : Nat) : Int) = ((wdF (fun x => f x || h x) j : Nat) : Int) := by
  rw [bits_or_u64_nat (wdF f j) (wdF h j) (wdF_lt _ _) (wdF_lt _ _), wdF_or]
def UnRel (f h : Nat → Bool) (w : World) (i : Value) (wr : World) : Prop :=
  ∃ k : Nat, k ≤ 4 ∧ i = .int .i64 k ∧ FourW wr w.heap.size (setF (upW f (fun x => f x || h x) k)) ∧ FourW wr (w.heap.size + 1) (setF h) ∧ FourW wr (w.heap.size + 2) (setF fun _ => false) ∧ Below w.heap.size w wr
set_option maxRecDepth 100000 in
set_option maxHeartbeats 1600000 in
theorem union_any (f h : Nat → Bool) (w : World) :
    Calls Tryz.prog 318 #[setA (setF f), setA (setF h)] w (SetPostW (setF fun x => f x || h x) w) := by
  have h0 : ∀ W, W = ((w.alloc (.cells #[.int .u64 (setF f).a, .int .u64 (setF f).b, .int .u64 (setF f).c, .int .u64 (setF f).d] 214)).alloc (.cells #[.int .u64 (setF h).a, .int .u64 (setF h).b, .int .u64 (setF h).c, .int .u64 (setF h).d] 214)).alloc (.cells #[.int .u64 0, .int .u64 0, .int .u64 0, .int .u64 0] 214) → UnRel f h w (.int .i64 0) W := fun W hW => by
    refine ⟨0, by omega, rfl, ?_, ?_, ?_, ?_⟩
    · rw [upW_zero, hW]
      exact (Below.heap_alloc _ _ _ (by simp; omega)).trans ((Below.heap_alloc _ _ _ (by simp)).trans (heap_alloc_new w _))
    · rw [hW]
      have := heap_alloc_new (w.alloc (.cells #[.int .u64 (setF f).a, .int .u64 (setF f).b, .int .u64 (setF f).c, .int .u64 (setF f).d] 214)) (.cells #[.int .u64 (setF h).a, .int .u64 (setF h).b, .int .u64 (setF h).c, .int .u64 (setF h).d] 214)
      rw [World.size_alloc] at this
      exact (Below.heap_alloc _ _ _ (by simp)).trans this
    · have := FourW.new ((w.alloc (.cells #[.int .u64 (setF f).a, .int .u64 (setF f).b, .int .u64 (setF f).c, .int .u64 (setF f).d] 214)).alloc (.cells #[.int .u64 (setF h).a, .int .u64 (setF h).b, .int .u64 (setF h).c, .int .u64 (setF h).d] 214))
      rw [World.size_alloc, World.size_alloc] at this
      rw [hW]
      exact this
    · rw [hW]
      exact (((Below.refl _ _).alloc (Nat.le_refl _) _).alloc (by simp) _).alloc (by simp; omega) _
  have H0 := Lib.hid h0
  clear h0
  have HU : Hid (setF (upW f (fun x => f x || h x) 4) = setF fun x => f x || h x) := upW_all _ _
  unfold setA
  go_enter Tryz.func318, Tryz.ntmps318
  go_wp2_with fail
  go_loopw [5, 6] (fun _ i wr => UnRel f h w i wr) (fun _ i _ => 4 - (intOf i).toNat)
  case atStart => exact H0.out _ rfl
  case round =>
    obtain ⟨k, hk, rfl, hF, hG, hZ, hb⟩ := hrel
    by_cases hlt : k < 4
    · have d1 : decide ((k : Int) < 4) = true := by simp; omega
      have i7 : IntKind.i64.wrap ((k : Int) + 1) = (k : Int) + 1 := IntWalk.i64_in _ (by omega)
      have hc1 := hF.cell k hlt
      have hc2 := hG.cell k hlt
      rw [setF_word _ _ hlt] at hc1 hc2
      rw [upW_word] at hc1
      have hfr := hF.free k
      have hor := or_words f h k
      have HST := Lib.hid (upW_step f (fun x => f x || h x) k hlt)
      have hF3 := hF.put k hlt ((wdF (fun x => f x || h x) k : Nat) : Int)
      rw [HST.out] at hF3
      have hG3 := hG.far (k := w.heap.size) (by omega) k (.int .u64 ((wdF (fun x => f x || h x) k : Nat) : Int))
      have hZ3 := hZ.far (k := w.heap.size) (by omega) k (.int .u64 ((wdF (fun x => f x || h x) k : Nat) : Int))
      have hB3 := hb.setCell (p := ⟨w.heap.size, k, none⟩) (Nat.le_refl _) (.int .u64 ((wdF (fun x => f x || h x) k : Nat) : Int))
      generalize wdF (fun x => f x || h x) k = wu at *
      generalize wdF f k = w1 at *
      generalize wdF h k = w2 at *
      have HX := Lib.hid (And.intro hF3 (And.intro hG3 (And.intro hZ3 hB3)))
      clear hF hG hZ hb hF3 hG3 hZ3 hB3 HST HU H0
      go_wp2_with fail
      go_region
      generalize hws : wr.setCell ⟨w.heap.size, k, none⟩ (.int .u64 (wu : Int)) = w3 at *
      clear hws hc1 hc2 hfr
      go_wp2_with fail
      exact ⟨⟨k + 1, by omega, rfl, HX.out.1.drew, HX.out.2.1.drew, HX.out.2.2.1.drew, HX.out.2.2.2.drew⟩, by dsimp only [intOf]; omega⟩
    · obtain rfl : k = 4 := by omega
      have d1 : decide (((4 : Nat) : Int) < 4) = false := by decide
      rw [HU.out] at hF
      generalize hS : setF (fun x => f x || h x) = S at *
      have HS := Lib.hid hS
      clear hS
      have ⟨c0, c1, c2, c3⟩ := hF.cells
      have ⟨z0, z1, z2, z3⟩ := hZ.cells
      have y0 := hZ.free 0
      have y1 := hZ.free 1
      have y2 := hZ.free 2
      have y3 := hZ.free 3
      have HZ := Lib.hid (hZ.fill S)
      have HB := Lib.hid ((((hb.setCell (p := ⟨w.heap.size + 2, 0, none⟩) (by show w.heap.size ≤ w.heap.size + 2; omega) (.int .u64 S.a)).setCell (p := ⟨w.heap.size + 2, 1, none⟩) (by show w.heap.size ≤ w.heap.size + 2; omega) (.int .u64 S.b)).setCell (p := ⟨w.heap.size + 2, 2, none⟩) (by show w.heap.size ≤ w.heap.size + 2; omega) (.int .u64 S.c)).setCell (p := ⟨w.heap.size + 2, 3, none⟩) (by show w.heap.size ≤ w.heap.size + 2; omega) (.int .u64 S.d))
      clear hF hG hZ hb HU H0
      go_wp2_with fail
      have ⟨s0, s1, s2, s3⟩ := HZ.out.cells
      exact bodyPost_ret (v := setA S) (by simp [results, Tryz.results318, go_sem, s0, s1, s2, s3, setA]) rfl ⟨by rw [HS.out], HB.out⟩
theorem not_word (f : Nat → Bool) (j : Nat) : bits .xor .u64 (if IntKind.u64.signed = true then -1 else IntKind.u64.max) ((wdF f j : Nat) : Int) = ((wdF (fun x => !f x) j : Nat) : Int) := by
  have e : (if IntKind.u64.signed = true then -1 else IntKind.u64.max) = ((18446744073709551615 : Nat) : Int) := rfl
  rw [e, bits_xor_u64_nat _ _ (by decide) (wdF_lt _ _)]
  congr 1
  refine Nat.eq_of_testBit_eq fun i => ?_
  rw [Nat.testBit_xor, show (18446744073709551615 : Nat) = 2 ^ 64 - 1 from rfl, Nat.testBit_two_pow_sub_one, wdF_test, wdF_test]
  by_cases hi : i < 64
  · simp [hi]
  · simp [hi]
def NoRel (f : Nat → Bool) (w : World) (i : Value) (wr : World) : Prop :=
  ∃ k : Nat, k ≤ 4 ∧ i = .int .i64 k ∧ FourW wr w.heap.size (setF (upW f (fun x => !f x) k)) ∧ FourW wr (w.heap.size + 1) (setF fun _ => false) ∧ Below w.heap.size w wr
set_option maxRecDepth 100000 in
set_option maxHeartbeats 1600000 in
theorem rnot_any (f : Nat → Bool) (w : World) :
    Calls Tryz.prog 309 #[setA (setF f)] w (SetPostW (setF fun x => !f x) w) := by
  have h0 : ∀ W, W = (w.alloc (.cells #[.int .u64 (setF f).a, .int .u64 (setF f).b, .int .u64 (setF f).c, .int .u64 (setF f).d] 214)).alloc (.cells #[.int .u64 0, .int .u64 0, .int .u64 0, .int .u64 0] 214) → NoRel f w (.int .i64 0) W := fun W hW => by
    refine ⟨0, by omega, rfl, ?_, ?_, ?_⟩
    · rw [upW_zero, hW]
      exact (Below.heap_alloc _ _ _ (by simp)).trans (heap_alloc_new w _)
    · have := FourW.new (w.alloc (.cells #[.int .u64 (setF f).a, .int .u64 (setF f).b, .int .u64 (setF f).c, .int .u64 (setF f).d] 214))
      rw [World.size_alloc] at this
      rw [hW]
      exact this
    · rw [hW]
      exact ((Below.refl _ _).alloc (Nat.le_refl _) _).alloc (by simp) _
  have H0 := Lib.hid h0
  clear h0
  have HU : Hid (setF (upW f (fun x => !f x) 4) = setF fun x => !f x) := upW_all _ _
  unfold setA
  go_enter Tryz.func309, Tryz.ntmps309
  go_wp2_with fail
  go_loopw [3, 4] (fun _ i wr => NoRel f w i wr) (fun _ i _ => 4 - (intOf i).toNat)
  case atStart => exact H0.out _ rfl
  case round =>
    obtain ⟨k, hk, rfl, hF, hZ, hb⟩ := hrel
    by_cases hlt : k < 4
    · have d1 : decide ((k : Int) < 4) = true := by simp; omega
      have i7 : IntKind.i64.wrap ((k : Int) + 1) = (k : Int) + 1 := IntWalk.i64_in _ (by omega)
      have hc1 := hF.cell k hlt
      rw [setF_word _ _ hlt, upW_word] at hc1
      have hfr := hF.free k
      have hnw := not_word f k
      have HST := Lib.hid (upW_step f (fun x => !f x) k hlt)
      have hF3 := hF.put k hlt ((wdF (fun x => !f x) k : Nat) : Int)
      rw [HST.out] at hF3
      have hZ3 := hZ.far (k := w.heap.size) (by omega) k (.int .u64 ((wdF (fun x => !f x) k : Nat) : Int))
      have hB3 := hb.setCell (p := ⟨w.heap.size, k, none⟩) (Nat.le_refl _) (.int .u64 ((wdF (fun x => !f x) k : Nat) : Int))
      generalize wdF (fun x => !f x) k = wu at *
      generalize wdF f k = w1 at *
      have HX := Lib.hid (And.intro hF3 (And.intro hZ3 hB3))
      clear hF hZ hb hF3 hZ3 hB3 HST HU H0
      go_wp2_with fail
      exact ⟨⟨k + 1, by omega, rfl, HX.out.1, HX.out.2.1, HX.out.2.2⟩, by dsimp only [intOf]; omega⟩
    · obtain rfl : k = 4 := by omega
      have d1 : decide (((4 : Nat) : Int) < 4) = false := by decide
      rw [HU.out] at hF
      generalize hS : setF (fun x => !f x) = S at *
      have HS := Lib.hid hS
      clear hS
      have ⟨c0, c1, c2, c3⟩ := hF.cells
      have ⟨z0, z1, z2, z3⟩ := hZ.cells
      have y0 := hZ.free 0
      have y1 := hZ.free 1
      have y2 := hZ.free 2
      have y3 := hZ.free 3
      have HZ := Lib.hid (hZ.fill S)
      have HB := Lib.hid ((((hb.setCell (p := ⟨w.heap.size + 1, 0, none⟩) (by show w.heap.size ≤ w.heap.size + 1; omega) (.int .u64 S.a)).setCell (p := ⟨w.heap.size + 1, 1, none⟩) (by show w.heap.size ≤ w.heap.size + 1; omega) (.int .u64 S.b)).setCell (p := ⟨w.heap.size + 1, 2, none⟩) (by show w.heap.size ≤ w.heap.size + 1; omega) (.int .u64 S.c)).setCell (p := ⟨w.heap.size + 1, 3, none⟩) (by show w.heap.size ≤ w.heap.size + 1; omega) (.int .u64 S.d))
      clear hF hZ hb HU H0
      go_wp2_with fail
      have ⟨s0, s1, s2, s3⟩ := HZ.out.cells
      exact bodyPost_ret (v := setA S) (by simp [results, Tryz.results309, go_sem, s0, s1, s2, s3, setA]) rfl ⟨by rw [HS.out], HB.out⟩
end Go.Proofs.YthfjmlcjkbgboaaGreatDoor
