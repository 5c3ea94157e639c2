/- Networks, plainly: masks; addresses as texts; what is printed is read back, what is read is printed as it stood. -/
import Derived.Test.YtchoenfclfafiaaDoorSetL
import Derived.Test.YtchoenfclfafiaaDoorHexL
import Derived.Test.YtchoenfclfafiaaDoorArgW
import Derived.Laws.BitsAllLaws
namespace Go.Proofs.YtchoenfclfafiaaDoor
open Go.RowKit

/-! Masks. -/
def topN (b : Int) : Nat := 32 - (min (max b 0) 32).toNat
def maskN (b : Int) : Nat := 4294967296 - 2 ^ topN b
theorem topN_le (b : Int) : topN b ≤ 32 := by unfold topN; omega
theorem pow_le (s : Nat) (h : s ≤ 32) : 1 ≤ 2 ^ s ∧ 2 ^ s ≤ 4294967296 := ⟨Nat.one_le_two_pow, Nat.pow_le_pow_right (by decide) h⟩
theorem maskN_lt (b : Int) : maskN b < 4294967296 := by have := pow_le _ (topN_le b); unfold maskN; omega
theorem mask_test : ∀ s, s ≤ 32 → ∀ i, i < 32 → (4294967296 - 2 ^ s).testBit i = decide (s ≤ i) := by
  have h : ((List.range 33).all fun s => (List.range 32).all fun i => (4294967296 - 2 ^ s).testBit i == decide (s ≤ i)) = true := by decide +kernel
  intro s hs i hi
  have h1 := List.all_eq_true.1 h s (List.mem_range.2 (by omega))
  have h2 := List.all_eq_true.1 h1 i (List.mem_range.2 hi)
  exact beq_iff_eq.1 h2
theorem and_mask (x s : Nat) (hx : x < 4294967296) (hs : s ≤ 32) : x &&& (4294967296 - 2 ^ s) = 0 ↔ x < 2 ^ s := by
  constructor
  · intro h
    refine Nat.lt_pow_two_of_testBit _ fun i hi => ?_
    by_cases h32 : i < 32
    · have := congrArg (fun y => Nat.testBit y i) h
      simp only [Nat.testBit_and, Nat.zero_testBit, mask_test s hs i h32, decide_eq_true hi, Bool.and_true] at this
      exact this
    · exact Nat.testBit_lt_two_pow (Nat.lt_of_lt_of_le hx (Nat.pow_le_pow_right (n := 2) (by decide) (by omega : 32 ≤ i)))
  · intro h
    refine Nat.eq_of_testBit_eq fun i => ?_
    rw [Nat.testBit_and, Nat.zero_testBit]
    by_cases hi : i < s
    · rw [mask_test s hs i (by omega), decide_eq_false (by omega), Bool.and_false]
    · rw [Nat.testBit_lt_two_pow (Nat.lt_of_lt_of_le h (Nat.pow_le_pow_right (by decide) (by omega))), Bool.false_and]
theorem andNot_mask (x s : Nat) (hs : s ≤ 32) : x &&& (4294967295 - (4294967296 - 2 ^ s)) = x % 2 ^ s := by
  have := pow_le s hs
  rw [show 4294967295 - (4294967296 - 2 ^ s) = 2 ^ s - 1 by omega, Nat.and_two_pow_sub_one_eq_mod]
def inN32 (a : Nat) (b : Int) (x : Nat) : Bool := decide ((a ^^^ x) < 2 ^ topN b)
theorem inN32_self (a : Nat) (b : Int) : inN32 a b a = true := by
  unfold inN32
  rw [Nat.xor_self]
  exact decide_eq_true Nat.one_le_two_pow
theorem inN32_wide (a x : Nat) (b k : Int) (h : inN32 a b x = true) (hk : k ≤ b) : inN32 a k x = true := by
  unfold inN32 at h ⊢
  have h1 := of_decide_eq_true h
  exact decide_eq_true (Nat.lt_of_lt_of_le h1 (Nat.pow_le_pow_right (by decide) (by unfold topN; omega)))

/-! Texts. -/
def octN (a : Nat) (k : Nat) : Nat := a / 2 ^ k % 256
def decS (n : Nat) : List UInt8 := Lib.decDigits n
def addrT (a : Nat) : List UInt8 := Lib.join [decS (octN a 24), decS (octN a 16), decS (octN a 8), decS (octN a 0)] [46]
def netT (a : Nat) (b : Int) : List UInt8 := if b < 32 then addrT a ++ 47 :: decS b.toNat else addrT a
def netOk (a : Nat) (b : Int) : Bool := decide (0 ≤ b) && decide (b ≤ 32) && (a % 2 ^ topN b == 0)
def numsR : List (List UInt8) → Nat → Option Nat
  | [], a => some a
  | x :: r, a => if numB 255 x < 0 then none else numsR r ((a * 256 + (numB 255 x).toNat) % 4294967296)
def bitsR (l : List UInt8) : Int := if (Lib.cut l [47]).2.2 = true then numB 32 (Lib.cut l [47]).2.1 else 32
def netP (l : List UInt8) : Except Int (Nat × Int) :=
  if bitsR l < 0 then .error 3 else if (splL 46 (Lib.cut l [47]).1).length ≠ 4 then .error 3
  else match numsR (splL 46 (Lib.cut l [47]).1) 0 with
  | none => .error 3
  | some a => if a % 2 ^ topN (bitsR l) ≠ 0 then .error 4 else .ok (a, bitsR l)
theorem netP_err {l : List UInt8} {e : Int} (h : netP l = .error e) : e = 3 ∨ e = 4 := by
  unfold netP at h
  split at h
  · cases h; exact .inl rfl
  · split at h
    · cases h; exact .inl rfl
    · split at h
      · cases h; exact .inl rfl
      · split at h
        · cases h; exact .inr rfl
        · cases h
theorem bitsR_range (l : List UInt8) : bitsR l ≤ 32 := by
  unfold bitsR
  split
  · exact numB_le 32 _ (by decide)
  · exact Int.le_refl _

/-! One number. -/
theorem dec_lead (u : Nat) : ∀ d r, Lib.decDigits u = d :: r → (d = 48 → u < 10) ∧ 48 ≤ d.toNat ∧ d.toNat ≤ 57 := by
  induction u using Nat.strongRecOn with
  | ind u ih =>
    intro d r h
    rw [Lib.decDigits] at h
    by_cases hu : u < 10
    · rw [dif_pos hu] at h
      injection h with h1 h2
      refine ⟨fun _ => hu, ?_⟩
      rw [← h1]
      have : (UInt8.ofNat (48 + u)).toNat = 48 + u := by simp; omega
      omega
    · rw [dif_neg hu] at h
      cases hq : Lib.decDigits (u / 10) with
      | nil =>
        have := (dec_len 20 (u / 10))
        exfalso
        have h1 := Lib.decDigits.eq_1 (u / 10)
        rw [hq] at h1
        split at h1
        · cases h1
        · exact absurd h1 (by simp)
      | cons x y =>
        rw [hq, List.cons_append] at h
        injection h with h1 h2
        obtain ⟨a1, a2⟩ := ih (u / 10) (by omega) x y hq
        subst h1
        refine ⟨fun e => ?_, a2⟩
        have h3 := a1 e
        exfalso
        rw [Lib.decDigits, dif_pos h3] at hq
        injection hq with h4 h5
        have h6 : (UInt8.ofNat (48 + u / 10)).toNat = 48 + u / 10 := by simp; omega
        rw [h4, e] at h6
        have : (48 : UInt8).toNat = 48 := rfl
        omega
theorem numB_dec (most : Int) (n : Nat) (h : (n : Int) ≤ most) (hn : n < 1000000000) : numB most (decS n) = (n : Int) := by
  unfold numB decS
  rw [dec_num n hn]
  dsimp only
  rw [if_neg]
  rintro (h1 | ⟨h1, h2⟩)
  · omega
  · cases hd : Lib.decDigits n with
    | nil => rw [hd] at h1; cases h1
    | cons d r =>
      rw [hd] at h1
      have e : d = 48 := by simpa using h1
      have := (dec_lead n d r hd).1 e
      rw [Lib.decDigits, dif_pos this] at hd
      rw [Lib.decDigits, dif_pos this] at h2
      simp at h2
theorem dec_byte (n : Nat) : ∀ b ∈ decS n, 48 ≤ b.toNat ∧ b.toNat ≤ 57 := by
  induction n using Nat.strongRecOn with
  | ind n ih =>
    intro b hb
    unfold decS at hb
    rw [Lib.decDigits] at hb
    by_cases hn : n < 10
    · rw [dif_pos hn, List.mem_singleton] at hb
      rw [hb]
      have : (UInt8.ofNat (48 + n)).toNat = 48 + n := by simp; omega
      omega
    · rw [dif_neg hn, List.mem_append, List.mem_singleton] at hb
      rcases hb with hb | hb
      · exact ih (n / 10) (by omega) b hb
      · rw [hb]
        have : (UInt8.ofNat (48 + n % 10)).toNat = 48 + n % 10 := by simp; omega
        omega
theorem dec_not (n : Nat) (c : UInt8) (h : c.toNat < 48) : c ∉ decS n := fun hm => by have := dec_byte n c hm; omega
/-- What is read as a number without noughts ahead is that number's digits. -/
theorem digit_back (b : UInt8) (h0 : 0 ≤ digitI b) (h1 : digitI b < 10) : UInt8.ofNat (48 + (digitI b).toNat) = b := by
  have := all_bytes (p := fun b => !(decide (0 ≤ digitI b) && decide (digitI b < 10)) || decide (UInt8.ofNat (48 + (digitI b).toNat) = b)) (by decide +kernel) b
  simp only [decide_eq_true h0, decide_eq_true h1, Bool.and_self, Bool.not_true, Bool.false_or] at this
  exact of_decide_eq_true this
theorem canon_go : ∀ (l : List UInt8) (a : Nat) (n : Int), 1 ≤ a → numGo 10 l (a : Int) = some n → Lib.decDigits n.toNat = Lib.decDigits a ++ l
  | [], a, n, _, h => by
    unfold numGo at h
    have e : (a : Int) = n := Option.some.inj h
    rw [← e, Int.toNat_natCast, List.append_nil]
  | b :: l, a, n, ha, h => by
    unfold numGo at h
    split at h
    · cases h
    · rename_i hd
      obtain ⟨d, hdd⟩ : ∃ d : Nat, digitI b = (d : Int) := ⟨(digitI b).toNat, by omega⟩
      have hd10 : d < 10 := by omega
      have e : (a : Int) * 10 + digitI b = ((a * 10 + d : Nat) : Int) := by rw [hdd]; omega
      rw [e] at h
      have ih := canon_go l (a * 10 + d) n (by omega) h
      rw [ih, Lib.decDigits, dif_neg (by omega), show (a * 10 + d) / 10 = a by omega, show (a * 10 + d) % 10 = d by omega, List.append_assoc]
      congr 1
      have hb := digit_back b (by omega) (by omega)
      rw [hdd, Int.toNat_natCast] at hb
      rw [hb]
      rfl
theorem numB_canon {most : Int} {l : List UInt8} (h : 0 ≤ numB most l) : decS (numB most l).toNat = l ∧ numB most l ≤ most := by
  unfold numB at h ⊢
  cases hn : numL 10 9 l with
  | none => rw [hn] at h; dsimp only at h; omega
  | some n =>
    rw [hn] at h
    dsimp only at h ⊢
    split at h
    · exact absurd h (by decide)
    · rename_i hc
      rw [if_neg hc]
      refine ⟨?_, by omega⟩
      unfold numL at hn
      split at hn
      · cases hn
      · rename_i hlen
        match l, hn, hlen, hc with
        | [], _, hlen, _ => exact (hlen (.inl rfl)).elim
        | [b], hn, _, _ =>
          unfold numGo at hn
          split at hn
          · cases hn
          · rename_i hd
            unfold numGo at hn
            have e := Option.some.inj hn
            have h3 : n = digitI b := by omega
            unfold decS
            rw [h3, Lib.decDigits, dif_pos (by omega), digit_back b (by omega) (by omega)]
        | b :: c :: r, hn, _, hc =>
          have hb : b ≠ 48 := fun e => hc (.inr ⟨by rw [e]; rfl, by simp⟩)
          unfold numGo at hn
          split at hn
          · cases hn
          · rename_i hd
            obtain ⟨d, hdd⟩ : ∃ d : Nat, digitI b = (d : Int) := ⟨(digitI b).toNat, by omega⟩
            have hback := digit_back b (by omega) (by omega)
            have hd0 : d ≠ 0 := fun e => by
              rw [hdd, e] at hback
              exact hb hback.symm
            rw [show (0 : Int) * 10 + digitI b = (d : Int) by omega] at hn
            have := canon_go (c :: r) d n (by omega) hn
            unfold decS
            rw [this, Lib.decDigits, dif_pos (by omega)]
            rw [hdd, Int.toNat_natCast] at hback
            rw [hback]
            rfl

/-! Whole. -/
theorem join_four (a b c d : List UInt8) : Lib.join [a, b, c, d] [46] = a ++ 46 :: (b ++ 46 :: (c ++ 46 :: d)) := by
  rw [Lib.join_cons]
  simp [Lib.joinTail]
theorem spl_four (a b c d : List UInt8) (h1 : (46 : UInt8) ∉ a) (h2 : (46 : UInt8) ∉ b) (h3 : (46 : UInt8) ∉ c) (h4 : (46 : UInt8) ∉ d) : splL 46 (Lib.join [a, b, c, d] [46]) = [a, b, c, d] := by
  rw [join_four, splL_append, splL_append, splL_append, splW_whole 46 a h1, splW_whole 46 b h2, splW_whole 46 c h3, splW_whole 46 d h4]
  rfl
theorem octN_lt (a k : Nat) : octN a k < 256 := Nat.mod_lt _ (by decide)
theorem oct_sum (a : Nat) (h : a < 4294967296) : ((((0 * 256 + octN a 24) % 4294967296 * 256 + octN a 16) % 4294967296 * 256 + octN a 8) % 4294967296 * 256 + octN a 0) % 4294967296 = a := by
  unfold octN
  simp only [Nat.reducePow, Nat.div_one]
  omega
theorem numsR_four (a : Nat) (h : a < 4294967296) : numsR [decS (octN a 24), decS (octN a 16), decS (octN a 8), decS (octN a 0)] 0 = some a := by
  have e : ∀ k, numB 255 (decS (octN a k)) = (octN a k : Int) := fun k => numB_dec 255 _ (by have := octN_lt a k; omega) (by have := octN_lt a k; omega)
  simp only [numsR, e, Int.toNat_natCast]
  rw [if_neg (by omega), if_neg (by omega), if_neg (by omega), if_neg (by omega), oct_sum a h]
theorem addr_no (a : Nat) : (47 : UInt8) ∉ addrT a := by
  unfold addrT
  rw [join_four]
  intro h
  have hn : ∀ k, (47 : UInt8) ∉ decS (octN a k) := fun k => dec_not _ 47 (by decide)
  simp only [List.mem_append, List.mem_cons] at h
  rcases h with h | h | h | h | h | h | h
  · exact hn _ h
  · exact absurd h (by decide)
  · exact hn _ h
  · exact absurd h (by decide)
  · exact hn _ h
  · exact absurd h (by decide)
  · exact hn _ h
theorem cut_whole (c : UInt8) (l : List UInt8) (h : c ∉ l) : Lib.cut l [c] = (l, [], false) := by
  have h1 := cut_back c l
  cases hq : (Lib.cut l [c]).2.2 with
  | true =>
    have := h1.1 hq
    exact absurd (by rw [← this]; simp) h
  | false =>
    obtain ⟨h2, h3⟩ := h1.2 hq
    have : Lib.cut l [c] = ((Lib.cut l [c]).1, (Lib.cut l [c]).2.1, (Lib.cut l [c]).2.2) := rfl
    rw [this, h2, h3, hq]
/-- What is printed is read as it was. -/
theorem net_back (a : Nat) (b : Int) (ha : a < 4294967296) (h : netOk a b = true) : netP (netT a b) = .ok (a, b) := by
  unfold netOk at h
  simp only [Bool.and_eq_true, decide_eq_true_eq, beq_iff_eq] at h
  obtain ⟨⟨h0, h32⟩, hm⟩ := h
  have hsp : splL 46 (addrT a) = [decS (octN a 24), decS (octN a 16), decS (octN a 8), decS (octN a 0)] :=
    spl_four _ _ _ _ (dec_not _ 46 (by decide)) (dec_not _ 46 (by decide)) (dec_not _ 46 (by decide)) (dec_not _ 46 (by decide))
  have key : ∀ l, (Lib.cut l [47]).1 = addrT a → bitsR l = b → netP l = .ok (a, b) := fun l h1 h2 => by
    unfold netP
    rw [h1, h2, if_neg (by omega), hsp, if_neg (by simp), numsR_four a ha]
    dsimp only
    rw [if_neg (by rw [hm]; simp)]
  by_cases c : b < 32
  · have e : netT a b = addrT a ++ 47 :: decS b.toNat := by unfold netT; rw [if_pos c]
    have hc := cut_first 47 (addrT a) (decS b.toNat) (addr_no a)
    rw [e]
    refine key _ (by rw [hc]) ?_
    unfold bitsR
    rw [hc]
    dsimp only
    rw [if_pos rfl, numB_dec 32 _ (by omega) (by omega)]
    omega
  · have e : netT a b = addrT a := by unfold netT; rw [if_neg c]
    have hc := cut_whole 47 (addrT a) (addr_no a)
    rw [e]
    refine key _ (by rw [hc]) ?_
    unfold bitsR
    rw [hc]
    dsimp only
    rw [if_neg (by decide)]
    omega
theorem numsR_lt : ∀ (l : List (List UInt8)) (a n : Nat), a < 4294967296 → numsR l a = some n → n < 4294967296
  | [], a, n, ha, h => by unfold numsR at h; cases h; exact ha
  | x :: r, a, n, _, h => by
    unfold numsR at h
    split at h
    · cases h
    · exact numsR_lt r _ n (Nat.mod_lt _ (by decide)) h
theorem join_split (c : UInt8) : ∀ l : List UInt8, Lib.join (splL c l) [c] = l
  | [] => rfl
  | b :: l => by
    have ih := join_split c l
    rw [splL]
    by_cases h : b = c
    · rw [if_pos h]
      cases hq : splL c l with
      | nil => exact absurd hq (splL_ne c l)
      | cons x r =>
        rw [hq] at ih
        rw [Lib.join_cons]
        have e : Lib.joinTail [c] (x :: r) = c :: Lib.join (x :: r) [c] := by rw [Lib.join_cons]; simp [Lib.joinTail]
        rw [e, ih, h]
        rfl
    · rw [if_neg h]
      cases hq : splL c l with
      | nil => exact absurd hq (splL_ne c l)
      | cons x r =>
        rw [hq] at ih
        dsimp only
        rw [Lib.join_cons] at ih ⊢
        rw [List.cons_append, ih]
theorem numB_255 {x : List UInt8} (h : ¬ numB 255 x < 0) : ∃ k : Nat, numB 255 x = (k : Int) ∧ k < 256 ∧ decS k = x := by
  obtain ⟨h1, h2⟩ := numB_canon (most := 255) (l := x) (by omega)
  exact ⟨(numB 255 x).toNat, by omega, by omega, h1⟩
/-- What is read is printed as it stood, but for a width of 32 that may be left out. -/
theorem net_one {l : List UInt8} {a : Nat} {b : Int} (h : netP l = .ok (a, b)) : netOk a b = true ∧ a < 4294967296 ∧ (netT a b = l ∨ netT a b ++ [47, 51, 50] = l) := by
  unfold netP at h
  split at h
  · cases h
  · rename_i hb
    split at h
    · cases h
    · rename_i hlen
      split at h
      · cases h
      · rename_i n hn
        split at h
        · cases h
        · rename_i hm
          cases h
          have hlt := numsR_lt _ 0 _ (by decide) hn
          have hbr := bitsR_range l
          refine ⟨?_, hlt, ?_⟩
          · unfold netOk
            simp only [Bool.and_eq_true, decide_eq_true_eq, beq_iff_eq]
            exact ⟨⟨by omega, hbr⟩, by omega⟩
          · have ha : addrT a = (Lib.cut l [47]).1 := by
              have hj := join_split 46 (Lib.cut l [47]).1
              obtain ⟨w, x, y, z, hw⟩ : ∃ w x y z, splL 46 (Lib.cut l [47]).1 = [w, x, y, z] := by
                have hl4 : (splL 46 (Lib.cut l [47]).1).length = 4 := Classical.not_not.1 hlen
                match splL 46 (Lib.cut l [47]).1, hl4 with
                | [w, x, y, z], _ => exact ⟨w, x, y, z, rfl⟩
              rw [hw] at hn hj
              simp only [numsR] at hn
              split at hn
              · cases hn
              · rename_i c1
                split at hn
                · cases hn
                · rename_i c2
                  split at hn
                  · cases hn
                  · rename_i c3
                    split at hn
                    · cases hn
                    · rename_i c4
                      obtain ⟨k1, e1, l1, d1⟩ := numB_255 c1
                      obtain ⟨k2, e2, l2, d2⟩ := numB_255 c2
                      obtain ⟨k3, e3, l3, d3⟩ := numB_255 c3
                      obtain ⟨k4, e4, l4, d4⟩ := numB_255 c4
                      have hs := Option.some.inj hn
                      rw [e1, e2, e3, e4, Int.toNat_natCast, Int.toNat_natCast, Int.toNat_natCast, Int.toNat_natCast] at hs
                      have o1 : octN a 24 = k1 := by unfold octN; simp only [Nat.reducePow]; omega
                      have o2 : octN a 16 = k2 := by unfold octN; simp only [Nat.reducePow]; omega
                      have o3 : octN a 8 = k3 := by unfold octN; simp only [Nat.reducePow]; omega
                      have o4 : octN a 0 = k4 := by unfold octN; simp only [Nat.reducePow]; omega
                      unfold addrT
                      rw [o1, o2, o3, o4, d1, d2, d3, d4, hj]
            have hcb := cut_back 47 l
            cases hq : (Lib.cut l [47]).2.2 with
            | true =>
              have hw := hcb.1 hq
              have hbe : bitsR l = numB 32 (Lib.cut l [47]).2.1 := by unfold bitsR; rw [if_pos hq]
              rw [hbe] at hb hbr ⊢
              obtain ⟨hc, _⟩ := numB_canon (most := 32) (l := (Lib.cut l [47]).2.1) (by omega)
              by_cases c32 : numB 32 (Lib.cut l [47]).2.1 < 32
              · left
                unfold netT
                rw [if_pos c32, hc, ha, hw]
              · right
                have e32 : numB 32 (Lib.cut l [47]).2.1 = 32 := by omega
                unfold netT
                rw [if_neg c32, ha]
                rw [e32] at hc
                have : (Lib.cut l [47]).2.1 = [51, 50] := by rw [← hc]; unfold decS; simp [Lib.decDigits]
                rw [this] at hw
                exact hw
            | false =>
              obtain ⟨hw, _⟩ := hcb.2 hq
              left
              have hbe : bitsR l = 32 := by unfold bitsR; rw [if_neg (by rw [hq]; decide)]
              unfold netT
              rw [hbe, if_neg (by decide), ha, hw]
theorem netT_len (a : Nat) (b : Int) (_ : b ≤ 32) : (netT a b).length ≤ 60 := by
  have hd : ∀ n, n < 1000 → (decS n).length ≤ 4 := fun n hn => (dec_len 3 n (by omega)).2
  have ho : ∀ k, (decS (octN a k)).length ≤ 4 := fun k => hd _ (by have := octN_lt a k; omega)
  have h1 := ho 24
  have h2 := ho 16
  have h3 := ho 8
  have h4 := ho 0
  have ha : (addrT a).length ≤ 19 := by
    unfold addrT
    rw [join_four]
    simp only [List.length_append, List.length_cons]
    omega
  unfold netT
  split
  · have := hd b.toNat (by omega)
    rw [List.length_append, List.length_cons]
    omega
  · omega
end Go.Proofs.YtchoenfclfafiaaDoor
