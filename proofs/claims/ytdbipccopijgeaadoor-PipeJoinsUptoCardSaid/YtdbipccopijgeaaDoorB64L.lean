/- Plain laws of Base64 and of the other codings' backs. -/
import Derived.Test.YtdbipccopijgeaaDoorJoins
namespace Go.Proofs.YtdbipccopijgeaaDoor
open Go.RowKit

def b64T : List UInt8 := [65,66,67,68,69,70,71,72,73,74,75,76,77,78,79,80,81,82,83,84,85,86,87,88,89,90,97,98,99,100,101,102,103,104,105,106,107,108,109,110,111,112,113,114,115,116,117,118,119,120,121,122,48,49,50,51,52,53,54,55,56,57,43,47]
def sgn (n : Nat) : UInt8 := (b64T[n]?).getD 0
def idx (b : UInt8) : Int := Lib.indexByte b64T b

theorem idx_all (b : UInt8) : -1 ≤ idx b ∧ idx b < 64 ∧ (0 ≤ idx b → sgn (idx b).toNat = b ∧ b ≠ 61) :=
  of_decide_eq_true (all_bytes (p := fun b => decide (-1 ≤ idx b ∧ idx b < 64 ∧ (0 ≤ idx b → sgn (idx b).toNat = b ∧ b ≠ 61))) (by decide +kernel) b)
theorem sgn_all : ((List.range 64).all fun k => decide (idx (sgn k) = k ∧ sgn k ≠ 61 ∧ 33 ≤ (sgn k).toNat ∧ (sgn k).toNat ≤ 126)) = true := by decide +kernel
theorem sgn_of (k : Nat) (h : k < 64) : idx (sgn k) = k ∧ sgn k ≠ 61 ∧ 33 ≤ (sgn k).toNat ∧ (sgn k).toNat ≤ 126 :=
  of_decide_eq_true (List.all_eq_true.1 sgn_all k (List.mem_range.2 h))
theorem idx_sgn (b : UInt8) (h : ¬ idx b < 0) : ∃ k, k < 64 ∧ b = sgn k := by
  have h1 := idx_all b
  exact ⟨(idx b).toNat, by omega, (h1.2.2 (by omega)).1.symm⟩

def grp (n : Nat) : List UInt8 := [sgn (n / 262144 % 64), sgn (n / 4096 % 64), sgn (n / 64 % 64), sgn (n % 64)]
def b64N (a b c : Nat) : Nat := a * 65536 + b * 256 + c
def b64E : List UInt8 → List UInt8
  | [] => []
  | [a] => (grp (b64N a.toNat 0 0)).take 2 ++ [61, 61]
  | [a, b] => (grp (b64N a.toNat b.toNat 0)).take 3 ++ [61]
  | a :: b :: c :: r => grp (b64N a.toNat b.toNat c.toNat) ++ b64E r

def decGo (n bits : Nat) : List UInt8 → Option (List UInt8)
  | [] => if n ≠ 0 ∨ bits = 6 then none else some []
  | x :: r => if idx x < 0 then none else
    if bits = 0 then decGo (n * 64 + (idx x).toNat) 6 r
    else (decGo ((n * 64 + (idx x).toNat) % 2 ^ (bits - 2)) (bits - 2) r).map (UInt8.ofNat ((n * 64 + (idx x).toNat) / 2 ^ (bits - 2)) :: ·)

theorem dec_bad (n bits : Nat) (x : UInt8) (r : List UInt8) (h : idx x < 0) : decGo n bits (x :: r) = none := by rw [decGo, if_pos h]
theorem dec_0 (n : Nat) (x : UInt8) (r : List UInt8) (h : ¬ idx x < 0) : decGo n 0 (x :: r) = decGo (n * 64 + (idx x).toNat) 6 r := by
  rw [decGo, if_neg h, if_pos rfl]
theorem dec_6 (n : Nat) (x : UInt8) (r : List UInt8) (h : ¬ idx x < 0) : decGo n 6 (x :: r) = (decGo ((n * 64 + (idx x).toNat) % 16) 4 r).map (UInt8.ofNat ((n * 64 + (idx x).toNat) / 16) :: ·) := by
  rw [decGo, if_neg h, if_neg (by omega)]
theorem dec_4 (n : Nat) (x : UInt8) (r : List UInt8) (h : ¬ idx x < 0) : decGo n 4 (x :: r) = (decGo ((n * 64 + (idx x).toNat) % 4) 2 r).map (UInt8.ofNat ((n * 64 + (idx x).toNat) / 4) :: ·) := by
  rw [decGo, if_neg h, if_neg (by omega)]
theorem dec_2 (n : Nat) (x : UInt8) (r : List UInt8) (h : ¬ idx x < 0) : decGo n 2 (x :: r) = (decGo 0 0 r).map (UInt8.ofNat (n * 64 + (idx x).toNat) :: ·) := by
  rw [decGo, if_neg h, if_neg (by omega)]
  simp [Nat.mod_one]

theorem sgn_nn {k : Nat} (h : k < 64) : ¬ idx (sgn k) < 0 := by have := (sgn_of k h).1; omega
theorem sgn_nat {k : Nat} (h : k < 64) : (idx (sgn k)).toNat = k := by have := (sgn_of k h).1; omega

theorem dec_four (k0 k1 k2 k3 : Nat) (r : List UInt8) (h0 : k0 < 64) (h1 : k1 < 64) (h2 : k2 < 64) (h3 : k3 < 64) :
    decGo 0 0 (sgn k0 :: sgn k1 :: sgn k2 :: sgn k3 :: r) = (decGo 0 0 r).map (fun l => UInt8.ofNat ((k0 * 64 + k1) / 16) :: UInt8.ofNat (((k0 * 64 + k1) % 16 * 64 + k2) / 4) :: UInt8.ofNat (((k0 * 64 + k1) % 16 * 64 + k2) % 4 * 64 + k3) :: l) := by
  rw [dec_0 _ _ _ (sgn_nn h0), dec_6 _ _ _ (sgn_nn h1), dec_4 _ _ _ (sgn_nn h2), dec_2 _ _ _ (sgn_nn h3), sgn_nat h0, sgn_nat h1, sgn_nat h2, sgn_nat h3, Option.map_map, Option.map_map, Nat.zero_mul, Nat.zero_add]
  rfl
theorem dec_three (k0 k1 k2 : Nat) (h0 : k0 < 64) (h1 : k1 < 64) (h2 : k2 < 64) :
    decGo 0 0 [sgn k0, sgn k1, sgn k2] = if ((k0 * 64 + k1) % 16 * 64 + k2) % 4 ≠ 0 then none else some [UInt8.ofNat ((k0 * 64 + k1) / 16), UInt8.ofNat (((k0 * 64 + k1) % 16 * 64 + k2) / 4)] := by
  rw [dec_0 _ _ _ (sgn_nn h0), dec_6 _ _ _ (sgn_nn h1), dec_4 _ _ _ (sgn_nn h2), sgn_nat h0, sgn_nat h1, sgn_nat h2, decGo, Nat.zero_mul, Nat.zero_add]
  by_cases h : ((k0 * 64 + k1) % 16 * 64 + k2) % 4 = 0
  · rw [if_neg (by omega), if_neg (by omega)]; rfl
  · rw [if_pos (by omega), if_pos (by omega)]; rfl
theorem dec_two (k0 k1 : Nat) (h0 : k0 < 64) (h1 : k1 < 64) :
    decGo 0 0 [sgn k0, sgn k1] = if (k0 * 64 + k1) % 16 ≠ 0 then none else some [UInt8.ofNat ((k0 * 64 + k1) / 16)] := by
  rw [dec_0 _ _ _ (sgn_nn h0), dec_6 _ _ _ (sgn_nn h1), sgn_nat h0, sgn_nat h1, decGo, Nat.zero_mul, Nat.zero_add]
  by_cases h : (k0 * 64 + k1) % 16 = 0
  · rw [if_neg (by omega), if_neg (by omega)]; rfl
  · rw [if_pos (by omega), if_pos (by omega)]; rfl

theorem ofNat_is {b : UInt8} {n : Nat} (h : n = b.toNat) : UInt8.ofNat n = b := by subst h; simp
theorem grp_list (n : Nat) : grp n = [sgn (n / 262144 % 64), sgn (n / 4096 % 64), sgn (n / 64 % 64), sgn (n % 64)] := rfl
theorem dec_grp (a b c : UInt8) (r : List UInt8) : decGo 0 0 (grp (b64N a.toNat b.toNat c.toNat) ++ r) = (decGo 0 0 r).map (fun l => a :: b :: c :: l) := by
  have ha := a.toNat_lt
  have hb := b.toNat_lt
  have hc := c.toNat_lt
  show decGo 0 0 (_ :: _ :: _ :: _ :: r) = _
  rw [dec_four _ _ _ _ r (by omega) (by omega) (by omega) (by omega)]
  unfold b64N
  rw [ofNat_is (b := a) (by omega), ofNat_is (b := b) (by omega), ofNat_is (b := c) (by omega)]

/-- The body that is left without the filling signs. -/
def b64B : List UInt8 → List UInt8
  | [] => []
  | [a] => (grp (b64N a.toNat 0 0)).take 2
  | [a, b] => (grp (b64N a.toNat b.toNat 0)).take 3
  | a :: b :: c :: r => grp (b64N a.toNat b.toNat c.toNat) ++ b64B r
def b64F (n : Nat) : List UInt8 := if n % 3 = 1 then [61, 61] else if n % 3 = 2 then [61] else []

theorem three_ind {p : List UInt8 → Prop} (h0 : p []) (h1 : ∀ a, p [a]) (h2 : ∀ a b, p [a, b]) (h3 : ∀ a b c r, p r → p (a :: b :: c :: r)) : ∀ l, p l
  | [] => h0
  | [a] => h1 a
  | [a, b] => h2 a b
  | a :: b :: c :: r => h3 a b c r (three_ind h0 h1 h2 h3 r)
theorem four_ind {p : List UInt8 → Prop} (h0 : p []) (h1 : ∀ a, p [a]) (h2 : ∀ a b, p [a, b]) (h3 : ∀ a b c, p [a, b, c]) (h4 : ∀ a b c d r, p r → p (a :: b :: c :: d :: r)) : ∀ l, p l
  | [] => h0
  | [a] => h1 a
  | [a, b] => h2 a b
  | [a, b, c] => h3 a b c
  | a :: b :: c :: d :: r => h4 a b c d r (four_ind h0 h1 h2 h3 h4 r)

theorem b64F_step (n : Nat) : b64F (n + 3) = b64F n := by
  unfold b64F; simp only [show (n + 3) % 3 = n % 3 by omega]
theorem b64_split (l : List UInt8) : b64E l = b64B l ++ b64F l.length := by
  induction l using three_ind with
  | h0 => rfl
  | h1 a => rfl
  | h2 a b => rfl
  | h3 a b c r ih =>
    rw [b64E, b64B, ih, List.append_assoc]
    rw [show (a :: b :: c :: r).length = r.length + 3 from rfl, b64F_step]

theorem b64B_back (l : List UInt8) : decGo 0 0 (b64B l) = some l := by
  induction l using three_ind with
  | h0 => rfl
  | h1 a =>
    have ha := a.toNat_lt
    show decGo 0 0 [_, _] = _
    rw [dec_two _ _ (by omega) (by omega)]
    unfold b64N
    rw [if_neg (by omega), ofNat_is (b := a) (by omega)]
  | h2 a b =>
    have ha := a.toNat_lt
    have hb := b.toNat_lt
    show decGo 0 0 [_, _, _] = _
    rw [dec_three _ _ _ (by omega) (by omega) (by omega)]
    unfold b64N
    rw [if_neg (by omega), ofNat_is (b := a) (by omega), ofNat_is (b := b) (by omega)]
  | h3 a b c r ih => rw [b64B, dec_grp, ih]; rfl

theorem grp_mem (n : Nat) (x : UInt8) (h : x ∈ grp n) : x ≠ 61 ∧ 33 ≤ x.toNat ∧ x.toNat ≤ 126 := by
  simp only [grp, List.mem_cons, List.not_mem_nil, or_false] at h
  rcases h with rfl | rfl | rfl | rfl
  all_goals exact (sgn_of _ (by omega)).2
theorem b64B_mem (l : List UInt8) : ∀ x ∈ b64B l, x ≠ 61 ∧ 33 ≤ x.toNat ∧ x.toNat ≤ 126 := by
  induction l using three_ind with
  | h0 => intro x h; cases h
  | h1 a => intro x h; exact grp_mem _ x (List.mem_of_mem_take h)
  | h2 a b => intro x h; exact grp_mem _ x (List.mem_of_mem_take h)
  | h3 a b c r ih =>
    intro x h
    rw [b64B, List.mem_append] at h
    rcases h with h | h
    · exact grp_mem _ x h
    · exact ih x h
theorem b64E_mem (l : List UInt8) : ∀ x ∈ b64E l, 33 ≤ x.toNat ∧ x.toNat ≤ 126 := by
  intro x h
  rw [b64_split, List.mem_append] at h
  rcases h with h | h
  · exact (b64B_mem l x h).2
  · unfold b64F at h
    have : x = 61 := by
      split at h
      · simpa using h
      · split at h
        · simpa using h
        · cases h
    subst this; exact ⟨by decide, by decide⟩
theorem b64_len (l : List UInt8) : (b64E l).length % 4 = 0 ∧ (b64E l).length ≤ 4 * l.length := by
  induction l using three_ind with
  | h0 => exact ⟨rfl, Nat.le_refl _⟩
  | h1 a => simp [b64E, grp]
  | h2 a b => simp [b64E, grp]
  | h3 a b c r ih =>
    rw [b64E, List.length_append, show (grp (b64N a.toNat b.toNat c.toNat)).length = 4 from rfl, List.length_cons, List.length_cons, List.length_cons]
    omega

/-! The filling signs. -/
def trimE (l : List UInt8) : List UInt8 := Lib.trimSuffix l [61]
def b64D (l : List UInt8) : Option (List UInt8) := if l.length % 4 ≠ 0 then none else decGo 0 0 (trimE (trimE l))
theorem suff_of {l p : List UInt8} (h : Lib.hasSuffix l p = true) : p <:+ l := by
  exact List.isSuffixOf_iff_suffix.1 h
theorem trimE_snoc (l : List UInt8) : trimE (l ++ [61]) = l := by
  unfold trimE Lib.trimSuffix Lib.hasSuffix
  rw [if_pos (List.isSuffixOf_iff_suffix.2 (List.suffix_append _ _))]
  simp
theorem trimE_keep (l : List UInt8) (h : ∀ x ∈ l, x ≠ 61) : trimE l = l := by
  unfold trimE Lib.trimSuffix
  rw [if_neg]
  intro hs
  obtain ⟨t, ht⟩ := suff_of hs
  exact h 61 (by rw [← ht]; simp) rfl
theorem trimE_cases (l : List UInt8) : (trimE l = l ∧ ¬ [61] <:+ l) ∨ l = trimE l ++ [61] := by
  by_cases h : [61] <:+ l
  · obtain ⟨t, rfl⟩ := h
    right; rw [trimE_snoc]
  · left
    refine ⟨?_, h⟩
    unfold trimE Lib.trimSuffix
    rw [if_neg]
    intro hs
    exact h (suff_of hs)

theorem b64_back (l : List UInt8) : b64D (b64E l) = some l := by
  have hm := b64B_mem l
  unfold b64D
  rw [if_neg (by have := (b64_len l).1; omega), b64_split]
  have : trimE (trimE (b64B l ++ b64F l.length)) = b64B l := by
    unfold b64F
    split
    · rw [show b64B l ++ [61, 61] = (b64B l ++ [61]) ++ [61] by simp, trimE_snoc, trimE_snoc]
    · split
      · rw [trimE_snoc, trimE_keep _ (fun x h => (hm x h).1)]
      · rw [List.append_nil, trimE_keep _ (fun x h => (hm x h).1), trimE_keep _ (fun x h => (hm x h).1)]
  rw [this]; exact b64B_back l

theorem toNat_is {n : Nat} (h : n < 256) : (UInt8.ofNat n).toNat = n := by rw [UInt8.toNat_ofNat', Nat.mod_eq_of_lt h]

theorem cons_eq {a b : Nat} {l m : List UInt8} (h : a = b) (h2 : l = m) : sgn a :: l = sgn b :: m := by rw [h, h2]
theorem dec_one (l : List UInt8) : ∀ b, decGo 0 0 l = some b → b64B b = l ∧ (l.length % 4 = 0 → b.length % 3 = 0) ∧ (l.length % 4 = 3 → b.length % 3 = 2) ∧ (l.length % 4 = 2 → b.length % 3 = 1) := by
  induction l using four_ind with
  | h0 => intro b h; cases h; exact ⟨rfl, by simp, by simp, by simp⟩
  | h1 a =>
    intro b h
    by_cases ha : idx a < 0
    · rw [dec_bad _ _ _ _ ha] at h; cases h
    · rw [dec_0 _ _ _ ha, decGo, if_pos (.inr rfl)] at h; cases h
  | h2 a b =>
    intro r h
    by_cases ha : idx a < 0
    · rw [dec_bad _ _ _ _ ha] at h; cases h
    by_cases hb : idx b < 0
    · rw [dec_0 _ _ _ ha, dec_bad _ _ _ _ hb] at h; cases h
    obtain ⟨k0, h0, rfl⟩ := idx_sgn a ha
    obtain ⟨k1, h1, rfl⟩ := idx_sgn b hb
    rw [dec_two _ _ h0 h1] at h
    split at h
    · cases h
    rename_i hz
    cases h
    refine ⟨?_, by simp, by simp, by simp⟩
    show [_, _] = _
    rw [toNat_is (by omega)]
    unfold b64N
    exact cons_eq (by omega) (cons_eq (by omega) rfl)
  | h3 a b c =>
    intro r h
    by_cases ha : idx a < 0
    · rw [dec_bad _ _ _ _ ha] at h; cases h
    by_cases hb : idx b < 0
    · rw [dec_0 _ _ _ ha, dec_bad _ _ _ _ hb] at h; cases h
    by_cases hc : idx c < 0
    · rw [dec_0 _ _ _ ha, dec_6 _ _ _ hb, dec_bad _ _ _ _ hc] at h; cases h
    obtain ⟨k0, h0, rfl⟩ := idx_sgn a ha
    obtain ⟨k1, h1, rfl⟩ := idx_sgn b hb
    obtain ⟨k2, h2, rfl⟩ := idx_sgn c hc
    rw [dec_three _ _ _ h0 h1 h2] at h
    split at h
    · cases h
    rename_i hz
    cases h
    refine ⟨?_, by simp, by simp, by simp⟩
    show [_, _, _] = _
    rw [toNat_is (by omega), toNat_is (by omega)]
    unfold b64N
    exact cons_eq (by omega) (cons_eq (by omega) (cons_eq (by omega) rfl))
  | h4 a b c d r ih =>
    intro q h
    by_cases ha : idx a < 0
    · rw [dec_bad _ _ _ _ ha] at h; cases h
    by_cases hb : idx b < 0
    · rw [dec_0 _ _ _ ha, dec_bad _ _ _ _ hb] at h; cases h
    by_cases hc : idx c < 0
    · rw [dec_0 _ _ _ ha, dec_6 _ _ _ hb, dec_bad _ _ _ _ hc] at h; cases h
    by_cases hd : idx d < 0
    · rw [dec_0 _ _ _ ha, dec_6 _ _ _ hb, dec_4 _ _ _ hc, dec_bad _ _ _ _ hd] at h; cases h
    obtain ⟨k0, h0, rfl⟩ := idx_sgn a ha
    obtain ⟨k1, h1, rfl⟩ := idx_sgn b hb
    obtain ⟨k2, h2, rfl⟩ := idx_sgn c hc
    obtain ⟨k3, h3, rfl⟩ := idx_sgn d hd
    rw [dec_four _ _ _ _ _ h0 h1 h2 h3] at h
    obtain ⟨t, ht, rfl⟩ := Option.map_eq_some_iff.1 h
    obtain ⟨e1, e2, e3, e4⟩ := ih t ht
    simp only [List.length_cons]
    refine ⟨?_, by omega, by omega, by omega⟩
    rw [b64B, e1, toNat_is (by omega), toNat_is (by omega), toNat_is (by omega)]
    unfold b64N grp
    show _ :: _ :: _ :: _ :: r = _
    exact cons_eq (by omega) (cons_eq (by omega) (cons_eq (by omega) (cons_eq (by omega) rfl)))

theorem b64_one (l b : List UInt8) (h : b64D l = some b) : b64E b = l := by
  unfold b64D at h
  split at h
  · cases h
  rename_i hl
  obtain ⟨e1, e2, e3, e4⟩ := dec_one _ b h
  rw [b64_split, e1]
  unfold b64F
  have f1 := trimE_cases l
  have f2 := trimE_cases (trimE l)
  rcases f1 with ⟨f1, f11⟩ | f1
  · rcases f2 with ⟨f2, -⟩ | f2
    · rw [f2, f1] at e2 ⊢
      rw [if_neg (by omega), if_neg (by omega), List.append_nil]
    · exact absurd ⟨_, (f2.symm.trans f1)⟩ f11
  · have hlen : l.length = (trimE l).length + 1 := by have := congrArg List.length f1; simpa using this
    rcases f2 with ⟨f2, -⟩ | f2
    · rw [f2] at e3 ⊢
      rw [if_neg (by omega), if_pos (by omega)]; exact f1.symm
    · have hlen2 : (trimE l).length = (trimE (trimE l)).length + 1 := by have := congrArg List.length f2; simpa using this
      rw [if_pos (by omega)]
      rw [show trimE (trimE l) ++ [61, 61] = (trimE (trimE l) ++ [61]) ++ [61] by simp, ← f2]; exact f1.symm

/-! The other codings' backs. -/
theorem hexEnc_mem (l : List UInt8) : ∀ x ∈ hexEncL l, 33 ≤ x.toNat ∧ x.toNat ≤ 126 := by
  have h : ∀ b : UInt8, (hexB b).all (fun x => decide (33 ≤ x.toNat ∧ x.toNat ≤ 126)) = true := fun b => all_bytes (p := fun b => (hexB b).all (fun x => decide (33 ≤ x.toNat ∧ x.toNat ≤ 126))) (by decide +kernel) b
  intro x hx
  obtain ⟨b, -, hb⟩ := List.mem_flatMap.1 hx
  exact of_decide_eq_true (List.all_eq_true.1 (h b) x hb)
theorem urlEnc_mem (l : List UInt8) : ∀ x ∈ urlEncL l, 33 ≤ x.toNat ∧ x.toNat ≤ 126 := by
  have h : ∀ b : UInt8, (urlB b).all (fun x => decide (33 ≤ x.toNat ∧ x.toNat ≤ 126)) = true := fun b => all_bytes (p := fun b => (urlB b).all (fun x => decide (33 ≤ x.toNat ∧ x.toNat ≤ 126))) (by decide +kernel) b
  intro x hx
  obtain ⟨b, -, hb⟩ := List.mem_flatMap.1 hx
  exact of_decide_eq_true (List.all_eq_true.1 (h b) x hb)

end Go.Proofs.YtdbipccopijgeaaDoor
