/- OctetFinds: what Find computes, plainly, and the walk of the law. -/
import Derived.Test.YteinbjopclblaaaOctC
namespace Go.Proofs.Yteinbjopclblaaa
open Go.RowKit

theorem index_cases (t : List UInt8) : ∀ s : List UInt8, (Lib.index s t = -1 ∧ ∀ j, j ≤ s.length → Lib.occAt s t j = false) ∨
    ∃ k : Nat, Lib.index s t = k ∧ k ≤ s.length ∧ Lib.occAt s t k = true ∧ ∀ j, j < k → Lib.occAt s t j = false
  | [] => by
    cases t with
    | nil => exact .inr ⟨0, rfl, Nat.le_refl _, rfl, fun j h => absurd h (by omega)⟩
    | cons a t => exact .inl ⟨rfl, fun j _ => by simp [Lib.occAt]⟩
  | b :: l => by
    unfold Lib.index
    by_cases h0 : t.isPrefixOf (b :: l) = true
    · rw [if_pos h0]
      exact .inr ⟨0, rfl, Nat.zero_le _, h0, fun j h => absurd h (by omega)⟩
    · have h0' : Lib.occAt (b :: l) t 0 = false := by unfold Lib.occAt; exact eq_false_of_ne_true h0
      rw [if_neg h0]
      rcases index_cases t l with ⟨h1, h2⟩ | ⟨k, h1, h2, h3, h4⟩
      · refine .inl ⟨by rw [h1]; rfl, fun j hj => ?_⟩
        cases j with
        | zero => exact h0'
        | succ j => exact h2 j (by simp at hj; omega)
      · refine .inr ⟨k + 1, ?_, by simp; omega, h3, fun j hj => ?_⟩
        · rw [h1, if_neg (by simp)]; omega
        · cases j with
          | zero => exact h0'
          | succ j => exact h4 j (by omega)

theorem occAt_drop (s t : List UInt8) (f j : Nat) : Lib.occAt (s.drop f) t j = Lib.occAt s t (f + j) := by
  unfold Lib.occAt; rw [List.drop_drop]

theorem findL_cases (s t : List UInt8) (n : Int) : (findL s t n = -1 ∧ ∀ j : Nat, max n 0 ≤ (j : Int) → j ≤ s.length → Lib.occAt s t j = false) ∨
    ∃ k : Nat, findL s t n = k ∧ max n 0 ≤ (k : Int) ∧ k ≤ s.length ∧ Lib.occAt s t k = true ∧ ∀ j : Nat, max n 0 ≤ (j : Int) → j < k → Lib.occAt s t j = false := by
  unfold findL
  have hf : 0 ≤ max n 0 := by omega
  generalize max n 0 = f at *
  obtain ⟨f, rfl⟩ := Int.eq_ofNat_of_zero_le hf
  rw [Int.toNat_natCast]
  by_cases h1 : (s.length : Int) < f
  · rw [if_pos h1]
    exact .inl ⟨rfl, fun j h2 h3 => absurd h2 (by omega)⟩
  · rw [if_neg h1]
    rcases index_cases t (s.drop f) with ⟨h2, h3⟩ | ⟨k, h2, h3, h4, h5⟩
    · rw [h2, if_neg (by omega)]
      refine .inl ⟨rfl, fun j h6 h7 => ?_⟩
      have := h3 (j - f) (by rw [List.length_drop]; omega)
      rw [occAt_drop, show f + (j - f) = j by omega] at this
      exact this
    · rw [h2, if_pos (by omega)]
      rw [List.length_drop] at h3
      refine .inr ⟨f + k, by omega, by omega, by omega, by rw [← occAt_drop]; exact h4, fun j h6 h7 => ?_⟩
      have := h5 (j - f) (by omega)
      rw [occAt_drop, show f + (j - f) = j by omega] at this
      exact this

/-- Found from where it was found: there again. -/
theorem findL_again (s t : List UInt8) (k : Nat) (hk : k ≤ s.length) (h : Lib.occAt s t k = true) : findL s t k = k := by
  rcases findL_cases s t k with ⟨_, h2⟩ | ⟨m, h1, h2, _, _, h5⟩
  · rw [h2 k (by omega) hk] at h; cases h
  · rw [h1]
    rcases Nat.lt_or_ge k m with h6 | h6
    · rw [h5 k (by omega) h6] at h; cases h
    · omega

theorem occAt_mid (u t s : List UInt8) : Lib.occAt (u ++ t ++ s) t u.length = true := by
  unfold Lib.occAt
  rw [List.append_assoc, List.drop_left]
  simp
theorem find_mid (u t s : List UInt8) : ∃ k : Nat, findL (u ++ t ++ s) t 0 = k ∧ k ≤ u.length := by
  rcases findL_cases (u ++ t ++ s) t 0 with ⟨_, h2⟩ | ⟨m, h1, h2, _, _, h5⟩
  · have := h2 u.length (by omega) (by simp)
    rw [occAt_mid] at this; cases this
  · refine ⟨m, h1, ?_⟩
    rcases Nat.lt_or_ge u.length m with h6 | h6
    · have := h5 u.length (by omega) h6
      rw [occAt_mid] at this; cases this
    · exact h6

def FindsRel (n : Int) (k : Nat) (i : Value) : Prop := ∃ j : Nat, max n 0 ≤ (j : Int) ∧ j ≤ k ∧ i = .int .i64 j

theorem finds_first : findL (ByteArray.mk #[97, 98, 97, 98]).data.toList (ByteArray.mk #[97, 98]).data.toList 1 = 2 := by decide

set_option maxRecDepth 100000 in
set_option maxHeartbeats 1600000 in
theorem octetFinds_any (s t u : ByteArray) (n : Int) (w : World) (hs : s.size ≤ 1048576) (ht : t.size ≤ 1048576) (hu : u.size ≤ 1048576)
    (hn : -9223372036854775808 ≤ n ∧ n ≤ 9223372036854775807) (hl : LibOk w) :
    Calls Try.prog 9 #[.string s, .string t, .string u, .int .i64 n] w fun e w' => e = .returned (.bool true) ∧ Below w.heap.size w w' := by
  have HL := Lib.hid hl
  clear hl
  obtain ⟨n0, n1⟩ := hn
  have hz : ∀ x : ByteArray, x.data.toList.length = x.size := fun x => by simp
  have HC : Hid ((u ++ t ++ s).data.toList = u.data.toList ++ t.data.toList ++ s.data.toList) := by unfold Hid; simp
  obtain ⟨k2, hk2, hk2u⟩ := find_mid u.data.toList t.data.toList s.data.toList
  rw [hz u] at hk2u
  have HK2 := Lib.hid hk2
  clear hk2
  rcases findL_cases s.data.toList t.data.toList n with ⟨h1, _⟩ | ⟨k, h1, h2, h3, h4, h5⟩
  · have HF := Lib.hid h1
    clear h1 hz
    go_enter Try.func9, Try.ntmps9
    go_wp2_with fail
    refine (Find_any _ _ _ _ (by decide) HL.out).mono ?_
    rintro e w1 ⟨rfl, rfl⟩
    rw [finds_first]
    go_wp2_with fail
    refine (Find_any _ _ _ _ (by omega) HL.out).mono ?_
    rintro e w1 ⟨rfl, rfl⟩
    rw [HF.out]
    go_wp2_with fail
    refine (Find_any _ _ _ _ (by rw [ByteArray.size_append, ByteArray.size_append]; omega) HL.out).mono ?_
    rintro e w1 ⟨rfl, rfl⟩
    rw [HC.out, HK2.out]
    go_wp2_with fail
    go_ret
    exact ⟨rfl, Below.refl _ _⟩
  · have HF := Lib.hid h1
    have HA := Lib.hid (findL_again _ _ k h3 h4)
    rw [hz s] at h3
    have hroom : k + t.size ≤ s.size := by
      rcases Lib.occAt_room h4 with h | h
      · rw [hz s, hz t] at h; exact h
      · have : t.size = 0 := by rw [← hz t, h]; rfl
        omega
    have h6 : ((s.extract k (k + t.size)).toList == t.toList) = true := by rw [← Lib.occ_of_piece s t k hroom]; exact h4
    have H5 : Hid (∀ j : Nat, max n 0 ≤ (j : Int) → j < k → j + t.size ≤ s.size → ((s.extract j (j + t.size)).toList == t.toList) = false) := fun j a b c => by
      rw [← Lib.occ_of_piece s t j c]; exact h5 j a b
    clear h1 hz h4 h5
    have h2a : n ≤ (k : Int) := by omega
    go_enter Try.func9, Try.ntmps9
    go_wp2_with fail
    refine (Find_any _ _ _ _ (by decide) HL.out).mono ?_
    rintro e w1 ⟨rfl, rfl⟩
    rw [finds_first]
    go_wp2_with fail
    refine (Find_any _ _ _ _ (by omega) HL.out).mono ?_
    rintro e w1 ⟨rfl, rfl⟩
    rw [HF.out]
    go_wp2_with fail
    refine (Find_any _ _ _ _ (by omega) HL.out).mono ?_
    rintro e w1 ⟨rfl, rfl⟩
    rw [HA.out]
    go_wp2_with fail
    go_loop [10] (fun i => FindsRel n k i) (fun i => k - (intOf i).toNat)
    case atStart => exact ⟨(max n 0).toNat, by omega, by omega, by congr 1; omega⟩
    case round =>
      obtain ⟨j, hj1, hj2, rfl⟩ := hrel
      by_cases hlt : j < k
      · have hr : j + t.size ≤ s.size := by omega
        have h7 := H5.out j hj1 hlt hr
        go_wp2_with fail
        exact ⟨⟨j + 1, by omega, by omega, by go_num⟩, by simp [intOf]; omega⟩
      · go_wp2_with fail
        refine (Find_any _ _ _ _ (by rw [ByteArray.size_append, ByteArray.size_append]; omega) HL.out).mono ?_
        rintro e w2 ⟨rfl, rfl⟩
        rw [HC.out, HK2.out]
        go_wp2_with fail
        go_ret
        exact ⟨rfl, Below.refl _ _⟩

end Go.Proofs.Yteinbjopclblaaa
