/- The walk of FrameCuts. -/
import Derived.Test.YteinbjopclblaaaFrmK
namespace Go.Proofs.Yteinbjopclblaaa
open Go.RowKit

set_option maxRecDepth 100000 in
set_option maxHeartbeats 800000 in
theorem Rest_any (n m : Int) (w : World) (h0 : 0 < m) (h1 : m ≤ 4611686018427387904) :
    Calls Try.prog 27 #[.int .i64 n, .int .i64 m] w fun e w' => ∃ j : Nat, e = .returned (.int .i64 (j : Int)) ∧ (j : Int) < m ∧ w' = w := by
  have a1 : n.tmod m < m := Int.tmod_lt_of_pos n h0
  have a2 : -m < n.tmod m := by
    have := Int.neg_tmod n m
    have := Int.tmod_lt_of_pos (-n) h0
    omega
  have hm0 : ¬ m = 0 := by omega
  obtain ⟨r, hr⟩ : ∃ r, n.tmod m = r := ⟨_, rfl⟩
  rw [hr] at a1 a2
  by_cases c : r < 0
  · go_enter Try.func27, Try.ntmps27
    go_wp2_with fail
    go_ret
    exact ⟨(r + m).toNat, by rw [Int.toNat_of_nonneg (by omega)]; rfl, by omega, rfl⟩
  · go_enter Try.func27, Try.ntmps27
    go_wp2_with fail
    go_ret
    exact ⟨r.toNat, by rw [Int.toNat_of_nonneg (by omega)]; rfl, by omega, rfl⟩


theorem chunksR_ne : ∀ (f : Nat) (l : List UInt8) (room : Int) (e : Int), chunksR f l room = .inl e → e ≠ 0
  | 0, l, room, e, h => by unfold chunksR at h; cases h; decide
  | f + 1, l, room, e, h => by
    unfold chunksR at h
    split at h
    · rename_i h1; cases h; exact h1
    · split at h
      · cases h
      · cases hr : chunksR f (l.drop (chunkR l room).c) (room - (chunkR l room).n) with
        | inl e' => rw [hr] at h; cases h; exact chunksR_ne f _ _ _ hr
        | inr p => rw [hr] at h; cases h
theorem cuts_a : chunksL (ByteArray.mk #[49, 13, 10, 97]).data.toList 5 = .inl 7 := by decide

set_option maxRecDepth 100000 in
set_option maxHeartbeats 1600000 in
theorem frameCuts_any (s : ByteArray) (most atp : Int) (more : ByteArray) (w : World) (hs : s.size ≤ 140737488351232) (h01 : -9223372036854775808 ≤ most ∧ most ≤ 9223372036854775807) (_ : -9223372036854775808 ≤ atp ∧ atp ≤ 9223372036854775807) (hmo : more.size ≤ 140737488351232) :
    Calls Try.prog 6 #[.string s, .int .i64 most, .int .i64 atp, .string more] w fun e w' => e = .returned (.bool true) ∧ Below w.heap.size w w' := by
  have h1 := h01.2
  clear h01
  go_enter Try.func6, Try.ntmps6
  go_wp2_with fail
  refine (Chunks_any _ _ _ (by decide) (.inl (by decide)) (by decide)).mono ?_
  rintro e w1 ⟨rfl, hb1⟩
  rw [show max (5 : Int) 0 = 5 from rfl, cuts_a]
  simp only [toldV]
  go_wp2_with fail
  obtain ⟨o, ho⟩ : ∃ o, chunksL s.data.toList (max most 0) = o := ⟨_, rfl⟩
  have HO := Lib.hid ho
  refine (Chunks_any _ _ _ (by omega) (.inl (by omega)) h1).mono ?_
  rintro e w2 ⟨rfl, hb2⟩
  have g2 := hb1.trans (hb2.mono hb1.size)
  rw [HO.out]
  cases o with
  | inl e =>
    have qe : (e != 0) = true := bne_iff_ne.2 (chunksR_ne _ _ _ _ ho)
    clear ho
    simp only [toldV]
    go_wp2_with fail
    go_ret
    exact ⟨rfl, g2⟩
  | inr p =>
    obtain ⟨t, k⟩ := p
    obtain ⟨r1, r2, r3⟩ := chunksL_range _ _ _ _ ho
    rw [Array.length_toList] at r1
    have r1 : k ≤ s.size := r1
    have HM := Lib.hid (chunksL_more_text _ more.data.toList _ _ _ ho)
    have HW := Lib.hid (fun room' h => chunksL_wider _ _ room' _ _ ho h)
    have HC := Lib.hid (fun j h => chunksL_cut _ _ _ _ j ho h)
    have HA : Hid ((s ++ more).data.toList = s.data.toList ++ more.data.toList) := by unfold Hid; simp
    have z1 : (s ++ more).size ≤ 4611686018427387904 := by rw [ByteArray.size_append]; omega
    have e1 : s.size + more.size ≤ 9223372036854775807 := by omega
    have HTL : Hid (t.length ≤ 140737488355328) := by
      unfold Hid
      have := chunksL_text ho
      rw [Array.length_toList] at this
      have : t.length ≤ s.size := this
      omega
    clear ho
    simp only [toldV]
    go_wp2_with fail
    refine (Chunks_any _ _ _ z1 (.inr ⟨t, k, by rw [HA.out, HM.out], HTL.out⟩) h1).mono ?_
    rintro e w3 ⟨rfl, hb3⟩
    have g3 := g2.trans (hb3.mono g2.size)
    rw [HA.out, HM.out]
    simp only [toldV]
    go_wp2_with fail
    all_goals
      refine (Chunks_any _ _ _ (by omega) (.inl (by omega)) (by omega)).mono ?_
      rintro e w4 ⟨rfl, hb4⟩
      have g4 := g3.trans (hb4.mono g3.size)
      rw [HW.out _ (by omega)]
      simp only [toldV]
      go_wp2_with fail
      refine (Rest_any _ _ _ (by omega) (by omega)).mono ?_
      rintro e w5 ⟨j, rfl, hj, rfl⟩
      have i1 : 0 ≤ (j : Int) := by omega
      have i2 : (j : Int) ≤ (s.size : Int) := by omega
      have HT : Hid ((s.extract 0 j).data.toList = s.data.toList.take j) := by unfold Hid; rw [Lib.extract_data]; simp
      have HCJ := Lib.hid (HC.out j (by omega))
      have z2 : (s.extract 0 j).size ≤ 140737488355328 := by rw [ByteArray.size_extract]; omega
      go_wp2_with fail
      refine (Chunks_any _ _ _ (by omega) (.inl z2) h1).mono ?_
      rintro e w6 ⟨rfl, hb6⟩
      rw [HT.out, HCJ.out]
      simp only [toldV]
      go_wp2_with fail
      go_ret
      exact ⟨rfl, g4.trans (hb6.mono g4.size)⟩

end Go.Proofs.Yteinbjopclblaaa
