/- The walk of CleanPaths. -/
import Derived.Test.YtnhlkjalmcldpaaDoorPatW
namespace Go.Proofs.YtnhlkjalmcldpaaDoor
open Go.RowKit

theorem find_none (s t : List UInt8) (h : ∀ a b, s ≠ a ++ (t ++ b)) : findL s t 0 = -1 := by
  unfold findL
  rw [if_neg (by simp), show (max (0 : Int) 0).toNat = 0 from rfl, List.drop_zero]
  rcases Lib.index_spec s t with ⟨h1, _⟩ | ⟨i, h1, h2, h3, _⟩
  · rw [h1]; rfl
  · exfalso
    unfold Lib.occAt at h3
    rw [List.isPrefixOf_iff_prefix] at h3
    obtain ⟨b, hb⟩ := h3
    exact h (s.take i) b (by rw [hb, List.take_append_drop])
theorem find_mem (t : List UInt8) (h : findL t [47] 0 < 0) : (47 : UInt8) ∉ t := by
  intro hm
  obtain ⟨a, b, rfl⟩ := List.append_of_mem hm
  apply Int.not_le.2 h
  unfold findL
  rw [if_neg (by simp; omega), show (max (0 : Int) 0).toNat = 0 from rfl, List.drop_zero]
  rcases Lib.index_spec (a ++ 47 :: b) [47] with ⟨_, h1⟩ | ⟨i, h1, _, _, _⟩
  · have := h1 a.length (by simp)
    unfold Lib.occAt at this
    rw [List.drop_left] at this
    simp [List.isPrefixOf] at this
  · rw [h1, if_pos (by omega)]; omega
theorem find_ge (t u : List UInt8) : -1 ≤ findL t u 0 := by
  unfold findL
  (repeat' split) <;> omega
theorem find_le (t u : List UInt8) : findL t u 0 ≤ t.length := by
  unfold findL
  have := Lib.index_le (t.drop (max (0 : Int) 0).toNat) u
  rw [List.length_drop] at this
  (repeat' split) <;> omega
theorem path_root (s : List UInt8) : ∃ r, pathL (47 :: s) = 47 :: r := ⟨_, rfl⟩

set_option maxRecDepth 100000 in
set_option maxHeartbeats 1600000 in
theorem cleanPaths_any (s t : ByteArray) (w : World) (hs : s.size ≤ 1048576) (ht : t.size ≤ 1048576) (hlib : LibOk w) :
    Calls Tryd.prog 5 #[.string s, .string t] w fun e w' => e = .returned (.bool true) ∧ Below w.heap.size w w' := by
  have HPA : Hid (∀ (x : ByteArray) W, Below w.heap.size w W → x.size ≤ 4194304 → Calls Tryd.prog 18 #[.string x] W fun e w' => e = .returned (.string (bs (pathL x.data.toList))) ∧ Below W.heap.size W w') := fun x W hb hx => Path_any x W (hlib.below hb) hx
  have HFI : Hid (∀ (x u : ByteArray) W, Below w.heap.size w W → x.size ≤ 4194304 → Calls Tryd.prog 19 #[.string x, .string u, .int .i64 0] W fun e w' => e = .returned (.int .i64 (findL x.data.toList u.data.toList 0)) ∧ w' = W) := fun x u W hb hx => Find_any x u 0 W (by omega) (hlib.below hb)
  have k1 : pathL [47, 97, 47, 46, 47, 98, 47, 46, 46, 47, 99] = [47, 97, 47, 99] := by decide
  have k2 : pathL [97, 47, 46, 46, 47, 46, 46, 47, 98] = [46, 46, 47, 98] := by decide
  have HC1 : Hid (∀ W, Below w.heap.size w W → Calls Tryd.prog 18 #[.string (ByteArray.mk #[47, 97, 47, 46, 47, 98, 47, 46, 46, 47, 99])] W fun e w' => e = .returned (.string (ByteArray.mk #[47, 97, 47, 99])) ∧ Below W.heap.size W w') := fun W hb => by
    have := HPA.out (ByteArray.mk #[47, 97, 47, 46, 47, 98, 47, 46, 46, 47, 99]) W hb (by decide)
    rw [show (ByteArray.mk #[47, 97, 47, 46, 47, 98, 47, 46, 46, 47, 99]).data.toList = [47, 97, 47, 46, 47, 98, 47, 46, 46, 47, 99] from rfl, k1] at this
    exact this
  have HC2 : Hid (∀ W, Below w.heap.size w W → Calls Tryd.prog 18 #[.string (ByteArray.mk #[97, 47, 46, 46, 47, 46, 46, 47, 98])] W fun e w' => e = .returned (.string (ByteArray.mk #[46, 46, 47, 98])) ∧ Below W.heap.size W w') := fun W hb => by
    have := HPA.out (ByteArray.mk #[97, 47, 46, 46, 47, 46, 46, 47, 98]) W hb (by decide)
    rw [show (ByteArray.mk #[97, 47, 46, 46, 47, 46, 46, 47, 98]).data.toList = [97, 47, 46, 46, 47, 46, 46, 47, 98] from rfl, k2] at this
    exact this
  have hag := path_again s.data.toList
  have hlen1 := path_len s.data.toList
  have hlen2 := path_len (47 :: s.data.toList)
  have hroot := path_root s.data.toList
  have hin := root_inner s.data.toList
  have hbk := path_back t.data.toList s.data.toList
  rw [List.length_cons] at hlen2
  rw [show s.data.toList.length = s.size by simp] at hlen1 hlen2
  have n1 : findL (pathL (47 :: s.data.toList)) [47, 46, 46, 47] 0 = -1 := find_none _ _ fun a b => hin [46, 46] (.inr (.inr rfl)) a b
  have n2 : findL (pathL (47 :: s.data.toList)) [47, 47] 0 = -1 := find_none _ _ fun a b => hin [] (.inl rfl) a b
  have n3 : findL (pathL (47 :: s.data.toList)) [47, 46, 47] 0 = -1 := find_none _ _ fun a b => hin [46] (.inr (.inl rfl)) a b
  have HP1 : Hid (∀ W, Below w.heap.size w W → Calls Tryd.prog 18 #[.string s] W fun e w' => e = .returned (.string (bs (pathL s.data.toList))) ∧ Below W.heap.size W w') := fun W hb => HPA.out s W hb (by omega)
  have HP2 : Hid (∀ W, Below w.heap.size w W → Calls Tryd.prog 18 #[.string (bs (pathL s.data.toList))] W fun e w' => e = .returned (.string (bs (pathL s.data.toList))) ∧ Below W.heap.size W w') := fun W hb => by
    have := HPA.out (bs (pathL s.data.toList)) W hb (by rw [bs_size]; omega)
    rw [bs_toList, hag] at this
    exact this
  have HP3 : Hid (∀ W, Below w.heap.size w W → Calls Tryd.prog 18 #[.string (ByteArray.mk #[47] ++ s)] W fun e w' => e = .returned (.string (bs (pathL (47 :: s.data.toList)))) ∧ Below W.heap.size W w') := fun W hb => by
    have := HPA.out (ByteArray.mk #[47] ++ s) W hb (by rw [ByteArray.size_append]; show 1 + s.size ≤ _; omega)
    rw [show (ByteArray.mk #[47] ++ s).data.toList = 47 :: s.data.toList by simp] at this
    exact this
  have HP4 : Hid (Comp1 t.data.toList → t.data.toList ≠ upP → ∀ W, Below w.heap.size w W → Calls Tryd.prog 18 #[.string (ByteArray.mk #[47] ++ t ++ ByteArray.mk #[47, 46, 46, 47] ++ s)] W fun e w' => e = .returned (.string (bs (pathL (47 :: s.data.toList)))) ∧ Below W.heap.size W w') := fun h1 h2 W hb => by
    have := HPA.out (ByteArray.mk #[47] ++ t ++ ByteArray.mk #[47, 46, 46, 47] ++ s) W hb (by rw [ByteArray.size_append, ByteArray.size_append, ByteArray.size_append]; show 1 + t.size + 4 + s.size ≤ _; omega)
    rw [show (ByteArray.mk #[47] ++ t ++ ByteArray.mk #[47, 46, 46, 47] ++ s).data.toList = 47 :: (t.data.toList ++ 47 :: (46 :: 46 :: 47 :: s.data.toList)) by simp, hbk h1 h2] at this
    exact this
  have HF : Hid (∀ u : ByteArray, u = ByteArray.mk #[47, 46, 46, 47] ∨ u = ByteArray.mk #[47, 47] ∨ u = ByteArray.mk #[47, 46, 47] → ∀ W, Below w.heap.size w W → Calls Tryd.prog 19 #[.string (bs (pathL (47 :: s.data.toList))), .string u, .int .i64 0] W fun e w' => e = .returned (.int .i64 (-1)) ∧ w' = W) := fun u hu W hb => by
    have := HFI.out (bs (pathL (47 :: s.data.toList))) u W hb (by rw [bs_size]; omega)
    rw [bs_toList] at this
    rcases hu with rfl | rfl | rfl
    · rw [show (ByteArray.mk #[47, 46, 46, 47]).data.toList = [47, 46, 46, 47] from rfl, n1] at this; exact this
    · rw [show (ByteArray.mk #[47, 47]).data.toList = [47, 47] from rfl, n2] at this; exact this
    · rw [show (ByteArray.mk #[47, 46, 47]).data.toList = [47, 46, 47] from rfl, n3] at this; exact this
  have HFT : Hid (∀ W, Below w.heap.size w W → Calls Tryd.prog 19 #[.string t, .string (ByteArray.mk #[47]), .int .i64 0] W fun e w' => e = .returned (.int .i64 (findL t.data.toList [47] 0)) ∧ w' = W) := fun W hb => HFI.out t _ W hb (by omega)
  have HNS := Lib.hid (find_mem t.data.toList)
  have f1 := find_ge t.data.toList [47]
  have f2 := find_le t.data.toList [47]
  rw [show t.data.toList.length = t.size by simp] at f2
  generalize findL t.data.toList [47] 0 = ft at *
  obtain ⟨rr, hrr⟩ := hroot
  have hr0 : (bs (pathL (47 :: s.data.toList))).toList.isEmpty = false := by rw [Lib.toList_data, bs_toList, hrr]; rfl
  have hr1 : (bs (pathL (47 :: s.data.toList))).data.toList[0]? = some 47 := by rw [bs_toList, hrr]; rfl
  have hr2 : 0 < (bs (pathL (47 :: s.data.toList))).size := by rw [bs_size, hrr]; exact Nat.succ_pos _
  have hr3 : ((bs (pathL (47 :: s.data.toList)))[0].toNat : Int) = 47 := by
    have h0 : ∀ (x : ByteArray) (h : 0 < x.size) (b : UInt8), x.data.toList[0]? = some b → x[0] = b := fun x h b e => by
      obtain ⟨h1, h2⟩ := List.getElem?_eq_some_iff.1 e
      rw [← h2]; rfl
    rw [h0 _ hr2 47 hr1]; rfl
  generalize bs (pathL (47 :: s.data.toList)) = R at *
  generalize bs (pathL s.data.toList) = P at *
  have hq : (P.toList == P.toList) = true := beq_self_eq_true _
  have hq2 : (R.toList == R.toList) = true := beq_self_eq_true _
  clear hag hlen1 hlen2 hin hbk n1 n2 n3 hrr hlib HPA HFI k1 k2
  go_enter Tryd.func5, Tryd.ntmps5
  go_wp2_with fail
  refine (HC1.out _ (Below.refl _ _)).mono ?_
  rintro e w1 ⟨rfl, hb1⟩
  go_wp2_with fail
  refine (HC2.out _ hb1).mono ?_
  rintro e w2 ⟨rfl, hb2⟩
  have hbw2 := hb1.trans (hb2.mono hb1.size)
  clear hb1 hb2
  go_wp2_with fail
  refine (HP1.out _ hbw2).mono ?_
  rintro e w3 ⟨rfl, hb3⟩
  have hbw3 := hbw2.trans (hb3.mono hbw2.size)
  clear hb3 hbw2
  go_wp2_with fail
  refine (HP2.out _ hbw3).mono ?_
  rintro e w4 ⟨rfl, hb4⟩
  have hbw4 := hbw3.trans (hb4.mono hbw3.size)
  clear hb4 hbw3
  go_wp2_with fail
  refine (HP3.out _ hbw4).mono ?_
  rintro e w5 ⟨rfl, hb5⟩
  have hbw5 := hbw4.trans (hb5.mono hbw4.size)
  clear hb5 hbw4
  go_wp2_with fail
  refine (HF.out _ (.inl rfl) _ hbw5).mono ?_
  rintro e w6 ⟨rfl, rfl⟩
  go_wp2_with fail
  refine (HF.out _ (.inr (.inl rfl)) _ hbw5).mono ?_
  rintro e w7 ⟨rfl, rfl⟩
  go_wp2_with fail
  refine (HF.out _ (.inr (.inr rfl)) _ hbw5).mono ?_
  rintro e w8 ⟨rfl, rfl⟩
  by_cases t0 : t.data.toList = []
  · have q0 : t.toList.isEmpty = true := by rw [Lib.toList_data, t0]; rfl
    clear t0
    go_wp2_with fail
    go_ret
    exact ⟨rfl, hbw5⟩
  · have q0 : t.toList.isEmpty = false := by rw [Lib.toList_data]; cases h : t.data.toList with | nil => exact absurd h t0 | cons _ _ => rfl
    by_cases t1 : t.data.toList = [46]
    · have q1 : (t.toList == [46]) = true := by rw [Lib.toList_data, t1]; rfl
      clear t0 t1
      go_wp2_with fail
      go_ret
      exact ⟨rfl, hbw5⟩
    · have q1 : (t.toList == [46]) = false := by rw [Lib.toList_data, beq_eq_false_iff_ne]; exact t1
      by_cases t2 : t.data.toList = upP
      · have q2 : (t.toList == [46, 46]) = true := by rw [Lib.toList_data, t2]; rfl
        clear t0 t1 t2
        go_wp2_with fail
        go_ret
        exact ⟨rfl, hbw5⟩
      · have q2 : (t.toList == [46, 46]) = false := by rw [Lib.toList_data, beq_eq_false_iff_ne]; exact t2
        have HT := Lib.hid (And.intro t0 (And.intro t1 t2))
        clear t0 t1 t2
        go_wp2_with fail
        refine (HFT.out _ hbw5).mono ?_
        rintro e w9 ⟨rfl, rfl⟩
        by_cases hf : ft < 0
        · have HP5 := Lib.hid (HP4.out ⟨HT.out.1, HT.out.2.1, HNS.out hf⟩ HT.out.2.2 _ hbw5)
          go_wp2_with fail
          refine HP5.out.mono ?_
          rintro e w10 ⟨rfl, hb10⟩
          have hbw10 := hbw5.trans (hb10.mono hbw5.size)
          clear hb10 hbw5
          go_wp2_with fail
          go_ret
          exact ⟨rfl, hbw10⟩
        · go_wp2_with fail
          go_ret
          exact ⟨rfl, hbw5⟩
end Go.Proofs.YtnhlkjalmcldpaaDoor
