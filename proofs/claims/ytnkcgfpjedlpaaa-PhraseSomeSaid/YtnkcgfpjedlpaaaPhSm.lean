/- PhraseSome walked. -/
import Derived.Test.YtnkcgfpjedlpaaaPhRd
import Derived.Test.YtnkcgfpjedlpaaaPhPs
namespace Go.Proofs.Ytnkcgfpjedlpaaa
open Go.RowKit

def abW : List ByteArray := [⟨#[97, 98]⟩]
theorem abW_code : codeW abW = 0 := by decide +kernel
theorem abW_few : (preL (lstS abW)).length < 400 := by decide +kernel
theorem abW_hits : decide (0 < (hitsTo (lstS abW) [120, 97, 98, 121] 4).length) = true := by decide +kernel
theorem stand_calls (s x : ByteArray) (B : Nat) (W : World) (hs : s.size < 4294967281) (hl : LibOk W) (hc : W.cell? ⟨B, 0, none⟩ = some (.string s)) :
    Calls Try.prog 12 #[.string x, .pointer (some ⟨B, 0, none⟩)] W (BoolPost (decide (0 ≤ findL s.data.toList x.data.toList 0)) W) := by
  have HF := Lib.hid (Find_any s x 0 W hs hl)
  generalize findL s.data.toList x.data.toList 0 = r at *
  go_enter Try.func12, Try.ntmps12
  go_wp2_with (go_at_call 13; refine HF.out.mono ?_; rintro e w1 ⟨rfl, rfl⟩)
  go_ret
  exact ⟨rfl, Below.refl _ _⟩
theorem OwnG.room {α : Type} {R : RowT α} {w : World} {base : Nat} {v : Value} {l : List α} (h : OwnG R w base v l) : (v = .slice none 0 0 ∧ l = []) ∨ ∃ g c, v = .slice (some ⟨g, 0, none⟩) l.length c ∧ l.length ≤ c := by
  rcases h.2 with ⟨h1, h2⟩ | ⟨g, cap, cur, h1, _, _, h3, _⟩
  · exact .inl ⟨h1, List.eq_nil_of_length_eq_zero h2⟩
  · exact .inr ⟨g, cap, h1, h3⟩
theorem app_list (s m : ByteArray) : (s ++ m).data.toList = s.data.toList ++ m.data.toList := by
  have h : (s ++ m).data = s.data ++ m.data := by simp
  rw [h, Array.toList_append]
set_option maxRecDepth 100000 in
set_option maxHeartbeats 3200000 in
theorem phraseSome_walk (A : Option Addr) (c n : Nat) (ws : List ByteArray) (s more : ByteArray) (w : World) (hn : ws.length = n) (h : Sl w w.heap.size 1 A n (ws.map Value.string)) (hlib : LibOk w) :
    Calls Try.prog 4 #[.slice A n c, .string s, .string more] w fun e w' => e = .returned (.bool true) ∧ Below w.heap.size w w' := by
  have HS := Lib.hid h
  have HL := Lib.hid hlib
  obtain ⟨W0, hW0⟩ : ∃ W0, w.alloc (.cells #[.string s] 9) = W0 := ⟨_, rfl⟩
  have HBX : Hid (∀ W, Below W0.heap.size W0 W → W.cell? ⟨w.heap.size, 0, none⟩ = some (.string s) ∧ Below w.heap.size w W) := Lib.hid fun W hW => by
    subst hW0
    exact ⟨new_cell hW 0, below_new hW (Nat.le_refl _)⟩
  have hz0 : W0.heap.size = w.heap.size + 1 := by rw [← hW0]; simp
  have HZ : Hid (∀ W, Below W0.heap.size W0 W → W0.heap.size ≤ W.heap.size) := fun W hW => hW.size
  have HTR : Hid (Calls Try.prog 6 #[.slice (some ⟨w.heap.size + 1, 0, none⟩) 1 1] (W0.alloc (.cells #[.string ⟨#[97, 98]⟩] 9)) fun e w' => Below (W0.alloc (.cells #[.string ⟨#[97, 98]⟩] 9)).heap.size (W0.alloc (.cells #[.string ⟨#[97, 98]⟩] 9)) w' ∧ ∃ g cap ns ss ms, e = .returned (.slice (some ⟨g, 0, none⟩) ms.length cap) ∧ TreeIs w' (W0.alloc (.cells #[.string ⟨#[97, 98]⟩] 9)).heap.size abW g cap ns ss ms) :=
    Lib.hid (tree_any _ 1 1 abW _ rfl (Sl.lit hz0 (by simp [hz0]) rfl rfl) abW_code abW_few)
  have HSO : Hid (∀ (w1 : World) (lo g cap : Nat) ns ss (ms : List NodeM), TreeIs w1 lo abW g cap ns ss ms → Calls Try.prog 10 #[.slice (some ⟨g, 0, none⟩) ms.length cap, .int .i64 1, .string ⟨#[120, 97, 98, 121]⟩] w1 fun e w' => e = .returned (.tuple #[.bool true, .int .i64 0]) ∧ Below w1.heap.size w1 w') :=
    Lib.hid fun w1 lo g cap ns ss ms hT => by
      have := Some_tree (good_of_code abW_code) ⟨#[120, 97, 98, 121]⟩ (by decide) hT
      rw [show decide (0 < (hitsTo (lstS abW) (⟨#[120, 97, 98, 121]⟩ : ByteArray).data.toList (⟨#[120, 97, 98, 121]⟩ : ByteArray).data.toList.length).length) = true from abW_hits] at this
      exact this
  have HW0 := Lib.hid hW0
  clear h hlib hW0
  go_enter Try.func4, Try.ntmps4
  go_upto_region 1 with fail
  rw [HW0.out]
  go_wp2_with (first | (go_at_call 6; refine HTR.out.mono ?_; rintro e w1 ⟨hb1, g0, cap0, ns0, ss0, ms0, rfl, hT0⟩) | (go_at_call 10; apply Hid.out))
  unfold Hid
  refine (HSO.out w1 _ g0 cap0 ns0 ss0 ms0 hT0).mono ?_
  rintro e w2 ⟨rfl, hb2⟩
  have hbw1 : Below W0.heap.size W0 w1 := below_new hb1 (Nat.le_refl _)
  have hbw2 : Below W0.heap.size W0 w2 := hbw1.trans (hb2.mono hbw1.size)
  clear hb2 hT0 hb1 HTR HSO hbw1
  go_wp2_with (go_at_call 8; apply Hid.out)
  unfold Hid
  refine (make_any A c n ws w2 hn ((HS.out.below (HBX.out _ hbw2).2).more (HBX.out _ hbw2).2.size)).mono ?_
  rintro e w4 ⟨hb4, ⟨r, hr, rfl, _⟩ | ⟨hG, g, cap, ns, ss, ms, rfl, hT⟩⟩
  · have hr2 : ((r : Int) == 0) = false := beq_eq_false_iff_ne.2 (by omega)
    have hb := (HBX.out _ (hbw2.trans (hb4.mono hbw2.size))).2
    go_wp2_with fail
    go_ret
    exact ⟨rfl, hb⟩
  · have hbw4 : Below W0.heap.size W0 w4 := hbw2.trans (hb4.mono hbw2.size)
    obtain ⟨hc4, hb⟩ := HBX.out _ hbw4
    have HT := Lib.hid hT
    have HG := Lib.hid hG
    clear hT hG hb4 hbw2
    by_cases h1 : 2000 < s.size
    · have d1 : decide ((2000 : Int) < (s.size : Int)) = true := by simp; omega
      go_wp2_with fail
      go_ret
      exact ⟨rfl, hb⟩
    · have d1 : decide ((2000 : Int) < (s.size : Int)) = false := by simp; omega
      by_cases h2 : 2000 < more.size
      · have d2 : decide ((2000 : Int) < (more.size : Int)) = true := by simp; omega
        go_wp2_with fail
        go_ret
        exact ⟨rfl, hb⟩
      · have d2 : decide ((2000 : Int) < (more.size : Int)) = false := by simp; omega
        have hsum : s.size + more.size ≤ 9223372036854775807 := by omega
        have HST := Lib.hid (stands_iff HG.out s.data.toList)
        have HMORE := Lib.hid (hits_more (lstS ws) s.data.toList more.data.toList)
        have hsm : (s ++ more).size ≤ 8192 := by rw [ByteArray.size_append]; omega
        have HX1 : Hid (∀ W, Below w4.heap.size w4 W → Calls Try.prog 10 #[.slice (some ⟨g, 0, none⟩) ms.length cap, .int .i64 (n : Int), .string s] W fun e w' => e = .returned (.tuple #[.bool (decide (0 < (hitsTo (lstS ws) s.data.toList s.data.toList.length).length)), .int .i64 0]) ∧ Below W.heap.size W w') := Lib.hid fun W hW => by
          rw [← hn]; exact Some_tree HG.out s (by omega) (HT.out.below hW)
        have HX2 : Hid (∀ W, Below w4.heap.size w4 W → Calls Try.prog 10 #[.slice (some ⟨g, 0, none⟩) ms.length cap, .int .i64 (n : Int), .string (s ++ more)] W fun e w' => e = .returned (.tuple #[.bool (decide (0 < (hitsTo (lstS ws) (s.data.toList ++ more.data.toList) (s.data.toList ++ more.data.toList).length).length)), .int .i64 0]) ∧ Below W.heap.size W w') := Lib.hid fun W hW => by
          rw [← hn, ← app_list]; exact Some_tree HG.out (s ++ more) hsm (HT.out.below hW)
        have HY1 : Hid (∀ W, Below w4.heap.size w4 W → Calls Try.prog 5 #[.slice (some ⟨g, 0, none⟩) ms.length cap, .int .i64 (n : Int), .string s] W (HitsOut (lstS ws) s.data.toList W)) := Lib.hid fun W hW => by
          rw [← hn]; exact Hits_tree HG.out s (by omega) (HT.out.below hW)
        have HY2 : Hid (∀ W, Below w4.heap.size w4 W → Calls Try.prog 5 #[.slice (some ⟨g, 0, none⟩) ms.length cap, .int .i64 (n : Int), .string (s ++ more)] W (HitsOut (lstS ws) (s.data.toList ++ more.data.toList) W)) := Lib.hid fun W hW => by
          rw [← hn, ← app_list]; exact Hits_tree HG.out (s ++ more) hsm (HT.out.below hW)
        have HCF : Hid (∀ W, Below w4.heap.size w4 W → Calls Try.prog 11 #[.slice A n c, .func (.func 12) #[] #[.pointer (some ⟨w.heap.size, 0, none⟩)]] W (BoolPost (decide (0 < (hitsTo (lstS ws) s.data.toList s.data.toList.length).length)) W)) := Lib.hid fun W hW => by
          have hbW := hbw4.trans (hW.mono hbw4.size)
          have hx := HBX.out W hbW
          have := ContFS_any 12 #[.pointer (some ⟨w.heap.size, 0, none⟩)] (enters_of Try.func12 (by kernel_rfl) rfl) A n c (ws.map Value.string) (fun j => .string (ws.getD j ByteArray.empty)) (fun k => decide (0 ≤ findL s.data.toList ((lstS ws).getD k []) 0)) W ((HS.out.below hx.2).more hx.2.size) (by have := HG.out.few; omega)
            (fun j hj => by rw [List.getElem?_map, List.getD_eq_getElem?_getD, List.getElem?_eq_getElem (by omega)]; rfl)
            (fun W' j hj hb' => by
              have hx' := HBX.out W' (hbW.trans (hb'.mono hbW.size))
              have := stand_calls s (ws.getD j ByteArray.empty) w.heap.size W' (by omega) (HL.out.below hx'.2) hx'.1
              rw [lst_getD (by omega)]
              rw [List.getD_eq_getElem?_getD, List.getElem?_eq_getElem (by omega)] at this ⊢
              exact this)
          rw [← hn, HST.out] at this
          rw [hn] at this
          exact this
        have HI : Hid (decide (0 < (hitsTo (lstS ws) s.data.toList s.data.toList.length).length) = true → decide (0 < (hitsTo (lstS ws) (s.data.toList ++ more.data.toList) (s.data.toList ++ more.data.toList).length).length) = true) := Lib.hid fun e => by
          have := HMORE.out.length_le
          simp only [decide_eq_true_eq] at e ⊢
          omega
        have hfew1 := hitsTo_few (lstS ws) s.data.toList (by rw [lstS, List.length_map]; exact HG.out.few) s.data.toList.length
        have hfew2 : (hitsTo (lstS ws) s.data.toList s.data.toList.length).length ≤ 250000 := by simp at hfew1 ⊢; omega
        unfold HitsOut at HY1 HY2
        clear HST hfew1 hsm
        generalize decide (0 < (hitsTo (lstS ws) s.data.toList s.data.toList.length).length) = b1 at *
        generalize decide (0 < (hitsTo (lstS ws) (s.data.toList ++ more.data.toList) (s.data.toList ++ more.data.toList).length).length) = b2 at *
        generalize hitsTo (lstS ws) s.data.toList s.data.toList.length = H1 at *
        generalize hitsTo (lstS ws) (s.data.toList ++ more.data.toList) (s.data.toList ++ more.data.toList).length = H2 at *
        go_wp2_with (first
          | (go_at_call 10; (with_reducible refine (HX1.out _ (Below.refl _ _)).mono ?_); rintro e w5 ⟨rfl, hb5⟩; have hc5 := (HBX.out _ (hbw4.trans (hb5.mono hbw4.size))).1)
          | (go_at_call 11; (with_reducible refine (HCF.out _ hb5).mono ?_); rintro e w6 ⟨rfl, hb6'⟩; have hb6 := hb5.trans (hb6'.mono hb5.size); have hc6 := (HBX.out _ (hbw4.trans (hb6.mono hbw4.size))).1)
          | (go_at_call 10; (with_reducible refine (HX2.out _ hb6).mono ?_); rintro e w7 ⟨rfl, hb7'⟩; have hb7 := hb6.trans (hb7'.mono hb6.size); have hc7 := (HBX.out _ (hbw4.trans (hb7.mono hbw4.size))).1)
          | (go_at_call 5; (with_reducible refine (HY1.out _ hb7).mono ?_); rintro e w8 ⟨v8, rfl, hO8, hb8'⟩; have hb8 := hb7.trans (hb8'.mono hb7.size); have hc8 := (HBX.out _ (hbw4.trans (hb8.mono hbw4.size))).1)
          | (go_at_call 5; apply Hid.out))
        unfold Hid
        refine (HY2.out _ hb8).mono ?_
        rintro e w9 ⟨v9, rfl, hO9, hb9'⟩
        have hb9 := hb8.trans (hb9'.mono hb8.size)
        have hO8' := hO8.below hb9'
        obtain ⟨A8, c8, rfl, hs8⟩ := hO8'.form
        have hle := HMORE.out.length_le
        have hfin : ∀ q, Below w.heap.size w (w9.drewN q) := fun q => below_drewN_q (HBX.out _ (hbw4.trans (hb9.mono hbw4.size))).2 q
        have hsl9 := hO9.form
        rcases hO9.room with ⟨rfl, hnil⟩ | ⟨g9, c9, rfl, hcap⟩
        · subst hnil
          have hnil1 : H1 = [] := List.eq_nil_of_length_eq_zero (by simpa using hle)
          subst hnil1
          have HEQ := Lib.hid (hits_equal (c1 := c8) (c2 := 0) (B2 := 0) (A2 := none) (by simp) hs8 (Sl.nil _ _ _ _))
          clear HX1 HX2 HY1 HY2 HCF hO8 hO8' hO9 hs8 hsl9 hc4 hc5 hc6 hc7 hc8 hb5 hb6 hb7 hb8 hb9 hb6' hb7' hb8' hb9'
          rw [List.length_nil] at HEQ ⊢
          have HII := HI.out
          clear HI
          cases b1 <;> cases b2
          case true.false => exact absurd (HII rfl) (by decide)
          all_goals
            go_wp2_with (go_at_call 7; refine HEQ.out.mono ?_; rintro e w10 ⟨rfl, q10, rfl⟩)
            go_ret
            exact ⟨rfl, hfin _⟩
        · obtain ⟨A9, c9', e9, hs9⟩ := hsl9
          injection e9 with e10 _ e11
          subst e10; subst e11
          have HEQ := Lib.hid (hits_equal (c1 := c8) (c2 := c9) hfew2 hs8 (Sl.front hs9 HMORE.out))
          have k1 : (H1.length : Int) ≤ (H2.length : Int) := by omega
          have k2 : (H1.length : Int) ≤ (c9 : Int) := by omega
          have k3 : decide ((H1.length : Int) ≤ (H2.length : Int)) = true := by simp; omega
          clear HX1 HX2 HY1 HY2 HCF hO8 hO8' hO9 hs8 hs9 hc4 hc5 hc6 hc7 hc8 hb5 hb6 hb7 hb8 hb9 hb6' hb7' hb8' hb9'
          have HII := HI.out
          clear HI
          cases b1 <;> cases b2
          case true.false => exact absurd (HII rfl) (by decide)
          all_goals
            go_wp2_with (go_at_call 7; refine HEQ.out.mono ?_; rintro e w10 ⟨rfl, q10, rfl⟩)
            go_ret
            exact ⟨rfl, hfin _⟩
end Go.Proofs.Ytnkcgfpjedlpaaa
