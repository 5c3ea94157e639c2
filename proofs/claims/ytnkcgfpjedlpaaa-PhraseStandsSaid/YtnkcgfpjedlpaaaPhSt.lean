/- PhraseStands: the hits are just the places where the words stand. -/
import Derived.Test.YtnkcgfpjedlpaaaPhRd
import Derived.Deep.CutRange
namespace Go.Proofs.Ytnkcgfpjedlpaaa
open Go.RowKit

def heShe : List ByteArray := [⟨#[104, 101]⟩, ⟨#[115, 104, 101]⟩]
theorem heShe_code : codeW heShe = 0 := by decide +kernel
theorem heShe_few : (preL (lstS heShe)).length < 400 := by decide +kernel
theorem heShe_hits : hitsTo (lstS heShe) [117, 115, 104, 101] 4 = [(0, 4), (1, 4)] := by decide +kernel
/-- The hits of the words so far, at one place. -/
def partH (ws : List (List UInt8)) (s : List UInt8) (j q : Nat) : List HitP := ((List.range q).filter fun k => decide (ws.getD k [] <:+ s.take (j + 1))).map fun k => (k, j + 1)
theorem partH_all (ws : List (List UInt8)) (s : List UInt8) (j : Nat) : partH ws s j ws.length = hitsAt ws s j := rfl
theorem partH_succ (ws : List (List UInt8)) (s : List UInt8) (j q : Nat) : partH ws s j (q + 1) = partH ws s j q ++ if ws.getD q [] <:+ s.take (j + 1) then [(q, j + 1)] else [] := by
  unfold partH
  rw [List.range_succ, List.filter_append, List.map_append]
  by_cases h : ws.getD q [] <:+ s.take (j + 1)
  · rw [if_pos h, List.filter_cons, if_pos (by simpa using h)]; rfl
  · rw [if_neg h, List.filter_cons, if_neg (by simpa using h)]; rfl
theorem partH_few (ws : List (List UInt8)) (s : List UInt8) (j q : Nat) : (partH ws s j q).length ≤ q := by
  unfold partH
  rw [List.length_map]
  exact Nat.le_trans (List.length_filter_le _ _) (by simp)
theorem suffix_cut {s w : ByteArray} {t : Nat} (ht : t ≤ s.size) (hw : w.size ≤ t) : (s.extract (t - w.size) t = w) ↔ w.data.toList <:+ s.data.toList.take t := by
  have hd : (s.extract (t - w.size) t).data.toList = (s.data.toList.take t).drop (t - w.size) := by
    rw [Lib.extract_data]
    simp [List.drop_take]
  have hl : (s.data.toList.take t).length = t := by rw [List.length_take]; simp; omega
  have hwl : w.data.toList.length = w.size := by simp
  constructor
  · intro e
    rw [← e, hd]
    exact List.drop_suffix _ _
  · intro h
    have h2 := List.suffix_iff_eq_drop.1 h
    rw [hl, hwl] at h2
    apply ByteArray.ext
    apply Array.toList_inj.1
    rw [hd, ← h2]
def RelS (ws : List ByteArray) (s : ByteArray) (w : World) (v10 v11 : Value) (wr : World) : Prop :=
  ∃ j : Nat, j ≤ s.size ∧ v11 = .int .i64 ((j : Int) + 1) ∧ OwnG rowH wr w.heap.size v10 (hitsTo (lstS ws) s.data.toList j) ∧ Below w.heap.size w wr
def RelQ (ws : List ByteArray) (s : ByteArray) (j : Nat) (w : World) (v10 v : Value) (wr : World) : Prop :=
  ∃ q : Nat, q ≤ ws.length ∧ v = .int .i64 (q : Int) ∧ OwnG rowH wr w.heap.size v10 (hitsTo (lstS ws) s.data.toList j ++ partH (lstS ws) s.data.toList j q) ∧ Below w.heap.size w wr
set_option maxRecDepth 100000 in
set_option maxHeartbeats 3200000 in
theorem phraseStands_walk (A : Option Addr) (c n : Nat) (ws : List ByteArray) (s : ByteArray) (w : World) (hn : ws.length = n) (h : Sl w w.heap.size 1 A n (ws.map Value.string)) (hs : s.size ≤ 140737488351232) :
    Calls Try.prog 3 #[.slice A n c, .string s] w fun e w' => e = .returned (.bool true) ∧ Below w.heap.size w w' := by
  have HS := Lib.hid h
  have HTR : Hid (Calls Try.prog 6 #[.slice (some ⟨w.heap.size, 0, none⟩) 2 2] (w.alloc (.cells #[.string ⟨#[104, 101]⟩, .string ⟨#[115, 104, 101]⟩] 9)) fun e w' => Below (w.alloc (.cells #[.string ⟨#[104, 101]⟩, .string ⟨#[115, 104, 101]⟩] 9)).heap.size (w.alloc (.cells #[.string ⟨#[104, 101]⟩, .string ⟨#[115, 104, 101]⟩] 9)) w' ∧ ∃ g cap ns ss ms, e = .returned (.slice (some ⟨g, 0, none⟩) ms.length cap) ∧ TreeIs w' (w.alloc (.cells #[.string ⟨#[104, 101]⟩, .string ⟨#[115, 104, 101]⟩] 9)).heap.size heShe g cap ns ss ms) :=
    Lib.hid (tree_any _ 2 2 heShe _ rfl (Sl.lit rfl (by simp) rfl rfl) heShe_code heShe_few)
  have HHI : Hid (∀ (w1 : World) (lo g cap : Nat) ns ss (ms : List NodeM), TreeIs w1 lo heShe g cap ns ss ms → Calls Try.prog 5 #[.slice (some ⟨g, 0, none⟩) ms.length cap, .int .i64 2, .string ⟨#[117, 115, 104, 101]⟩] w1 (HitsOut (lstS heShe) [117, 115, 104, 101] w1)) :=
    Lib.hid fun w1 lo g cap ns ss ms hT => Hits_tree (good_of_code heShe_code) ⟨#[117, 115, 104, 101]⟩ (by decide) hT
  clear h
  go_enter Try.func3, Try.ntmps3
  go_wp2_with (first | (go_at_call 6; refine HTR.out.mono ?_; rintro e w1 ⟨hb1, g0, cap0, ns0, ss0, ms0, rfl, hT0⟩) | (go_at_call 5; apply Hid.out))
  unfold Hid
  refine (HHI.out w1 _ g0 cap0 ns0 ss0 ms0 hT0).mono ?_
  rintro e w2 ⟨v2, rfl, hO2, hb2⟩
  have hO2' : OwnG rowH w2 w1.heap.size v2 [(0, 4), (1, 4)] := by rw [← heShe_hits]; exact hO2
  obtain ⟨A2, c2, rfl, hsl2⟩ := hO2'.form
  have HEQ : Hid (Calls Try.prog 7 #[.slice A2 2 c2, .slice (some ⟨w2.heap.size, 0, none⟩) 2 2] (w2.alloc (.cells #[.int .i64 0, .int .i64 4, .int .i64 1, .int .i64 4] 31)) fun e w' => e = .returned (.bool true) ∧ ∃ q, w' = (w2.alloc (.cells #[.int .i64 0, .int .i64 4, .int .i64 1, .int .i64 4] 31)).drewN q) :=
    Lib.hid (hits_equal (l := [(0, 4), (1, 4)]) (by decide) (hsl2.alloc (Nat.le_refl _) _) (Sl.lit (B := w2.heap.size + 1) rfl (Nat.lt_succ_self _) rfl rfl))
  have hbw2 : Below w.heap.size w w2 := (below_new hb1 (Nat.le_refl _)).trans (hb2.mono (below_new hb1 (Nat.le_refl _)).size)
  clear hO2 hO2' hsl2 hb2 hT0 hb1 HTR HHI
  go_wp2_with (first | (go_at_call 7; refine HEQ.out.mono ?_; rintro e w3 ⟨rfl, q3, rfl⟩) | (go_at_call 8; apply Hid.out))
  unfold Hid
  have hbw3 : Below w.heap.size w ((w2.alloc (.cells #[.int .i64 0, .int .i64 4, .int .i64 1, .int .i64 4] 31)).drewN q3) := by
    repeat (first | exact hbw2.alloc hbw2.size _ | apply below_drewN_q)
  generalize (w2.alloc (.cells #[.int .i64 0, .int .i64 4, .int .i64 1, .int .i64 4] 31)).drewN q3 = w3 at *
  refine (make_any A c n ws w3 hn ((HS.out.below hbw3).more hbw3.size)).mono ?_
  rintro e w4 ⟨hb4, ⟨r, hr, rfl, _⟩ | ⟨hG, g, cap, ns, ss, ms, rfl, hT⟩⟩
  · have hr2 : ((r : Int) == 0) = false := beq_eq_false_iff_ne.2 (by omega)
    go_wp2_with fail
    go_ret
    exact ⟨rfl, hbw3.trans (hb4.mono hbw3.size)⟩
  · have HT := Lib.hid hT
    have HG := Lib.hid hG
    have hbw4 := hbw3.trans (hb4.mono hbw3.size)
    clear hT hG hb4 hbw3 hbw2 HEQ
    go_upto_if 42 with fail
    go_cut [1] from 43 to 44 (fun s1 wx => ∃ s' : ByteArray, s1 = .string s' ∧ s'.size ≤ 300 ∧ wx = w4)
    case first =>
      by_cases h3 : 300 < s.size
      · have hex : (s.extract 0 300).size ≤ 300 := by rw [ByteArray.size_extract]; omega
        have d3 : decide ((300 : Int) < (s.size : Int)) = true := by simp; omega
        go_wp2_with fail
        go_meet
        exact ⟨_, rfl, hex, rfl⟩
      · have d3 : decide ((300 : Int) < (s.size : Int)) = false := by simp; omega
        go_wp2_with fail
        go_meet
        exact ⟨s, rfl, by omega, rfl⟩
    case rest =>
      obtain ⟨t, rfl, ht, rfl⟩ := hcut
      obtain ⟨w4, rfl⟩ : ∃ w4 : World, w4 = wc := ⟨_, rfl⟩
      clear hs
      have HHT := Lib.hid (Hits_tree HG.out t (by omega) HT.out)
      rw [hn] at HHT
      go_wp2_with (go_at_call 5; refine HHT.out.mono ?_; rintro e w5 ⟨v5, rfl, hO5, hb5⟩)
      have hbw5 := hbw4.trans (hb5.mono hbw4.size)
      have HT5 := Lib.hid (HT.out.below hb5)
      have HO5 := Lib.hid hO5
      clear hO5 HHT
      go_loopw [10, 11] (fun v10 v11 wr => RelS ws t w5 v10 v11 wr) (fun _ v11 _ => t.size + 1 - (intOf v11).toNat)
      case atStart => exact ⟨0, Nat.zero_le _, rfl, OwnG.nil _ _ _, Below.refl _ _⟩
      case round =>
        obtain ⟨j, hj, rfl, hOj, hbj⟩ := hrel
        have hform := hOj.form
        obtain ⟨A9, c9, rfl, _⟩ := hform
        have HOj := Lib.hid hOj
        have hfj := hitsTo_few (lstS ws) t.data.toList (by rw [lstS, List.length_map]; exact HG.out.few) j
        by_cases hjl : j < t.size
        · obtain ⟨wj, rfl⟩ : ∃ wj : World, wj = wr := ⟨_, rfl⟩
          have HBj := Lib.hid hbj
          have d9 : decide ((j : Int) + 1 ≤ (t.size : Int)) = true := by simp; omega
          clear hOj hbj
          go_wp2_with fail
          go_loopw [10, 61] (fun v10 v wr => RelQ ws t j w5 v10 v wr) (fun _ v _ => n - (intOf v).toNat)
          case atStart => exact ⟨0, Nat.zero_le _, rfl, by unfold partH; rw [List.range_zero, List.filter_nil, List.map_nil, List.append_nil]; exact HOj.out, HBj.out⟩
          case round =>
            obtain ⟨q, hq, rfl, hOq, hbq⟩ := hrel
            have hform := hOq.form
            obtain ⟨A8, c8, rfl, _⟩ := hform
            have hpf := partH_few (lstS ws) t.data.toList j q
            have h30 := HG.out.few
            by_cases hql : q < ws.length
            · obtain ⟨b, off, e, hbl, hcx⟩ := sl_word HS.out hql
              have hcw := ((hbw5.trans (hbq.mono hbw5.size)).cell (p := ⟨b, off + q, none⟩) hbl).trans hcx
              subst e
              have HSU := Lib.hid (partH_succ (lstS ws) t.data.toList j q)
              rw [lst_getD hql] at HSU
              have HOq := Lib.hid hOq
              have HBq := Lib.hid hbq
              have hzq := hbq.size
              have hxs := HG.out.short ws[q] (List.getElem_mem hql)
              have hcut := suffix_cut (s := t) (w := ws[q]) (t := j + 1) hjl
              have hX4 : (hitsTo (lstS ws) t.data.toList j ++ partH (lstS ws) t.data.toList j q).length ≤ 250000 := by rw [List.length_append]; have := HG.out.few; omega
              have HCUT := Lib.hid hcut
              clear hOq hbq hcx hpf hcut
              generalize ws[q] = x at hcw HSU hxs HCUT
              by_cases hxt : x.size ≤ j + 1
              · have i1 : IntKind.i64.wrap (((j : Int) + 1) - (x.size : Int)) = ((j + 1 - x.size : Nat) : Int) := by simp [IntKind.wrap, IntKind.bits, IntKind.signed]; omega
                have d1 : decide ((x.size : Int) ≤ (j : Int) + 1) = true := by simp; omega
                by_cases hex : t.extract (j + 1 - x.size) (j + 1) = x
                · rw [if_pos ((HCUT.out hxt).1 hex)] at HSU
                  have hbe : ((t.extract (j + 1 - x.size) (j + 1)).toList == x.toList) = true := by rw [hex]; exact beq_self_eq_true _
                  have HTK : Hid (hitsTo (lstS ws) t.data.toList j ++ partH (lstS ws) t.data.toList j (q + 1) = (hitsTo (lstS ws) t.data.toList j ++ partH (lstS ws) t.data.toList j q) ++ [(q, j + 1)]) := by
                    unfold Hid
                    rw [HSU.out, List.append_assoc]
                  clear HCUT hex HSU
                  generalize hitsTo (lstS ws) t.data.toList j ++ partH (lstS ws) t.data.toList j q = X at *
                  go_wp2_with (at_builtin; refine wpList_append_g rowH rfl _ _ rfl w5.heap.size _ X rfl HOq.out (by omega) _ (q, j + 1) rfl wr.heap.size rfl 1 rfl (by omega) ?_; intro v5' w6 hO6 hb6 hk6 hz6; obtain ⟨g7, c7, rfl, _, _⟩ := hO6.head (by simp))
                  have hO7 := hO6
                  rw [List.length_append, List.length_singleton] at hO7
                  exact ⟨⟨q + 1, by omega, rfl, by rw [HTK.out]; exact hO7, HBq.out.trans hb6⟩, by simp [intOf] <;> omega⟩
                · rw [if_neg (fun h2 => hex ((HCUT.out hxt).2 h2)), List.append_nil] at HSU
                  have hbe : ((t.extract (j + 1 - x.size) (j + 1)).toList == x.toList) = false := beq_eq_false_iff_ne.2 fun e => hex (ByteArray.ext (Array.toList_inj.1 (by rw [ByteArray.toList_eq, ByteArray.toList_eq] at e; exact e)))
                  clear HCUT hex
                  go_wp2_with fail
                  exact ⟨⟨q + 1, by omega, rfl, by rw [HSU.out]; exact HOq.out, HBq.out⟩, by simp [intOf] <;> omega⟩
              · have hns : ¬ x.data.toList <:+ t.data.toList.take (j + 1) := fun h2 => by
                  have h3 := h2.length_le
                  rw [List.length_take] at h3
                  simp at h3
                  omega
                rw [if_neg hns, List.append_nil] at HSU
                have d1 : decide ((x.size : Int) ≤ (j : Int) + 1) = false := by simp; omega
                clear HCUT
                go_wp2_with fail
                exact ⟨⟨q + 1, by omega, rfl, by rw [HSU.out]; exact HOq.out, HBq.out⟩, by simp [intOf] <;> omega⟩
            · have HXX : Hid (hitsTo (lstS ws) t.data.toList j ++ partH (lstS ws) t.data.toList j q = hitsTo (lstS ws) t.data.toList (j + 1)) := by
                have e : q = (lstS ws).length := by rw [lstS, List.length_map]; omega
                unfold Hid
                rw [e, partH_all, ← hitsTo_succ]
              have HOq := Lib.hid hOq
              clear hOq
              generalize hitsTo (lstS ws) t.data.toList j ++ partH (lstS ws) t.data.toList j q = X at *
              go_wp2_with fail
              exact ⟨⟨j + 1, by omega, rfl, by rw [← HXX.out]; exact HOq.out, hbq⟩, by simp [intOf] <;> omega⟩
        · have HTL : Hid (hitsTo (lstS ws) t.data.toList j = hitsTo (lstS ws) t.data.toList t.data.toList.length) := by
            have e : j = t.data.toList.length := by simp; omega
            rw [e]
            exact Lib.hid rfl
          have hO6 := HO5.out.below hbj
          obtain ⟨A7, c7, rfl, hs7⟩ := hO6.form
          have hs9 := HOj.out.form
          obtain ⟨_, _, e9, hs10⟩ := hs9
          injection e9 with e10 _ e11
          subst e10; subst e11
          rw [← HTL.out] at hs7
          have HEQ := Lib.hid (hits_equal (c1 := c7) (c2 := c9) (by omega) hs7 hs10)
          rw [HTL.out] at HEQ
          have HCK : Hid (∀ q, Calls Try.prog 9 #[.slice (some ⟨g, 0, none⟩) ms.length cap, .int .i64 (n : Int)] (wr.drewN q) fun e w' => e = .returned (.int .i64 0) ∧ Below wr.heap.size (wr.drewN q) w') := Lib.hid fun q => by
            rw [← hn]
            exact check_tree ws HG.out.few _ g cap ns ss ms _ ((HT5.out.below hbj).below (by apply below_drewN_q; exact Below.refl _ _))
          clear hs7 hs10 hO6 hOj
          have d9 : decide ((j : Int) + 1 ≤ (t.size : Int)) = false := by simp; omega
          have hlenj : (hitsTo (lstS ws) t.data.toList j).length = (hitsTo (lstS ws) t.data.toList t.data.toList.length).length := by rw [HTL.out]
          rw [hlenj]
          go_wp2_with (first | (go_at_call 7; refine HEQ.out.mono ?_; rintro e w7 ⟨rfl, q7, rfl⟩) | (go_at_call 9; refine (HCK.out _).mono ?_; rintro e w8 ⟨rfl, hb8⟩))
          go_ret
          exact ⟨rfl, (hbw5.trans (hbj.mono hbw5.size)).trans ((((below_drewN_q (Below.refl _ _) q7).trans hb8)).mono (Nat.le_trans hbw5.size hbj.size))⟩
end Go.Proofs.Ytnkcgfpjedlpaaa
