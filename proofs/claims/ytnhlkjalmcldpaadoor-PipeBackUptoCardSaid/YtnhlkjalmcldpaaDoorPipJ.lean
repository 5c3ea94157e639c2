/- The walk of PipeBack. -/
import Derived.Test.YtnhlkjalmcldpaaDoorPipP
import Derived.Test.YtnhlkjalmcldpaaDoorOpenI
namespace Go.Proofs.YtnhlkjalmcldpaaDoor
open Go.RowKit

theorem EqualI_yes (l : List Int) (A1 A2 : Option Addr) (c1 c2 : Nat) (w : World) (h1 : Sl w w.heap.size 1 A1 l.length (l.map (Value.int .i64))) (h2 : Sl w w.heap.size 1 A2 l.length (l.map (Value.int .i64))) (hl : l.length ≤ 4194304) :
    Calls Tryd.prog 22 #[.slice A1 l.length c1, .slice A2 l.length c2] w fun e w' => e = .returned (.bool true) ∧ Below w.heap.size w w' := by
  rcases Nat.eq_zero_or_pos l.length with h0 | hp
  · rw [h0]
    refine (Tryd.slices_Equal_int_empty A1 A2 c1 0 c2 w (by decide)).mono fun e w' ⟨e1, e2⟩ => ?_
    subst e2
    exact ⟨e1, Below.refl _ _⟩
  · obtain ⟨b, off, rfl, _, hc⟩ := h1.src (by rw [List.length_map]; exact hp)
    obtain ⟨b2, off2, rfl, _, hc2⟩ := h2.src (by rw [List.length_map]; exact hp)
    have key : ∀ (w : World) b off, (∀ j (h : j < (l.map (Value.int .i64)).length), w.cell? ⟨b, off + j, none⟩ = some (l.map (Value.int .i64))[j]) → ∀ j, j < l.length → w.cell? ⟨b, off + j, none⟩ = some (.int .i64 (l.getD j 0)) := fun w b off h j hj => by
      rw [h j (by rw [List.length_map]; exact hj), List.getElem_map, List.getD_eq_getElem?_getD, List.getElem?_eq_getElem hj]
      rfl
    refine (Tryd.slices_Equal_int b off l.length c1 b2 off2 l.length c2 l l w (Nat.le_refl _) (Nat.le_refl _) (by omega) (by omega) (key w b off hc) (key w b2 off2 hc2)).mono fun e w' ⟨e1, q, e2⟩ => ?_
    subst e2
    exact ⟨by rw [e1, beq_self_eq_true], below_drewN (Below.refl _ _) q⟩
theorem print_len {l : List Int} (h : checkP l = 0) : (printP l).length ≤ 64 := by
  have hk := checkP_ok.1 h
  unfold printP
  by_cases hl : l = []
  · rw [if_pos hl]; decide
  · rw [if_neg hl]
    have := join_len 44 (l.map wordI) fun w hw => by
      obtain ⟨x, hx, rfl⟩ := List.mem_map.1 hw
      exact (word_ok (hk.2 x hx).1 (hk.2 x hx).2).2.2.2.2
    rw [List.length_map] at this
    omega
theorem const_check : checkP [2, 1] = 0 := by decide
theorem const_print : printP [2, 1] = [117, 114, 108, 44, 108, 111, 119, 101, 114] := by decide

set_option maxRecDepth 100000 in
set_option maxHeartbeats 1600000 in
theorem pipeBack_walk (l : List Int) (A : Option Addr) (c : Nat) (s : ByteArray) (w : World) (hA : Sl w w.heap.size 1 A l.length (l.map (Value.int .i64))) (hl : l.length ≤ 1048576) (hs : s.size ≤ 1048576) (hlib : LibOk w) :
    Calls Tryd.prog 6 #[.slice A l.length c, .string s] w fun e w' => e = .returned (.bool true) ∧ Below w.heap.size w w' := by
  have HA : Hid (∀ W, Below w.heap.size w W → Sl W W.heap.size 1 A l.length (l.map (Value.int .i64))) := fun W hb => (hA.below hb).more hb.size
  have HPR : Hid (∀ W, Below w.heap.size w W → Calls Tryd.prog 20 #[.slice A l.length c] W (PrintPost l W)) := fun W hb => Print_any l A c W (HA.out W hb) hl
  have HPA : Hid (∀ t W, Below w.heap.size w W → t.size ≤ 4194304 → Calls Tryd.prog 21 #[.string t] W (ParsePost t.data.toList W)) := fun t W hb ht => Parse_any t W (hlib.below hb) ht
  have HC1 : Hid (∀ W c, Sl W W.heap.size 1 (some ⟨w.heap.size, 0, none⟩) 2 ([2, 1].map (Value.int .i64)) → Calls Tryd.prog 20 #[.slice (some ⟨w.heap.size, 0, none⟩) 2 c] W fun e w' => e = .returned (.tuple #[.string (ByteArray.mk #[117, 114, 108, 44, 108, 111, 119, 101, 114]), .int .i64 0]) ∧ Below W.heap.size W w') := fun W c h =>
    (Print_any [2, 1] _ c W h (by decide)).mono fun e w' ⟨h1, h2⟩ => ⟨by rw [h1, const_check, if_pos rfl, const_print]; rfl, h2⟩
  clear hA hlib
  go_enter Tryd.func6, Tryd.ntmps6
  go_wp2_with fail
  refine (HC1.out _ _ (Sl.lit rfl (by simp) rfl rfl)).mono ?_
  rintro e w1 ⟨rfl, hb1⟩
  have hbw1 := below_new hb1 (Nat.le_refl _)
  clear hb1 HC1
  go_wp2_with fail
  refine (HPR.out _ hbw1).mono ?_
  rintro e w2 ⟨rfl, hb2⟩
  have hbw2 := hbw1.trans (hb2.mono hbw1.size)
  clear hb2 hbw1
  by_cases hc : checkP l = 0
  · have hpl := print_len hc
    rw [hc, if_pos rfl]
    have HIFF : Hid (∀ ks, ParseIs (printP l) ks ↔ ks = l) := fun ks => print_parse hc
    clear hc
    go_wp2_with fail
    refine (HPA.out (bs (printP l)) _ hbw2 (by rw [bs_size]; omega)).mono ?_
    rintro e w3 ⟨v3, code, rfl, hz, hnz, hb3⟩
    have hbw3 := hbw2.trans (hb3.mono hbw2.size)
    rw [bs_toList] at hz hnz
    by_cases k3 : code = 0
    · subst k3
      obtain ⟨ks, hO, hP⟩ := hz rfl
      obtain rfl := (HIFF.out ks).1 hP
      obtain ⟨Am, cm, rfl, _, hSm⟩ := hO.form
      have HEQ := Lib.hid (EqualI_yes ks A Am c cm w3 (HA.out w3 hbw3) hSm (by omega))
      clear hz hnz hO hP hSm hb3 hbw2
      go_wp2_with fail
      refine HEQ.out.mono ?_
      rintro e w4 ⟨rfl, hb4⟩
      have hbw4 := hbw3.trans (hb4.mono hbw3.size)
      clear hb4 hbw3 HEQ
      go_wp2_with fail
      refine (HPA.out s _ hbw4 (by omega)).mono ?_
      rintro e w5 ⟨v5, code5, rfl, hz5, hnz5, hb5⟩
      have hbw5 := hbw4.trans (hb5.mono hbw4.size)
      by_cases k5 : code5 = 0
      · subst k5
        obtain ⟨ks5, hO5, hP5⟩ := hz5 rfl
        obtain ⟨hck, hpr⟩ := parse_print hP5
        have hlk := (checkP_ok.1 hck).1
        obtain ⟨A5, c5, rfl, _, hS5⟩ := hO5.form
        have HP5 := Lib.hid (Print_any ks5 A5 c5 w5 hS5 (by omega))
        unfold PrintPost at HP5
        rw [hck, if_pos rfl, hpr, bs_eta] at HP5
        have q1 : (s.toList == s.toList) = true := beq_self_eq_true _
        clear hz5 hnz5 hO5 hP5 hck hpr hS5 hb5
        go_wp2_with fail
        refine HP5.out.mono ?_
        rintro e w6 ⟨rfl, hb6⟩
        have hbw6 := hbw5.trans (hb6.mono hbw5.size)
        go_wp2_with fail
        go_ret
        exact ⟨rfl, hbw6⟩
      · obtain ⟨rfl, _⟩ := hnz5 k5
        have q5 : (code5 != 0) = true := bne_iff_ne.2 k5
        clear hz5 hnz5 k5 hb5
        go_wp2_with fail
        go_ret
        exact ⟨rfl, hbw5⟩
    · exact absurd ((HIFF.out l).2 rfl) ((hnz k3).2 l)
  · rw [if_neg hc]
    have hbw4 := hbw2
    have qc : (checkP l == 0) = false := beq_eq_false_iff_ne.2 hc
    generalize checkP l = ck at *
    clear hbw2 hc
    go_wp2_with fail
    refine (HPA.out s _ hbw4 (by omega)).mono ?_
    rintro e w5 ⟨v5, code5, rfl, hz5, hnz5, hb5⟩
    have hbw5 := hbw4.trans (hb5.mono hbw4.size)
    by_cases k5 : code5 = 0
    · subst k5
      obtain ⟨ks5, hO5, hP5⟩ := hz5 rfl
      obtain ⟨hck, hpr⟩ := parse_print hP5
      have hlk := (checkP_ok.1 hck).1
      obtain ⟨A5, c5, rfl, _, hS5⟩ := hO5.form
      have HP5 := Lib.hid (Print_any ks5 A5 c5 w5 hS5 (by omega))
      unfold PrintPost at HP5
      rw [hck, if_pos rfl, hpr, bs_eta] at HP5
      have q1 : (s.toList == s.toList) = true := beq_self_eq_true _
      clear hz5 hnz5 hO5 hP5 hck hpr hS5 hb5
      go_wp2_with fail
      refine HP5.out.mono ?_
      rintro e w6 ⟨rfl, hb6⟩
      have hbw6 := hbw5.trans (hb6.mono hbw5.size)
      go_wp2_with fail
      go_ret
      exact ⟨rfl, hbw6⟩
    · obtain ⟨rfl, _⟩ := hnz5 k5
      have q5 : (code5 != 0) = true := bne_iff_ne.2 k5
      clear hz5 hnz5 k5 hb5
      go_wp2_with fail
      go_ret
      exact ⟨rfl, hbw5⟩
theorem pipeBack_any (a : IArg) (s : ByteArray) (w : World) {v : Value} (x : IntsArg w v a) (hl : a.l.length ≤ 1048576) (hs : s.size ≤ 1048576) (hlib : LibOk w) :
    Calls Tryd.prog 6 #[.slice a.A a.l.length a.c, .string s] w fun e w' => e = .returned (.bool true) ∧ Below w.heap.size w w' :=
  pipeBack_walk a.l a.A a.c s w x.sl hl hs hlib
end Go.Proofs.YtnhlkjalmcldpaaDoor
