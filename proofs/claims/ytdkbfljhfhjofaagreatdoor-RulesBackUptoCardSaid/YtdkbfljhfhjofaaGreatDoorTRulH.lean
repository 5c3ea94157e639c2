/- RulesBack walked. -/
import Derived.Test.YtdkbfljhfhjofaaGreatDoorTRulG
namespace Go.Proofs.YtdkbfljhfhjofaaGreatDoor
open Go.RowKit

set_option maxRecDepth 100000 in
set_option maxHeartbeats 3200000 in
theorem rulesBack_walk (a : RuArg) (w : World) (h : RuLies w w.heap.size a) (hs : RuBulk a) (hlib : LibOk w) (htab : TabOk w) : Calls Tryz.prog 3 #[a.value] w fun e w' => e = .returned (.bool true) ∧ Below w.heap.size w w' := by
  have HPR : Hid (∀ W, Below w.heap.size w W → Calls Tryz.prog 7 #[a.value] W (RuPrintPost a.set W)) := Lib.hid fun W hb => RuPrint_any a W (h.keep hb hb.size) hs (hlib.below hb) (htab.below hb)
  have HCK : Hid (∀ W, Below w.heap.size w W → Calls Tryz.prog 9 #[a.value] W (CodePost (checkR argC a.set) W)) := Lib.hid fun W hb => Check_any a W (h.keep hb hb.size) hs (hlib.below hb)
  have HSP : Hid (∀ (b : RuArg) W, b.set = simpleSet → RuLies W W.heap.size b → RuBulk b → Below w.heap.size w W → Calls Tryz.prog 7 #[b.value] W fun e w' => e = .returned (.tuple #[.string (bs simpleT), .int .i64 0]) ∧ Below W.heap.size W w') := Lib.hid fun b W hb1 hb2 hb3 hb => by
    have := RuPrint_any b W hb2 hb3 (hlib.below hb) (htab.below hb)
    unfold RuPrintPost at this
    rw [hb1, simple_check, if_pos rfl, simple_text] at this
    exact this
  have HPA : Hid (∀ (t : ByteArray) W, t.size ≤ 2000000000 → Below w.heap.size w W → Calls Tryz.prog 10 #[.string t] W (RuParsePost t W)) := Lib.hid fun t W ht hb => RuParse_any t W (hlib.below hb) (by omega)
  have HSR : Hid (∀ (b : RuArg) W, b.set = a.set → RuLies W W.heap.size b → Below w.heap.size w W → Calls Tryz.prog 11 #[b.value, a.value] W (BoolPost true W)) := Lib.hid fun b W hb1 hb2 hb => by
    refine SameRules_yes b a hb1 W hb2 (h.keep hb hb.size) ?_
    have e : b.l.map RuM.r = a.l.map RuM.r := congrArg RuSet.list hb1
    have e2 := congrArg List.length e
    rw [List.length_map, List.length_map] at e2
    refine ⟨by rw [e2]; exact hs.len, fun x hx => ?_⟩
    have hm : x.r ∈ a.l.map RuM.r := by rw [← e]; exact List.mem_map.2 ⟨x, hx, rfl⟩
    obtain ⟨y, hy, hyx⟩ := List.mem_map.1 hm
    rw [← hyx]; exact hs.all y hy
  have HLEN : Hid (checkR argC a.set = 0 → (printR a.set).length ≤ 2000000000) := Lib.hid fun hc => printR_len hc (fun x hx => by
    obtain ⟨y, hy, rfl⟩ := List.mem_map.1 (show x ∈ a.l.map RuM.r from hx)
    exact hs.all y hy)
  have hval : a.value = .agg #[.int .i64 a.most, .int .i64 a.status, .slice a.A a.l.length a.c] := rfl
  have HVAL := Lib.hid hval
  obtain ⟨W0, hW0⟩ : ∃ W0, W0 = w.alloc (.cells #[.int .i64 a.most, .int .i64 a.status, .slice a.A a.l.length a.c] 24) := ⟨_, rfl⟩
  have hR0 : R3 W0 w.heap.size a.most a.status (.slice a.A a.l.length a.c) := by rw [hW0]; exact heap_alloc_new w _
  have hb0 : Below w.heap.size w W0 := by rw [hW0]; exact (Below.refl _ _).alloc (Nat.le_refl _) _
  clear h hs hlib htab hval
  generalize hset : a.set = R at *
  clear hset
  generalize a.l.length = nl at *
  rw [HVAL.out] at HPR HCK HSR ⊢
  obtain ⟨C, hC⟩ : ∃ C, checkR argC R = C := ⟨_, rfl⟩
  unfold RuPrintPost at HPR
  rw [hC] at HPR HCK HLEN
  have HC := Lib.hid hC
  clear hC HVAL
  go_enter Tryz.func3, Tryz.ntmps3
  go_wp2_with fail
  rw [← hW0]
  clear hW0
  refine (simple_any W0).mono ?_
  rintro e w1 ⟨b, rfl, hb1, hb2, hb3, hbw⟩
  have hR1 := hR0.below hbw
  have hbw1 := hb0.trans (hbw.mono hb0.size)
  have HS1 := Lib.hid (HSP.out b w1 hb1 hb2 hb3 hbw1)
  unfold RuArg.value at HS1 ⊢
  clear hb1 hb2 hb3 hbw hb0 hR0
  go_wp2_with fail
  refine HS1.out.mono ?_
  rintro e w2 ⟨rfl, hb2⟩
  have hR2 := hR1.below hb2
  have hbw2 := hbw1.trans (hb2.mono hbw1.size)
  clear hb2 hR1 hbw1 HS1 HSP
  obtain ⟨x0, x1, x2⟩ := hR2.cell
  have qT : ((bs simpleT).toList == simpleT) = true := by rw [bs_list]; exact beq_self_eq_true _
  unfold simpleT at qT ⊢
  by_cases hc : C = 0
  · subst hc
    have hpr := HPR.out w2 hbw2
    rw [if_pos rfl] at hpr
    obtain ⟨T, hT⟩ : ∃ T, T = bs (printR R) := ⟨_, rfl⟩
    have HTL : Hid (T.data.toList = printR R) := Lib.hid (by rw [hT]; rfl)
    have hTs : T.size ≤ 2000000000 := by rw [hT, bs_size]; exact HLEN.out rfl
    rw [← hT] at hpr
    have HPR2 := Lib.hid hpr
    clear hpr hT HPR HLEN
    go_wp2_with fail
    refine HPR2.out.mono ?_
    rintro e w3 ⟨rfl, hb3⟩
    have hR3 := hR2.below hb3
    have hbw3 := hbw2.trans (hb3.mono hbw2.size)
    clear x0 x1 x2 hb3 hR2 hbw2 HPR2 qT
    have HP4 := Lib.hid (HPA.out T w3 hTs hbw3)
    go_wp2_with (go_at_call 10; apply Hid.out)
    unfold Hid
    refine HP4.out.mono ?_
    rintro e w4 ⟨b4, at_, code, rfl, h0, h1, h2, h3, hb4⟩
    have hR4 := hR3.below hb4
    have hbw4 := hbw3.trans (hb4.mono hbw3.size)
    have HB5 : Hid (∀ o, Below w.heap.size w (w4.alloc o)) := Lib.hid fun o => hbw4.alloc hbw4.size o
    have hlenT : T.data.toList.length = T.size := by simp
    by_cases hlen : 8192 < T.size
    · obtain rfl := h3 hlen
      have d1 : decide ((8192 : Int) < (T.size : Int)) = true := by simp; omega
      unfold RuArg.value
      clear h1 h2 h3 hlenT
      go_wp2_with fail
      go_ret
      exact ⟨rfl, HB5.out _⟩
    · have d1 : decide ((8192 : Int) < (T.size : Int)) = false := by simp; omega
      have hrd : ReadsSet argC T.data.toList R := by
        rw [HTL.out]
        exact reads_back HC.out (by rw [← HTL.out, hlenT]; omega)
      have hc0 : code = 0 := by
        by_cases hcz : code = 0
        · exact hcz
        · exact absurd hrd ((h2 hcz).2 (by omega) R)
      subst hc0
      obtain ⟨rfl, hr4, hl4, _⟩ := h1 rfl
      have hset4 : b4.set = R := reads_one hr4 hrd
      have HSR4 : Hid (∀ o, Calls Tryz.prog 11 #[b4.value, .agg #[.int .i64 a.most, .int .i64 a.status, .slice a.A nl a.c]] (w4.alloc o) (BoolPost true (w4.alloc o))) := Lib.hid fun o => HSR.out b4 (w4.alloc o) hset4 (hl4.keep ((Below.refl _ _).alloc (Nat.le_refl _) o) (by simp)) (HB5.out o)
      have hR5 : Hid (∀ o, R3 (w4.alloc o) w.heap.size a.most a.status (.slice a.A nl a.c)) := Lib.hid fun o => hR4.below ((Below.refl _ _).alloc (Nat.le_refl _) o)
      unfold RuArg.value at HSR4 ⊢
      generalize b4.l.length = nl4 at *
      have y0 : ∀ o, (w4.alloc o).cell? ⟨w.heap.size, 0, none⟩ = some (.int .i64 a.most) := fun o => (hR5.out o).cell.1
      have y1 : ∀ o, (w4.alloc o).cell? ⟨w.heap.size, 1, none⟩ = some (.int .i64 a.status) := fun o => (hR5.out o).cell.2.1
      have y2 : ∀ o, (w4.alloc o).cell? ⟨w.heap.size, 2, none⟩ = some (.slice a.A nl a.c) := fun o => (hR5.out o).cell.2.2
      clear h1 h2 h3 hlenT hrd hr4 hl4 hset4 hR4 hbw4 hb4 hR3 hbw3 h0
      go_wp2_with fail
      refine (HSR4.out _).mono ?_
      rintro e w5 ⟨rfl, hb5⟩
      have hbw5 := (HB5.out _).trans (hb5.mono (HB5.out _).size)
      go_wp2_with fail
      go_ret
      exact ⟨rfl, hbw5⟩
  · have qc : (C == 0) = false := beq_eq_false_iff_ne.2 hc
    have qcc : (C == C) = true := beq_self_eq_true _
    have hpr := HPR.out w2 hbw2
    rw [if_neg hc] at hpr
    change Calls _ _ _ _ fun e w' => e = .returned (.tuple #[.string (ByteArray.mk #[]), .int .i64 C]) ∧ Below w2.heap.size w2 w' at hpr
    have HPR2 := Lib.hid hpr
    clear hpr HPR HLEN hc
    go_wp2_with fail
    refine HPR2.out.mono ?_
    rintro e w3 ⟨rfl, hb3⟩
    have hR3 := hR2.below hb3
    have hbw3 := hbw2.trans (hb3.mono hbw2.size)
    clear x0 x1 x2 hb3 hR2 hbw2 HPR2 qT
    obtain ⟨x0, x1, x2⟩ := hR3.cell
    go_wp2_with fail
    refine (HCK.out w3 hbw3).mono ?_
    rintro e w4 ⟨rfl, hb4⟩
    go_wp2_with fail
    go_ret
    exact ⟨rfl, hbw3.trans (hb4.mono hbw3.size)⟩
theorem rulesBack_any (a : RuArg) (w : World) {v : Value} (x : RulesArg w v a) (hb : RuBulk a) (hlib : LibOk w) (htab : Lib.TabIs Tryz.prog w "internal/strconv.uint64pow10" .u64 Lib.pow10Tab) : Calls Tryz.prog 3 #[a.value] w fun e w' => e = .returned (.bool true) ∧ Below w.heap.size w w' :=
  rulesBack_walk a w x.lies hb hlib (TabOk.of htab)
end Go.Proofs.YtdkbfljhfhjofaaGreatDoor
