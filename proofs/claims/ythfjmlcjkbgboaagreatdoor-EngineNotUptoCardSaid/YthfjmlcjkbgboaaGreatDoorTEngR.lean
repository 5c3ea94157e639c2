/- EngineNot. -/
import Derived.Test.YthfjmlcjkbgboaaGreatDoorTEngQ
namespace Go.Proofs.YthfjmlcjkbgboaaGreatDoor
open Go.RowKit

set_option maxRecDepth 100000 in
set_option maxHeartbeats 3200000 in
theorem engineNot_any (x : RuM) (v : ByteArray) (w : World) {xv : Value} (hx : RuleArg w xv x) (hs : RuSmall x.r) (hv : v.size ≤ 1048576) (hlib : LibOk w)
    (ht : Lib.TabIs Tryz.prog w "internal/strconv.uint64pow10" .u64 Lib.pow10Tab) :
    Calls Tryz.prog 3 #[.agg (cellsRu x).toArray, .string v] w fun e w' => e = .returned (.bool true) ∧ Below w.heap.size w w' := by
  have htab : TabOk w := TabOk.of ht
  have hin := hx.lies
  have HFIRST := fun (y : RuM) (hy : y.r = evilR) W (hb : Below w.heap.size w W) (h : RuIn W W.heap.size y) (hs : RuSmall y.r) => Lib.hid (evil_first y hy W h hs (hlib.below hb) (htab.below hb))
  have HONE := fun (V g : Nat) (no : Bool) W (hb : Below w.heap.size w W) hV hA => Lib.hid (one_first x V g no v (by omega) W (hin.keep hb hb.size) hs (hlib.below hb) (htab.below hb) hV hA)
  have HRUN : Hid (∀ W, Below w.heap.size w W → Calls Tryz.prog 12 #[.slice x.pA x.r.pipe.length x.pc, .string v] W fun e w' => e = .returned (.tuple #[.string (bs (runT x.r.pipe v.data.toList)), .int .i64 (runEP x.r.pipe v.data.toList)]) ∧ Below W.heap.size W w') :=
    fun W hb => PRun_any x.r.pipe x.pA x.pc v W ((hin.pipe.below hb).more hb.size) (by have := hs.pipe; omega) (hlib.below hb) (htab.below hb)
  have HHIT : Hid (∀ no, hitX x.r.pipe no (tstO x.r.op x.r.arg) (ByteArray.mk #[97], v) = ((runEP x.r.pipe v.data.toList == 0) && decide ((bs (runT x.r.pipe v.data.toList)).size ≤ 8192) && (tstO x.r.op x.r.arg (bs (runT x.r.pipe v.data.toList)) != no))) := fun _ => rfl
  have HCOD : Hid (∀ V V' : Nat, codeM (oneR' x ⟨V, 0, none⟩ true) = codeM (oneR' x ⟨V', 0, none⟩ true)) := fun _ _ => rfl
  generalize tstO x.r.op x.r.arg = TF at *
  obtain ⟨W0, hW0⟩ : ∃ W0, w.alloc (.cells #[.int .i64 x.r.id, .int .i64 x.r.phase, .slice x.vA x.r.vars.length x.vc, .slice x.pA x.r.pipe.length x.pc, .bool x.r.no, .int .i64 x.r.op, .string x.r.arg, .slice x.aA x.r.acts.length x.ac, .bool x.r.chain] 26) = W0 := ⟨_, rfl⟩
  have hb0 : Below w.heap.size w W0 := by rw [← hW0]; exact (Below.refl _ _).alloc (Nat.le_refl _) _
  have hR : R9 W0 w.heap.size (.int .i64 x.r.id) (.int .i64 x.r.phase) (.slice x.vA x.r.vars.length x.vc) (.slice x.pA x.r.pipe.length x.pc) (.bool x.r.no) (.int .i64 x.r.op) (.string x.r.arg) (.slice x.aA x.r.acts.length x.ac) (.bool x.r.chain) := by rw [← hW0]; exact heap_alloc_new w _
  have HW0 := Lib.hid hW0
  have HR := Lib.hid hR
  have hz0 : w.heap.size < W0.heap.size := hR.lt
  unfold cellsRu
  clear hW0 hR hin hs htab hlib ht hx
  go_enter Tryz.func3, Tryz.ntmps3
  go_upto_region 1 with fail
  rw [HW0.out]
  go_wp2_with (go_at_call 10; refine (simple_any W0).mono ?_)
  rintro e w1 ⟨a, rfl, hb1, hb2, hb3, hbw⟩
  obtain ⟨g, off, cc, y, _, e1, hy, _, hyin, _, hys, _, hc, _⟩ := simple_two hb1 hb2 hb3
  rw [e1]
  have hbw1 := hb0.trans (hbw.mono hb0.size)
  have HF := HFIRST y hy w1 hbw1 hyin hys
  have c0 := hc 0 (by decide) _ rfl
  have c1 := hc 1 (by decide) _ rfl
  have c2 := hc 2 (by decide) _ rfl
  have c3 := hc 3 (by decide) _ rfl
  have c4 := hc 4 (by decide) _ rfl
  have c5 := hc 5 (by decide) _ rfl
  have c6 := hc 6 (by decide) _ rfl
  have c7 := hc 7 (by decide) _ rfl
  have c8 := hc 8 (by decide) _ rfl
  rw [Nat.add_zero] at c0
  have yf : ∀ (a b c : Value) W, (Instr.field 32 (.agg #[a, b, c]) 2).run Tryz.prog W = .ok c W := fun _ _ _ _ => by kernel_rfl
  clear hc hb1 hb2 hb3 e1 hy HFIRST
  have HR1 := Lib.hid (HR.out.below hbw)
  go_wp2_with (go_at_call 9; apply Hid.out)
  unfold Hid
  refine HF.out.mono ?_
  rintro e w2 ⟨rfl, hb12⟩
  have hbw2 := hbw1.trans (hb12.mono hbw1.size)
  have HR2 := Lib.hid (HR1.out.below hb12)
  clear c0 c1 c2 c3 c4 c5 c6 c7 c8 HF
  have hR2 := HR2.out
  have ⟨r0, r1, r2, r3, r4, r5, r6, r7, r8⟩ := hR2.cells9
  have z2 := hR2.free 2
  have z4 := hR2.free 4
  have hz2 : w.heap.size < w2.heap.size := hR2.lt
  clear hR2
  go_upto_region 6 with fail
  obtain ⟨W3, hW3⟩ : ∃ W3, ((w2.setCell ⟨w.heap.size, 2, none⟩ (.slice (some ⟨w2.heap.size, 0, none⟩) 1 1)).alloc (.cells #[.int .i64 6, .int .i64 0, .string (ByteArray.mk #[])] 41)).alloc (.cells #[.string (ByteArray.mk #[97]), .string v] 43) = W3 := ⟨_, rfl⟩
  have hz3 : W3.heap.size = w2.heap.size + 2 := by rw [← hW3]; simp [World.size_setCell]
  have hR3 : R9 W3 w.heap.size (.int .i64 x.r.id) (.int .i64 x.r.phase) (.slice (some ⟨w2.heap.size, 0, none⟩) 1 1) (.slice x.pA x.r.pipe.length x.pc) (.bool x.r.no) (.int .i64 x.r.op) (.string x.r.arg) (.slice x.aA x.r.acts.length x.ac) (.bool x.r.chain) := by
    rw [← hW3]
    exact (Below.heap_alloc _ _ _ (by simp only [World.size_alloc, World.size_setCell]; omega)).trans ((Below.heap_alloc _ _ _ (by rw [World.size_setCell]; omega)).trans (HR2.out.put2 _))
  have hV3 : W3.heap[w2.heap.size]? = some (.cells #[.int .i64 6, .int .i64 0, .string (ByteArray.mk #[])] 41 (0, 0)) := by
    rw [← hW3]
    exact (Below.heap_alloc _ _ _ (by simp only [World.size_alloc, World.size_setCell]; omega)).trans (blk_new _ _ _ (by rw [World.size_setCell]))
  have hA3 : W3.heap[w2.heap.size + 1]? = some (.cells #[.string (ByteArray.mk #[97]), .string v] 43 (0, 0)) := by
    rw [← hW3]
    exact blk_new _ _ _ (by rw [World.size_alloc, World.size_setCell])
  have hb3 : Below w.heap.size w W3 := by
    rw [← hW3]
    exact ((hbw2.setCell (p := ⟨w.heap.size, 2, none⟩) (Nat.le_refl _) _).alloc (by rw [World.size_setCell]; omega) _).alloc (by simp only [World.size_alloc, World.size_setCell]; omega) _
  have HW3 := Lib.hid hW3
  have HMM := fun (no : Bool) W (hb : Below w.heap.size w W) (h1 : W.heap[w2.heap.size]? = W3.heap[w2.heap.size]?) (h2 : W.heap[w2.heap.size + 1]? = W3.heap[w2.heap.size + 1]?) => HONE w2.heap.size (w2.heap.size + 1) no W hb (h1.trans hV3) (h2.trans hA3)
  obtain ⟨C, hC⟩ : ∃ C, codeM (oneR' x ⟨w2.heap.size, 0, none⟩ true) = C := ⟨_, rfl⟩
  rw [hC] at HMM
  obtain ⟨NO, hNO⟩ : ∃ NO : Bool, x.r.no = NO := ⟨_, rfl⟩
  rw [hNO] at hR3
  obtain ⟨a1, ha1⟩ : ∃ a1 : Bool, (if C = 0 then hitX x.r.pipe NO TF (ByteArray.mk #[97], v) else false) = a1 := ⟨_, rfl⟩
  obtain ⟨a2, ha2⟩ : ∃ a2 : Bool, (if C = 0 then hitX x.r.pipe (!NO) TF (ByteArray.mk #[97], v) else false) = a2 := ⟨_, rfl⟩
  have HA1 := Lib.hid ha1
  have HA2 := Lib.hid ha2
  have HR3 := Lib.hid hR3
  have k3 := hR3.cells9
  have HB3 := Lib.hid hb3
  have hz30 : w.heap.size < W3.heap.size := hR3.lt
  have hz31 : w2.heap.size < W3.heap.size := by omega
  have hz32 : w2.heap.size + 1 < W3.heap.size := by omega
  have hM1 := fun W (hb : Below W3.heap.size W3 W) => Lib.hid (HMM NO W (HB3.out.trans (hb.mono HB3.out.size)) (hb.block _ hz31) (hb.block _ hz32)).out
  rw [ha1] at hM1
  have HM1 := Lib.hid hM1
  rw [HW3.out]
  clear hW3 hR3 hV3 hA3 hb3 hC hNO ha1 ha2 hz3 HONE hM1 r0 r1 r2 r3 r4 r5 r6 r7 r8 z2 z4
  go_region_held3 (fun w' => w'.cell? ⟨w.heap.size, 0, none⟩ = some (.int .i64 x.r.id) ∧ w'.cell? ⟨w.heap.size, 1, none⟩ = some (.int .i64 x.r.phase) ∧ w'.cell? ⟨w.heap.size, 2, none⟩ = some (.slice (some ⟨w2.heap.size, 0, none⟩) 1 1) ∧ w'.cell? ⟨w.heap.size, 3, none⟩ = some (.slice x.pA x.r.pipe.length x.pc) ∧ w'.cell? ⟨w.heap.size, 4, none⟩ = some (.bool NO) ∧ w'.cell? ⟨w.heap.size, 5, none⟩ = some (.int .i64 x.r.op) ∧ w'.cell? ⟨w.heap.size, 6, none⟩ = some (.string x.r.arg) ∧ w'.cell? ⟨w.heap.size, 7, none⟩ = some (.slice x.aA x.r.acts.length x.ac) ∧ w'.cell? ⟨w.heap.size, 8, none⟩ = some (.bool x.r.chain))
    (first | exact k3 | exact k8 | exact k9 | go_keep | fail "keep")
    (first | (go_at_call 11; (with_reducible refine (hello_any _).mono ?_); rintro e w8 ⟨rfl, hb8'⟩; have hb8 : Below W3.heap.size W3 w8 := undrew hb8'; have k8 := (HR3.out.below hb8).cells9; have HM8 := HM1.out w8 hb8) | (go_at_call 9; (with_reducible refine HM8.out.mono ?_); rintro e w9 ⟨rfl, hb9'⟩; have hb9 : Below W3.heap.size W3 w9 := hb8.trans (hb9'.mono hb8.size); have k9 := (HR3.out.below hb9).cells9) | fail "arm")
  have hR9 := HR3.out.below hb9
  have HR9 := Lib.hid hR9
  have r4 := hR9.cell 4
  simp only [List.getElem?_toArray, List.getElem?_cons_zero, List.getElem?_cons_succ] at r4
  have z4 := hR9.free 4
  have HB9 := Lib.hid hb9
  clear k3 k8 k9 hb8 hb8' hb9' hb9 HM8 HM1 hR9
  go_upto_region 8 with fail
  obtain ⟨W4, hW4⟩ : ∃ W4, w9.setCell ⟨w.heap.size, 4, none⟩ (.bool (!NO)) = W4 := ⟨_, rfl⟩
  have hR4 : R9 W4 w.heap.size (.int .i64 x.r.id) (.int .i64 x.r.phase) (.slice (some ⟨w2.heap.size, 0, none⟩) 1 1) (.slice x.pA x.r.pipe.length x.pc) (.bool (!NO)) (.int .i64 x.r.op) (.string x.r.arg) (.slice x.aA x.r.acts.length x.ac) (.bool x.r.chain) := by
    rw [← hW4]
    exact HR9.out.put4 _
  have hV4 : W4.heap[w2.heap.size]? = W3.heap[w2.heap.size]? := by
    rw [← hW4, Below.heap_setCell _ _ _ _ (by show w2.heap.size ≠ w.heap.size; omega)]
    exact HB9.out.block _ hz31
  have hA4 : W4.heap[w2.heap.size + 1]? = W3.heap[w2.heap.size + 1]? := by
    rw [← hW4, Below.heap_setCell _ _ _ _ (by show w2.heap.size + 1 ≠ w.heap.size; omega)]
    exact HB9.out.block _ hz32
  have hb4 : Below w.heap.size w W4 := by
    rw [← hW4]
    exact (HB3.out.trans (HB9.out.mono HB3.out.size)).setCell (p := ⟨w.heap.size, 4, none⟩) (Nat.le_refl _) _
  have hz4 : W3.heap.size ≤ W4.heap.size := by rw [← hW4, World.size_setCell]; exact HB9.out.size
  have HW4 := Lib.hid hW4
  have HR4 := Lib.hid hR4
  have k4 := hR4.cells9
  have hM2 := fun W (hb : Below W4.heap.size W4 W) => Lib.hid (HMM (!NO) W (hb4.trans (hb.mono hb4.size)) ((hb.block _ (Nat.lt_of_lt_of_le hz31 hz4)).trans hV4) ((hb.block _ (Nat.lt_of_lt_of_le hz32 hz4)).trans hA4)).out
  have HB4 := Lib.hid hb4
  have e2 : (if C = 0 then hitX x.r.pipe (!NO) TF (ByteArray.mk #[97], v) else false) = a2 := HA2.out
  rw [e2] at hM2
  have HM2 := Lib.hid hM2
  rw [HW4.out]
  clear hW4 hR4 hV4 hA4 hb4 hM2 e2 HMM r4 z4
  go_region_held3 (fun w' => w'.cell? ⟨w.heap.size, 0, none⟩ = some (.int .i64 x.r.id) ∧ w'.cell? ⟨w.heap.size, 1, none⟩ = some (.int .i64 x.r.phase) ∧ w'.cell? ⟨w.heap.size, 2, none⟩ = some (.slice (some ⟨w2.heap.size, 0, none⟩) 1 1) ∧ w'.cell? ⟨w.heap.size, 3, none⟩ = some (.slice x.pA x.r.pipe.length x.pc) ∧ w'.cell? ⟨w.heap.size, 4, none⟩ = some (.bool (!NO)) ∧ w'.cell? ⟨w.heap.size, 5, none⟩ = some (.int .i64 x.r.op) ∧ w'.cell? ⟨w.heap.size, 6, none⟩ = some (.string x.r.arg) ∧ w'.cell? ⟨w.heap.size, 7, none⟩ = some (.slice x.aA x.r.acts.length x.ac) ∧ w'.cell? ⟨w.heap.size, 8, none⟩ = some (.bool x.r.chain))
    (first | exact k4 | exact k10 | exact k11 | go_keep | fail "keep")
    (first | (go_at_call 11; (with_reducible refine (hello_any _).mono ?_); rintro e w10 ⟨rfl, hb10'⟩; have hb10 : Below W4.heap.size W4 w10 := undrew hb10'; have k10 := (HR4.out.below hb10).cells9; have HM10 := HM2.out w10 hb10) | (go_at_call 9; (with_reducible refine HM10.out.mono ?_); rintro e w11 ⟨rfl, hb11'⟩; have hb11 : Below W4.heap.size W4 w11 := hb10.trans (hb11'.mono hb10.size); have k11 := (HR4.out.below hb11).cells9) | fail "arm")
  have hbw := HB4.out.trans (hb11.mono HB4.out.size)
  have r3 := k11.2.2.2.1
  have HRN := Lib.hid (HRUN.out w11 hbw)
  have HX1 : Hid (a1 = if C = 0 then ((runEP x.r.pipe v.data.toList == 0) && decide ((bs (runT x.r.pipe v.data.toList)).size ≤ 8192) && (TF (bs (runT x.r.pipe v.data.toList)) != NO)) else false) := by unfold Hid; rw [← HA1.out, HHIT.out]
  have HX2 : Hid (a2 = if C = 0 then ((runEP x.r.pipe v.data.toList == 0) && decide ((bs (runT x.r.pipe v.data.toList)).size ≤ 8192) && (TF (bs (runT x.r.pipe v.data.toList)) != !NO)) else false) := by unfold Hid; rw [← HA2.out, HHIT.out]
  clear k4 k10 k11 hb10 hb10' hb11' hb11 HM10 HM2 HRUN HHIT HA1 HA2 HB4 HR4 HR9 HR3 HB9 HB3 HW4 HW3 HR2 HR1 HR HW0
  generalize runEP x.r.pipe v.data.toList = E at *
  generalize bs (runT x.r.pipe v.data.toList) = T at *
  generalize TF T = FT at *
  by_cases hC : C = 0
  rotate_left
  · have n0 : (C != 0) = true := bne_iff_ne.2 hC
    obtain rfl : a1 = false := by rw [HX1.out, if_neg hC]
    obtain rfl : a2 = false := by rw [HX2.out, if_neg hC]
    clear hC HX1 HX2
    go_wp2_with fail
    go_ret
    exact ⟨by simp, hbw⟩
  · subst hC
    have HY1 : Hid (a1 = ((E == 0) && decide (T.size ≤ 8192) && (FT != NO))) := by unfold Hid; rw [HX1.out, if_pos rfl]
    have HY2 : Hid (a2 = ((E == 0) && decide (T.size ≤ 8192) && (FT != !NO))) := by unfold Hid; rw [HX2.out, if_pos rfl]
    clear HX1 HX2
    go_wp2_with (go_at_call 12; apply Hid.out)
    unfold Hid
    refine HRN.out.mono ?_
    rintro e w12 ⟨rfl, hb12⟩
    have hbz := hbw.trans (hb12.mono hbw.size)
    by_cases hE : E = 0
    rotate_left
    · have n0 : (E != 0) = true := bne_iff_ne.2 hE
      have n1 : (E == 0) = false := beq_eq_false_iff_ne.2 hE
      obtain rfl : a1 = false := by rw [HY1.out, n1]; rfl
      obtain rfl : a2 = false := by rw [HY2.out, n1]; rfl
      clear hE HY1 HY2 n1
      go_wp2_with fail
      go_ret
      exact ⟨by simp, hbz⟩
    · subst hE
      by_cases hT : T.size ≤ 8192
      rotate_left
      · have n0 : decide ((8192 : Int) < (T.size : Int)) = true := decide_eq_true (by omega)
        obtain rfl : a1 = false := by rw [HY1.out, decide_eq_false hT]; rfl
        obtain rfl : a2 = false := by rw [HY2.out, decide_eq_false hT]; rfl
        clear hT HY1 HY2
        go_wp2_with fail
        go_ret
        exact ⟨by simp, hbz⟩
      · have n0 : decide ((8192 : Int) < (T.size : Int)) = false := decide_eq_false (by omega)
        obtain rfl : a1 = (FT != NO) := by rw [HY1.out, decide_eq_true hT]; rfl
        obtain rfl : a2 = (FT != !NO) := by rw [HY2.out, decide_eq_true hT]; rfl
        clear hT HY1 HY2
        cases FT <;> cases NO
        all_goals
          go_wp2_with fail
          go_ret
          exact ⟨by simp, hbz⟩
end Go.Proofs.YthfjmlcjkbgboaaGreatDoor
