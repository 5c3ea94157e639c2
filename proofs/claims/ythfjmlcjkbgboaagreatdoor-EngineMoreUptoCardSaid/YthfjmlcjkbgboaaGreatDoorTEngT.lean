/- EngineMore walked. -/
import Derived.Test.YthfjmlcjkbgboaaGreatDoorTEngS
namespace Go.Proofs.YthfjmlcjkbgboaaGreatDoor
open Go.RowKit

def FirstCut (W0 : World) (s9 s10 : Value) (wx : World) : Prop := s9 = .bool true ∧ s10 = .int .i64 0 ∧ Below W0.heap.size W0 wx
set_option maxRecDepth 100000 in
set_option maxHeartbeats 6400000 in
theorem engineMore_walk (x : RuM) (m t b : ByteArray) (fs : List PairV) (A : Option Addr) (c : Nat) (list : List Pair) (Al : Option Addr) (c1 : Nat) (more : List Pair) (Am : Option Addr) (c2 : Nat) (w : World) (hin : RuIn w w.heap.size x) (hs : RuSmall x.r)
  (hv : ValIn m t b fs A list Al [] none w) (hz : ValSz t fs (list ++ more) [] 0 0) (hmore : Sl w w.heap.size 2 Am more.length (more.flatMap cellsA)) :
  Calls Tryz.prog 4 #[.agg (cellsRu x).toArray, .agg #[.string m, .string t, .slice A fs.length c, .string b], .slice Al list.length c1, .slice Am more.length c2] w fun e w' => e = .returned (.bool true) ∧ Below w.heap.size w w' := by
 have HFIRST := fun (y : RuM) (hy : y.r = dropR) g W (hb : Below w.heap.size w W) (h : RuIn W W.heap.size y) (hs : RuSmall y.r) hA => Lib.hid (drop_first y hy g W h hs (hv.lib.below hb) (hv.tab.below hb) hA)
 obtain ⟨W0, hW0⟩ : ∃ W0, (w.alloc (.cells #[.int .i64 x.r.id, .int .i64 x.r.phase, .slice x.vA x.r.vars.length x.vc, .slice x.pA x.r.pipe.length x.pc, .bool x.r.no, .int .i64 x.r.op, .string x.r.arg, .slice x.aA x.r.acts.length x.ac, .bool x.r.chain] 26)).alloc (.cells #[.string m, .string t, .slice A fs.length c, .string b] 38) = W0 := ⟨_, rfl⟩
 have hzz : W0.heap.size = w.heap.size + 2 := by rw [← hW0]; simp
 have hb0 : Below w.heap.size w W0 := by rw [← hW0]; exact ((Below.refl _ _).alloc (Nat.le_refl _) _).alloc (by simp) _
 have hR : R9 W0 w.heap.size (.int .i64 x.r.id) (.int .i64 x.r.phase) (.slice x.vA x.r.vars.length x.vc) (.slice x.pA x.r.pipe.length x.pc) (.bool x.r.no) (.int .i64 x.r.op) (.string x.r.arg) (.slice x.aA x.r.acts.length x.ac) (.bool x.r.chain) := by rw [← hW0]; exact (Below.heap_alloc _ _ _ (by simp)).trans (heap_alloc_new w _)
 have hQ : W0.heap[w.heap.size + 1]? = some (.cells #[.string m, .string t, .slice A fs.length c, .string b] 38 (0, 0)) := by
  rw [← hW0]
  exact blk_new _ _ _ (by simp)
 have HW0 := Lib.hid hW0
 have HR := Lib.hid hR
 have HQ := Lib.hid hQ
 have HIN := Lib.hid hin
 have HS := Lib.hid hs
 have HV := Lib.hid hv
 have HZ := Lib.hid hz
 have HMO := Lib.hid hmore
 have hz0 : w.heap.size < W0.heap.size := by omega
 have hz1 : w.heap.size + 1 < W0.heap.size := by omega
 unfold cellsRu
 clear hW0 hR hQ hin hs hv hz hmore hzz
 go_enter Tryz.func4, Tryz.ntmps4
 go_upto_region 1 with fail
 rw [HW0.out]
 go_cut [9, 10] from 15 to 25 (fun s9 s10 wx => FirstCut W0 s9 s10 wx)
 case first =>
  have yf : ∀ (a b c : Value) W, (Instr.field 32 (.agg #[a, b, c]) 2).run Tryz.prog W = .ok c W := fun _ _ _ _ => by kernel_rfl
  go_region_with (first
   | (go_at_call 10; (with_reducible refine (simple_any _).mono ?_); rintro e w1 ⟨a, rfl, hs1, hs2, hs3, hb1'⟩; have hb1 : Below W0.heap.size W0 w1 := (by first | exact undrew hb1' | exact undrew (below_new hb1' (Nat.le_refl _)) | fail "b1"); obtain ⟨g, off, cc, y0, y, e1, _, hy, _, hyin, _, hys, _, hc⟩ := simple_two hs1 hs2 hs3; rw [e1]; have hbw1 := hb0.trans (hb1.mono hb0.size); have k0 := hc 0 (by decide) _ rfl; have k1 := hc 1 (by decide) _ rfl; have k2 := hc 2 (by decide) _ rfl; have k3 := hc 3 (by decide) _ rfl; have k4 := hc 4 (by decide) _ rfl; have k5 := hc 5 (by decide) _ rfl; have k6 := hc 6 (by decide) _ rfl; have k7 := hc 7 (by decide) _ rfl; have k8 := hc 8 (by decide) _ rfl; rw [Nat.add_zero] at k0; have hzg : g < w1.heap.size := World.block_lt_of_cell? _ _ k0; have HF := HFIRST y hy; clear hs1 hs2 hs3 hc e1 hy)
   | (go_at_call 11; (with_reducible refine (hello_any _).mono ?_); rintro e w2 ⟨rfl, hb2'⟩; have hb2 : Below w1.heap.size w1 w2 := (by first | exact hb2' | exact below_new hb2' (Nat.le_refl _) | fail "b2"); have j0 := cell_kept hb2 k0; have j1 := cell_kept hb2 k1; have j2 := cell_kept hb2 k2; have j3 := cell_kept hb2 k3; have j4 := cell_kept hb2 k4; have j5 := cell_kept hb2 k5; have j6 := cell_kept hb2 k6; have j7 := cell_kept hb2 k7; have j8 := cell_kept hb2 k8; have hzg2 : g < w2.heap.size := Nat.lt_of_lt_of_le hzg hb2.size; have hbw2 := hbw1.trans (hb2.mono hbw1.size); have hyin2 := hyin.keep hb2 hb2.size)
   | (go_at_call 9; (first
     | (with_reducible refine (HF w2.heap.size (w2.alloc (.cells #[.string (ByteArray.mk #[97]), .string (ByteArray.mk #[97, 32, 83, 69, 76, 69, 67, 84])] 43)) (hbw2.alloc hbw2.size _) (hyin2.keep ((Below.refl _ _).alloc (Nat.le_refl _) _) (by simp)) hys (heap_alloc_new w2 _)).out.mono ?_)
     | (with_reducible refine (HF w1.heap.size w2 hbw2 hyin2 hys ((hb2'.block _ (by simp)).trans (heap_alloc_new w1 _))).out.mono ?_)
     | (with_reducible refine (HF W0.heap.size w2 hbw2 hyin2 hys ((hb2.block _ (Nat.lt_of_lt_of_le (by simp) hb1'.size)).trans ((hb1'.block _ (by simp)).trans (blk_new _ _ _ rfl)))).out.mono ?_)
     | fail "which"); rintro e w3 ⟨rfl, hb3'⟩; have hb3 : Below W0.heap.size W0 w3 := (by first | exact hb1.trans ((hb2.trans (hb3'.mono hb2.size)).mono hb1.size) | exact hb1.trans ((hb2.trans ((below_new hb3' (Nat.le_refl _)).mono hb2.size)).mono hb1.size) | fail "b3"); clear HF))
  all_goals (go_wp2_with fail; go_meet)
  all_goals exact ⟨rfl, rfl, hb3⟩
 case rest =>
  obtain ⟨rfl, rfl, hbc⟩ := hcut
  have hR1 := HR.out.below hbc
  have hQ1 := (hbc.block _ hz1).trans HQ.out
  have ⟨r0, r1, r2, r3, r4, r5, r6, r7, r8⟩ := hR1.cells9
  have z2 := hR1.free 2
  have hbw1 := hb0.trans (hbc.mono hb0.size)
  have hzc0 : w.heap.size < wc.heap.size := Nat.lt_of_lt_of_le hz0 hbc.size
  have hzc1 : w.heap.size + 1 < wc.heap.size := Nat.lt_of_lt_of_le hz1 hbc.size
  have HR1 := Lib.hid hR1
  have HQ1 := Lib.hid hQ1
  clear hR1 hQ1 HR HQ HW0 HFIRST
  go_upto_region 5 with fail
  obtain ⟨W3, hW3⟩ : ∃ W3, ((wc.setCell ⟨w.heap.size, 2, none⟩ (.slice (some ⟨wc.heap.size, 0, none⟩) 1 1)).alloc (.cells #[.int .i64 6, .int .i64 0, .string (ByteArray.mk #[])] 41)) = W3 := ⟨_, rfl⟩
  have hz3 : W3.heap.size = wc.heap.size + 1 := by rw [← hW3]; simp [World.size_setCell]
  have hR3 : R9 W3 w.heap.size (.int .i64 x.r.id) (.int .i64 x.r.phase) (.slice (some ⟨wc.heap.size, 0, none⟩) 1 1) (.slice x.pA x.r.pipe.length x.pc) (.bool x.r.no) (.int .i64 x.r.op) (.string x.r.arg) (.slice x.aA x.r.acts.length x.ac) (.bool x.r.chain) := by
   rw [← hW3]
   exact (Below.heap_alloc _ _ _ (by rw [World.size_setCell]; omega)).trans (HR1.out.put2 _)
  have hQ3 : W3.heap[w.heap.size + 1]? = some (.cells #[.string m, .string t, .slice A fs.length c, .string b] 38 (0, 0)) := by
   rw [← hW3, Below.heap_alloc _ _ _ (by rw [World.size_setCell]; omega), Below.heap_setCell _ _ _ _ (by show w.heap.size + 1 ≠ w.heap.size; omega)]
   exact HQ1.out
  have hV3 : W3.heap[wc.heap.size]? = some (.cells #[.int .i64 6, .int .i64 0, .string (ByteArray.mk #[])] 41 (0, 0)) := by
   rw [← hW3]
   exact blk_new _ _ _ (by rw [World.size_setCell])
  have hb3 : Below w.heap.size w W3 := by
   rw [← hW3]
   exact (hbw1.setCell (p := ⟨w.heap.size, 2, none⟩) (Nat.le_refl _) _).alloc (by rw [World.size_setCell]; omega) _
  have HK : Hid (∀ W, Below W3.heap.size W3 W → W.cell? ⟨w.heap.size, 0, none⟩ = some (.int .i64 x.r.id) ∧ W.cell? ⟨w.heap.size, 1, none⟩ = some (.int .i64 x.r.phase) ∧ W.cell? ⟨w.heap.size, 2, none⟩ = some (.slice (some ⟨wc.heap.size, 0, none⟩) 1 1) ∧ W.cell? ⟨w.heap.size, 3, none⟩ = some (.slice x.pA x.r.pipe.length x.pc) ∧ W.cell? ⟨w.heap.size, 4, none⟩ = some (.bool x.r.no) ∧ W.cell? ⟨w.heap.size, 5, none⟩ = some (.int .i64 x.r.op) ∧ W.cell? ⟨w.heap.size, 6, none⟩ = some (.string x.r.arg) ∧ W.cell? ⟨w.heap.size, 7, none⟩ = some (.slice x.aA x.r.acts.length x.ac) ∧ W.cell? ⟨w.heap.size, 8, none⟩ = some (.bool x.r.chain) ∧ W.cell? ⟨w.heap.size + 1, 0, none⟩ = some (.string m) ∧ W.cell? ⟨w.heap.size + 1, 1, none⟩ = some (.string t) ∧ W.cell? ⟨w.heap.size + 1, 2, none⟩ = some (.slice A fs.length c) ∧ W.cell? ⟨w.heap.size + 1, 3, none⟩ = some (.string b)) := fun W hb => by
   have h1 := R9.cells9 (w := W) (g := w.heap.size) ((hb.block _ (by omega)).trans hR3)
   have h2 := (hb.block _ (by omega)).trans hQ3
   obtain ⟨g0, g1, g2, g3, g4, g5, g6, g7, g8⟩ := h1
   exact ⟨g0, g1, g2, g3, g4, g5, g6, g7, g8, cell_of_row _ _ 0 _ _ _ h2, cell_of_row _ _ 1 _ _ _ h2, cell_of_row _ _ 2 _ _ _ h2, cell_of_row _ _ 3 _ _ _ h2⟩
  obtain ⟨C, hC⟩ : ∃ C, codeM (oneR' x ⟨wc.heap.size, 0, none⟩ x.r.no) = C := ⟨_, rfl⟩
  obtain ⟨P, hP⟩ : ∃ P, hitX x.r.pipe x.r.no (tstO x.r.op x.r.arg) = P := ⟨_, rfl⟩
  have HZL : Hid (∀ l : List Pair, l.length ≤ (list ++ more).length → ValSz t fs l [] 0 0) := fun l hl => ⟨HZ.out.zt, HZ.out.zf, HZ.out.each, Nat.le_trans hl HZ.out.zl, HZ.out.zk, HZ.out.zc, HZ.out.zs⟩
  have HMAT : Hid (∀ W (l : List Pair) (Al' : Option Addr) (c' : Nat), Below W3.heap.size W3 W → Sl W W.heap.size 2 Al' l.length (l.flatMap cellsA) → l.length ≤ (list ++ more).length →
    Calls Tryz.prog 9 #[.agg #[.int .i64 x.r.id, .int .i64 x.r.phase, .slice (some ⟨wc.heap.size, 0, none⟩) 1 1, .slice x.pA x.r.pipe.length x.pc, .bool x.r.no, .int .i64 x.r.op, .string x.r.arg, .slice x.aA x.r.acts.length x.ac, .bool x.r.chain], .agg #[.string m, .string t, .slice A fs.length c, .string b], .int .u32 0, .int .i64 0, .slice Al' l.length c', .slice none 0 0] W (MatP C (if C = 0 then l.any P else false) W)) := fun W l Al' c' hb hsl hl => by
   have hbw := hb3.trans (hb.mono hb3.size)
   have h := list_first x wc.heap.size m t b fs A c l Al' c' W (HIN.out.keep hbw hbw.size) HS.out ((hb.block _ (by omega)).trans hV3) ⟨(HV.out.f.below hbw).more hbw.size, hsl, Sl.nil _ _ _ _, HV.out.lib.below hbw, HV.out.tab.below hbw⟩ (HZL.out l hl)
   rw [hC, hP] at h
   exact h
  have HLEN : Hid ((list ++ more).length ≤ 4194304) := HZ.out.zl
  have HL : Hid (∀ W, Below W3.heap.size W3 W → Sl W W.heap.size 2 Al list.length (list.flatMap cellsA) ∧ Sl W W.heap.size 2 Am more.length (more.flatMap cellsA)) := fun W hb => by
   have hbw := hb3.trans (hb.mono hb3.size)
   exact ⟨(HV.out.l.below hbw).more hbw.size, (HMO.out.below hbw).more hbw.size⟩
  have HB3 := Lib.hid hb3
  have HW3 := Lib.hid hW3
  have K3 := HK.out W3 (Below.refl _ _)
  obtain ⟨a1, ha1⟩ : ∃ a1 : Bool, (if C = 0 then list.any P else false) = a1 := ⟨_, rfl⟩
  obtain ⟨a2, ha2⟩ : ∃ a2 : Bool, (if C = 0 then (list ++ more).any P else false) = a2 := ⟨_, rfl⟩
  have HIMP : Hid (a1 = true → a2 = true) := fun h => by
   rw [← ha1] at h
   rw [← ha2]
   split at h
   · rename_i h0
     rw [if_pos h0, List.any_append, h, Bool.true_or]
   · cases h
  have HZERO : Hid (C ≠ 0 → a1 = false ∧ a2 = false) := fun h => ⟨by rw [← ha1, if_neg h], by rw [← ha2, if_neg h]⟩
  have HM1 : Hid (Calls Tryz.prog 9 #[.agg #[.int .i64 x.r.id, .int .i64 x.r.phase, .slice (some ⟨wc.heap.size, 0, none⟩) 1 1, .slice x.pA x.r.pipe.length x.pc, .bool x.r.no, .int .i64 x.r.op, .string x.r.arg, .slice x.aA x.r.acts.length x.ac, .bool x.r.chain], .agg #[.string m, .string t, .slice A fs.length c, .string b], .int .u32 0, .int .i64 0, .slice Al list.length c1, .slice none 0 0] W3 (MatP C a1 W3)) := by
   have := HMAT.out W3 list Al c1 (Below.refl _ _) (HL.out W3 (Below.refl _ _)).1 (by rw [List.length_append]; omega)
   rw [ha1] at this
   exact this
  have HM2 : Hid (∀ W (Al' : Option Addr) (c' : Nat), Below W3.heap.size W3 W → Sl W W.heap.size 2 Al' (list ++ more).length ((list ++ more).flatMap cellsA) → Calls Tryz.prog 9 #[.agg #[.int .i64 x.r.id, .int .i64 x.r.phase, .slice (some ⟨wc.heap.size, 0, none⟩) 1 1, .slice x.pA x.r.pipe.length x.pc, .bool x.r.no, .int .i64 x.r.op, .string x.r.arg, .slice x.aA x.r.acts.length x.ac, .bool x.r.chain], .agg #[.string m, .string t, .slice A fs.length c, .string b], .int .u32 0, .int .i64 0, .slice Al' (list.length + more.length) c', .slice none 0 0] W (MatP C a2 W)) := fun W Al' c' hb hsl => by
   have := HMAT.out W (list ++ more) Al' c' hb hsl (Nat.le_refl _)
   rw [ha2, List.length_append] at this
   exact this
  clear hW3 hR3 hQ3 hV3 hb3 hC hP ha1 ha2 HMAT HZL HR1 HQ1 r0 r1 r2 r3 r4 r5 r6 r7 r8 z2 hz3 HZ HV HIN HS HMO hb0 hbc hbw1
  rw [HW3.out]
  have ⟨k0, k1, k2, k3, k4, k5, k6, k7, k8, j0, j1, j2, j3⟩ := K3
  go_wp2_with (go_at_call 9; apply Hid.out)
  unfold Hid
  refine HM1.out.mono ?_
  rintro e w4 ⟨rfl, hb4⟩
  have K4 := HK.out w4 hb4
  have HB4 := Lib.hid hb4
  obtain ⟨hs4, _⟩ := HL.out w4.drew hb4.drew
  have HCL := Lib.hid (CloneA_any Al list.length c1 (list.flatMap cellsA) w4.drew hs4 (cellsA_one list) (by have := HLEN.out; rw [List.length_append] at this; omega))
  have hz34 := hb4.size
  have HNM : Hid (list.length + more.length ≤ 4194304) := by unfold Hid; have := HLEN.out; rw [List.length_append] at this; exact this
  clear K3 k0 k1 k2 k3 k4 k5 k6 k7 k8 j0 j1 j2 j3 HM1 HW3 hs4
  go_upto_region 6 with fail
  go_region_held3 (fun w' => w'.cell? ⟨w.heap.size, 0, none⟩ = some (.int .i64 x.r.id) ∧ w'.cell? ⟨w.heap.size, 1, none⟩ = some (.int .i64 x.r.phase) ∧ w'.cell? ⟨w.heap.size, 2, none⟩ = some (.slice (some ⟨wc.heap.size, 0, none⟩) 1 1) ∧ w'.cell? ⟨w.heap.size, 3, none⟩ = some (.slice x.pA x.r.pipe.length x.pc) ∧ w'.cell? ⟨w.heap.size, 4, none⟩ = some (.bool x.r.no) ∧ w'.cell? ⟨w.heap.size, 5, none⟩ = some (.int .i64 x.r.op) ∧ w'.cell? ⟨w.heap.size, 6, none⟩ = some (.string x.r.arg) ∧ w'.cell? ⟨w.heap.size, 7, none⟩ = some (.slice x.aA x.r.acts.length x.ac) ∧ w'.cell? ⟨w.heap.size, 8, none⟩ = some (.bool x.r.chain) ∧ w'.cell? ⟨w.heap.size + 1, 0, none⟩ = some (.string m) ∧ w'.cell? ⟨w.heap.size + 1, 1, none⟩ = some (.string t) ∧ w'.cell? ⟨w.heap.size + 1, 2, none⟩ = some (.slice A fs.length c) ∧ w'.cell? ⟨w.heap.size + 1, 3, none⟩ = some (.string b))
   (first | exact K4 | exact K5 | exact K6 | exact K7 | go_keep | fail "keep")
   (first | (go_at_call 13; (with_reducible refine HCL.out.mono ?_); rintro e w5 ⟨v5, rfl, hO5, hb5'⟩; have hO5 : OwnA w5 w4.heap.size v5 list := hO5; have hb5 : Below w4.heap.size w4 w5 := undrew hb5'; have hb35 : Below W3.heap.size W3 w5 := HB4.out.trans (hb5.mono hz34); have K5 := HK.out w5 hb35; have hs5 := (HL.out w5 hb35).2; have hz5 := hb5.size) | (refine step_append_sl rfl (.tmp 46) (.tmp 47) rfl w4.heap.size v5 list rfl hO5 hz5 Am c2 more rfl hs5 HNM.out ?_; intro v6 w6 hO6 hb6 hk6 hz6; have hb36 : Below W3.heap.size W3 w6 := hb35.trans (hb6.mono hz34); have K6 := HK.out w6 hb36; obtain ⟨A6, c6, rfl, hsl6⟩ := hO6.form; have HM6 := HM2.out w6 A6 c6 hb36 hsl6) | (go_at_call 9; (with_reducible refine HM6.mono ?_); rintro e w7 ⟨rfl, hb7⟩; have hb37 : Below W3.heap.size W3 w7 := hb36.trans (hb7.mono hb36.size); have K7 := HK.out w7 hb37) | fail "arm")
  have hbz := HB3.out.trans (hb37.mono HB3.out.size)
  clear HM6 HM2 HK HL HCL HB4 HB3 K4 K5 K6 K7 hO5 hO6 hsl6 hs5 hb37 hb36 hb35 hb5 hb5' hb6 hb7 hk6 HLEN HNM
  by_cases hC : C = 0
  rotate_left
  · have n0 : (C != 0) = true := bne_iff_ne.2 hC
    have n1 : (C == 0) = false := beq_eq_false_iff_ne.2 hC
    obtain ⟨rfl, rfl⟩ := HZERO.out hC
    clear hC HZERO HIMP
    go_wp2_with fail
    go_ret
    exact ⟨by simp, hbz⟩
  · subst hC
    clear HZERO
    have HI := HIMP.out
    clear HIMP
    cases a1 <;> cases a2
    case true.false => exact absurd (HI rfl) (by decide)
    all_goals
     clear HI
     go_wp2_with fail
     go_ret
     exact ⟨by simp, hbz⟩
theorem engineMore_any (x : RuM) (q : RqV) (a b : GArg) (w : World) {v1 v2 v3 v4 : Value} (hx : RuleArg w v1 x) (hs : RuSmall x.r) (y : ReqArg w v2 q) (hq : ReqBulk q) (za : ArgsArg w v3 a) (ha : bulkA a.l ≤ 1048576 ∧ a.l.length ≤ 1048576) (zb : ArgsArg w v4 b) (hb : bulkA b.l ≤ 1048576 ∧ b.l.length ≤ 1048576) (hlib : LibOk w)
  (ht : Lib.TabIs Tryz.prog w "internal/strconv.uint64pow10" .u64 Lib.pow10Tab) :
  Calls Tryz.prog 4 #[.agg (cellsRu x).toArray, .agg #[.string q.m, .string q.t, .slice q.A q.fs.length q.c, .string q.b], .slice a.A a.l.length a.c, .slice b.A b.l.length b.c] w fun e w' => e = .returned (.bool true) ∧ Below w.heap.size w w' :=
 engineMore_walk x q.m q.t q.b q.fs q.A q.c a.l a.A a.c b.l b.A b.c w hx.lies hs ⟨y.sl, za.sl, Sl.nil _ _ _ _, hlib, TabOk.of ht⟩ ⟨by have := hq.t; omega, by have := hq.n; omega, fun f hf => (y.sizes f hf).1, by rw [List.length_append]; have := ha.2; have := hb.2; omega, by decide, by decide, by decide⟩ zb.sl
end Go.Proofs.YthfjmlcjkbgboaaGreatDoor
