/- maker.level walked. -/
import Derived.Test.YtipkelbbfgidhaaGreatDoorPhC
import Derived.Test.YtipkelbbfgidhaaGreatDoorHldU
import Derived.BigRegion
import Derived.Deep.RegionHeld3
import Derived.Deep.CutRange
namespace Go.Proofs.YtipkelbbfgidhaaGreatDoor
open Go.RowKit

set_option maxRecDepth 100000 in
set_option maxHeartbeats 1600000 in
theorem level_calls (ws : List ByteArray) (n : Nat) (hn : n < 40) (hws : ws.length ≤ 30) (hw0 : 0 < ws.length) (A : Option Addr) (c B gm bm ga ca g cap : Nat) (ns : List NodeP) (ss : List (List UInt8)) (l : List (EdgeK × Nat)) (ats : List Nat) (w : World)
    (hS : Sl w B 1 A ws.length (ws.map Value.string)) (hL : LevAt w B gm bm ga ca ws n g cap ns ss l ats) :
    Calls Tryz.prog 50 #[.pointer (some ⟨gm, 0, none⟩), .slice A ws.length c, .int .i64 (n : Int)] w (LevelPost B gm bm ga ca ws n w) := by
  obtain ⟨b, off, rfl, hbB, _⟩ := sl_word hS hw0
  have hlen : ats.length = ws.length := by have := hL.ats.len; rw [this, lstS, List.length_map]
  have HS := Lib.hid hS
  have HL := Lib.hid hL
  clear hS hL
  go_enter Tryz.func50, Tryz.ntmps50
  go_wp2_with fail
  go_loopw [7, 17] (fun v i wr => Rel1 ws n ats w v i wr) (fun _ i _ => ws.length - (intOf i).toNat)
  case atStart => exact ⟨0, Nat.zero_le _, rfl, Below.refl _ _, OwnG.nil _ _ _⟩
  case round =>
    obtain ⟨k, hk, rfl, hb, hO⟩ := hrel
    by_cases hkl : k < ws.length
    · have HO := Lib.hid hO
      have hb1 : B ≤ w.heap.size := Nat.le_trans HL.out.mkr.base.1 (Nat.le_of_lt HL.out.mkr.lt.1)
      obtain ⟨_, _, e, _, hc⟩ := sl_word (HS.out.below (hb.mono hb1)) hkl
      injection e with e
      injection e with e1 e2 _
      subst e1; subst e2
      have hM := HL.out.mkr.below hb
      have hcell := (hM.at k (by omega)).1
      obtain ⟨_, _, hm2, _⟩ := hM.cells
      have hlt := hM.lt
      have hgl := gath_len (lstS ws) n ats k
      have HG1 := Lib.hid fun h => gath_pass (ws := ws) (n := n) (ats := ats) hkl h
      have HG2 := Lib.hid fun h => gath_add (ws := ws) (n := n) (ats := ats) hkl (by omega) h
      clear hM hO
      generalize ws[k] = s at hc HG1 HG2
      generalize ats[k] = a at hcell HG1 HG2
      by_cases hns : n < s.size
      · have HP := Lib.hid (HG2.out hns)
        clear HG1 HG2
        generalize hx : s[n] = x at HP
        have hbx : wr.heap.size < (wr.alloc (.cells #[.int .i64 (a : Int), .int .u8 x.toNat] 122)).drew.heap.size := by simp
        have hW : Below wr.heap.size wr (wr.alloc (.cells #[.int .i64 (a : Int), .int .u8 x.toNat] 122)).drew := ((Below.refl _ _).alloc (Nat.le_refl _) _).drew
        have hbl := heap_alloc_new wr (.cells #[.int .i64 (a : Int), .int .u8 x.toNat] 122)
        have hsz := hb.size
        have HH : Hid (Calls Tryz.prog 72 #[u7, .agg #[.int .i64 (a : Int), .int .u8 x.toNat]] (wr.alloc (.cells #[.int .i64 (a : Int), .int .u8 x.toNat] 122)).drew fun r w' => r = .returned (.bool (decide ((a, x) ∈ gath (lstS ws) n ats k))) ∧ Below (wr.alloc (.cells #[.int .i64 (a : Int), .int .u8 x.toNat] 122)).drew.heap.size (wr.alloc (.cells #[.int .i64 (a : Int), .int .u8 x.toNat] 122)).drew w') := Lib.hid (edge_has (HO.out.below hW) (by omega) (a, x))
        by_cases hin : (a, x) ∈ gath (lstS ws) n ats k
        · rw [decide_eq_true hin] at HH
          rw [if_pos hin] at HP
          go_wp2_with fail
          go_region
          go_wp2_with (go_at_call 72; refine HH.out.mono ?_; rintro e w2 ⟨rfl, hb2⟩)
          exact ⟨⟨k + 1, by omega, rfl, (hb.trans (hW.mono hsz)).trans (hb2.mono (by simp; omega)), by rw [HP.out]; exact (HO.out.below hW).below hb2⟩, by simp [intOf] <;> omega⟩
        · rw [decide_eq_false hin] at HH
          rw [if_neg hin] at HP
          go_wp2_with fail
          go_region
          go_wp2_with (first | (go_at_call 72; refine HH.out.mono ?_; rintro e w2 ⟨rfl, hb2⟩; have hbk := (hb2.block wr.heap.size hbx).trans hbl; have hc0 := cell_of_row w2 wr.heap.size 0 _ _ _ hbk; have hc1 := cell_of_row w2 wr.heap.size 1 _ _ _ hbk; have hO2 := (HO.out.below hW).below hb2; have hz2 := hb2.size; simp at hz2) | (at_builtin; refine wpList_append_g rowE rfl _ _ rfl w.heap.size _ (gath (lstS ws) n ats k) rfl hO2 (by omega) _ (a, x) rfl w2.heap.size rfl 1 rfl (by omega) ?_; intro v' w3 hO3 hb3 hk3 hz3))
          exact ⟨⟨k + 1, by omega, rfl, ((hb.trans (hW.mono hsz)).trans (hb2.mono (by simp; omega))).trans hb3, by rw [HP.out]; exact hO3⟩, by simp [intOf] <;> omega⟩
      · have HP := Lib.hid (HG1.out hns)
        clear HG1 HG2
        go_wp2_with fail
        exact ⟨⟨k + 1, by omega, rfl, hb, by rw [HP.out]; exact HO.out⟩, by simp [intOf] <;> omega⟩
    · obtain rfl : k = ws.length := by omega
      have HR := Lib.hid (sort_row hO hb.size (gath_small HL.out.lev.inv HL.out.ats HL.out.few) (by have := gath_len (lstS ws) n ats ws.length; omega))
      have HP := Lib.hid (hO.form)
      have hvl := hO.form
      obtain ⟨A0, c0, rfl, _⟩ := hvl
      have hb1 : B ≤ w.heap.size := Nat.le_trans HL.out.mkr.base.1 (Nat.le_of_lt HL.out.mkr.lt.1)
      clear hO HP
      go_wp2_with (go_at_call 73; refine HR.out.mono ?_; rintro e w1 ⟨rfl, hb2, es, hperm, hE⟩)
      have hzl := hperm.length_eq
      have HE : Hid (EdgesOf (lstS ws) n ats es) := Lib.hid (EdgesOf.perm (by have := gath_edges (lstS ws) n ats; rwa [show (lstS ws).length = ws.length by rw [lstS, List.length_map]] at this) hperm)
      have hbw := hb.trans hb2
      have hM1 := HL.out.mkr.below hbw
      clear HR hb hb2 hkl hk
      have hel : es.length ≤ 30 := by have := gath_len (lstS ws) n ats ws.length; omega
      generalize (gath (lstS ws) n ats ws.length).length = m at *
      subst hzl
      go_loopw [50] (fun i wr => Rel2 B gm bm ga ca ws n ats w es ss (.slice A0 es.length c0) i wr) (fun i _ => es.length - (intOf i).toNat)
      case atStart => exact ⟨0, g, cap, ns, ss, l, Nat.zero_le _, rfl, hbw.mono hb1, hE, hM1, ⟨HL.out.lev.inv, by simp⟩, HL.out.next, HL.out.few⟩
      case round =>
        obtain ⟨k, g2, cap2, ns2, ss2, l2, hk, rfl, hb3, hE2, hM2, hMid, hNext, hfew⟩ := hrel
        have HB3 := Lib.hid hb3
        clear hbw hM1 hE hb3
        by_cases hkl : k < es.length
        · obtain ⟨p, hp1, hp2, hp3, hp4⟩ := hMid.next HL.out.lev HL.out.ats HE.out hkl
          obtain ⟨gE, csE, fzE, cE, heE, hgE, hbE, hcE0, hcE1⟩ := hE2.at k hkl
          injection heE with e1 e2 e3
          subst e1; subst e3
          obtain ⟨hc0, hc1, hc2, hf0⟩ := hM2.cells
          rw [List.length_map] at hc0
          have HM := Lib.hid hM2
          have HE2 := Lib.hid hE2
          have HMid := Lib.hid hMid
          have HN := Lib.hid hNext
          clear hM2 hE2 hMid hNext hperm e2
          have hlt := HM.out.lt
          have HES : Hid (es[k]? = some es[k]) := Lib.hid (List.getElem?_eq_getElem hkl)
          generalize he : es[k] = e at *
          obtain ⟨up, x⟩ := e
          dsimp only at hp1 hp2 hp3 hcE0 hcE1
          by_cases h4 : ns2.length = 400
          · rw [h4] at hc0
            have hzw : B ≤ wr.heap.size := Nat.le_trans hb1 (Nat.le_trans (Nat.le_of_lt (by have := hgE; have := (Array.getElem?_eq_some_iff.1 hbE).1; omega)) (Nat.le_refl _))
            go_wp2_with fail
            go_ret
            exact ⟨HB3.out.alloc hzw _, .inl ⟨rfl, HMid.out.full HL.out.lev HL.out.ats HE.out hkl h4⟩⟩
          · have h4f : (ns2.length == 400) = false := beq_eq_false_iff_ne.2 h4
            have h4i : ((ns2.length : Int) == 400) = false := beq_eq_false_iff_ne.2 (by omega)
            have hzw : w.heap.size < wr.heap.size := by have := (Array.getElem?_eq_some_iff.1 hbE).1; omega
            have hnk := no_kid HMid.out.inv HN.out hp1 hp3
            obtain ⟨o, hput⟩ := run_put_edges HM.out.map ((up : Int), x) ns2.length ⟨by omega, by have := HMid.out.inv.lt hp1; show (up : Int) < _; omega⟩ hnk
            have hput1 : (Instr.mapUpdate 92 (.map (some bm)) (.agg #[.int .i64 (up : Int), .int .u8 x.toNat]) (.int .i64 (ns2.length : Int))).run Tryz.prog (wr.alloc (.cells #[.int .i64 (up : Int), .int .u8 x.toNat] 122)).drew = .ok () (ChangeMaps.setBlock (wr.alloc (.cells #[.int .i64 (up : Int), .int .u8 x.toNat] 122)).drew bm o) :=
              (hput (wr.alloc (.cells #[.int .i64 (up : Int), .int .u8 x.toNat] 122)).drew (Below.heap_alloc _ _ _ hlt.2.2.2)).1
            have hput2 := (hput (wr.alloc (.cells #[.int .i64 (up : Int), .int .u8 x.toNat] 122)).drew (Below.heap_alloc _ _ _ hlt.2.2.2)).2
            clear hput
            go_upto_region 16 with fail
            go_wp2_with fail
            go_region
            have hbwW : Below B wr (ChangeMaps.setBlock (wr.alloc (.cells #[.int .i64 (up : Int), .int .u8 x.toNat] 122)).drew bm o) := ((Below.refl _ _).alloc (by omega) _).drew.trans (below_setBlock _ _ _ _ HM.out.low.2)
            have hbox : (ChangeMaps.setBlock (wr.alloc (.cells #[.int .i64 (up : Int), .int .u8 x.toNat] 122)).drew bm o).heap[wr.heap.size]? = some (.cells #[.int .i64 (up : Int), .int .u8 x.toNat] 122) :=
              (put_kept _ _ _ _ (by omega)).trans (heap_alloc_new wr (.cells #[.int .i64 (up : Int), .int .u8 x.toNat] 122))
            have hkp : ∀ j, j < wr.heap.size → bm ≠ j → (ChangeMaps.setBlock (wr.alloc (.cells #[.int .i64 (up : Int), .int .u8 x.toNat] 122)).drew bm o).heap[j]? = wr.heap[j]? := fun j hj hne =>
              (put_kept _ _ _ _ hne).trans (Below.heap_alloc wr (.cells #[.int .i64 (up : Int), .int .u8 x.toNat] 122) j hj)
            have hMM := (HM.out.below (((Below.refl _ _).alloc (Nat.le_refl _) (.cells #[.int .i64 (up : Int), .int .u8 x.toNat] 122)).drew)).put hput2
            have hzW : wr.heap.size < (ChangeMaps.setBlock (wr.alloc (.cells #[.int .i64 (up : Int), .int .u8 x.toNat] 122)).drew bm o).heap.size := (Array.getElem?_eq_some_iff.1 hbox).1
            clear hput1 hput2
            generalize ChangeMaps.setBlock (wr.alloc (.cells #[.int .i64 (up : Int), .int .u8 x.toNat] 122)).drew bm o = W2 at *
            have hEg : ∀ (j : Nat) cs fz, wr.heap[j]? = some (.cells cs 122 fz) → bm ≠ j := fun j cs fz hj e => by
              obtain ⟨es', ck, hb', _⟩ := HM.out.map
              rw [e, hj] at hb'
              cases hb'
            have HE3 := Lib.hid (HE2.out.keep fun j cs fz hj => hkp j (some_lt hj) (hEg j cs fz hj))
            have hF := Lib.hid (fail_any HMid.out.inv HN.out hfew hp1 hp3 ns2.length (w := W2.drew) (by have := hMM.toF; rw [map_nilE] at this; exact this.drew))
            have hb0 := cell_of_row W2 wr.heap.size 0 _ _ _ hbox
            have hb1' := cell_of_row W2 wr.heap.size 1 _ _ _ hbox
            obtain ⟨hd0, _, _, hdf⟩ := hMM.cells
            rw [List.length_map] at hd0
            have HMM := Lib.hid hMM
            have hlt2 := hMM.lt
            clear hMM hc0 hc1 hc2 hf0 hcE0 hcE1 hkp hEg
            go_upto_region 17 with fail
            have hgn := HMM.out.ne.1
            have HFIN := Lib.hid (Rel2.step hkl he HB3.out hbwW HE3.out HMM.out HMid.out HN.out hfew h4 hp1 hp2 hp3 hp4)
            have hHK := Lib.hid (fun (w3 : World) (h3 : Below W2.heap.size W2 w3) => HMM.out.below h3)
            have hg2 : wr.heap.size ≠ g2 := by omega
            have hSW : W2.drew.cell? ⟨gm, 0, none⟩ = some (.slice (some ⟨g2, 0, none⟩) ns2.length cap2) ∧ W2.drew.cell? ⟨wr.heap.size, 0, none⟩ = some (.int .i64 (up : Int)) ∧ W2.drew.cell? ⟨wr.heap.size, 1, none⟩ = some (.int .u8 x.toNat) := ⟨hd0, hb0, hb1'⟩
            refine wp_region_U 14 (fun w' => w'.cell? ⟨gm, 0, none⟩ = some (.slice (some ⟨g2, 0, none⟩) ns2.length cap2) ∧ w'.cell? ⟨wr.heap.size, 0, none⟩ = some (.int .i64 (up : Int)) ∧ w'.cell? ⟨wr.heap.size, 1, none⟩ = some (.int .u8 x.toNat)) (by kernel_rfl) hSW ?_
            intro hS0
            refine wpAnyU_pure (i := 0) (v := ?v0) (some 70) rfl rfl (by kernel_rfl) (by kernel_rfl) (by kernel_rfl) (by decide) (fun _ _ _ h => h) (by rfl) ?hy0 (by assumption) ?rest0
            case hy0 => (intro w; go_simp; try rfl)
            intro hS0
            simp only [Act.put, List.setIfInBounds_toArray, List.set_cons_zero, List.set_cons_succ]
            refine wpAnyU_pure (i := 1) (v := ?v1) (some 71) rfl rfl (by kernel_rfl) (by kernel_rfl) (by kernel_rfl) (by decide) (fun _ _ _ h => h) (by rfl) ?hy1 (by assumption) ?rest1
            case hy1 => (intro w; go_simp; try rfl)
            intro hS1
            simp only [Act.put, List.setIfInBounds_toArray, List.set_cons_zero, List.set_cons_succ]
            refine wpAnyU_pure (i := 2) (v := ?v2) (some 72) rfl rfl (by kernel_rfl) (by kernel_rfl) (by kernel_rfl) (by decide) (fun _ _ _ h => h) (by rfl) ?hy2 (by assumption) ?rest2
            case hy2 => (intro w; go_simp; try rfl)
            intro hS2
            simp only [Act.put, List.setIfInBounds_toArray, List.set_cons_zero, List.set_cons_succ]
            refine wpAnyU_pure (i := 3) (v := ?v3) (some 73) rfl rfl (by kernel_rfl) (by kernel_rfl) (by kernel_rfl) (by decide) (fun _ _ _ h => h) (by rfl) ?hy3 (by assumption) ?rest3
            case hy3 => (intro w; go_simp; try rfl)
            intro hS3
            simp only [Act.put, List.setIfInBounds_toArray, List.set_cons_zero, List.set_cons_succ]
            refine wpAnyU_load (i := 4) (v := ?v4) [14] (some 74) rfl rfl (by kernel_rfl) (by kernel_rfl) (by kernel_rfl) (by decide) (by kernel_rfl) (by decide) (by kernel_rfl) (fun _ _ _ h => h) (by rfl) ?hy4 (by assumption) ?rest4
            case hy4 => (intro w hSw; (try dsimp only at hSw); go_simp; try rfl)
            intro hS4
            simp only [Act.put, List.setIfInBounds_toArray, List.set_cons_zero, List.set_cons_succ]
            refine wpAnyU_pure (i := 5) (v := ?v5) (some 75) rfl rfl (by kernel_rfl) (by kernel_rfl) (by kernel_rfl) (by decide) (fun _ _ _ h => h) (by rfl) ?hy5 (by assumption) ?rest5
            case hy5 => (intro w; go_simp; try rfl)
            intro hS5
            simp only [Act.put, List.setIfInBounds_toArray, List.set_cons_zero, List.set_cons_succ]
            refine wpAnyU_load (i := 6) (v := ?v6) [12, 13, 14] (some 76) rfl rfl (by kernel_rfl) (by kernel_rfl) (by kernel_rfl) (by decide) (by kernel_rfl) (by decide) (by kernel_rfl) (fun _ _ _ h => h) (by rfl) ?hy6 (by assumption) ?rest6
            case hy6 => (intro w hSw; (try dsimp only at hSw); go_simp; try rfl)
            intro hS6
            simp only [Act.put, List.setIfInBounds_toArray, List.set_cons_zero, List.set_cons_succ]
            refine wpAnyU_pure (i := 7) (v := ?v7) (some 77) rfl rfl (by kernel_rfl) (by kernel_rfl) (by kernel_rfl) (by decide) (fun _ _ _ h => h) (by rfl) ?hy7 (by assumption) ?rest7
            case hy7 => (intro w; go_simp; try rfl)
            intro hS7
            simp only [Act.put, List.setIfInBounds_toArray, List.set_cons_zero, List.set_cons_succ]
            refine wpAnyU_load (i := 8) (v := ?v8) [12, 13, 14] (some 78) rfl rfl (by kernel_rfl) (by kernel_rfl) (by kernel_rfl) (by decide) (by kernel_rfl) (by decide) (by kernel_rfl) (fun _ _ _ h => h) (by rfl) ?hy8 (by assumption) ?rest8
            case hy8 => (intro w hSw; (try dsimp only at hSw); go_simp; try rfl)
            intro hS8
            simp only [Act.put, List.setIfInBounds_toArray, List.set_cons_zero, List.set_cons_succ]
            refine wpAnyU_pure (i := 9) (v := ?v9) (some 79) rfl rfl (by kernel_rfl) (by kernel_rfl) (by kernel_rfl) (by decide) (fun _ _ _ h => h) (by rfl) ?hy9 (by assumption) ?rest9
            case hy9 => (intro w; go_simp; try rfl)
            intro hS9
            simp only [Act.put, List.setIfInBounds_toArray, List.set_cons_zero, List.set_cons_succ]
            refine wpAnyU_load (i := 10) (v := ?v10) [11, 12, 13, 14] (some 80) rfl rfl (by kernel_rfl) (by kernel_rfl) (by kernel_rfl) (by decide) (by kernel_rfl) (by decide) (by kernel_rfl) (fun _ _ _ h => h) (by rfl) ?hy10 (by assumption) ?rest10
            case hy10 => (intro w hSw; (try dsimp only at hSw); go_simp; try rfl)
            intro hS10
            simp only [Act.put, List.setIfInBounds_toArray, List.set_cons_zero, List.set_cons_succ]
            refine wpAnyU_one (i := 11) (some 81) (.call { callee := .value (.func 75), args := #[.tmp 79, .tmp 80], argTypes := #[88, 122] }) (by kernel_rfl) rfl rfl rfl (by rfl) ?_
            intro K11 hK11
            go_simp
            go_at_call 75
            refine hF.out.mono ?_
            rintro e w3 ⟨⟨r, rfl, hr⟩, hb3'⟩
            have hb3 : Below W2.heap.size W2 w3 := undrew hb3'
            have HO3 := Lib.hid (HMM.out.below hb3).own
            have hz3 := hb3.size
            refine hK11.out _ _ ⟨cell_kept hb3 hd0, cell_kept hb3 hb0, cell_kept hb3 hb1'⟩ fun hS11 => ?_
            try simp only [Act.put, List.setIfInBounds_toArray, List.set_cons_zero, List.set_cons_succ]
            refine wpAnyU_pure (i := 12) (v := ?v12) (some 82) rfl rfl (by kernel_rfl) (by kernel_rfl) (by kernel_rfl) (by decide) (fun _ _ _ h => h) (by rfl) ?hy12 (by assumption) ?rest12
            case hy12 => (intro w; go_simp; try rfl)
            intro hS12
            try simp only [Act.put, List.setIfInBounds_toArray, List.set_cons_zero, List.set_cons_succ]
            refine wpAnyU_one (i := 13) (some 83) (.buildSlice 49 1 #[(0, .tmp 82)]) (by kernel_rfl) rfl rfl rfl (by rfl) ?_
            intro K13 hK13
            go_simp
            refine hK13.out _ _ ⟨cell_kept ((Below.refl _ _).alloc (Nat.le_refl _) _) hS11.1, cell_kept ((Below.refl _ _).alloc (Nat.le_refl _) _) hS11.2.1, cell_kept ((Below.refl _ _).alloc (Nat.le_refl _) _) hS11.2.2⟩ fun hS13 => ?_
            try simp only [Act.put, List.setIfInBounds_toArray, List.set_cons_zero, List.set_cons_succ]
            refine wpAnyU_late (i := 14) (some 84) (.call { callee := .builtin .append, args := #[.tmp 74, .tmp 83], argTypes := #[49, 49] }) (by kernel_rfl) rfl rfl rfl (by rfl) (by kernel_rfl) ?_
            intro K14 hK14
            refine wp_append_g rowN (.tmp 74) (.tmp 83) rfl B (.slice (some ⟨g2, 0, none⟩) ns2.length cap2) (ns2.map nilE) rfl (by have := HO3.out; rwa [List.length_map] at this) (by have := hb3.size; omega) _ (nilE ⟨x, up, r⟩) rfl _ rfl 1 rfl (by rw [List.length_map]; omega) ?_
            intro v4 w4 hO4 hb4 hk4 hz4
            obtain ⟨g4, c4, rfl, _, _⟩ := hO4.head (by simp)
            have hk34 : ∀ j, j < w3.heap.size → g2 ≠ j → w4.heap[j]? = w3.heap[j]? := fun j hj hne => hk4 j hj (fun e => hne (Option.some.inj e))
            have e0 : w4.cell? ⟨gm, 0, none⟩ = some (.slice (some ⟨g2, 0, none⟩) ns2.length cap2) := (cell_heap (hk34 gm (by omega) (Ne.symm hgn)) 0).trans hS11.1
            have ef : w4.frozen? ⟨gm, 0, none⟩ = false := (free_heap (hk34 gm (by omega) (Ne.symm hgn)) 0).trans (hHK.out w3 hb3).cells.2.2.2
            refine hK14.out _ _ ?_
            try simp only [Act.put, List.setIfInBounds_toArray, List.set_cons_zero, List.set_cons_succ]
            refine wpAnyU_late (i := 15) (some 85) (.nilCheck (.tmp 70)) (by kernel_rfl) rfl rfl rfl (by rfl) (by kernel_rfl) ?_
            intro K15 hK15
            go_simp
            refine hK15.out _ _ ?_
            try simp only [Act.put, List.setIfInBounds_toArray, List.set_cons_zero, List.set_cons_succ]
            refine wpAnyU_late (i := 16) (some 86) (.fieldAddr 94 (.tmp 85) 0) (by kernel_rfl) rfl rfl rfl (by rfl) (by kernel_rfl) ?_
            intro K16 hK16
            go_simp
            refine hK16.out _ _ ?_
            try simp only [Act.put, List.setIfInBounds_toArray, List.set_cons_zero, List.set_cons_succ]
            refine wpAnyU_late (i := 17) none (.store 49 (.tmp 86) (.tmp 84)) (by kernel_rfl) rfl rfl rfl (by rfl) (by kernel_rfl) ?_
            intro K17 hK17
            go_simp
            refine hK17.out _ _ ?_
            refine wpAnyU_done (by kernel_rfl) ?_ _
            have HF2 := HFIN.out r w3 w4 g4 c4 hr hb3 hO4 hb4 hk34
            clear hb3 hb3' hO4 hb4 hk34 hk4 hz4 hz3 hS11 hS13
            go_wp2_with fail
            exact ⟨HF2, by simp [intOf] <;> omega⟩
        · obtain rfl : k = es.length := by omega
          obtain ⟨_, _, hmid0, _⟩ := hM2.cells
          have HM := Lib.hid hM2
          have HMid := Lib.hid hMid
          have HN := Lib.hid hNext
          have HF := Lib.hid hfew
          clear hM2 hMid hNext hE2 hperm hmid0 hkl hk hfew
          go_wp2_with fail
          go_loopw [90] (fun i wq => Rel3 B gm bm ga ca ws n w ats ns2 ss2 l2 g2 cap2 i wq) (fun i _ => ws.length - (intOf i).toNat)
          case atStart => exact ⟨0, ats, Nat.zero_le _, rfl, HB3.out, HM.out, hlen, fun j hj => absurd hj (by omega), fun _ _ => rfl⟩
          case round =>
            obtain ⟨k, ats2, hk, rfl, hb5, hM5, hlen5, hr1, hr2⟩ := hrel
            by_cases hkl : k < ws.length
            · obtain ⟨_, _, e, _, hc⟩ := sl_word (HS.out.below hb5) hkl
              injection e with e
              injection e with e1 e2 _
              subst e1; subst e2
              obtain ⟨_, hm1, hm2, _⟩ := hM5.cells
              obtain ⟨hcell, hfro⟩ := hM5.at k (by omega)
              have HP := Lib.hid (Rel3.pass HL.out.ats HMid.out hkl (hb := hb5) (hM := hM5) (hl := hlen5) (h1 := hr1) (h2 := hr2))
              have HG := Lib.hid (Rel3.go HL.out.ats HE.out HMid.out HN.out hkl (hb := hb5.drew) (hM := hM5.below (Below.refl _ _).drew) (hl := hlen5) (h1 := hr1) (h2 := hr2))
              have hmap := hM5.map
              have hga : ats2.getD k 0 = ats2[k] := by rw [List.getD_eq_getElem?_getD, List.getElem?_eq_getElem (by omega)]; rfl
              rw [hga] at HG
              have hat4 : ats2[k] < 65536 := by
                have h1 := HL.out.lev.inv.lt (HL.out.ats.str k (by rw [lstS, List.length_map]; exact hkl))
                have h2 := HL.out.few
                rw [← hr2 k (Nat.le_refl _), hga] at h1
                omega
              clear hM5 hr1 hr2 hga
              generalize ws[k] = s at hc HP HG
              generalize ats2[k] = a at hcell HG hat4
              by_cases hns : n < s.size
              · obtain ⟨q, hq1, hq2, hq3⟩ := HG.out hns
                have HQ := Lib.hid hq3
                clear HG HP hq3
                generalize hx : s[n] = x at hq1
                have hlk : (Instr.lookup 92 (.map (some bm)) (.agg #[.int .i64 (a : Int), .int .u8 x.toNat]) false).run Tryz.prog wr.drew = .ok (.int .i64 (q : Int)) wr.drew := by
                  have := run_look_edge (w := wr.drew) (MpAt.keep hmap rfl) ((a : Int), x) ⟨by omega, by show (a : Int) < _; omega⟩
                  rw [hq1] at this
                  exact this
                clear hmap
                go_wp2_with fail
                go_region
                go_wp2_with fail
                exact ⟨HQ.out, by simp [intOf] <;> omega⟩
              · have HP2 := Lib.hid (HP.out hns)
                clear HG HP
                go_wp2_with fail
                exact ⟨HP2.out, by simp [intOf] <;> omega⟩
            · obtain rfl : k = ws.length := by omega
              have HD := Lib.hid (Rel3.done HL.out.lev HL.out.ats HE.out HMid.out HN.out HF.out hb5 hM5 hlen5 hr1)
              clear hM5 hr1 hr2
              go_wp2_with fail
              go_ret
              exact HD.out
end Go.Proofs.YtipkelbbfgidhaaGreatDoor
