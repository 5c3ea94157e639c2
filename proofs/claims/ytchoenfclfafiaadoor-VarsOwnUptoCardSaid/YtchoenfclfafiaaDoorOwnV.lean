/- The walk of VarsOwn. -/
import Derived.Test.YtchoenfclfafiaaDoorRmV
import Derived.Test.YtchoenfclfafiaaDoorRmA
import Derived.Test.YtchoenfclfafiaaDoorVarE
import Derived.Test.YtchoenfclfafiaaDoorVarB
import Derived.Test.YtchoenfclfafiaaDoorVarN
import Derived.Test.YtchoenfclfafiaaDoorClA
import Derived.Test.YtchoenfclfafiaaDoorArgE
import Derived.Test.YtchoenfclfafiaaDoorOpenG
namespace Go.Proofs.YtchoenfclfafiaaDoor
open Go.RowKit

theorem cellsQ_one (l : List VarV) : ∀ u ∈ l.flatMap cellsQ, u.oneCell' = true := fun u hu => by
  obtain ⟨x, _, h⟩ := List.mem_flatMap.1 hu
  simp only [cellsQ, List.mem_cons, List.not_mem_nil, or_false] at h
  rcases h with rfl | rfl | rfl <;> rfl
theorem row_front {w : World} {base g n cap : Nat} {T : TypeId} {size k : Nat} {xs ys : List Value} (h : w.ownsRow base T size (.slice (some ⟨g, 0, none⟩) (n + k) cap) (n + k) (xs ++ ys)) (hx : xs.length = n * size) : Sl w w.heap.size size (some ⟨g, 0, none⟩) n xs := by
  refine ⟨hx, fun _ => ⟨g, 0, rfl, (h.lt g rfl).2, fun j hj => ?_⟩⟩
  have hl := h.1
  rw [List.length_append] at hl
  rw [Nat.zero_add, h.cellAt j (by omega), List.getElem?_append_left hj, List.getElem?_eq_getElem hj]
theorem stepP_len (l : List VarV) (v : VarV) (vals : List Pair) (N : Nat) (h1 : 1 ≤ N) (h : vals.length ≤ N) : (stepP l v vals).length ≤ N := by
  unfold stepP
  split
  · exact Nat.zero_le _
  · split
    · exact h1
    · exact Nat.le_trans (List.length_filter_le _ _) h
theorem allP_len (vf : VarV → List Pair) (l : List VarV) (N : Nat) (h1 : 1 ≤ N) (h : ∀ v, (vf v).length ≤ N) : ∀ s : List VarV, (allP vf l s).length ≤ s.length * N := by
  intro s
  induction s with
  | nil => exact Nat.zero_le _
  | cons v s ih =>
    unfold allP at ih ⊢
    rw [List.flatMap_cons, List.length_append, List.length_cons, Nat.succ_mul]
    have := stepP_len l v (vf v) N h1 (h v)
    omega
set_option maxRecDepth 100000 in
set_option maxHeartbeats 1600000 in
theorem spoilA_nil (f0 f1 : ByteArray) (w : World) : Calls Tryd.prog 15 #[.slice none 0 0, .agg #[.string f0, .string f1]] w fun e w' => e = .returned (.tuple #[]) ∧ Below w.heap.size w w' := by
  have hbx := (Below.refl w.heap.size w).alloc (Nat.le_refl _) (.cells #[.string f0, .string f1] 37)
  have HB := Lib.hid hbx
  clear hbx
  have d0 : decide ((0 : Int) < 0) = false := rfl
  go_enter Tryd.func15, Tryd.ntmps15
  go_wp2_with fail
  go_loopw [4, 11] (fun _ i wr => i = .int .i64 0 ∧ Below w.heap.size w wr) (fun _ i _ => (intOf i).toNat)
  case atStart => exact ⟨rfl, HB.out⟩
  case round =>
    obtain ⟨rfl, hb⟩ := hrel
    go_wp2_with fail
    exact bodyPost_end (v := .tuple #[]) (by simp [results, Tryd.results15, go_sem]) rfl ⟨rfl, hb⟩
theorem spoilA_own (f0 f1 : ByteArray) {w : World} {base n c : Nat} {A : Option Addr} {l : List Pair} (h : OwnA w base (.slice A n c) l) : Calls Tryd.prog 15 #[.slice A n c, .agg #[.string f0, .string f1]] w fun e w' => e = .returned (.tuple #[]) ∧ w.grownBy w' (Value.slice A n c).ownBlock := by
  rcases h.2 with ⟨e, _⟩ | ⟨g, cap, cur, e, h0, h1, h2, h3, h4, _⟩
  · injection e with e1 e2 e3
    subst e1; subst e2; subst e3
    exact (spoilA_nil f0 f1 w).mono fun e w' ⟨h1, h2⟩ => ⟨h1, only_below (World.grownBy.refl _ _) h2⟩
  · injection e with e1 e2 e3
    subst e1; subst e3
    exact (spoilA_any g n c f0 f1 w ⟨⟨cur, h4, h1⟩⟩ (by rw [e2]; exact h2) h3).mono fun e w' ⟨h1, _, h2⟩ => ⟨h1, h2⟩
theorem OwnA.slO {w : World} {base n c : Nat} {A : Option Addr} {l : List Pair} (h : OwnA w base (.slice A n c) l) : Sl w w.heap.size 2 A l.length (l.flatMap cellsA) := by
  obtain ⟨A', c', e, hs⟩ := h.form
  injection e with e1 e2 e3
  subst e1
  exact hs
def helloV : Value := .agg #[.string (ByteArray.mk #[71, 69, 84]), .string (ByteArray.mk #[47, 97, 63, 98, 61, 99]), .slice none 0 0, .string (ByteArray.mk #[])]
def vfO (list cook : List Pair) : VarV → List Pair := vfP (ByteArray.mk #[71, 69, 84]) (ByteArray.mk #[47, 97, 63, 98, 61, 99]) (ByteArray.mk #[]) [] 0 0 list cook
theorem sz_hello (list cook : List Pair) (h1 : list.length ≤ 1048576) (h2 : cook.length ≤ 1048576) : ValSz (ByteArray.mk #[47, 97, 63, 98, 61, 99]) [] list cook 0 0 :=
  ⟨by decide, by decide, by simp, by omega, by omega, by decide, by decide⟩
theorem all_one : (allP (vfO [] []) [⟨1, 0, ByteArray.mk #[]⟩] [⟨1, 0, ByteArray.mk #[]⟩]).length = 1 := by kernel_rfl

set_option maxRecDepth 100000 in
set_option maxHeartbeats 3200000 in
theorem varsOwn_walk (l : List VarV) (A0 : Option Addr) (c0 : Nat) (list : List Pair) (Al : Option Addr) (c1 : Nat) (w : World) (hv : Sl w w.heap.size 3 A0 l.length (l.flatMap cellsQ)) (ha : Sl w w.heap.size 2 Al list.length (list.flatMap cellsA)) (hl : l.length ≤ 1048576) (hll : list.length ≤ 1048576) (hlib : LibOk w) (htab : TabOk w) :
    Calls Tryd.prog 3 #[.slice A0 l.length c0, .slice Al list.length c1] w fun e w' => e = .returned (.bool true) ∧ Below w.heap.size w w' := by
  have hbx : ∀ W, Below w.heap.size w W → Sl W W.heap.size 3 A0 l.length (l.flatMap cellsQ) ∧ Sl W W.heap.size 2 Al list.length (list.flatMap cellsA) ∧ LibOk W ∧ TabOk W := fun W hb =>
    ⟨(hv.below hb).more hb.size, (ha.below hb).more hb.size, hlib.below hb, htab.below hb⟩
  have HBX := Lib.hid hbx
  have hb0 := (Below.refl w.heap.size w).alloc (Nat.le_refl _) (.cells #[.int .i64 1, .int .i64 0, .string (ByteArray.mk #[])] 26)
  have hs0 : Sl (w.alloc (.cells #[.int .i64 1, .int .i64 0, .string (ByteArray.mk #[])] 26)) (w.heap.size + 1) 3 (some ⟨w.heap.size, 0, none⟩) 1 (([⟨1, 0, ByteArray.mk #[]⟩] : List VarV).flatMap cellsQ) := Sl.lit rfl (Nat.lt_succ_self _) rfl rfl
  obtain ⟨W0, hW0⟩ : ∃ W0, w.alloc (.cells #[.int .i64 1, .int .i64 0, .string (ByteArray.mk #[])] 26) = W0 := ⟨_, rfl⟩
  have hz0 : w.heap.size + 1 ≤ W0.heap.size := by rw [← hW0]; simp
  rw [hW0] at hb0 hs0
  have HB0 := Lib.hid hb0
  have HS0 := Lib.hid hs0
  have HW0 := Lib.hid hW0
  clear hbx hb0 hs0 hW0 hv ha hlib htab
  go_enter Tryd.func3, Tryd.ntmps3
  go_wp2_with (go_at_call 7; apply Hid.out)
  unfold Hid
  rw [HW0.out]
  refine (hello_any W0).mono ?_
  rintro e w1 ⟨rfl, hb1⟩
  have hb01 := HB0.out.trans (hb1.mono (by omega))
  have HALL1 : Hid (Calls Tryd.prog 6 #[.slice (some ⟨w.heap.size, 0, none⟩) 1 1, .agg #[.string (ByteArray.mk #[71, 69, 84]), .string (ByteArray.mk #[47, 97, 63, 98, 61, 99]), .slice none 0 0, .string (ByteArray.mk #[])], .int .u32 0, .int .i64 0, .slice none 0 0, .slice none 0 0] w1 fun e w' => ∃ A c, e = .returned (.slice A 1 c) ∧ Below w1.heap.size w1 w') := by
    obtain ⟨_, _, hl1, ht1⟩ := HBX.out w1 hb01
    have h := All_any [⟨1, 0, ByteArray.mk #[]⟩] (some ⟨w.heap.size, 0, none⟩) 1 (ByteArray.mk #[71, 69, 84]) (ByteArray.mk #[47, 97, 63, 98, 61, 99]) (ByteArray.mk #[]) [] none 0 0 0 [] none 0 [] none 0 w1 ((HS0.out.below (hb1.mono hz0)).more (Nat.le_trans hz0 hb1.size)) ⟨Sl.nil _ _ _ _, Sl.nil _ _ _ _, Sl.nil _ _ _ _, hl1, ht1⟩ (sz_hello [] [] (by decide) (by decide)) (by decide) (by have := all_one; unfold vfO at this; rw [this]; decide)
    refine h.mono ?_
    rintro e w' ⟨v, rfl, hO, hb⟩
    obtain ⟨A, c, rfl, _⟩ := hO.form
    have := all_one
    unfold vfO at this
    rw [this]
    exact ⟨A, c, rfl, hb⟩
  have HB01 := Lib.hid hb01
  have HB1 := Lib.hid hb1
  clear hb01 hb1 HS0
  go_wp2_with fail
  refine HALL1.out.mono ?_
  rintro e w2 ⟨A1, k1, rfl, hb2⟩
  have hb02 := HB01.out.trans (hb2.mono HB01.out.size)
  have hql : (l.flatMap cellsQ).length = l.length * 3 := cellsQ_len l
  have hal : (list.flatMap cellsA).length = list.length * 2 := cellsA_len list
  have HRV := Lib.hid (roomyV_any A0 l.length c0 (l.flatMap cellsQ) (.int .i64 99) (.int .i64 0) (.string (ByteArray.mk #[])) w2 (HBX.out w2 hb02).1 (cellsQ_one l) (by simp [Value.oneCell']) (by omega))
  have HB02 := Lib.hid hb02
  clear hb2 hb02 HALL1 HB01 HB1
  go_wp2_with (go_at_call 8; apply Hid.out)
  unfold Hid
  refine HRV.out.mono ?_
  rintro e w3 ⟨gv, capv, rfl, hRv, hb3⟩
  have hb03 := HB02.out.trans (hb3.mono HB02.out.size)
  have HRA := Lib.hid (roomyA_any Al list.length c1 (list.flatMap cellsA) (.string (ByteArray.mk #[113])) (.string (ByteArray.mk #[])) w3 (HBX.out w3 hb03).2.1 (cellsA_one list) (by simp [Value.oneCell']) (by omega))
  have HRV3 := Lib.hid hRv
  have HB03 := Lib.hid hb03
  have hgv1 : gv < w3.heap.size := (hRv.lt gv rfl).2
  clear hb3 hb03 hRv HRV HB02
  go_wp2_with (go_at_call 9; apply Hid.out)
  unfold Hid
  refine HRA.out.mono ?_
  rintro e w4 ⟨ga, capa, rfl, hRa, hb4⟩
  have hb04 := HB03.out.trans (hb4.mono HB03.out.size)
  have hRv4 := ownsRow_below HRV3.out hb4
  have hga1 : ga < w4.heap.size := (hRa.lt ga rfl).2
  have hga0 : w.heap.size ≤ ga := Nat.le_trans HB03.out.size (hRa.lt ga rfl).1
  have HF4 : Hid (∀ W, Below w4.heap.size w4 W → W.ownsRow w2.heap.size 26 3 (.slice (some ⟨gv, 0, none⟩) (l.length + 2) capv) (l.length + 2) (l.flatMap cellsQ ++ [.int .i64 99, .int .i64 0, .string (ByteArray.mk #[]), .int .i64 99, .int .i64 0, .string (ByteArray.mk #[])]) ∧ W.ownsRow w3.heap.size 37 2 (.slice (some ⟨ga, 0, none⟩) (list.length + 2) capa) (list.length + 2) (list.flatMap cellsA ++ [.string (ByteArray.mk #[113]), .string (ByteArray.mk #[]), .string (ByteArray.mk #[113]), .string (ByteArray.mk #[])]) ∧ Below w.heap.size w W) := fun W hb =>
    ⟨ownsRow_below hRv4 hb, ownsRow_below hRa hb, hb04.trans (hb.mono hb04.size)⟩
  clear hb4 hb04 hRv4 hRa HRA HRV3
  go_wp2_with (go_at_call 7; apply Hid.out)
  unfold Hid
  refine (hello_any w4).mono ?_
  rintro e w5 ⟨rfl, hb5⟩
  obtain ⟨B, hB⟩ : ∃ B, allP (vfO list list) l l = B := ⟨_, rfl⟩
  have hBl : B.length ≤ 4398046511104 := by
    rw [← hB]
    have h := allP_len (vfO list list) l 4194304 (by decide) (fun v => by unfold vfO; exact vfP_len (sz_hello list list hll hll) v) l
    have : l.length * 4194304 ≤ 1048576 * 4194304 := Nat.mul_le_mul_right _ hl
    omega
  have HALL : Hid (Calls Tryd.prog 6 #[.slice (some ⟨gv, 0, none⟩) l.length capv, .agg #[.string (ByteArray.mk #[71, 69, 84]), .string (ByteArray.mk #[47, 97, 63, 98, 61, 99]), .slice none 0 0, .string (ByteArray.mk #[])], .int .u32 0, .int .i64 0, .slice (some ⟨ga, 0, none⟩) list.length capa, .slice (some ⟨ga, 0, none⟩) list.length capa] w5 (RowA B w5)) := by
    obtain ⟨h1, h2, h3⟩ := HF4.out w5 hb5
    obtain ⟨_, _, hl1, ht1⟩ := HBX.out w5 h3
    have h := All_any l (some ⟨gv, 0, none⟩) capv (ByteArray.mk #[71, 69, 84]) (ByteArray.mk #[47, 97, 63, 98, 61, 99]) (ByteArray.mk #[]) [] none 0 0 0 list (some ⟨ga, 0, none⟩) capa list (some ⟨ga, 0, none⟩) capa w5 (row_front h1 hql) ⟨Sl.nil _ _ _ _, row_front h2 hal, row_front h2 hal, hl1, ht1⟩ (sz_hello list list hll hll) (by omega) (by have := hB; unfold vfO at this; rw [this]; exact hBl)
    have e := hB
    unfold vfO at e
    rw [e] at h
    exact h
  have HBE := Lib.hid hB
  have HB5 := Lib.hid hb5
  clear hB hb5
  go_wp2_with (go_at_call 6; apply Hid.out)
  unfold Hid
  refine HALL.out.mono ?_
  rintro e w6 ⟨vb, rfl, hOb, hb6⟩
  obtain ⟨Ab, cb, rfl, _⟩ := hOb.form
  have hb46 := HB5.out.trans (hb6.mono HB5.out.size)
  have HFB : Hid (∀ W, Below w6.heap.size w6 W → OwnA W w5.heap.size (.slice Ab B.length cb) B) := fun W hb => hOb.below hb
  obtain ⟨h1, _, h3⟩ := HF4.out w6 hb46
  have HEQ1 := Lib.hid (EqualQv_yes l (some ⟨gv, 0, none⟩) A0 capv c0 w6 (row_front h1 hql) (HBX.out w6 h3).1 (by omega))
  have hfar : ∀ k, (Value.slice Ab B.length cb).ownBlock = some k → w5.heap.size ≤ k ∧ k < w6.heap.size := World.ownsRow.lt hOb
  have HFAR := Lib.hid hfar
  have HB46 := Lib.hid hb46
  clear hOb hb6 hb46 h1 h3 hfar HALL
  go_wp2_with (go_at_call 10; apply Hid.out)
  unfold Hid
  refine HEQ1.out.mono ?_
  rintro e w7 ⟨rfl, hb7⟩
  have hb47 := HB46.out.trans (hb7.mono HB46.out.size)
  obtain ⟨_, h2, h3⟩ := HF4.out w7 hb47
  have HEQ2 := Lib.hid (EqualA_yes list (some ⟨ga, 0, none⟩) Al capa c1 w7 (row_front h2 hal) (HBX.out w7 h3).2.1 (by omega))
  have HB67 := Lib.hid hb7
  have HB47 := Lib.hid hb47
  clear hb7 hb47 h2 h3 HEQ1
  go_wp2_with (go_at_call 11; apply Hid.out)
  unfold Hid
  refine HEQ2.out.mono ?_
  rintro e w8 ⟨rfl, hb8⟩
  have hb48 := HB47.out.trans (hb8.mono HB47.out.size)
  have hb68 := HB67.out.trans (hb8.mono HB67.out.size)
  obtain ⟨h1, _, _⟩ := HF4.out w8 hb48
  have HK1 := Lib.hid (keptV_any gv l.length capv w2.heap.size (l.flatMap cellsQ) 99 0 (ByteArray.mk #[]) w8 h1 hql (by omega))
  have HB68 := Lib.hid hb68
  have HB48 := Lib.hid hb48
  clear hb8 hb48 hb68 h1 HEQ2
  go_wp2_with (go_at_call 12; apply Hid.out)
  unfold Hid
  refine HK1.out.mono ?_
  rintro e w9 ⟨rfl, hb9⟩
  have hb49 := HB48.out.trans (hb9.mono HB48.out.size)
  have hb69 := HB68.out.trans (hb9.mono HB68.out.size)
  obtain ⟨_, h2, _⟩ := HF4.out w9 hb49
  have HK2 := Lib.hid (keptA_any ga list.length capa w3.heap.size (list.flatMap cellsA) (ByteArray.mk #[113]) (ByteArray.mk #[]) w9 h2 hal (by omega))
  have HB69 := Lib.hid hb69
  have HB49 := Lib.hid hb49
  clear hb9 hb49 hb69 h2 HK1
  go_wp2_with (go_at_call 13; apply Hid.out)
  unfold Hid
  refine HK2.out.mono ?_
  rintro e w10 ⟨rfl, hb10⟩
  have hb410 := HB49.out.trans (hb10.mono HB49.out.size)
  have hb610 := HB69.out.trans (hb10.mono HB69.out.size)
  have hOb10 := HFB.out w10 hb610
  have hBc : (B.flatMap cellsA).length = B.length * 2 := cellsA_len B
  have HCL := Lib.hid (CloneA_any Ab B.length cb (B.flatMap cellsA) w10 (OwnA.slO hOb10) (cellsA_one B) (by omega))
  have HB610 := Lib.hid hb610
  have HB410 := Lib.hid hb410
  clear hb10 hb410 hb610 hOb10 HK2
  go_wp2_with (go_at_call 14; apply Hid.out)
  unfold Hid
  refine HCL.out.mono ?_
  rintro e w11 ⟨vw, rfl, hOw, hb11⟩
  have hOw : OwnA w11 w10.heap.size vw B := hOw
  obtain ⟨Aw, cw, rfl, _⟩ := hOw.form
  have hb411 := HB410.out.trans (hb11.mono HB410.out.size)
  have hb611 := HB610.out.trans (hb11.mono HB610.out.size)
  obtain ⟨_, h2, h3⟩ := HF4.out w11 hb411
  have hOb11 := HFB.out w11 hb611
  obtain ⟨hrm, hrm1, hrm2, _⟩ := rmRow_ofA h2
  have HSP := Lib.hid (spoilA_any ga list.length capa (ByteArray.mk #[122]) (ByteArray.mk #[]) w11 hrm (by omega) hrm2)
  have hz6 := HB610.out.size
  have hz410 := HB410.out.size
  have hz5 := HB5.out.size
  have HN11 := Lib.hid (And.intro hOb11 (And.intro hOw h3))
  clear hOb11 hOw h2 h3 hb411 hb611 hb11 hrm HCL
  go_wp2_with (go_at_call 15; apply Hid.out)
  unfold Hid
  refine HSP.out.mono ?_
  rintro e w12 ⟨rfl, _, hg12⟩
  obtain ⟨hOb11, hOw11, hB11⟩ := HN11.out
  have hB12 := hB11.grown hg12 hB11.size (fun k hk => by injection hk with hk; omega)
  have hOb12 : OwnA w12 w5.heap.size (.slice Ab B.length cb) B := hOb11.keep fun k hk => hg12.block k (World.ownsRow.lt hOb11 k hk).2 (fun e => by injection e with e; have := (World.ownsRow.lt hOb11 k hk).1; omega)
  have hOw12 : OwnA w12 w10.heap.size (.slice Aw B.length cw) B := hOw11.keep fun k hk => hg12.block k (World.ownsRow.lt hOw11 k hk).2 (fun e => by injection e with e; have := (World.ownsRow.lt hOw11 k hk).1; omega)
  have HEQ3 := Lib.hid (EqualA_yes B Ab Aw cb cw w12 (OwnA.slO hOb12) (OwnA.slO hOw12) hBl)
  have HN12 := Lib.hid (And.intro hOb12 hB12)
  clear hOb11 hOw11 hB11 hOb12 hOw12 hB12 hg12 HSP
  go_wp2_with (go_at_call 11; apply Hid.out)
  unfold Hid
  refine HEQ3.out.mono ?_
  rintro e w13 ⟨rfl, hb13⟩
  obtain ⟨hOb12, hB12⟩ := HN12.out
  have hOb13 := hOb12.below hb13
  have hB13 := hB12.trans (hb13.mono hB12.size)
  have HSP13 := Lib.hid (spoilA_own (ByteArray.mk #[]) (ByteArray.mk #[]) hOb13)
  have HN13 := Lib.hid (And.intro hOb13 hB13)
  clear hOb12 hB12 hOb13 hB13 hb13 HEQ3
  go_wp2_with (go_at_call 15; apply Hid.out)
  unfold Hid
  refine HSP13.out.mono ?_
  rintro e w14 ⟨rfl, hg14⟩
  obtain ⟨hOb13, hB13⟩ := HN13.out
  have hz4 := HB03.out.size
  have hz40 : w.heap.size ≤ w4.heap.size := by omega
  have hB14 := hB13.grown hg14 hB13.size (fun k hk => by have := (HFAR.out k hk).1; omega)
  have HRA2 := Lib.hid (roomyA_any Al list.length c1 (list.flatMap cellsA) (.string (ByteArray.mk #[113])) (.string (ByteArray.mk #[])) w14 (HBX.out w14 hB14).2.1 (cellsA_one list) (by simp [Value.oneCell']) (by omega))
  have HB14 := Lib.hid hB14
  clear hOb13 hB13 hB14 hg14 HSP13
  go_wp2_with (go_at_call 9; apply Hid.out)
  unfold Hid
  refine HRA2.out.mono ?_
  rintro e w15 ⟨gb, capb, rfl, hRb, hb15⟩
  have hB15 := HB14.out.trans (hb15.mono HB14.out.size)
  have hgb : gb < w15.heap.size := (hRb.lt gb rfl).2
  have HRB := Lib.hid hRb
  have HB15 := Lib.hid hB15
  clear hRb hb15 hB15 HRA2
  go_wp2_with (go_at_call 7; apply Hid.out)
  unfold Hid
  refine (hello_any w15).mono ?_
  rintro e w16 ⟨rfl, hb16⟩
  have hB16 := HB15.out.trans (hb16.mono HB15.out.size)
  have hRb16 := ownsRow_below HRB.out hb16
  have HVAL : Hid (Calls Tryd.prog 16 #[.agg #[.int .i64 6, .int .i64 0, .string (ByteArray.mk #[])], .agg #[.string (ByteArray.mk #[71, 69, 84]), .string (ByteArray.mk #[47, 97, 63, 98, 61, 99]), .slice none 0 0, .string (ByteArray.mk #[])], .int .u32 0, .int .i64 0, .slice (some ⟨gb, 0, none⟩) list.length capb, .slice none 0 0] w16 (RowA list w16)) := by
    obtain ⟨_, _, hl1, ht1⟩ := HBX.out w16 hB16
    have h := Values_any 6 0 (ByteArray.mk #[]) (ByteArray.mk #[71, 69, 84]) (ByteArray.mk #[47, 97, 63, 98, 61, 99]) (ByteArray.mk #[]) [] none 0 0 0 list (some ⟨gb, 0, none⟩) capb [] none 0 w16 ⟨Sl.nil _ _ _ _, row_front hRb16 hal, Sl.nil _ _ _ _, hl1, ht1⟩ (sz_hello list [] hll (by decide))
    have e : valP 6 (ByteArray.mk #[]) (ByteArray.mk #[71, 69, 84]) (ByteArray.mk #[47, 97, 63, 98, 61, 99]) (ByteArray.mk #[]) [] 0 0 list [] = list := only_all list
    rw [e] at h
    exact h
  have HN16 := Lib.hid (And.intro hRb16 hB16)
  have hz16 := hb16.size
  clear hRb16 hB16 hb16
  go_wp2_with (go_at_call 16; apply Hid.out)
  unfold Hid
  refine HVAL.out.mono ?_
  rintro e w17 ⟨vc, rfl, hOc, hb17⟩
  obtain ⟨Ac, cc, rfl, _⟩ := hOc.form
  obtain ⟨hRb16, hB16⟩ := HN16.out
  have hRb17 := ownsRow_below hRb16 hb17
  have hB17 := hB16.trans (hb17.mono hB16.size)
  have HSP17 := Lib.hid (spoilA_own (ByteArray.mk #[]) (ByteArray.mk #[]) hOc)
  have hfc : ∀ k, (Value.slice Ac list.length cc).ownBlock = some k → w16.heap.size ≤ k := fun k hk => (World.ownsRow.lt hOc k hk).1
  have HN17 := Lib.hid (And.intro hRb17 (And.intro hB17 hfc))
  have hz17 := hb17.size
  have hz015 := HB15.out.size
  clear hRb16 hB16 hRb17 hB17 hb17 hOc hfc HVAL
  go_wp2_with (go_at_call 15; apply Hid.out)
  unfold Hid
  refine HSP17.out.mono ?_
  rintro e w18 ⟨rfl, hg18⟩
  obtain ⟨hRb17, hB17, hfc⟩ := HN17.out
  have hB18 := hB17.grown hg18 hB17.size (fun k hk => by have := hfc k hk; omega)
  have hsl18 : Sl w18 w18.heap.size 2 (some ⟨gb, 0, none⟩) list.length (list.flatMap cellsA) := by
    have h := row_front hRb17 hal
    have h' : Sl w17 (gb + 1) 2 (some ⟨gb, 0, none⟩) list.length (list.flatMap cellsA) := ⟨h.len, fun hp => by
      obtain ⟨b, off, e, _, hc⟩ := h.src hp
      injection e with e
      injection e with e1 e2
      exact ⟨b, off, by rw [e1, e2], by omega, hc⟩⟩
    refine (h'.keep fun b o hb => World.cell?_of_block (hg18.block b (by omega) (fun e => by have := hfc b e.symm; omega))).more (by have := hg18.size; omega)
  have HEQ4 := Lib.hid (EqualA_yes list (some ⟨gb, 0, none⟩) Al capb c1 w18 hsl18 (HBX.out w18 hB18).2.1 (by omega))
  have HB18 := Lib.hid hB18
  clear hRb17 hB17 hfc hB18 hsl18 hg18 HSP17
  go_wp2_with (go_at_call 11; apply Hid.out)
  unfold Hid
  refine HEQ4.out.mono ?_
  rintro e w19 ⟨rfl, hb19⟩
  go_wp2_with fail
  go_ret
  exact ⟨rfl, HB18.out.trans (hb19.mono HB18.out.size)⟩
theorem varsOwn_any (a : QArg) (b : GArg) (w : World) {v v2 : Value} (x : VarsArg w v a) (hz : a.l.length ≤ 1048576) (y : ArgsArg w v2 b) (hb : bulkA b.l ≤ 1048576 ∧ b.l.length ≤ 1048576) (hlib : LibOk w) (ht : Lib.TabIs Tryd.prog w "internal/strconv.uint64pow10" .u64 Lib.pow10Tab) :
    Calls Tryd.prog 3 #[.slice a.A a.l.length a.c, .slice b.A b.l.length b.c] w fun e w' => e = .returned (.bool true) ∧ Below w.heap.size w w' :=
  varsOwn_walk a.l a.A a.c b.l b.A b.c w x.sl y.sl hz hb.2 hlib (TabOk.of ht)
end Go.Proofs.YtchoenfclfafiaaDoor
