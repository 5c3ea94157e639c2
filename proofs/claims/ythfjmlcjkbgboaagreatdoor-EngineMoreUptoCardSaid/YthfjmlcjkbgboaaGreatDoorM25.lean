/- Part 25 of the proof: lemmas and walks that the last texts use. -/
import Derived.Test.YthfjmlcjkbgboaaGreatDoorM02
import Derived.Test.YthfjmlcjkbgboaaGreatDoorM22
import Derived.OrdersHeld
import Derived.StillTail
import Derived.Deep.RegionHeld
import Derived.BigRegion
import Derived.Deep.RegionHeld3
import Derived.Deep.CutRange
namespace Go.Proofs.YthfjmlcjkbgboaaGreatDoor
open Go.RowKit
section
variable {P : Program} {ops : Array Oper} {Q : Exit → Act → World → Prop} {md : Region.Mode} {S : World → Prop} {U : Nat}
/-- Whatever order is picked from here on; as long as number U has not come up S holds behind every operation. -/
def wpAnyU (P : Program) (md : Region.Mode) (ops : Array Oper) (Q : Exit → Act → World → Prop) (S : World → Prop) (U : Nat) : Nat → Array Bool → Act → World → Prop
  | 0, listed, a, w => Region.ready md ops listed = [] ∧ Q .normal a w
  | fuel + 1, listed, a, w =>
    (Region.ready md ops listed = [] → Q .normal a w) ∧
    ∀ i ∈ Region.ready md ops listed, wpOp P ops Q i (fun a' w' => ((listed.setIfInBounds i true).getD U true = false → S w') ∧ wpAnyU P md ops Q S U fuel (listed.setIfInBounds i true) a' w') a w
theorem wpAny_of_U : ∀ (fuel : Nat) (listed : Array Bool) (a : Act) (w : World), wpAnyU P md ops Q S U fuel listed a w → wpAny P md ops Q fuel listed a w
  | 0, _, _, _, h => h
  | fuel + 1, _, _, _, h => ⟨h.1, fun i hi => wpOp_mono (fun a' w' h' => wpAny_of_U fuel _ a' w' h'.2) (h.2 i hi)⟩
/-- Each waits for the one ahead of it. -/
def chainOk (md : Region.Mode) (ops : Array Oper) : Nat → List Nat → Bool
  | _, [] => true
  | i, v :: vs => Region.waitsFor md ops v i && chainOk md ops v vs
theorem chain_waits : ∀ (vs : List Nat) (i : Nat) (listed : Array Bool), chainOk md ops i vs = true → listed.getD i true = false → (∀ v ∈ vs, listed.getD v true = false) → ∀ v ∈ vs, v ∉ Region.ready md ops listed
  | [], _, _, _, _, _ => fun v hv => absurd hv (by simp)
  | u :: vs, i, listed, h, hi, hun => fun v hv => by
    unfold chainOk at h
    rw [Bool.and_eq_true] at h
    rcases List.mem_cons.1 hv with rfl | hv
    · intro hr
      obtain ⟨oj, hoj, e, he, hb, hon⟩ := Region.waitsFor_spec h.1
      obtain ⟨_, o2, ho2, hall⟩ := mem_ready.1 hr
      rw [hoj] at ho2
      obtain rfl := Option.some.inj ho2
      have h1 := hall e he hb
      rw [hon] at h1
      rw [getD_both hi] at h1
      cases h1
    · exact chain_waits vs u listed h.2 (hun u (by simp)) (fun x hx => hun x (by simp [hx])) v hv
theorem wpAnyU_pureF {i : Nat} {oi : Oper} {v : Value} (hi : ops[i]? = some oi) (hsel : ∀ (j : Nat) (o : Oper) cs b, ops[j]? = some o → o.op ≠ .select cs b)
    (hQ : ∀ c a w, Q (.panic c) (a.put oi.dst v) w → Q (.panic c) a w) (hU : i ≠ U) :
    ∀ (fuel : Nat) (listed : Array Bool) (a : Act) (w : World),
      (∀ j oj, ops[j]? = some oj → j ≠ i → listed.getD j true = false → (∀ e ∈ oj.after, Region.binds md e = true → e.on ≠ i) → oi.apart ops oj = true) →
      i ∈ Region.ready md ops listed → YieldsIf P ops (fun _ => True) oi v a → (listed.getD U true = false → S w) →
      wpAnyU P md ops Q S U fuel (listed.setIfInBounds i true) (a.put oi.dst v) w → wpAnyU P md ops Q S U (fuel + 1) listed a w := by
  intro fuel
  induction fuel with
  | zero =>
    intro listed a w _ hr hy hS H
    refine ⟨fun h => (by rw [h] at hr; cases hr), fun j hj => ?_⟩
    by_cases hji : j = i
    · subst hji; exact hy.wpOp hi trivial ⟨fun h => hS (by rwa [getD_set_ne true hU] at h), H⟩
    · have := ready_mono hj hji
      rw [H.1] at this
      cases this
  | succ fuel ih =>
    intro listed a w hfree hr hy hS H
    refine ⟨fun h => (by rw [h] at hr; cases hr), fun j hj => ?_⟩
    by_cases hji : j = i
    · subst hji; exact hy.wpOp hi trivial ⟨fun h => hS (by rwa [getD_set_ne true hU] at h), H⟩
    · have h1 := H.2 j (ready_mono hj hji)
      obtain ⟨hjun, oj, hoj, hall⟩ := mem_ready.1 hj
      have hnot : ∀ e ∈ oj.after, Region.binds md e = true → e.on ≠ i := fun e he hb heq => by
        have h1 := hall e he hb
        rw [heq, getD_both (mem_ready.1 hr).1] at h1
        cases h1
      have h2 := wpOp_putIf hoj (hfree j oj hoj hji hjun hnot) (fun cs b => hsel i oi cs b hi) (fun cs b => hsel j oj cs b hoj) hQ hy h1
      have hfree' : ∀ k ok, ops[k]? = some ok → k ≠ i → (listed.setIfInBounds j true).getD k true = false →
          (∀ e ∈ ok.after, Region.binds md e = true → e.on ≠ i) → oi.apart ops ok = true := fun k ok hk hki hun hno => by
        refine hfree k ok hk hki ?_ hno
        by_cases hjk : j = k
        · subst hjk; exact hjun
        · rw [getD_set_ne true hjk] at hun; exact hun
      refine wpOp_mono (fun a' w' h3 => ?_) h2
      have hS' : (listed.setIfInBounds j true).getD U true = false → S w' := fun h => h3.2.1 (by
        rw [Array.setIfInBounds_comm _ _ (Ne.symm hji), getD_set_ne true hU]; exact h)
      refine ⟨hS', ih (listed.setIfInBounds j true) a' w' hfree' (ready_mono hr (Ne.symm hji)) h3.1 hS' ?_⟩
      rw [Array.setIfInBounds_comm _ _ hji]
      exact h3.2.2
theorem wpAnyU_loadF {i : Nat} {oi : Oper} {v : Value} (hi : ops[i]? = some oi) (hsel : ∀ (j : Nat) (o : Oper) cs b, ops[j]? = some o → o.op ≠ .select cs b)
    (hQ : ∀ c a w, Q (.panic c) (a.put oi.dst v) w → Q (.panic c) a w) (hU : i ≠ U) (vs : List Nat) (hch : chainOk md ops i vs = true) (hUv : U ∈ vs) :
    ∀ (fuel : Nat) (listed : Array Bool) (a : Act) (w : World),
      (∀ j oj, ops[j]? = some oj → j ≠ i → listed.getD j true = false → (∀ e ∈ oj.after, Region.binds md e = true → e.on ≠ i) → oi.apart ops oj = true) →
      i ∈ Region.ready md ops listed → (∀ v ∈ vs, listed.getD v true = false) → YieldsIf P ops S oi v a → S w →
      wpAnyU P md ops Q S U fuel (listed.setIfInBounds i true) (a.put oi.dst v) w → wpAnyU P md ops Q S U (fuel + 1) listed a w := by
  intro fuel
  induction fuel with
  | zero =>
    intro listed a w _ hr _ hy hS H
    refine ⟨fun h => (by rw [h] at hr; cases hr), fun j hj => ?_⟩
    by_cases hji : j = i
    · subst hji; exact hy.wpOp hi hS ⟨fun _ => hS, H⟩
    · have := ready_mono hj hji
      rw [H.1] at this
      cases this
  | succ fuel ih =>
    intro listed a w hfree hr hun hy hS H
    refine ⟨fun h => (by rw [h] at hr; cases hr), fun j hj => ?_⟩
    by_cases hji : j = i
    · subst hji; exact hy.wpOp hi hS ⟨fun _ => hS, H⟩
    · have h1 := H.2 j (ready_mono hj hji)
      have hjv : ∀ x ∈ vs, j ≠ x := fun x hx e => chain_waits vs i listed hch (mem_ready.1 hr).1 hun x hx (e ▸ hj)
      obtain ⟨hjun, oj, hoj, hall⟩ := mem_ready.1 hj
      have hnot : ∀ e ∈ oj.after, Region.binds md e = true → e.on ≠ i := fun e he hb heq => by
        have h1 := hall e he hb
        rw [heq, getD_both (mem_ready.1 hr).1] at h1
        cases h1
      have h2 := wpOp_putIf hoj (hfree j oj hoj hji hjun hnot) (fun cs b => hsel i oi cs b hi) (fun cs b => hsel j oj cs b hoj) hQ hy h1
      have hfree' : ∀ k ok, ops[k]? = some ok → k ≠ i → (listed.setIfInBounds j true).getD k true = false →
          (∀ e ∈ ok.after, Region.binds md e = true → e.on ≠ i) → oi.apart ops ok = true := fun k ok hk hki hun2 hno => by
        refine hfree k ok hk hki ?_ hno
        by_cases hjk : j = k
        · subst hjk; exact hjun
        · rw [getD_set_ne true hjk] at hun2; exact hun2
      refine wpOp_mono (fun a' w' h3 => ?_) h2
      have hSw : S w' := h3.2.1 (by rw [getD_set_ne true (hjv U hUv), getD_set_ne true hU]; exact hun U hUv)
      refine ⟨fun _ => hSw, ih (listed.setIfInBounds j true) a' w' hfree' (ready_mono hr (Ne.symm hji)) (fun x hx => by rw [getD_set_ne true (hjv x hx)]; exact hun x hx) h3.1 hSw ?_⟩
      rw [Array.setIfInBounds_comm _ _ hji]
      exact h3.2.2
/-- An operation that yields in whatever world is taken first. -/
theorem wpAnyU_pure {i : Nat} {oi : Oper} {v : Value} {fuel : Nat} {listed : Array Bool} {a : Act} {w : World} (d : Option Tmp) (hi : ops[i]? = some oi) (hd : oi.dst = d)
    (hs : Region.noSelect ops = true) (hf : Region.free md ops listed i = true) (hr : (Region.ready md ops listed).contains i = true) (hU : i ≠ U)
    (hQ : ∀ c a w, Q (.panic c) (a.put d v) w → Q (.panic c) a w) (hw : Region.wanted oi (yielded ops a.tmps) = true) (hy : ∀ w, (execOp a.eval oi).run P w = .ok (.value v) w) (hS : S w)
    (h : S w → wpAnyU P md ops Q S U fuel (listed.setIfInBounds i true) (a.put d v) w) : wpAnyU P md ops Q S U (fuel + 1) listed a w := by
  subst hd
  exact wpAnyU_pureF hi (Region.noSelect_spec hs) hQ hU fuel listed a w (Region.free_spec hi hf) (by simpa using hr) (.inl ⟨hw, fun w _ => hy w⟩) (fun _ => hS) (h hS)
/-- A load of what S tells is taken first. -/
theorem wpAnyU_load {i : Nat} {oi : Oper} {v : Value} {fuel : Nat} {listed : Array Bool} {a : Act} {w : World} (vs : List Nat) (d : Option Tmp) (hi : ops[i]? = some oi) (hd : oi.dst = d)
    (hs : Region.noSelect ops = true) (hf : Region.free md ops listed i = true) (hr : (Region.ready md ops listed).contains i = true) (hU : i ≠ U) (hch : chainOk md ops i vs = true) (hUv : U ∈ vs) (hun : vs.all (fun v => !listed.getD v true) = true)
    (hQ : ∀ c a w, Q (.panic c) (a.put d v) w → Q (.panic c) a w) (hw : Region.wanted oi (yielded ops a.tmps) = true) (hy : ∀ w, S w → (execOp a.eval oi).run P w = .ok (.value v) w) (hS : S w)
    (h : S w → wpAnyU P md ops Q S U fuel (listed.setIfInBounds i true) (a.put d v) w) : wpAnyU P md ops Q S U (fuel + 1) listed a w := by
  subst hd
  exact wpAnyU_loadF hi (Region.noSelect_spec hs) hQ hU vs hch hUv fuel listed a w (Region.free_spec hi hf) (by simpa using hr) (fun v hv => by have := List.all_eq_true.1 hun v hv; simpa using this) (.inl ⟨hw, hy⟩) hS (h hS)
/-- One alone may come up; behind it S is shown. -/
theorem wpAnyU_one {i : Nat} {o : Oper} {fuel : Nat} {listed : Array Bool} {a : Act} {w : World} (d : Option Tmp) (op : Op) (hr : Region.ready md ops listed = [i]) (ho : ops[i]? = some o) (hd : o.dst = d) (hop : o.op = op) (hw : Region.wanted o (yielded ops a.tmps) = true)
    (h : ∀ K' : Act → World → Prop, Shut (∀ a' w', S w' → (S w' → wpAnyU P md ops Q S U fuel (listed.setIfInBounds i true) a' w') → K' a' w') → Oper.wp P ⟨d, op, o.type, o.pos, o.after, o.guard⟩ a w K' Q) : wpAnyU P md ops Q S U (fuel + 1) listed a w := by
  subst hd; subst hop
  refine ⟨fun h0 => absurd (hr ▸ h0) (by simp), fun j hj => ?_⟩
  rw [hr] at hj
  obtain rfl := List.mem_singleton.1 hj
  refine wpOp_step ho fun K' hK => ?_
  rw [if_pos hw]
  exact h K' fun a' w' h1 h2 => hK a' w' ⟨fun _ => h1, h2 h1⟩
/-- One alone may come up, and number U is up behind it. -/
theorem wpAnyU_late {i : Nat} {o : Oper} {fuel : Nat} {listed : Array Bool} {a : Act} {w : World} (d : Option Tmp) (op : Op) (hr : Region.ready md ops listed = [i]) (ho : ops[i]? = some o) (hd : o.dst = d) (hop : o.op = op) (hw : Region.wanted o (yielded ops a.tmps) = true) (hl : (listed.setIfInBounds i true).getD U true = true)
    (h : ∀ K' : Act → World → Prop, Shut (∀ a' w', wpAnyU P md ops Q S U fuel (listed.setIfInBounds i true) a' w' → K' a' w') → Oper.wp P ⟨d, op, o.type, o.pos, o.after, o.guard⟩ a w K' Q) : wpAnyU P md ops Q S U (fuel + 1) listed a w := by
  subst hd; subst hop
  refine ⟨fun h0 => absurd (hr ▸ h0) (by simp), fun j hj => ?_⟩
  rw [hr] at hj
  obtain rfl := List.mem_singleton.1 hj
  refine wpOp_step ho fun K' hK => ?_
  rw [if_pos hw]
  exact h K' fun a' w' h1 => hK a' w' ⟨fun h2 => (by rw [hl] at h2; cases h2), h1⟩
theorem wpAnyU_done {listed : Array Bool} {a : Act} {w : World} (hr : Region.ready md ops listed = []) (h : Q .normal a w) : ∀ fuel, wpAnyU P md ops Q S U fuel listed a w
  | 0 => ⟨hr, h⟩
  | _ + 1 => ⟨fun _ => h, by rw [hr]; simp⟩
theorem wp_region_U {id : Nat} {a : Act} {w : World} (U : Nat) (S : World → Prop) (hm : P.follows .mixedOrders = true) (hS : S w.drew)
    (h : S w.drew → wpAnyU P .any ops Q S U ops.size (Array.replicate ops.size false) a w.drew) : (Code.region id ops true).wp P Q a w :=
  wp_region_any hm (wpAny_of_U _ _ _ _ (h hS))
end
end Go.Proofs.YthfjmlcjkbgboaaGreatDoor
namespace Go.Proofs.YthfjmlcjkbgboaaGreatDoor
open Go.RowKit
set_option maxRecDepth 100000 in
set_option maxHeartbeats 1600000 in
theorem level_calls (ws : List ByteArray) (n : Nat) (_ : n < 40) (hws : ws.length ≤ 30) (hw0 : 0 < ws.length) (A : Option Addr) (c B gm bm ga ca g cap : Nat) (ns : List NodeP) (ss : List (List UInt8)) (l : List (EdgeK × Nat)) (ats : List Nat) (w : World)
    (hS : Sl w B 1 A ws.length (ws.map Value.string)) (hL : LevAt w B gm bm ga ca ws n g cap ns ss l ats) :
    Calls Tryz.prog 188 #[.pointer (some ⟨gm, 0, none⟩), .slice A ws.length c, .int .i64 (n : Int)] w (LevelPost B gm bm ga ca ws n w) := by
  obtain ⟨b, off, rfl, hbB, _⟩ := sl_word hS hw0
  have hlen : ats.length = ws.length := by have := hL.ats.len; rw [this, lstS, List.length_map]
  have HS := Lib.hid hS
  have HL := Lib.hid hL
  clear hS hL
  go_enter Tryz.func188, Tryz.ntmps188
  go_wp2_with fail
  go_loopw [7, 17] (fun v i wr => Rel1 ws n ats w v i wr) (fun _ i _ => ws.length - (intOf i).toNat)
  case atStart => exact ⟨0, Nat.zero_le _, rfl, Below.refl _ _, OwnG.nil _ _ _⟩
  case round =>
    obtain ⟨k, hk, rfl, hb, hO⟩ := hrel
    by_cases hkl : k < ws.length
    · have HO := Lib.hid hO
      have hb1 : B ≤ w.heap.size := Nat.le_trans HL.out.mkr.base.1 (Nat.le_of_lt HL.out.mkr.lt.1)
      obtain ⟨_, _, e, _, hc⟩ := sl_word (HS.out.below (hb.mono hb1)) hkl
      injection e with e
      injection e with e1 e2 _
      subst e1; subst e2
      have hM := HL.out.mkr.below hb
      have hcell := (hM.at k (by omega)).1
      obtain ⟨_, _, hm2, _⟩ := hM.cells
      have hlt := hM.lt
      have hgl := gath_len (lstS ws) n ats k
      have HG1 := Lib.hid fun h => gath_pass (ws := ws) (n := n) (ats := ats) hkl h
      have HG2 := Lib.hid fun h => gath_add (ws := ws) (n := n) (ats := ats) hkl (by omega) h
      clear hM hO
      generalize ws[k] = s at hc HG1 HG2
      generalize ats[k] = a at hcell HG1 HG2
      by_cases hns : n < s.size
      · have HP := Lib.hid (HG2.out hns)
        clear HG1 HG2
        generalize hx : s[n] = x at HP
        have hbx : wr.heap.size < (wr.alloc (.cells #[.int .i64 (a : Int), .int .u8 x.toNat] 300)).drew.heap.size := by simp
        have hW : Below wr.heap.size wr (wr.alloc (.cells #[.int .i64 (a : Int), .int .u8 x.toNat] 300)).drew := ((Below.refl _ _).alloc (Nat.le_refl _) _).drew
        have hbl := heap_alloc_new wr (.cells #[.int .i64 (a : Int), .int .u8 x.toNat] 300)
        have hsz := hb.size
        have HH : Hid (Calls Tryz.prog 230 #[u7, .agg #[.int .i64 (a : Int), .int .u8 x.toNat]] (wr.alloc (.cells #[.int .i64 (a : Int), .int .u8 x.toNat] 300)).drew fun r w' => r = .returned (.bool (decide ((a, x) ∈ gath (lstS ws) n ats k))) ∧ Below (wr.alloc (.cells #[.int .i64 (a : Int), .int .u8 x.toNat] 300)).drew.heap.size (wr.alloc (.cells #[.int .i64 (a : Int), .int .u8 x.toNat] 300)).drew w') := Lib.hid (edge_has (HO.out.below hW) (by omega) (a, x))
        by_cases hin : (a, x) ∈ gath (lstS ws) n ats k
        · rw [decide_eq_true hin] at HH
          rw [if_pos hin] at HP
          go_wp2_with fail
          go_region
          go_wp2_with (go_at_call 230; refine HH.out.mono ?_; rintro e w2 ⟨rfl, hb2⟩)
          exact ⟨⟨k + 1, by omega, rfl, (hb.trans (hW.mono hsz)).trans (hb2.mono (by simp; omega)), by rw [HP.out]; exact (HO.out.below hW).below hb2⟩, by simp [intOf] <;> omega⟩
        · rw [decide_eq_false hin] at HH
          rw [if_neg hin] at HP
          go_wp2_with fail
          go_region
          go_wp2_with (first | (go_at_call 230; refine HH.out.mono ?_; rintro e w2 ⟨rfl, hb2⟩; have hbk := (hb2.block wr.heap.size hbx).trans hbl; have hc0 := cell_of_row w2 wr.heap.size 0 _ _ _ hbk; have hc1 := cell_of_row w2 wr.heap.size 1 _ _ _ hbk; have hO2 := (HO.out.below hW).below hb2; have hz2 := hb2.size; simp at hz2) | (at_builtin; refine wpList_append_g rowE rfl _ _ rfl w.heap.size _ (gath (lstS ws) n ats k) rfl hO2 (by omega) _ (a, x) rfl w2.heap.size rfl 1 rfl (by omega) ?_; intro v' w3 hO3 hb3 hk3 hz3))
          exact ⟨⟨k + 1, by omega, rfl, ((hb.trans (hW.mono hsz)).trans (hb2.mono (by simp; omega))).trans hb3, by rw [HP.out]; exact hO3⟩, by simp [intOf] <;> omega⟩
      · have HP := Lib.hid (HG1.out hns)
        clear HG1 HG2
        go_wp2_with fail
        exact ⟨⟨k + 1, by omega, rfl, hb, by rw [HP.out]; exact HO.out⟩, by simp [intOf] <;> omega⟩
    · obtain rfl : k = ws.length := by omega
      have HR := Lib.hid (sort_row hO hb.size (gath_small HL.out.lev.inv HL.out.ats HL.out.few) (by have := gath_len (lstS ws) n ats ws.length; omega))
      have HP := Lib.hid (hO.form)
      have hvl := hO.form
      obtain ⟨A0, c0, rfl, _⟩ := hvl
      have hb1 : B ≤ w.heap.size := Nat.le_trans HL.out.mkr.base.1 (Nat.le_of_lt HL.out.mkr.lt.1)
      clear hO HP
      go_wp2_with (go_at_call 231; refine HR.out.mono ?_; rintro e w1 ⟨rfl, hb2, es, hperm, hE⟩)
      have hzl := hperm.length_eq
      have HE : Hid (EdgesOf (lstS ws) n ats es) := Lib.hid (EdgesOf.perm (by have := gath_edges (lstS ws) n ats; rwa [show (lstS ws).length = ws.length by rw [lstS, List.length_map]] at this) hperm)
      have hbw := hb.trans hb2
      have hM1 := HL.out.mkr.below hbw
      clear HR hb hb2 hkl hk
      have hel : es.length ≤ 30 := by have := gath_len (lstS ws) n ats ws.length; omega
      generalize (gath (lstS ws) n ats ws.length).length = m at *
      subst hzl
      go_loopw [50] (fun i wr => Rel2 B gm bm ga ca ws n ats w es ss (.slice A0 es.length c0) i wr) (fun i _ => es.length - (intOf i).toNat)
      case atStart => exact ⟨0, g, cap, ns, ss, l, Nat.zero_le _, rfl, hbw.mono hb1, hE, hM1, ⟨HL.out.lev.inv, by simp⟩, HL.out.next, HL.out.few⟩
      case round =>
        obtain ⟨k, g2, cap2, ns2, ss2, l2, hk, rfl, hb3, hE2, hM2, hMid, hNext, hfew⟩ := hrel
        have HB3 := Lib.hid hb3
        clear hbw hM1 hE hb3
        by_cases hkl : k < es.length
        · obtain ⟨p, hp1, hp2, hp3, hp4⟩ := hMid.next HL.out.lev HL.out.ats HE.out hkl
          obtain ⟨gE, csE, fzE, cE, heE, hgE, hbE, hcE0, hcE1⟩ := hE2.at k hkl
          injection heE with e1 e2 e3
          subst e1; subst e3
          obtain ⟨hc0, hc1, hc2, hf0⟩ := hM2.cells
          rw [List.length_map] at hc0
          have HM := Lib.hid hM2
          have HE2 := Lib.hid hE2
          have HMid := Lib.hid hMid
          have HN := Lib.hid hNext
          clear hM2 hE2 hMid hNext hperm e2
          have hlt := HM.out.lt
          have HES : Hid (es[k]? = some es[k]) := Lib.hid (List.getElem?_eq_getElem hkl)
          generalize he : es[k] = e at *
          obtain ⟨up, x⟩ := e
          dsimp only at hp1 hp2 hp3 hcE0 hcE1
          by_cases h4 : ns2.length = 400
          · rw [h4] at hc0
            have hzw : B ≤ wr.heap.size := Nat.le_trans hb1 (Nat.le_trans (Nat.le_of_lt (by have := hgE; have := (Array.getElem?_eq_some_iff.1 hbE).1; omega)) (Nat.le_refl _))
            go_wp2_with fail
            go_ret
            exact ⟨HB3.out.alloc hzw _, .inl ⟨rfl, HMid.out.full HL.out.lev HL.out.ats HE.out hkl h4⟩⟩
          · have h4f : (ns2.length == 400) = false := beq_eq_false_iff_ne.2 h4
            have h4i : ((ns2.length : Int) == 400) = false := beq_eq_false_iff_ne.2 (by omega)
            have hzw : w.heap.size < wr.heap.size := by have := (Array.getElem?_eq_some_iff.1 hbE).1; omega
            have hnk := no_kid HMid.out.inv HN.out hp1 hp3
            obtain ⟨o, hput⟩ := run_put_edges HM.out.map ((up : Int), x) ns2.length ⟨by omega, by have := HMid.out.inv.lt hp1; show (up : Int) < _; omega⟩ hnk
            have hput1 : (Instr.mapUpdate 267 (.map (some bm)) (.agg #[.int .i64 (up : Int), .int .u8 x.toNat]) (.int .i64 (ns2.length : Int))).run Tryz.prog (wr.alloc (.cells #[.int .i64 (up : Int), .int .u8 x.toNat] 300)).drew = .ok () (ChangeMaps.setBlock (wr.alloc (.cells #[.int .i64 (up : Int), .int .u8 x.toNat] 300)).drew bm o) :=
              (hput (wr.alloc (.cells #[.int .i64 (up : Int), .int .u8 x.toNat] 300)).drew (Below.heap_alloc _ _ _ hlt.2.2.2)).1
            have hput2 := (hput (wr.alloc (.cells #[.int .i64 (up : Int), .int .u8 x.toNat] 300)).drew (Below.heap_alloc _ _ _ hlt.2.2.2)).2
            clear hput
            go_upto_region 16 with fail
            go_wp2_with fail
            go_region
            have hbwW : Below B wr (ChangeMaps.setBlock (wr.alloc (.cells #[.int .i64 (up : Int), .int .u8 x.toNat] 300)).drew bm o) := ((Below.refl _ _).alloc (by omega) _).drew.trans (below_setBlock _ _ _ _ HM.out.low.2)
            have hbox : (ChangeMaps.setBlock (wr.alloc (.cells #[.int .i64 (up : Int), .int .u8 x.toNat] 300)).drew bm o).heap[wr.heap.size]? = some (.cells #[.int .i64 (up : Int), .int .u8 x.toNat] 300) :=
              (put_kept _ _ _ _ (by omega)).trans (heap_alloc_new wr (.cells #[.int .i64 (up : Int), .int .u8 x.toNat] 300))
            have hkp : ∀ j, j < wr.heap.size → bm ≠ j → (ChangeMaps.setBlock (wr.alloc (.cells #[.int .i64 (up : Int), .int .u8 x.toNat] 300)).drew bm o).heap[j]? = wr.heap[j]? := fun j hj hne =>
              (put_kept _ _ _ _ hne).trans (Below.heap_alloc wr (.cells #[.int .i64 (up : Int), .int .u8 x.toNat] 300) j hj)
            have hMM := (HM.out.below (((Below.refl _ _).alloc (Nat.le_refl _) (.cells #[.int .i64 (up : Int), .int .u8 x.toNat] 300)).drew)).put hput2
            have hzW : wr.heap.size < (ChangeMaps.setBlock (wr.alloc (.cells #[.int .i64 (up : Int), .int .u8 x.toNat] 300)).drew bm o).heap.size := (Array.getElem?_eq_some_iff.1 hbox).1
            clear hput1 hput2
            generalize ChangeMaps.setBlock (wr.alloc (.cells #[.int .i64 (up : Int), .int .u8 x.toNat] 300)).drew bm o = W2 at *
            have hEg : ∀ (j : Nat) cs fz, wr.heap[j]? = some (.cells cs 300 fz) → bm ≠ j := fun j cs fz hj e => by
              obtain ⟨es', ck, hb', _⟩ := HM.out.map
              rw [e, hj] at hb'
              cases hb'
            have HE3 := Lib.hid (HE2.out.keep fun j cs fz hj => hkp j (some_lt hj) (hEg j cs fz hj))
            have hF := Lib.hid (pfail_any HMid.out.inv HN.out hfew hp1 hp3 ns2.length (w := W2.drew) (by have := hMM.toF; rw [map_nilE] at this; exact this.drew))
            have hb0 := cell_of_row W2 wr.heap.size 0 _ _ _ hbox
            have hb1' := cell_of_row W2 wr.heap.size 1 _ _ _ hbox
            obtain ⟨hd0, _, _, hdf⟩ := hMM.cells
            rw [List.length_map] at hd0
            have HMM := Lib.hid hMM
            have hlt2 := hMM.lt
            clear hMM hc0 hc1 hc2 hf0 hcE0 hcE1 hkp hEg
            go_upto_region 17 with fail
            have hgn := HMM.out.ne.1
            have HFIN := Lib.hid (Rel2.step hkl he HB3.out hbwW HE3.out HMM.out HMid.out HN.out hfew h4 hp1 hp2 hp3 hp4)
            have hHK := Lib.hid (fun (w3 : World) (h3 : Below W2.heap.size W2 w3) => HMM.out.below h3)
            have hg2 : wr.heap.size ≠ g2 := by omega
            have hSW : W2.drew.cell? ⟨gm, 0, none⟩ = some (.slice (some ⟨g2, 0, none⟩) ns2.length cap2) ∧ W2.drew.cell? ⟨wr.heap.size, 0, none⟩ = some (.int .i64 (up : Int)) ∧ W2.drew.cell? ⟨wr.heap.size, 1, none⟩ = some (.int .u8 x.toNat) := ⟨hd0, hb0, hb1'⟩
            refine wp_region_U 14 (fun w' => w'.cell? ⟨gm, 0, none⟩ = some (.slice (some ⟨g2, 0, none⟩) ns2.length cap2) ∧ w'.cell? ⟨wr.heap.size, 0, none⟩ = some (.int .i64 (up : Int)) ∧ w'.cell? ⟨wr.heap.size, 1, none⟩ = some (.int .u8 x.toNat)) (by kernel_rfl) hSW ?_
            intro hS0
            refine wpAnyU_pure (i := 0) (v := ?v0) (some 70) rfl rfl (by kernel_rfl) (by kernel_rfl) (by kernel_rfl) (by decide) (fun _ _ _ h => h) (by rfl) ?hy0 (by assumption) ?rest0
            case hy0 => (intro w; go_simp; try rfl)
            intro hS0
            simp only [Act.put, List.setIfInBounds_toArray, List.set_cons_zero, List.set_cons_succ]
            refine wpAnyU_pure (i := 1) (v := ?v1) (some 71) rfl rfl (by kernel_rfl) (by kernel_rfl) (by kernel_rfl) (by decide) (fun _ _ _ h => h) (by rfl) ?hy1 (by assumption) ?rest1
            case hy1 => (intro w; go_simp; try rfl)
            intro hS1
            simp only [Act.put, List.setIfInBounds_toArray, List.set_cons_zero, List.set_cons_succ]
            refine wpAnyU_pure (i := 2) (v := ?v2) (some 72) rfl rfl (by kernel_rfl) (by kernel_rfl) (by kernel_rfl) (by decide) (fun _ _ _ h => h) (by rfl) ?hy2 (by assumption) ?rest2
            case hy2 => (intro w; go_simp; try rfl)
            intro hS2
            simp only [Act.put, List.setIfInBounds_toArray, List.set_cons_zero, List.set_cons_succ]
            refine wpAnyU_pure (i := 3) (v := ?v3) (some 73) rfl rfl (by kernel_rfl) (by kernel_rfl) (by kernel_rfl) (by decide) (fun _ _ _ h => h) (by rfl) ?hy3 (by assumption) ?rest3
            case hy3 => (intro w; go_simp; try rfl)
            intro hS3
            simp only [Act.put, List.setIfInBounds_toArray, List.set_cons_zero, List.set_cons_succ]
            refine wpAnyU_load (i := 4) (v := ?v4) [14] (some 74) rfl rfl (by kernel_rfl) (by kernel_rfl) (by kernel_rfl) (by decide) (by kernel_rfl) (by decide) (by kernel_rfl) (fun _ _ _ h => h) (by rfl) ?hy4 (by assumption) ?rest4
            case hy4 => (intro w hSw; (try dsimp only at hSw); go_simp; try rfl)
            intro hS4
            simp only [Act.put, List.setIfInBounds_toArray, List.set_cons_zero, List.set_cons_succ]
            refine wpAnyU_pure (i := 5) (v := ?v5) (some 75) rfl rfl (by kernel_rfl) (by kernel_rfl) (by kernel_rfl) (by decide) (fun _ _ _ h => h) (by rfl) ?hy5 (by assumption) ?rest5
            case hy5 => (intro w; go_simp; try rfl)
            intro hS5
            simp only [Act.put, List.setIfInBounds_toArray, List.set_cons_zero, List.set_cons_succ]
            refine wpAnyU_load (i := 6) (v := ?v6) [12, 13, 14] (some 76) rfl rfl (by kernel_rfl) (by kernel_rfl) (by kernel_rfl) (by decide) (by kernel_rfl) (by decide) (by kernel_rfl) (fun _ _ _ h => h) (by rfl) ?hy6 (by assumption) ?rest6
            case hy6 => (intro w hSw; (try dsimp only at hSw); go_simp; try rfl)
            intro hS6
            simp only [Act.put, List.setIfInBounds_toArray, List.set_cons_zero, List.set_cons_succ]
            refine wpAnyU_pure (i := 7) (v := ?v7) (some 77) rfl rfl (by kernel_rfl) (by kernel_rfl) (by kernel_rfl) (by decide) (fun _ _ _ h => h) (by rfl) ?hy7 (by assumption) ?rest7
            case hy7 => (intro w; go_simp; try rfl)
            intro hS7
            simp only [Act.put, List.setIfInBounds_toArray, List.set_cons_zero, List.set_cons_succ]
            refine wpAnyU_load (i := 8) (v := ?v8) [12, 13, 14] (some 78) rfl rfl (by kernel_rfl) (by kernel_rfl) (by kernel_rfl) (by decide) (by kernel_rfl) (by decide) (by kernel_rfl) (fun _ _ _ h => h) (by rfl) ?hy8 (by assumption) ?rest8
            case hy8 => (intro w hSw; (try dsimp only at hSw); go_simp; try rfl)
            intro hS8
            simp only [Act.put, List.setIfInBounds_toArray, List.set_cons_zero, List.set_cons_succ]
            refine wpAnyU_pure (i := 9) (v := ?v9) (some 79) rfl rfl (by kernel_rfl) (by kernel_rfl) (by kernel_rfl) (by decide) (fun _ _ _ h => h) (by rfl) ?hy9 (by assumption) ?rest9
            case hy9 => (intro w; go_simp; try rfl)
            intro hS9
            simp only [Act.put, List.setIfInBounds_toArray, List.set_cons_zero, List.set_cons_succ]
            refine wpAnyU_load (i := 10) (v := ?v10) [11, 12, 13, 14] (some 80) rfl rfl (by kernel_rfl) (by kernel_rfl) (by kernel_rfl) (by decide) (by kernel_rfl) (by decide) (by kernel_rfl) (fun _ _ _ h => h) (by rfl) ?hy10 (by assumption) ?rest10
            case hy10 => (intro w hSw; (try dsimp only at hSw); go_simp; try rfl)
            intro hS10
            simp only [Act.put, List.setIfInBounds_toArray, List.set_cons_zero, List.set_cons_succ]
            refine wpAnyU_one (i := 11) (some 81) (.call { callee := .value (.func 233), args := #[.tmp 79, .tmp 80], argTypes := #[264, 300] }) (by kernel_rfl) rfl rfl rfl (by rfl) ?_
            intro K11 hK11
            go_simp
            go_at_call 233
            refine hF.out.mono ?_
            rintro e w3 ⟨⟨r, rfl, hr⟩, hb3'⟩
            have hb3 : Below W2.heap.size W2 w3 := undrew hb3'
            have HO3 := Lib.hid (HMM.out.below hb3).own
            have hz3 := hb3.size
            refine hK11.out _ _ ⟨cell_kept hb3 hd0, cell_kept hb3 hb0, cell_kept hb3 hb1'⟩ fun hS11 => ?_
            try simp only [Act.put, List.setIfInBounds_toArray, List.set_cons_zero, List.set_cons_succ]
            refine wpAnyU_pure (i := 12) (v := ?v12) (some 82) rfl rfl (by kernel_rfl) (by kernel_rfl) (by kernel_rfl) (by decide) (fun _ _ _ h => h) (by rfl) ?hy12 (by assumption) ?rest12
            case hy12 => (intro w; go_simp; try rfl)
            intro hS12
            try simp only [Act.put, List.setIfInBounds_toArray, List.set_cons_zero, List.set_cons_succ]
            refine wpAnyU_one (i := 13) (some 83) (.buildSlice 224 1 #[(0, .tmp 82)]) (by kernel_rfl) rfl rfl rfl (by rfl) ?_
            intro K13 hK13
            go_simp
            refine hK13.out _ _ ⟨cell_kept ((Below.refl _ _).alloc (Nat.le_refl _) _) hS11.1, cell_kept ((Below.refl _ _).alloc (Nat.le_refl _) _) hS11.2.1, cell_kept ((Below.refl _ _).alloc (Nat.le_refl _) _) hS11.2.2⟩ fun hS13 => ?_
            try simp only [Act.put, List.setIfInBounds_toArray, List.set_cons_zero, List.set_cons_succ]
            refine wpAnyU_late (i := 14) (some 84) (.call { callee := .builtin .append, args := #[.tmp 74, .tmp 83], argTypes := #[224, 224] }) (by kernel_rfl) rfl rfl rfl (by rfl) (by kernel_rfl) ?_
            intro K14 hK14
            refine wp_append_g rowN (.tmp 74) (.tmp 83) rfl B (.slice (some ⟨g2, 0, none⟩) ns2.length cap2) (ns2.map nilE) rfl (by have := HO3.out; rwa [List.length_map] at this) (by have := hb3.size; omega) _ (nilE ⟨x, up, r⟩) rfl _ rfl 1 rfl (by rw [List.length_map]; omega) ?_
            intro v4 w4 hO4 hb4 hk4 hz4
            obtain ⟨g4, c4, rfl, _, _⟩ := hO4.head (by simp)
            have hk34 : ∀ j, j < w3.heap.size → g2 ≠ j → w4.heap[j]? = w3.heap[j]? := fun j hj hne => hk4 j hj (fun e => hne (Option.some.inj e))
            have e0 : w4.cell? ⟨gm, 0, none⟩ = some (.slice (some ⟨g2, 0, none⟩) ns2.length cap2) := (cell_heap (hk34 gm (by omega) (Ne.symm hgn)) 0).trans hS11.1
            have ef : w4.frozen? ⟨gm, 0, none⟩ = false := (free_heap (hk34 gm (by omega) (Ne.symm hgn)) 0).trans (hHK.out w3 hb3).cells.2.2.2
            refine hK14.out _ _ ?_
            try simp only [Act.put, List.setIfInBounds_toArray, List.set_cons_zero, List.set_cons_succ]
            refine wpAnyU_late (i := 15) (some 85) (.nilCheck (.tmp 70)) (by kernel_rfl) rfl rfl rfl (by rfl) (by kernel_rfl) ?_
            intro K15 hK15
            go_simp
            refine hK15.out _ _ ?_
            try simp only [Act.put, List.setIfInBounds_toArray, List.set_cons_zero, List.set_cons_succ]
            refine wpAnyU_late (i := 16) (some 86) (.fieldAddr 269 (.tmp 85) 0) (by kernel_rfl) rfl rfl rfl (by rfl) (by kernel_rfl) ?_
            intro K16 hK16
            go_simp
            refine hK16.out _ _ ?_
            try simp only [Act.put, List.setIfInBounds_toArray, List.set_cons_zero, List.set_cons_succ]
            refine wpAnyU_late (i := 17) none (.store 224 (.tmp 86) (.tmp 84)) (by kernel_rfl) rfl rfl rfl (by rfl) (by kernel_rfl) ?_
            intro K17 hK17
            go_simp
            refine hK17.out _ _ ?_
            refine wpAnyU_done (by kernel_rfl) ?_ _
            have HF2 := HFIN.out r w3 w4 g4 c4 hr hb3 hO4 hb4 hk34
            clear hb3 hb3' hO4 hb4 hk34 hk4 hz4 hz3 hS11 hS13
            go_wp2_with fail
            exact ⟨HF2, by simp [intOf] <;> omega⟩
        · obtain rfl : k = es.length := by omega
          obtain ⟨_, _, hmid0, _⟩ := hM2.cells
          have HM := Lib.hid hM2
          have HMid := Lib.hid hMid
          have HN := Lib.hid hNext
          have HF := Lib.hid hfew
          clear hM2 hMid hNext hE2 hperm hmid0 hkl hk hfew
          go_wp2_with fail
          go_loopw [90] (fun i wq => Rel3 B gm bm ga ca ws n w ats ns2 ss2 l2 g2 cap2 i wq) (fun i _ => ws.length - (intOf i).toNat)
          case atStart => exact ⟨0, ats, Nat.zero_le _, rfl, HB3.out, HM.out, hlen, fun j hj => absurd hj (by omega), fun _ _ => rfl⟩
          case round =>
            obtain ⟨k, ats2, hk, rfl, hb5, hM5, hlen5, hr1, hr2⟩ := hrel
            by_cases hkl : k < ws.length
            · obtain ⟨_, _, e, _, hc⟩ := sl_word (HS.out.below hb5) hkl
              injection e with e
              injection e with e1 e2 _
              subst e1; subst e2
              obtain ⟨_, hm1, hm2, _⟩ := hM5.cells
              obtain ⟨hcell, hfro⟩ := hM5.at k (by omega)
              have HP := Lib.hid (Rel3.pass HL.out.ats HMid.out hkl (hb := hb5) (hM := hM5) (hl := hlen5) (h1 := hr1) (h2 := hr2))
              have HG := Lib.hid (Rel3.go HL.out.ats HE.out HMid.out HN.out hkl (hb := hb5.drew) (hM := hM5.below (Below.refl _ _).drew) (hl := hlen5) (h1 := hr1) (h2 := hr2))
              have hmap := hM5.map
              have hga : ats2.getD k 0 = ats2[k] := by rw [List.getD_eq_getElem?_getD, List.getElem?_eq_getElem (by omega)]; rfl
              rw [hga] at HG
              have hat4 : ats2[k] < 65536 := by
                have h1 := HL.out.lev.inv.lt (HL.out.ats.str k (by rw [lstS, List.length_map]; exact hkl))
                have h2 := HL.out.few
                rw [← hr2 k (Nat.le_refl _), hga] at h1
                omega
              clear hM5 hr1 hr2 hga
              generalize ws[k] = s at hc HP HG
              generalize ats2[k] = a at hcell HG hat4
              by_cases hns : n < s.size
              · obtain ⟨q, hq1, hq2, hq3⟩ := HG.out hns
                have HQ := Lib.hid hq3
                clear HG HP hq3
                generalize hx : s[n] = x at hq1
                have hlk : (Instr.lookup 267 (.map (some bm)) (.agg #[.int .i64 (a : Int), .int .u8 x.toNat]) false).run Tryz.prog wr.drew = .ok (.int .i64 (q : Int)) wr.drew := by
                  have := run_look_edge (w := wr.drew) (MpAt.keep hmap rfl) ((a : Int), x) ⟨by omega, by show (a : Int) < _; omega⟩
                  rw [hq1] at this
                  exact this
                clear hmap
                go_wp2_with fail
                go_region
                go_wp2_with fail
                exact ⟨HQ.out, by simp [intOf] <;> omega⟩
              · have HP2 := Lib.hid (HP.out hns)
                clear HG HP
                go_wp2_with fail
                exact ⟨HP2.out, by simp [intOf] <;> omega⟩
            · obtain rfl : k = ws.length := by omega
              have HD := Lib.hid (Rel3.done HL.out.lev HL.out.ats HE.out HMid.out HN.out HF.out hb5 hM5 hlen5 hr1)
              clear hM5 hr1 hr2
              go_wp2_with fail
              go_ret
              exact HD.out
end Go.Proofs.YthfjmlcjkbgboaaGreatDoor
