/- Part 42 of the proof: lemmas and walks that the last texts use. -/
import Derived.Test.YtdkbfljhfhjofaaGreatDoorM08
import Derived.Test.YtdkbfljhfhjofaaGreatDoorM13
import Derived.Test.YtdkbfljhfhjofaaGreatDoorM38
import Derived.Test.YtdkbfljhfhjofaaGreatDoorM41
import Derived.Laws.StructEq
import Derived.BigRegion
import Derived.BigQuiet
import Derived.Deep.QuietTactic
import Derived.Test.YtdkbfljhfhjofaaGreatDoorRows
import Derived.WalkKit
import Derived.ProofKit
import Derived.OpenShut
import Derived.ShutString
import Derived.JoinedCond
import Derived.SizedLaws
import Derived.HandedShaped
namespace Go.Proofs.YtdkbfljhfhjofaaGreatDoor
open Go.RowKit
set_option maxRecDepth 100000 in
set_option maxHeartbeats 800000 in
theorem ruEqualV_yes (l : List RuVar) (A1 A2 : Option Addr) (c1 c2 : Nat) (w : World) (h1 : Sl w w.heap.size 3 A1 l.length (l.flatMap cellsRuV)) (h2 : Sl w w.heap.size 3 A2 l.length (l.flatMap cellsRuV)) (hl : l.length ≤ 4398046511104) :
    Calls Tryz.prog 29 #[.slice A1 l.length c1, .slice A2 l.length c2] w (BoolPost true w) := by
  unfold BoolPost
  generalize hn : l.length = n at *
  have HN := Lib.hid hn
  clear hn
  go_enter Tryz.func29, Tryz.ntmps29
  go_wp2_with fail
  go_loopw [13] (fun i wr => ∃ k : Nat, k ≤ n ∧ i = .int .i64 k ∧ Below w.heap.size w wr) (fun i _ => n - (intOf i).toNat)
  case atStart => exact ⟨0, Nat.zero_le _, rfl, Below.refl _ _⟩
  case round =>
    obtain ⟨k, hk, rfl, hb⟩ := hrel
    by_cases hlt : k < n
    · have q1 : k < l.length := by rw [HN.out]; exact hlt
      obtain ⟨b, off, rfl, hbB, x0, x1, x2⟩ := ruV_at (h1.below hb) k q1
      obtain ⟨b', off', rfl, hbB', y0, y1, y2⟩ := ruV_at (h2.below hb) k q1
      generalize l[k] = X at *
      obtain ⟨p, q, r⟩ := X
      dsimp only at x0 x1 x2 y0 y1 y2
      have i1 : (k : Int) < (n : Int) := by omega
      have i2 : IntKind.i64.wrap ((k : Int) + 1) = (k : Int) + 1 := IntWalk.i64_in _ (by omega)
      have i3 : (0 : Int) ≤ (k : Int) := by omega
      have e1 : (p == p) = true := by simp
      have e2 : (q == q) = true := by simp
      have e3 : (r.toList == r.toList) = true := by simp
      have HBB := Lib.hid hb
      clear hb
      go_wp2_with fail
      go_quiet (fail)
      go_wp2_with fail
      exact ⟨⟨k + 1, by omega, rfl, below_drewN HBB.out nq⟩, by dsimp only [intOf]; omega⟩
    · obtain rfl : k = n := by omega
      go_wp2_with fail
      go_ret
      exact ⟨rfl, hb⟩
set_option maxRecDepth 100000 in
set_option maxHeartbeats 800000 in
theorem ruEqualA_yes (l : List RuAct) (A1 A2 : Option Addr) (c1 c2 : Nat) (w : World) (h1 : Sl w w.heap.size 2 A1 l.length (l.flatMap cellsRuA)) (h2 : Sl w w.heap.size 2 A2 l.length (l.flatMap cellsRuA)) (hl : l.length ≤ 4398046511104) :
    Calls Tryz.prog 31 #[.slice A1 l.length c1, .slice A2 l.length c2] w (BoolPost true w) := by
  unfold BoolPost
  generalize hn : l.length = n at *
  have HN := Lib.hid hn
  clear hn
  go_enter Tryz.func31, Tryz.ntmps31
  go_wp2_with fail
  go_loopw [13] (fun i wr => ∃ k : Nat, k ≤ n ∧ i = .int .i64 k ∧ Below w.heap.size w wr) (fun i _ => n - (intOf i).toNat)
  case atStart => exact ⟨0, Nat.zero_le _, rfl, Below.refl _ _⟩
  case round =>
    obtain ⟨k, hk, rfl, hb⟩ := hrel
    by_cases hlt : k < n
    · have q1 : k < l.length := by rw [HN.out]; exact hlt
      obtain ⟨b, off, rfl, hbB, x0, x1⟩ := ruA_at (h1.below hb) k q1
      obtain ⟨b', off', rfl, hbB', y0, y1⟩ := ruA_at (h2.below hb) k q1
      generalize l[k] = X at *
      obtain ⟨p, q⟩ := X
      dsimp only at x0 x1 y0 y1
      have i1 : (k : Int) < (n : Int) := by omega
      have i2 : IntKind.i64.wrap ((k : Int) + 1) = (k : Int) + 1 := IntWalk.i64_in _ (by omega)
      have i3 : (0 : Int) ≤ (k : Int) := by omega
      have e1 : (p == p) = true := by simp
      have e2 : (q == q) = true := by simp
      have HBB := Lib.hid hb
      clear hb
      go_wp2_with fail
      go_quiet (fail)
      go_wp2_with fail
      exact ⟨⟨k + 1, by omega, rfl, below_drewN HBB.out nq⟩, by dsimp only [intOf]; omega⟩
    · obtain rfl : k = n := by omega
      go_wp2_with fail
      go_ret
      exact ⟨rfl, hb⟩
end Go.Proofs.YtdkbfljhfhjofaaGreatDoor
namespace Go.Proofs.YtdkbfljhfhjofaaGreatDoor
open Go.RowKit
set_option maxRecDepth 100000 in
set_option maxHeartbeats 1600000 in
theorem sameRule_yes (x y : RuM) (he : x.r = y.r) (w : World) (hx : RuIn w w.heap.size x) (hy : RuIn w w.heap.size y) (hs : RuSmall x.r) :
    Calls Tryz.prog 28 #[.agg (cellsRu x).toArray, .agg (cellsRu y).toArray] w (BoolPost true w) := by
  have hv : ∀ W, Below w.heap.size w W → Calls Tryz.prog 29 #[.slice x.vA x.r.vars.length x.vc, .slice y.vA x.r.vars.length y.vc] W (BoolPost true W) := fun W hb => ruEqualV_yes x.r.vars x.vA y.vA x.vc y.vc W ((hx.vars.below hb).more hb.size) (by rw [he]; exact (hy.vars.below hb).more hb.size) (by have := hs.vars; omega)
  have hp : ∀ W, Below w.heap.size w W → Calls Tryz.prog 30 #[.slice x.pA x.r.pipe.length x.pc, .slice y.pA x.r.pipe.length y.pc] W (BoolPost true W) := fun W hb => EqualI_yes x.r.pipe x.pA y.pA x.pc y.pc W ((hx.pipe.below hb).more hb.size) (by rw [he]; exact (hy.pipe.below hb).more hb.size) (by have := hs.pipe; omega)
  have ha : ∀ W, Below w.heap.size w W → Calls Tryz.prog 31 #[.slice x.aA x.r.acts.length x.ac, .slice y.aA x.r.acts.length y.ac] W (BoolPost true W) := fun W hb => ruEqualA_yes x.r.acts x.aA y.aA x.ac y.ac W ((hx.acts.below hb).more hb.size) (by rw [he]; exact (hy.acts.below hb).more hb.size) (by have := hs.acts; omega)
  obtain ⟨r, vA, vc, pA, pc, aA, ac⟩ := x
  obtain ⟨r', vA', vc', pA', pc', aA', ac'⟩ := y
  dsimp only at he
  subst he
  obtain ⟨id, ph, vars, pipe, no, op, arg, acts, chain⟩ := r
  unfold cellsRu
  clear hx hy hs
  dsimp only at *
  generalize vars.length = nv at *
  generalize pipe.length = np at *
  generalize acts.length = na at *
  have HV := Lib.hid hv
  have HP := Lib.hid hp
  have HA := Lib.hid ha
  clear hv hp ha
  obtain ⟨W0, hW0⟩ : ∃ W0, W0 = (w.alloc (.cells #[.int .i64 id, .int .i64 ph, .slice vA nv vc, .slice pA np pc, .bool no, .int .i64 op, .string arg, .slice aA na ac, .bool chain] 39)).alloc (.cells #[.int .i64 id, .int .i64 ph, .slice vA' nv vc', .slice pA' np pc', .bool no, .int .i64 op, .string arg, .slice aA' na ac', .bool chain] 39) := ⟨_, rfl⟩
  have hX : R9 W0 w.heap.size (.int .i64 id) (.int .i64 ph) (.slice vA nv vc) (.slice pA np pc) (.bool no) (.int .i64 op) (.string arg) (.slice aA na ac) (.bool chain) := by rw [hW0]; exact (Below.heap_alloc _ _ _ (by simp)).trans (heap_alloc_new w _)
  have hY : R9 W0 (w.heap.size + 1) (.int .i64 id) (.int .i64 ph) (.slice vA' nv vc') (.slice pA' np pc') (.bool no) (.int .i64 op) (.string arg) (.slice aA' na ac') (.bool chain) := by
    have := heap_alloc_new (w.alloc (.cells #[.int .i64 id, .int .i64 ph, .slice vA nv vc, .slice pA np pc, .bool no, .int .i64 op, .string arg, .slice aA na ac, .bool chain] 39)) (.cells #[.int .i64 id, .int .i64 ph, .slice vA' nv vc', .slice pA' np pc', .bool no, .int .i64 op, .string arg, .slice aA' na ac', .bool chain] 39)
    rw [World.size_alloc] at this
    rw [hW0]; exact this
  have hb0 : Below w.heap.size w W0 := by rw [hW0]; exact ((Below.refl _ _).alloc (Nat.le_refl _) _).alloc (by simp) _
  have e0 : (id == id) = true := by simp
  have e1 : (ph == ph) = true := by simp
  have e4 : (no == no) = true := by simp
  have e5 : (op == op) = true := by simp
  have e6 : (arg.toList == arg.toList) = true := by simp
  have e8 : (chain == chain) = true := by simp
  go_enter Tryz.func28, Tryz.ntmps28
  go_upto_region 1 with fail
  rw [← hW0]
  clear hW0
  have x0 := hX.cell 0
  have x1 := hX.cell 1
  have x2 := hX.cell 2
  simp only [List.getElem?_toArray, List.getElem?_cons_succ, List.getElem?_cons_zero] at x0 x1 x2
  have y0 := hY.cell 0
  have y1 := hY.cell 1
  have y2 := hY.cell 2
  simp only [List.getElem?_toArray, List.getElem?_cons_succ, List.getElem?_cons_zero] at y0 y1 y2
  go_wp2_with fail
  refine (HV.out W0 hb0).mono ?_
  rintro e w1 ⟨rfl, hb1⟩
  have hX1 := hX.below hb1
  have hY1 := hY.below hb1
  have hbw1 := hb0.trans (hb1.mono hb0.size)
  clear x0 x1 x2 y0 y1 y2 hX hY hb0 hb1
  have x3 := hX1.cell 3
  simp only [List.getElem?_toArray, List.getElem?_cons_succ, List.getElem?_cons_zero] at x3
  have y3 := hY1.cell 3
  simp only [List.getElem?_toArray, List.getElem?_cons_succ, List.getElem?_cons_zero] at y3
  go_wp2_with fail
  refine (HP.out w1 hbw1).mono ?_
  rintro e w2 ⟨rfl, hb2⟩
  have hX2 := hX1.below hb2
  have hY2 := hY1.below hb2
  have hbw2 := hbw1.trans (hb2.mono hbw1.size)
  clear x3 y3 hX1 hY1 hbw1 hb2
  have x4 := hX2.cell 4
  have x5 := hX2.cell 5
  have x6 := hX2.cell 6
  have x7 := hX2.cell 7
  simp only [List.getElem?_toArray, List.getElem?_cons_succ, List.getElem?_cons_zero] at x4 x5 x6 x7
  have y4 := hY2.cell 4
  have y5 := hY2.cell 5
  have y6 := hY2.cell 6
  have y7 := hY2.cell 7
  simp only [List.getElem?_toArray, List.getElem?_cons_succ, List.getElem?_cons_zero] at y4 y5 y6 y7
  go_wp2_with fail
  refine (HA.out w2 hbw2).mono ?_
  rintro e w3 ⟨rfl, hb3⟩
  have hX3 := hX2.below hb3
  have hY3 := hY2.below hb3
  have hbw3 := hbw2.trans (hb3.mono hbw2.size)
  clear x4 x5 x6 x7 y4 y5 y6 y7 hX2 hY2 hbw2 hb3
  have x8 := hX3.cell 8
  simp only [List.getElem?_toArray, List.getElem?_cons_succ, List.getElem?_cons_zero] at x8
  have y8 := hY3.cell 8
  simp only [List.getElem?_toArray, List.getElem?_cons_succ, List.getElem?_cons_zero] at y8
  go_wp2_with fail
  go_ret
  exact ⟨rfl, hbw3⟩
set_option maxRecDepth 100000 in
set_option maxHeartbeats 1600000 in
theorem sameList_yes (l1 l2 : List RuM) (A1 A2 : Option Addr) (c1 c2 : Nat) (w : World) (h1 : Sl w w.heap.size 9 A1 l1.length (l1.flatMap cellsRu)) (h2 : Sl w w.heap.size 9 A2 l2.length (l2.flatMap cellsRu))
    (he : l1.map RuM.r = l2.map RuM.r) (i1 : ∀ x ∈ l1, RuIn w w.heap.size x) (i2 : ∀ x ∈ l2, RuIn w w.heap.size x) (hs : ∀ x ∈ l1, RuSmall x.r) (hl : l1.length ≤ 1048576) :
    Calls Tryz.prog 27 #[.slice A1 l1.length c1, .slice A2 l2.length c2, .func (.func 28) #[] #[]] w (BoolPost true w) := by
  have hlen : l1.length = l2.length := by have := congrArg List.length he; rwa [List.length_map, List.length_map] at this
  have HSR : Hid (∀ (k : Nat) (x y : RuM), l1[k]? = some x → l2[k]? = some y → ∀ W, Below w.heap.size w W → Calls Tryz.prog 28 #[.agg (cellsRu x).toArray, .agg (cellsRu y).toArray] W (BoolPost true W)) := fun k x y q1 q2 W hb => by
    refine sameRule_yes x y ?_ W ((i1 _ (List.mem_of_getElem? q1)).keep hb hb.size) ((i2 _ (List.mem_of_getElem? q2)).keep hb hb.size) (hs _ (List.mem_of_getElem? q1))
    have : (l1.map RuM.r)[k]? = (l2.map RuM.r)[k]? := by rw [he]
    rw [List.getElem?_map, List.getElem?_map, q1, q2] at this
    exact Option.some.inj this
  rw [← hlen] at h2 ⊢
  have HLEN := Lib.hid hlen
  clear hlen he i1 i2 hs
  generalize hn : l1.length = n at *
  have HN := Lib.hid hn
  clear hn
  go_enter Tryz.func27, Tryz.ntmps27
  go_wp2_with fail
  go_loopw [17] (fun i wr => ∃ k : Nat, k ≤ n ∧ i = .int .i64 k ∧ Below w.heap.size w wr) (fun i _ => n - (intOf i).toNat)
  case atStart => exact ⟨0, Nat.zero_le _, rfl, Below.refl _ _⟩
  case round =>
    obtain ⟨k, hk, rfl, hb⟩ := hrel
    by_cases hlt : k < n
    · have q1 : k < l1.length := by rw [HN.out]; exact hlt
      have q2 : k < l2.length := by rw [← HLEN.out]; exact hlt
      obtain ⟨b, off, rfl, hbB, hc1⟩ := ruR_at (h1.below hb) k q1
      obtain ⟨b', off', rfl, hbB', hc2⟩ := ruR_at (h2.below hb) k q2
      have HS := Lib.hid (HSR.out k _ _ (List.getElem?_eq_getElem q1) (List.getElem?_eq_getElem q2))
      have x0 := hc1 0 (by decide) _ rfl
      have y0 := hc2 0 (by decide) _ rfl
      have x1 := hc1 1 (by decide) _ rfl
      have y1 := hc2 1 (by decide) _ rfl
      have x2 := hc1 2 (by decide) _ rfl
      have y2 := hc2 2 (by decide) _ rfl
      have x3 := hc1 3 (by decide) _ rfl
      have y3 := hc2 3 (by decide) _ rfl
      have x4 := hc1 4 (by decide) _ rfl
      have y4 := hc2 4 (by decide) _ rfl
      have x5 := hc1 5 (by decide) _ rfl
      have y5 := hc2 5 (by decide) _ rfl
      have x6 := hc1 6 (by decide) _ rfl
      have y6 := hc2 6 (by decide) _ rfl
      have x7 := hc1 7 (by decide) _ rfl
      have y7 := hc2 7 (by decide) _ rfl
      have x8 := hc1 8 (by decide) _ rfl
      have y8 := hc2 8 (by decide) _ rfl
      rw [Nat.add_zero] at x0 y0
      generalize l1[k] = X at *
      generalize l2[k] = Y at *
      clear hc1 hc2
      obtain ⟨⟨i0, ph, vars, pipe, no, op, arg, acts, chain⟩, vA, vc, pA, pc, aA, ac⟩ := X
      obtain ⟨⟨i0', ph', vars', pipe', no', op', arg', acts', chain'⟩, vA', vc', pA', pc', aA', ac'⟩ := Y
      unfold cellsRu at HS
      dsimp only at x0 x1 x2 x3 x4 x5 x6 x7 x8 y0 y1 y2 y3 y4 y5 y6 y7 y8 HS
      generalize vars.length = nv at *
      generalize pipe.length = np at *
      generalize acts.length = na at *
      generalize vars'.length = nv' at *
      generalize pipe'.length = np' at *
      generalize acts'.length = na' at *
      have hzr : w.heap.size ≤ wr.heap.size := hb.size
      have hq1 : b < wr.heap.size := by omega
      have hq2 : b' < wr.heap.size := by omega
      have HB2 : Hid (∀ o o', Below w.heap.size w ((wr.alloc o).alloc o')) := fun o o' => (hb.alloc hzr o).alloc (by simp; omega) o'
      go_wp2_with fail
      refine (HS.out _ (HB2.out _ _)).mono ?_
      rintro e w1 ⟨rfl, hb1⟩
      go_wp2_with fail
      go_roundw
      case rel => exact ⟨k + 1, by omega, by go_num, (HB2.out _ _).trans (hb1.mono (HB2.out _ _).size)⟩
      case measure => simp [intOf] <;> omega
    · obtain rfl : k = n := by omega
      go_wp2_with fail
      go_ret
      exact ⟨rfl, hb⟩
set_option maxRecDepth 100000 in
set_option maxHeartbeats 1600000 in
theorem SameRules_yes (a b : RuArg) (he : a.set = b.set) (w : World) (ha : RuLies w w.heap.size a) (hb : RuLies w w.heap.size b) (hs : RuBulk a) :
    Calls Tryz.prog 11 #[a.value, b.value] w (BoolPost true w) := by
  have h1 : a.most = b.most := congrArg RuSet.most he
  have h2 : a.status = b.status := congrArg RuSet.status he
  have h3 : a.l.map RuM.r = b.l.map RuM.r := congrArg RuSet.list he
  have hl : ∀ W, Below w.heap.size w W → _ := fun W hbw => sameList_yes a.l b.l a.A b.A a.c b.c W ((ha.sl.below hbw).more hbw.size) ((hb.sl.below hbw).more hbw.size) h3 (fun x hx => (ha.all x hx).keep hbw hbw.size) (fun x hx => (hb.all x hx).keep hbw hbw.size) hs.all hs.len
  have HL := Lib.hid hl
  unfold RuArg.value
  rw [h1, h2]
  clear h3 he ha hb hs hl h1 h2
  obtain ⟨m, st, A, c, l⟩ := a
  obtain ⟨m', st', A', c', l'⟩ := b
  dsimp only at *
  have e0 : (m' == m') = true := by simp
  have e1 : (st' == st') = true := by simp
  have HB2 : Hid (∀ o o', Below w.heap.size w ((w.alloc o).alloc o')) := fun o o' => ((Below.refl _ _).alloc (Nat.le_refl _) o).alloc (by simp) o'
  go_enter Tryz.func11, Tryz.ntmps11
  go_wp2_with fail
  refine (HL.out _ (HB2.out _ _)).mono ?_
  rintro e w1 ⟨rfl, hb1⟩
  go_wp2_with fail
  go_ret
  exact ⟨rfl, (HB2.out _ _).trans (hb1.mono (HB2.out _ _).size)⟩
end Go.Proofs.YtdkbfljhfhjofaaGreatDoor
namespace Go.Proofs.YtdkbfljhfhjofaaGreatDoor
open Go.ChangeShapes Go.WideShapes Go.ChangeAt Go.RowKit
theorem own : ownKnob Tryz.prog.godebug = none := by kernel_rfl
theorem laidOut : laidOutB Tryz.prog = true := by kernel_rfl
theorem upto_bound {H : Type} {l : List (DataW H)} (hk : Rows.uptoSmall H l = true) : Rows.uptoBulkAll l ≤ 1048576 := of_decide_eq_true hk
section
variable {H : Type} {enc : TypeId × Value → H} {P : Program}
theorem trodAll_stay (hl : laidOutB P = true) {W W' : World} (hb : Below W.heap.size W W') : ∀ {ts : List TypeId} {vs : List Value} {ds : List (DataW H)} {ps : List MemPlace},
    (∀ t ∈ ts, P.readableRec t = true ∧ t < P.types.size) → DataW.TrodAll enc P W 0 (fun _ => true) true ts vs ds ps → (∀ x ∈ ps, x.block < W.heap.size) →
    ∀ sp : Nat → Bool, (∀ p ∈ ps, sp p.block = true) → DataW.TrodAll enc P W' 0 sp true ts vs ds ps
  | [], vs, ds, ps, _, h, _, sp, _ => by
    cases vs <;> cases ds <;> first | exact h | cases h
  | t :: ts, [], ds, ps, _, h, _, _, _ => by cases ds <;> cases h
  | t :: ts, v :: vs, [], ps, _, h, _, _, _ => by cases h
  | t :: ts, v :: vs, d :: ds, ps, hr, h, hlt, sp, hs => by
    obtain ⟨p, q, h1, h2, rfl⟩ := h
    obtain ⟨r1, r2⟩ := hr t (by simp)
    exact ⟨p, q, WideElems.Trod_stays hl r1 r2 h1 (fun x hx => hb.same (hlt x (by simp [hx]))) (fun x hx => hs x (by simp [hx])),
      trodAll_stay hl hb (fun t' ht' => hr t' (by simp [ht'])) h2 (fun x hx => hlt x (by simp [hx])) sp (fun x hx => hs x (by simp [hx])), rfl⟩
theorem law_post {f : Func} {s : ChangeSpec} {apart fresh handsOn again : Bool} {W W' : World} {args : Array Value} {ds gs : List (DataW H)} {before : List MemPlace} {tb : TypeId}
    (hl : laidOutB P = true) (hr : ∀ t ∈ f.params.toList, P.readableRec t = true ∧ t < P.types.size) (hres : f.resultTypes = #[tb]) (htb : P.underlying tb = some .bool) (hvars : s.vars = [])
    (hW : DataW.Whole enc P f.params.toList s.vars apart W args.toList ds gs before) (hb : Below W.heap.size W W')
    (hfn : s.fn H (ds ++ gs) = { results := [.lit (.bool true)], args := ds }) :
    s.post enc P f apart fresh handsOn again W args (.bool true) W' := by
  have hW0 := hW
  have hlt : ∀ p ∈ before, p.block < W.heap.size := fun p hp => hW0.lt p hp
  have hold : ∀ p ∈ before, (fun b => decide (b < W.heap.size)) p.block = true := fun p hp => by simpa using hlt p hp
  obtain ⟨p, q, hA, hV, hpq, hz, hn⟩ := hW
  rw [hvars] at hV
  obtain ⟨rfl, rfl⟩ := trodVars_none hV
  rw [List.append_nil] at hpq
  subst hpq
  have hargs : ∀ sp : Nat → Bool, (∀ p ∈ before, sp p.block = true) → DataW.TrodAll enc P W' 0 sp true f.params.toList args.toList ds before := trodAll_stay hl hb hr hA hlt
  have hrb : ∀ (b : Nat) (sp : Nat → Bool) (hd : Bool), DataW.TrodAll enc P W' b sp hd f.resultTypes.toList ((Value.bool true).resultList f.resultTypes.size) [.lit (.bool true)] [] := fun b sp hd => by
    rw [hres]; exact trodAll_cons_mk (shut_bool htb true) trodAll_mk0
  refine ⟨ds, [], before, [], before, [], hW0, ?_, ?_, ?_, World.keptBut_mono (fun p hp => ⟨hp, Or.inr (Or.inl hp)⟩) (hb.frame (· ∈ before)), fun _ => ?_⟩
  · rw [hfn]; exact hrb _ _ _
  · rw [hfn]; exact hargs _ hold
  · rw [hfn, hvars]; exact rfl
  · refine ⟨ok_one (by rw [hres]) (by first | rfl | (rw [hres]; rfl)) (okWide_bool_mk htb true), .lit (.bool true) :: ds, [], before, ⟨before, [], ?_, by rw [hvars]; exact rfl, by simp, ?_, ?_⟩, ?_⟩
    · rw [hres]
      exact trodAll_cons_mk (shut_bool htb true) (hargs _ (fun _ _ => rfl))
    · intro b off hp
      rw [hb.frozen (hlt _ hp)]
      exact hz b off hp
    · exact hn
    · intro p hp _; exact hp
end
end Go.Proofs.YtdkbfljhfhjofaaGreatDoor
