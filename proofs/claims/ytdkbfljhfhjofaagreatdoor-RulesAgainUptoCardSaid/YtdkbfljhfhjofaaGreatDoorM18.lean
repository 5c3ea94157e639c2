/- Part 18 of the proof: lemmas and walks that the last texts use. -/
import Derived.Test.YtdkbfljhfhjofaaGreatDoorM17
import Derived.ChangeKeysEq
import Derived.Deep.QuietTactic
import Derived.BigQuiet
import Derived.Deep.RegionHeld3
import Derived.Laws.CopyOwn
import Derived.StillTailTactics
import Derived.BigRegion
import Derived.IntWalk
namespace Go.Proofs.YtdkbfljhfhjofaaGreatDoor
open Go.RowKit
theorem kids_any (k : Int) (w : World) : Calls Tryz.prog 203 #[.int .i64 k] w fun e w' => e = .returned (.int .i64 (kidsI k)) ∧ w' = w := by
  by_cases h4 : k = 4
  · subst h4; go_enter Tryz.func203, Tryz.ntmps203
    go_wp2; go_ret; exact ⟨rfl, rfl⟩
  by_cases h5 : k = 5
  · subst h5; go_enter Tryz.func203, Tryz.ntmps203
    go_wp2; go_ret; exact ⟨rfl, rfl⟩
  by_cases h6 : k = 6
  · subst h6; go_enter Tryz.func203, Tryz.ntmps203
    go_wp2; go_ret; exact ⟨rfl, rfl⟩
  by_cases h1 : k = 1
  · subst h1; go_enter Tryz.func203, Tryz.ntmps203
    go_wp2; go_ret; exact ⟨rfl, rfl⟩
  by_cases h2 : k = 2
  · subst h2; go_enter Tryz.func203, Tryz.ntmps203
    go_wp2; go_ret; exact ⟨rfl, rfl⟩
  by_cases h3 : k = 3
  · subst h3; go_enter Tryz.func203, Tryz.ntmps203
    go_wp2; go_ret; exact ⟨rfl, rfl⟩
  by_cases h7 : k = 7
  · subst h7; go_enter Tryz.func203, Tryz.ntmps203
    go_wp2; go_ret; exact ⟨rfl, rfl⟩
  by_cases h8 : k = 8
  · subst h8; go_enter Tryz.func203, Tryz.ntmps203
    go_wp2; go_ret; exact ⟨rfl, rfl⟩
  have hk : Hid (kidsI k = -1) := by unfold Hid kidsI; rw [if_neg (by omega), if_neg h6, if_neg (by omega)]
  have q1 : (k == 1) = false := beq_eq_false_iff_ne.2 h1
  have q2 : (k == 2) = false := beq_eq_false_iff_ne.2 h2
  have q3 : (k == 3) = false := beq_eq_false_iff_ne.2 h3
  have q4 : (k == 4) = false := beq_eq_false_iff_ne.2 h4
  have q5 : (k == 5) = false := beq_eq_false_iff_ne.2 h5
  have q6 : (k == 6) = false := beq_eq_false_iff_ne.2 h6
  have q7 : (k == 7) = false := beq_eq_false_iff_ne.2 h7
  have q8 : (k == 8) = false := beq_eq_false_iff_ne.2 h8
  clear h1 h2 h3 h4 h5 h6 h7 h8
  go_enter Tryz.func203, Tryz.ntmps203
  go_wp2
  go_ret
  exact ⟨by rw [hk.out]; rfl, rfl⟩
def setV (s : Set4) : Value := .agg #[.int .u64 s.a, .int .u64 s.b, .int .u64 s.c, .int .u64 s.d]
theorem info_u64 : ∃ i, Tryz.prog.info? 148 = some i := by
  cases h : Tryz.prog.info? 148 with
  | some i => exact ⟨i, rfl⟩
  | none => exact absurd (show (Tryz.prog.info? 148).isSome = true by kernel_rfl) (by rw [h]; decide)
theorem run_eq64 (d : Nat) (x y : Int) (w : World) : (Op.equalIn (d + 1) 148 (.int .u64 x) (.int .u64 y)).run Tryz.prog w = .ok (x == y) w := by
  simp [Op.equalIn, run_underlying Tryz.underlying148]
theorem plain_u64 : Tryz.prog.plainKey 148 = true := by kernel_rfl
theorem items_one (d i : Nat) (is : List Nat) (xs ys : Array Value) (x y : Int) (hx : xs[i]? = some (.int .u64 x)) (hy : ys[i]? = some (.int .u64 y)) (w : World) :
    (Op.eqItems (d + 1) 148 1 xs ys (i :: is)).run Tryz.prog w = if x = y then (Op.eqItems (d + 1) 148 1 xs ys is).run Tryz.prog w else .ok false w := by
  simp only [Op.eqItems, Sem.run_bind, Nat.mul_one, run_part_plain w plain_u64 hx, run_part_plain w plain_u64 hy, Result.andThen_ok, run_eq64]
  by_cases h : x = y
  · subst h; simp
  · have : (x == y) = false := beq_eq_false_iff_ne.2 h
    simp [h]
set_option maxRecDepth 100000 in
theorem run_set_equal (x y : Set4) (w : World) : (Op.equal 150 (setV x) (setV y)).run Tryz.prog w = .ok (decide (x = y)) w := by
  obtain ⟨i, hi⟩ := info_u64
  obtain ⟨a, b, c, d⟩ := x
  obtain ⟨a', b', c', d'⟩ := y
  have h := run_equalIn_array (P := Tryz.prog) (w := w) 9999 #[.int .u64 a, .int .u64 b, .int .u64 c, .int .u64 d] #[.int .u64 a', .int .u64 b', .int .u64 c', .int .u64 d'] Tryz.underlying150 hi
  rw [cellsOf_u64] at h
  unfold Op.equal setV
  refine h.trans ?_
  rw [show List.range 4 = [0, 1, 2, 3] from rfl, items_one 9998 0 _ _ _ a a' rfl rfl, items_one 9998 1 _ _ _ b b' rfl rfl, items_one 9998 2 _ _ _ c c' rfl rfl, items_one 9998 3 _ _ _ d d' rfl rfl]
  by_cases h1 : a = a' <;> by_cases h2 : b = b' <;> by_cases h3 : c = c' <;> by_cases h4 : d = d' <;> simp [h1, h2, h3, h4, Op.eqItems]
def sameB (x y : Set4) : Bool := decide (x = y)
theorem run_set_eql (x y : Set4) (w : World) : (binOp .eql 150 (setV x) (setV y)).run Tryz.prog w = .ok (.bool (sameB x y)) w := by
  have h := run_set_equal x y w
  unfold setV at h ⊢
  simp only [binOp, Sem.run_bind]
  rw [h]
  rfl
end Go.Proofs.YtdkbfljhfhjofaaGreatDoor
namespace Go.Proofs.YtdkbfljhfhjofaaGreatDoor
open Go.RowKit
theorem box_six {W w' : World} {c0 c1 c2 c3 c4 c5 : Value} {t : TypeId} (hb : Below (W.alloc (.cells #[c0, c1, c2, c3, c4, c5] t)).heap.size (W.alloc (.cells #[c0, c1, c2, c3, c4, c5] t)) w') :
    (w'.cell? ⟨W.heap.size, 0, none⟩ = some c0 ∧ w'.cell? ⟨W.heap.size, 1, none⟩ = some c1 ∧ w'.cell? ⟨W.heap.size, 2, none⟩ = some c2 ∧ w'.cell? ⟨W.heap.size, 3, none⟩ = some c3 ∧ w'.cell? ⟨W.heap.size, 4, none⟩ = some c4 ∧ w'.cell? ⟨W.heap.size, 5, none⟩ = some c5) ∧ Below W.heap.size W w' :=
  ⟨⟨new_cell hb 0, new_cell hb 1, new_cell hb 2, new_cell hb 3, new_cell hb 4, new_cell hb 5⟩, below_new hb (Nat.le_refl _)⟩
theorem BL.heap {w : World} {base g n : Nat} {l : List Bool} (h : BL w base g n n l) : w.heap[g]? = some (.cells (l.map Value.bool).toArray 4 (0, 0)) := by
  rcases h.own.2 with ⟨h0, _⟩ | ⟨g', cap', cur, h1, h2, h3, h4, h5, h6, h7⟩
  · cases h0
  · injection h1 with h1 _ h1c
    injection h1 with h1
    injection h1 with h1
    subst h1; subst h1c
    have : cur.toList = l.map Value.bool := by rw [← h7, List.take_of_length_le (by rw [Array.length_toList, h6]; exact Nat.le_refl _)]
    rw [h3, ← this]
end Go.Proofs.YtdkbfljhfhjofaaGreatDoor
namespace Go.Proofs.YtdkbfljhfhjofaaGreatDoor
open Go.RowKit
def argX (t : Tree) (A : Option Addr) (c : Nat) : Value := .agg #[.int .i64 t.kind, .int .u64 t.set.a, .int .u64 t.set.b, .int .u64 t.set.c, .int .u64 t.set.d, .slice A t.kids.length c]
/-- Two kids in memory. -/
theorem LK.two {w : World} {B : Nat} {a b : Tree} {A : Option Addr} (h : LK w B [a, b] A) : ∃ bb off ca cb, A = some ⟨bb, off, none⟩ ∧ bb < B ∧ CellsAt w bb off ca ∧ LT w B a ca ∧ CellsAt w bb (off + 6) cb ∧ LT w B b cb := by
  rw [LK] at h
  obtain ⟨bb, off, ca, h1, h2, h3, h4, h5, h6⟩ := h
  rw [LK] at h6
  obtain ⟨b2, off2, cb, g1, g2, g3, g4, g5, g6⟩ := h6
  injection g1 with g1
  injection g1 with e1 e2
  subst e1; subst e2
  exact ⟨bb, off, ca, cb, h1, h2, h4, h5, g4, g5⟩
theorem LK.one {w : World} {B : Nat} {a : Tree} {A : Option Addr} (h : LK w B [a] A) : ∃ bb off ca, A = some ⟨bb, off, none⟩ ∧ bb < B ∧ CellsAt w bb off ca ∧ LT w B a ca := by
  rw [LK] at h
  obtain ⟨bb, off, ca, h1, h2, h3, h4, h5, h6⟩ := h
  exact ⟨bb, off, ca, h1, h2, h4, h5⟩
end Go.Proofs.YtdkbfljhfhjofaaGreatDoor
namespace Go.Proofs.YtdkbfljhfhjofaaGreatDoor
open Go.RowKit
theorem zero_wfR : Set4.zero.Wf := ⟨⟨by decide, by decide⟩, ⟨by decide, by decide⟩, ⟨by decide, by decide⟩, ⟨by decide, by decide⟩⟩
def TreeP (t : Tree) (w : World) (e : Ending) (w' : World) : Prop :=
  ∃ A c, e = .returned (argX t A c) ∧ LT w' w'.heap.size t (cellsX t.kind t.set A t.kids.length c) ∧ Below w.heap.size w w'
set_option maxRecDepth 100000 in
set_option maxHeartbeats 800000 in
theorem rone_any (k : Int) (w : World) : Calls Tryz.prog 255 #[.int .i64 k] w (TreeP (.node k .zero []) w) := by
  have HB : Hid (∀ o, Below w.heap.size w (w.alloc o)) := fun o => (Below.refl _ _).alloc (Nat.le_refl _) o
  go_enter Tryz.func255, Tryz.ntmps255
  go_wp2_with fail
  refine bodyPost_ret (v := argX (.node k .zero []) none 0) (by simp [results, Tryz.results255, go_sem, argX, Tree.kind, Tree.set, Tree.kids, Set4.zero]) rfl ⟨none, 0, rfl, ?_, HB.out _⟩
  rw [LT]
  exact ⟨_, _, rfl, zero_wfR, LK.nil _ _ _⟩
end Go.Proofs.YtdkbfljhfhjofaaGreatDoor
namespace Go.Proofs.YtdkbfljhfhjofaaGreatDoor
open Go.RowKit
mutual
def sizeT : Tree → Int → Int
  | .node _ _ ts, n => sizeK ts (n + 1)
def sizeK : List Tree → Int → Int
  | [], n => n
  | t :: ts, n => if 80 < n then n else sizeK ts (sizeT t n)
end
mutual
theorem sizeT_le : ∀ (t : Tree) (n : Int), n ≤ 80 → n < sizeT t n ∧ sizeT t n ≤ 81
  | .node _ _ ts, n, h => by
    rw [sizeT]
    have := sizeK_le ts (n + 1) (by omega)
    exact ⟨by omega, this.2⟩
theorem sizeK_le : ∀ (ts : List Tree) (n : Int), n ≤ 81 → n ≤ sizeK ts n ∧ sizeK ts n ≤ 81
  | [], n, h => by rw [sizeK]; exact ⟨Int.le_refl _, h⟩
  | t :: ts, n, h => by
    rw [sizeK]
    by_cases h2 : 80 < n
    · rw [if_pos h2]; exact ⟨Int.le_refl _, h⟩
    · rw [if_neg h2]
      have h3 := sizeT_le t n (by omega)
      have h4 := sizeK_le ts (sizeT t n) h3.2
      exact ⟨by omega, h4.2⟩
end
mutual
/-- No node has more than two kids. -/
def FewT : Tree → Prop
  | .node _ _ ts => ts.length ≤ 2 ∧ FewK ts
def FewK : List Tree → Prop
  | [] => True
  | t :: ts => FewT t ∧ FewK ts
end
theorem FewK.at : ∀ {ts : List Tree}, FewK ts → ∀ (i : Nat) (h : i < ts.length), FewT ts[i]
  | [], _, i, h => absurd h (by simp)
  | t :: ts, hf, 0, _ => by rw [FewK] at hf; exact hf.1
  | t :: ts, hf, i + 1, h => by rw [FewK] at hf; exact FewK.at hf.2 i (by simpa using h)
theorem sizeK_step (ts : List Tree) (j : Nat) (h : j < ts.length) (m : Int) : sizeK (ts.drop j) m = if 80 < m then m else sizeK (ts.drop (j + 1)) (sizeT ts[j] m) := by
  rw [List.drop_eq_getElem_cons h, sizeK]
def SzRel (ts : List Tree) (n : Int) (w : World) (v1 v12 : Value) (wr : World) : Prop :=
  ∃ (j : Nat) (m : Int), j ≤ ts.length ∧ v1 = .int .i64 m ∧ v12 = .int .i64 j ∧ 0 ≤ m ∧ m ≤ 81 ∧ sizeK (ts.drop j) m = n ∧ Below w.heap.size w wr
def SizeC (t : Tree) : Prop := FewT t → ∀ (A : Option Addr) (c : Nat) (w : World) (n : Int), LT w w.heap.size t (cellsX t.kind t.set A t.kids.length c) → 0 ≤ n → n ≤ 80 →
  Calls Tryz.prog 228 #[argX t A c, .int .i64 n] w fun e w' => e = .returned (.int .i64 (sizeT t n)) ∧ Below w.heap.size w w'
set_option maxRecDepth 100000 in
set_option maxHeartbeats 1600000 in
theorem size_node (k : Int) (s : Set4) (ts : List Tree) (ih : ∀ (i : Nat) (h : i < ts.length), SizeC ts[i]) : SizeC (.node k s ts) := by
  intro hfw A c w n hl hn0 hn1
  rw [FewT] at hfw
  have hts := hfw.1
  have HFK := Lib.hid hfw.2
  clear hfw
  have IH := Lib.hid ih
  rw [LT] at hl
  obtain ⟨A', c', he, _, hk⟩ := hl
  have hA : A' = A := by unfold cellsX at he; simp only [List.cons.injEq, Value.slice.injEq] at he; exact he.2.2.2.2.2.1.1.symm
  subst hA
  have HS : Hid (sizeT (.node k s ts) n = sizeK ts (n + 1)) := by unfold Hid; rw [sizeT]
  have i0 : IntKind.i64.wrap (n + 1) = n + 1 := IntWalk.i64_in _ (by omega)
  have HB0 : Hid (∀ o, Below w.heap.size w (w.alloc o)) := fun o => (Below.refl _ _).alloc (Nat.le_refl _) o
  have HLK : Hid (∀ W, Below w.heap.size w W → LK W w.heap.size ts A') := fun W h => hk.below h
  generalize hN : sizeK ts (n + 1) = N at *
  have HN := Lib.hid hN
  unfold argX Tree.kind Tree.set Tree.kids
  dsimp only
  clear ih hk he hN
  go_enter Tryz.func228, Tryz.ntmps228
  go_wp2_with fail
  go_loopw [1, 6, 12] (fun v1 _ v12 wr => SzRel ts N w v1 v12 wr) (fun _ _ v12 _ => ts.length - (intOf v12).toNat)
  case atStart => exact ⟨0, n + 1, Nat.zero_le _, rfl, rfl, by omega, by omega, HN.out, HB0.out _⟩
  case round =>
    obtain ⟨j, m, hj, rfl, rfl, hm0, hm1, hM, hb⟩ := hrel
    have HBR := Lib.hid hb
    by_cases hlt : j < ts.length
    · have d1 : decide ((j : Int) < (ts.length : Int)) = true := decide_eq_true (by omega)
      have i7 : IntKind.i64.wrap ((j : Int) + 1) = (j : Int) + 1 := IntWalk.i64_in _ (by omega)
      have hzr := hb.size
      obtain ⟨b, off, cs2, rfl, hbB, hca, hl2⟩ := (HLK.out wr hb).at j hlt
      have IHj := IH.out j hlt (HFK.out.at j hlt)
      have HST := Lib.hid (sizeK_step ts j hlt m)
      generalize ts[j] = t2 at *
      obtain ⟨A2, c2, hcs2, _⟩ := hl2.parts
      subst hcs2
      have ⟨y0, y1, y2, y3, y4, y5⟩ := (show CellsAt wr b (off + j * 6) [_, _, _, _, _, _] from hca).six
      by_cases h80 : 80 < m
      · have d2 : decide (80 < m) = true := decide_eq_true h80
        have HF : Hid (N = m) := by unfold Hid; rw [← hM, HST.out, if_pos h80]
        have HBE : Hid (∀ o, Below w.heap.size w (wr.alloc o)) := fun o => HBR.out.alloc hzr o
        clear hM hb hca hl2 h80 IHj
        go_wp2_with fail
        exact bodyPost_ret (v := .int .i64 m) (by simp [results, Tryz.results228, go_sem]) rfl ⟨by rw [HS.out, HF.out], HBE.out _⟩
      · have d2 : decide (80 < m) = false := decide_eq_false h80
        have hrg := sizeT_le t2 m (by omega)
        have HQ : Hid (∀ o, Calls Tryz.prog 228 #[argX t2 A2 c2, .int .i64 m] (wr.alloc o) fun e w' => e = .returned (.int .i64 (sizeT t2 m)) ∧ Below (wr.alloc o).heap.size (wr.alloc o) w') := fun o =>
          IHj A2 c2 (wr.alloc o) m (hl2.keep (by simp; omega) (fun bb oo hp => ((Below.refl wr.heap.size wr).alloc (Nat.le_refl _) o).cell (p := ⟨bb, oo, none⟩) (by show bb < wr.heap.size; omega))) hm0 (by omega)
        rw [HST.out, if_neg h80] at hM
        have HM := Lib.hid hM
        generalize sizeT t2 m = m2 at *
        have HBE : Hid (∀ o w', Below (wr.alloc o).heap.size (wr.alloc o) w' → Below w.heap.size w w') := fun o w' h => (HBR.out.alloc hzr o).trans (h.mono (by simp; omega))
        unfold argX at HQ
        clear hM hb hca hl2 h80 IHj HST
        go_wp2_with (go_at_call 228; apply Hid.out)
        unfold Hid
        refine (HQ.out _).mono ?_
        rintro e w2 ⟨rfl, hb2⟩
        have hb3 := HBE.out _ _ hb2
        clear hb2 y0 y1 y2 y3 y4 y5
        go_wp2_with fail
        exact ⟨⟨j + 1, m2, by omega, rfl, rfl, by omega, hrg.2, HM.out, hb3⟩, by dsimp only [intOf]; omega⟩
    · obtain rfl : j = ts.length := by omega
      have d1 : decide ((ts.length : Int) < (ts.length : Int)) = false := by simp
      have HF : Hid (N = m) := by unfold Hid; rw [← hM, List.drop_length, sizeK]
      clear hM hb
      go_wp2_with fail
      exact bodyPost_ret (v := .int .i64 m) (by simp [results, Tryz.results228, go_sem]) rfl ⟨by rw [HS.out, HF.out], HBR.out⟩
theorem size_any (t : Tree) : SizeC t :=
  match t with
  | .node k s ts => size_node k s ts fun i h => size_any ts[i]
termination_by SizeOf.sizeOf t
decreasing_by
  have := List.sizeOf_lt_of_mem (List.getElem_mem h)
  simp only [Tree.node.sizeOf_spec]
  omega
end Go.Proofs.YtdkbfljhfhjofaaGreatDoor
namespace Go.Proofs.YtdkbfljhfhjofaaGreatDoor
open Go.RowKit
def iterI {α : Type} (step : α → Option α) : Nat → α → α
  | 0, x => x
  | n + 1, x => match step x with
    | none => x
    | some y => iterI step n y
def fixI {α : Type} (step : α → Option α) (m : α → Nat) (x : α) : α := iterI step (m x) x
structure Falls {α : Type} (I : α → Prop) (step : α → Option α) (m : α → Nat) : Prop where
  keep : ∀ x y, I x → step x = some y → I y
  less : ∀ x y, I x → step x = some y → m y < m x
theorem iterI_fuel {α : Type} {I : α → Prop} {step : α → Option α} {m : α → Nat} (h : Falls I step m) : ∀ (n k : Nat) (x : α), I x → m x ≤ n → m x ≤ k → iterI step n x = iterI step k x
  | 0, 0, _, _, _, _ => rfl
  | 0, k + 1, x, hx, h1, _ => by
    rw [iterI, iterI]
    cases hs : step x with
    | none => rfl
    | some y => exact absurd (h.less x y hx hs) (by omega)
  | n + 1, 0, x, hx, _, h2 => by
    rw [iterI, iterI]
    cases hs : step x with
    | none => rfl
    | some y => exact absurd (h.less x y hx hs) (by omega)
  | n + 1, k + 1, x, hx, h1, h2 => by
    rw [iterI, iterI]
    cases hs : step x with
    | none => rfl
    | some y =>
      have := h.less x y hx hs
      exact iterI_fuel h n k y (h.keep x y hx hs) (by omega) (by omega)
theorem fixI_eq {α : Type} {I : α → Prop} {step : α → Option α} {m : α → Nat} (h : Falls I step m) {x : α} (hx : I x) : fixI step m x = match step x with | none => x | some y => fixI step m y := by
  unfold fixI
  cases hs : step x with
  | none =>
    cases m x with
    | zero => rfl
    | succ k => rw [iterI, hs]
  | some y =>
    have h1 := h.less x y hx hs
    obtain ⟨k, hk⟩ : ∃ k, m x = k + 1 := ⟨m x - 1, by omega⟩
    rw [hk, iterI, hs]
    exact iterI_fuel h k (m y) y (h.keep x y hx hs) (by omega) (Nat.le_refl _)
theorem fixI_none {α : Type} {I : α → Prop} {step : α → Option α} {m : α → Nat} (h : Falls I step m) {x : α} (hx : I x) (hs : step x = none) : fixI step m x = x := by rw [fixI_eq h hx, hs]
theorem fixI_some {α : Type} {I : α → Prop} {step : α → Option α} {m : α → Nat} (h : Falls I step m) {x y : α} (hx : I x) (hs : step x = some y) : fixI step m x = fixI step m y := by rw [fixI_eq h hx, hs]
theorem iterI_keeps {α : Type} {Q : α → Prop} {step : α → Option α} (h : ∀ x y, Q x → step x = some y → Q y) : ∀ (n : Nat) (x : α), Q x → Q (iterI step n x)
  | 0, _, hx => hx
  | n + 1, x, hx => by
    rw [iterI]
    cases hs : step x with
    | none => exact hx
    | some y => exact iterI_keeps h n y (h x y hx hs)
theorem fixI_keeps {α : Type} {Q : α → Prop} {step : α → Option α} {m : α → Nat} (h : ∀ x y, Q x → step x = some y → Q y) {x : α} (hx : Q x) : Q (fixI step m x) := iterI_keeps h _ _ hx
abbrev TR := Tree × RS
def emT : Tree := .node 2 .zero []
def kT (k : Int) : Tree := .node k .zero []
def byT (f : Nat → Bool) : Tree := .node 3 (setF f) []
def onR (r : RS) : RS := { r with pos := r.pos + 1 }
def againT (t : Tree) : Tree := if sizeT t 0 ≤ 80 then t else emT
def stT (t : Tree) : Tree := .node 6 .zero [t]
def jnT (t u : Tree) : Tree := .node 4 .zero [t, u]
def orT (t u : Tree) : Tree := .node 5 .zero [t, u]
def leftT (s : List UInt8) (x : TR) : Nat := leftC s x.2
def closeR (s : List UInt8) (T : TR) : TR :=
  (T.1, if (takeR s { T.2 with op := T.2.op - 1 } 41).1 = true then (takeR s { T.2 with op := T.2.op - 1 } 41).2 else failR { T.2 with op := T.2.op - 1 } 3)
def baseR (s : List UInt8) (r : RS) : TR :=
  match (groupR s r).1 with
  | some f => (byT f, (groupR s r).2)
  | none => (byT (rgF (charR s r).1.toNat (charR s r).1.toNat), (charR s r).2)
def atomR (s : List UInt8) (A : RS → TR) (r : RS) : TR :=
  if nextR s r = 40 then (if r.op = 20 then (kT 0, failR r 11) else closeR s (A { r with pos := r.pos + 1, op := r.op + 1 }))
  else if nextR s r = 46 then (byT (fun x => !(rgF 10 10 x)), onR r)
  else if nextR s r = 94 then (kT 7, onR r)
  else if nextR s r = 36 then (kT 8, onR r)
  else if nextR s r = 91 then (byT (classR s (onR r)).1, (classR s (onR r)).2)
  else baseR s r
def pieceS (s : List UInt8) (x : TR) : Option TR :=
  if nextR s x.2 = 42 then some (stT x.1, onR x.2)
  else if nextR s x.2 = 63 then some (orT x.1 emT, onR x.2)
  else if nextR s x.2 = 43 then some (jnT x.1 (stT (againT x.1)), onR x.2)
  else none
def pieceR (s : List UInt8) (A : RS → TR) (r : RS) : TR := fixI (pieceS s) (leftT s) (atomR s A r)
def rowS (s : List UInt8) (P : RS → TR) (x : TR) : Option TR := if endsR s x.2 = true then none else some (jnT x.1 (P x.2).1, (P x.2).2)
def rowR (s : List UInt8) (P : RS → TR) (r : RS) : TR := if endsR s r = true then (emT, r) else fixI (rowS s P) (leftT s) (P r)
def altS (s : List UInt8) (R : RS → TR) (x : TR) : Option TR := if nextR s x.2 = 124 then some (orT x.1 (R (onR x.2)).1, (R (onR x.2)).2) else none
def altR (s : List UInt8) (R : RS → TR) (r : RS) : TR := fixI (altS s R) (leftT s) (R r)
/-- With so many brackets that may be opened, and one more. -/
def altD (s : List UInt8) : Nat → RS → TR
  | 0, r => (kT 0, r)
  | d + 1, r => altR s (rowR s (pieceR s (altD s d))) r
def pieceD (s : List UInt8) (d : Nat) : RS → TR := pieceR s (altD s d)
def rowD (s : List UInt8) (d : Nat) : RS → TR := rowR s (pieceD s d)
mutual
/-- No node is of the kind that matches nothing. -/
def NoN : Tree → Prop
  | .node k _ ts => k ≠ 1 ∧ NoNK ts
def NoNK : List Tree → Prop
  | [] => True
  | t :: ts => NoN t ∧ NoNK ts
end
structure GoodT (s : List UInt8) (r : RS) (T : TR) : Prop where
  step : Step s r T.2
  few : FewT T.1
  non : NoN T.1
def GoodF (s : List UInt8) (A : RS → TR) : Prop := ∀ r : RS, r.pos ≤ s.length → GoodT s r (A r)
theorem few_leaf (k : Int) (S : Set4) : FewT (.node k S []) := by rw [FewT, FewK]; exact ⟨by simp, trivial⟩
theorem non_leaf {k : Int} (S : Set4) (h : k ≠ 1) : NoN (.node k S []) := by rw [NoN, NoNK]; exact ⟨h, trivial⟩
theorem few_one {k : Int} {S : Set4} {t : Tree} (h : FewT t) : FewT (.node k S [t]) := by rw [FewT, FewK, FewK]; exact ⟨by simp, h, trivial⟩
theorem non_one {k : Int} {S : Set4} {t : Tree} (hk : k ≠ 1) (h : NoN t) : NoN (.node k S [t]) := by rw [NoN, NoNK, NoNK]; exact ⟨hk, h, trivial⟩
theorem few_two {k : Int} {S : Set4} {t u : Tree} (h : FewT t) (h2 : FewT u) : FewT (.node k S [t, u]) := by rw [FewT, FewK, FewK, FewK]; exact ⟨by simp, h, h2, trivial⟩
theorem non_two {k : Int} {S : Set4} {t u : Tree} (hk : k ≠ 1) (h : NoN t) (h2 : NoN u) : NoN (.node k S [t, u]) := by rw [NoN, NoNK, NoNK, NoNK]; exact ⟨hk, h, h2, trivial⟩
theorem few_again {t : Tree} (h : FewT t) : FewT (againT t) := by unfold againT; split; exact h; exact few_leaf _ _
theorem non_again {t : Tree} (h : NoN t) : NoN (againT t) := by unfold againT; split; exact h; exact non_leaf _ (by decide)
theorem on_step {s : List UInt8} {r : RS} {b : Int} (h : nextR s r = b) (hb : 0 ≤ b) : Step s r (onR r) ∧ r.pos < (onR r).pos ∧ r.e = 0 := by
  obtain ⟨h1, h2⟩ := nextR_pos h hb
  exact ⟨step_on h1, Nat.lt_succ_self _, h2⟩
theorem ends_e {s : List UInt8} {r : RS} (h : endsR s r = false) : r.e = 0 := by
  by_cases he : r.e = 0
  · exact he
  · have : nextR s r = -1 := by unfold nextR; rw [if_neg he]
    unfold endsR at h
    rw [this] at h
    exact absurd h (by decide)
theorem good_close {s : List UInt8} {r : RS} {T : TR} (hn : nextR s r = 40) (h : GoodT s { r with pos := r.pos + 1, op := r.op + 1 } T) : GoodT s r (closeR s T) ∧ (r.pos < (closeR s T).2.pos ∨ (closeR s T).2.e ≠ 0) := by
  obtain ⟨hp, he⟩ := nextR_pos hn (by decide)
  have hs := h.step
  have hop : T.2.op - 1 = r.op := by have : T.2.op = r.op + 1 := hs.op; omega
  have hle : r.pos + 1 ≤ T.2.pos := hs.le
  have h1 : Step s r { T.2 with op := T.2.op - 1 } := ⟨hs.inn, by show r.pos ≤ T.2.pos; omega, hop, fun e => absurd he e⟩
  have h2 := (take_step h1.inn (b := 41) (by decide)).1
  have h3 : Step s r (closeR s T).2 ∧ r.pos < (closeR s T).2.pos := by
    unfold closeR
    dsimp only
    split
    · exact ⟨h1.trans h2, Nat.lt_of_lt_of_le (show r.pos < T.2.pos by omega) h2.le⟩
    · exact ⟨h1.trans (step_fail h1.inn 3 (by decide)), by rw [(failR_facts _ 3 (by decide)).1]; show r.pos < T.2.pos; omega⟩
  exact ⟨⟨h3.1, h.few, h.non⟩, .inl h3.2⟩
theorem good_base {s : List UInt8} {r : RS} (h : r.pos ≤ s.length) : GoodT s r (baseR s r) ∧ (r.pos < (baseR s r).2.pos ∨ (baseR s r).2.e ≠ 0) := by
  obtain ⟨g1, g2, g3⟩ := group_step h
  obtain ⟨c1, c2, c3⟩ := char_step h
  unfold baseR
  cases hg : (groupR s r).1 with
  | some f => exact ⟨⟨g1, few_leaf _ _, non_leaf _ (by decide)⟩, .inl (g3 f hg).1⟩
  | none => exact ⟨⟨c1, few_leaf _ _, non_leaf _ (by decide)⟩, c2⟩
theorem good_atom {s : List UInt8} {A : RS → TR} (hA : GoodF s A) {r : RS} (h : r.pos ≤ s.length) : GoodT s r (atomR s A r) ∧ (r.pos < (atomR s A r).2.pos ∨ (atomR s A r).2.e ≠ 0) := by
  unfold atomR
  by_cases h1 : nextR s r = 40
  · rw [if_pos h1]
    by_cases h2 : r.op = 20
    · rw [if_pos h2]
      exact ⟨⟨step_fail h 11 (by decide), few_leaf _ _, non_leaf _ (by decide)⟩, .inr (failR_facts r 11 (by decide)).2.2⟩
    · rw [if_neg h2]
      exact good_close h1 (hA _ (nextR_pos h1 (by decide)).1)
  rw [if_neg h1]
  have leaf : ∀ (b k : Int) (S : Set4), 0 ≤ b → k ≠ 1 → nextR s r = b → GoodT s r (.node k S [], onR r) ∧ (r.pos < (onR r).pos ∨ (onR r).e ≠ 0) := fun b k S hb hk hn =>
    ⟨⟨(on_step hn hb).1, few_leaf _ _, non_leaf _ hk⟩, .inl (on_step hn hb).2.1⟩
  by_cases h2 : nextR s r = 46
  · rw [if_pos h2]; exact leaf 46 _ _ (by decide) (by decide) h2
  rw [if_neg h2]
  by_cases h3 : nextR s r = 94
  · rw [if_pos h3]; exact leaf 94 _ _ (by decide) (by decide) h3
  rw [if_neg h3]
  by_cases h4 : nextR s r = 36
  · rw [if_pos h4]; exact leaf 36 _ _ (by decide) (by decide) h4
  rw [if_neg h4]
  by_cases h5 : nextR s r = 91
  · rw [if_pos h5]
    obtain ⟨o1, o2, _⟩ := on_step h5 (by decide)
    have c := class_step o1.inn
    exact ⟨⟨o1.trans c, few_leaf _ _, non_leaf _ (by decide)⟩, .inl (Nat.lt_of_lt_of_le o2 c.le)⟩
  · rw [if_neg h5]; exact good_base h
theorem left_on {s : List UInt8} {r : RS} {b : Int} (h : nextR s r = b) (hb : 0 ≤ b) : leftC s (onR r) < leftC s r := by
  obtain ⟨h1, h2⟩ := nextR_pos h hb
  unfold leftC
  rw [if_pos h2, if_pos (show (onR r).e = 0 from h2)]
  show s.length - (r.pos + 1) + 1 < _
  omega
theorem left_mono {s : List UInt8} {a b : RS} (h : Step s a b) : leftC s b ≤ leftC s a := by
  have h1 := h.le
  have h2 := h.inn
  unfold leftC
  by_cases ha : a.e = 0
  · rw [if_pos ha]
    by_cases hb : b.e = 0
    · rw [if_pos hb]; omega
    · rw [if_neg hb]; omega
  · rw [if_neg ha, if_neg (h.keep ha)]; exact Nat.le_refl _
theorem left_prog {s : List UInt8} {a b : RS} (h : Step s a b) (ha : a.e = 0) (hp : a.pos < b.pos ∨ b.e ≠ 0) : leftC s b < leftC s a := by
  have h2 := h.inn
  unfold leftC
  rw [if_pos ha]
  by_cases hb : b.e = 0
  · rw [if_pos hb]
    rcases hp with hp | hp
    · omega
    · exact absurd hb hp
  · rw [if_neg hb]; omega
def InR (s : List UInt8) (x : TR) : Prop := x.2.pos ≤ s.length
theorem pieceS_cases {s : List UInt8} {x y : TR} (h : pieceS s x = some y) : ∃ b, 0 ≤ b ∧ nextR s x.2 = b ∧ y.2 = onR x.2 ∧ (FewT x.1 → FewT y.1) ∧ (NoN x.1 → NoN y.1) := by
  unfold pieceS at h
  by_cases h1 : nextR s x.2 = 42
  · rw [if_pos h1] at h
    obtain rfl := Option.some.inj h
    exact ⟨42, by decide, h1, rfl, few_one, non_one (by decide)⟩
  rw [if_neg h1] at h
  by_cases h2 : nextR s x.2 = 63
  · rw [if_pos h2] at h
    obtain rfl := Option.some.inj h
    exact ⟨63, by decide, h2, rfl, fun q => few_two q (few_leaf _ _), fun q => non_two (by decide) q (non_leaf _ (by decide))⟩
  rw [if_neg h2] at h
  by_cases h3 : nextR s x.2 = 43
  · rw [if_pos h3] at h
    obtain rfl := Option.some.inj h
    exact ⟨43, by decide, h3, rfl, fun q => few_two q (few_one (few_again q)), fun q => non_two (by decide) q (non_one (by decide) (non_again q))⟩
  · rw [if_neg h3] at h; cases h
theorem pieceS_falls (s : List UInt8) : Falls (InR s) (pieceS s) (leftT s) where
  keep x y hx h := by
    obtain ⟨b, hb, hn, hy, _⟩ := pieceS_cases h
    unfold InR
    rw [hy]
    exact (on_step hn hb).1.inn
  less x y hx h := by
    obtain ⟨b, hb, hn, hy, _⟩ := pieceS_cases h
    unfold leftT
    rw [hy]
    exact left_on hn hb
theorem good_pieceS {s : List UInt8} {r : RS} {x y : TR} (g : GoodT s r x) (h : pieceS s x = some y) : GoodT s r y ∧ x.2.pos < y.2.pos := by
  obtain ⟨b, hb, hn, hy, h1, h2⟩ := pieceS_cases h
  obtain ⟨o1, o2, _⟩ := on_step hn hb
  refine ⟨⟨?_, h1 g.few, h2 g.non⟩, by rw [hy]; exact o2⟩
  rw [hy]
  exact g.step.trans o1
theorem good_piece {s : List UInt8} {A : RS → TR} (hA : GoodF s A) {r : RS} (h : r.pos ≤ s.length) : GoodT s r (pieceR s A r) ∧ (r.pos < (pieceR s A r).2.pos ∨ (pieceR s A r).2.e ≠ 0) := by
  have g := good_atom hA h
  unfold pieceR
  refine fixI_keeps (Q := fun T => GoodT s r T ∧ (r.pos < T.2.pos ∨ T.2.e ≠ 0)) (fun x y hx hs => ?_) g
  obtain ⟨g1, g2⟩ := good_pieceS hx.1 hs
  exact ⟨g1, .inl (Nat.lt_of_le_of_lt hx.1.step.le g2)⟩
def PieceF (s : List UInt8) (P : RS → TR) : Prop := ∀ r : RS, r.pos ≤ s.length → GoodT s r (P r) ∧ (r.pos < (P r).2.pos ∨ (P r).2.e ≠ 0)
theorem rowS_some {s : List UInt8} {P : RS → TR} {x y : TR} (h : rowS s P x = some y) : endsR s x.2 = false ∧ y = (jnT x.1 (P x.2).1, (P x.2).2) := by
  unfold rowS at h
  cases he : endsR s x.2 with
  | true => rw [he, if_pos rfl] at h; cases h
  | false => rw [he, if_neg (by decide)] at h; exact ⟨rfl, (Option.some.inj h).symm⟩
theorem rowS_falls {s : List UInt8} {P : RS → TR} (hP : PieceF s P) : Falls (InR s) (rowS s P) (leftT s) where
  keep x y hx h := by
    obtain ⟨_, rfl⟩ := rowS_some h
    exact (hP x.2 hx).1.step.inn
  less x y hx h := by
    obtain ⟨he, rfl⟩ := rowS_some h
    exact left_prog (hP x.2 hx).1.step (ends_e he) (hP x.2 hx).2
theorem good_row {s : List UInt8} {P : RS → TR} (hP : PieceF s P) : GoodF s (rowR s P) := by
  intro r h
  unfold rowR
  cases he : endsR s r with
  | true => rw [if_pos rfl]; exact ⟨Step.refl h, few_leaf _ _, non_leaf _ (by decide)⟩
  | false =>
    rw [if_neg (by decide)]
    refine fixI_keeps (Q := GoodT s r) (fun x y hx hs => ?_) (hP r h).1
    obtain ⟨_, rfl⟩ := rowS_some hs
    have := (hP x.2 hx.step.inn).1
    exact ⟨hx.step.trans this.step, few_two hx.few this.few, non_two (by decide) hx.non this.non⟩
theorem altS_some {s : List UInt8} {R : RS → TR} {x y : TR} (h : altS s R x = some y) : nextR s x.2 = 124 ∧ y = (orT x.1 (R (onR x.2)).1, (R (onR x.2)).2) := by
  unfold altS at h
  by_cases he : nextR s x.2 = 124
  · rw [if_pos he] at h; exact ⟨he, (Option.some.inj h).symm⟩
  · rw [if_neg he] at h; cases h
theorem altS_falls {s : List UInt8} {R : RS → TR} (hR : GoodF s R) : Falls (InR s) (altS s R) (leftT s) where
  keep x y hx h := by
    obtain ⟨hn, rfl⟩ := altS_some h
    exact (hR _ (on_step hn (by decide)).1.inn).step.inn
  less x y hx h := by
    obtain ⟨hn, rfl⟩ := altS_some h
    have o := on_step hn (by decide)
    exact Nat.lt_of_le_of_lt (left_mono (hR _ o.1.inn).step) (left_on hn (by decide))
theorem good_alt {s : List UInt8} {R : RS → TR} (hR : GoodF s R) : GoodF s (altR s R) := by
  intro r h
  unfold altR
  refine fixI_keeps (Q := GoodT s r) (fun x y hx hs => ?_) (hR r h)
  obtain ⟨hn, rfl⟩ := altS_some hs
  have o := on_step hn (by decide)
  have := hR _ o.1.inn
  exact ⟨hx.step.trans (o.1.trans this.step), few_two hx.few this.few, non_two (by decide) hx.non this.non⟩
theorem good_altD (s : List UInt8) : ∀ d, GoodF s (altD s d)
  | 0 => fun r h => ⟨Step.refl h, few_leaf _ _, non_leaf _ (by decide)⟩
  | d + 1 => good_alt (good_row fun r h => good_piece (good_altD s d) h)
theorem good_pieceD (s : List UInt8) (d : Nat) : PieceF s (pieceD s d) := fun _ h => good_piece (good_altD s d) h
theorem good_rowD (s : List UInt8) (d : Nat) : GoodF s (rowD s d) := good_row (good_pieceD s d)
end Go.Proofs.YtdkbfljhfhjofaaGreatDoor
