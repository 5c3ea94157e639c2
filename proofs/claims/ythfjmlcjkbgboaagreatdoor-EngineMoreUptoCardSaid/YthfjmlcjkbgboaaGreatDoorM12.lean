/- Part 12 of the proof: lemmas and walks that the last texts use. -/
import Derived.Test.YthfjmlcjkbgboaaGreatDoorM04
import Derived.Test.YthfjmlcjkbgboaaGreatDoorM09
import Derived.Test.YthfjmlcjkbgboaaGreatDoorM11
namespace Go.Proofs.YthfjmlcjkbgboaaGreatDoor
open Go.RowKit
def RgRel0 (lo : Nat) (w : World) (b : Value) (wr : World) : Prop :=
  b = .int .i64 lo ∧ FourW wr (w.heap.size + 1) (setF fun _ => false) ∧ FourW wr w.heap.size (setF fun _ => false) ∧ Below w.heap.size w wr
set_option maxRecDepth 100000 in
set_option maxHeartbeats 1600000 in
theorem Range_off (lo hi : Nat) (h1 : hi < lo) (w : World) :
    Calls Tryz.prog 193 #[.int .i64 lo, .int .i64 hi] w (SetPostW (setF fun _ => false) w) := by
  have h0 : ∀ W, W = (w.alloc (.cells #[.int .u64 0, .int .u64 0, .int .u64 0, .int .u64 0] 214)).alloc (.cells #[.int .u64 0, .int .u64 0, .int .u64 0, .int .u64 0] 214) → FourW W (w.heap.size + 1) (setF fun _ => false) ∧ FourW W w.heap.size (setF fun _ => false) ∧ Below w.heap.size w W := fun W hW => by
    have hb : Below w.heap.size w W := by rw [hW]; exact ((Below.refl _ _).alloc (Nat.le_refl _) _).alloc (by simp) _
    refine ⟨?_, ?_, hb⟩
    · have := FourW.new (w.alloc (.cells #[.int .u64 0, .int .u64 0, .int .u64 0, .int .u64 0] 214))
      rw [World.size_alloc] at this
      rw [hW]
      exact this
    · rw [hW]
      exact (Below.heap_alloc _ _ _ (by simp)).trans (FourW.new w)
  have H0 := Lib.hid h0
  clear h0
  go_enter Tryz.func193, Tryz.ntmps193
  go_wp2_with fail
  go_loopw [6] (fun b wr => RgRel0 lo w b wr) (fun b _ => 256 - (intOf b).toNat)
  case atStart => exact ⟨rfl, H0.out _ rfl⟩
  case round =>
      obtain ⟨rfl, hF, hZ, hb⟩ := hrel
      have d1 : decide ((lo : Int) ≤ (hi : Int)) = false := by simp; omega
      obtain ⟨S, hS⟩ : ∃ S, S = setF fun _ => false := ⟨_, rfl⟩
      rw [← hS] at hF hZ
      have HS := Lib.hid hS
      clear hS
      have ⟨c0, c1, c2, c3⟩ := hF.cells
      have ⟨z0, z1, z2, z3⟩ := hZ.cells
      have y0 := hZ.free 0
      have y1 := hZ.free 1
      have y2 := hZ.free 2
      have y3 := hZ.free 3
      go_wp2_with fail
      have hFW := hZ.fill S
      have hbW := (((hb.setCell (p := ⟨w.heap.size, 0, none⟩) (Nat.le_refl _) (.int .u64 S.a)).setCell (p := ⟨w.heap.size, 1, none⟩) (Nat.le_refl _) (.int .u64 S.b)).setCell (p := ⟨w.heap.size, 2, none⟩) (Nat.le_refl _) (.int .u64 S.c)).setCell (p := ⟨w.heap.size, 3, none⟩) (Nat.le_refl _) (.int .u64 S.d)
      generalize ((((wr.setCell ⟨w.heap.size, 0, none⟩ (.int .u64 S.a)).setCell ⟨w.heap.size, 1, none⟩ (.int .u64 S.b)).setCell ⟨w.heap.size, 2, none⟩ (.int .u64 S.c)).setCell ⟨w.heap.size, 3, none⟩ (.int .u64 S.d)) = WF at *
      obtain ⟨s0, s1, s2, s3⟩ := hFW.cells
      exact bodyPost_ret (v := setA S) (by simp [results, Tryz.results193, go_sem, s0, s1, s2, s3, setA]) rfl ⟨by rw [HS.out], hbW⟩
theorem Range_all (lo hi : Nat) (h2 : hi < 256) (w : World) :
    Calls Tryz.prog 193 #[.int .i64 lo, .int .i64 hi] w (SetPostW (setF (rgF lo hi)) w) := by
  rcases Nat.lt_or_ge hi lo with h | h
  · have e : setF (rgF lo hi) = setF fun _ => false := setF_congr fun x _ => by
      unfold rgF
      by_cases e : lo ≤ x
      · have : ¬ x ≤ hi := by omega
        simp [this]
      · simp [e]
    rw [e]
    exact Range_off lo hi h w
  · exact Range_any lo hi h h2 w
end Go.Proofs.YthfjmlcjkbgboaaGreatDoor
namespace Go.Proofs.YthfjmlcjkbgboaaGreatDoor
open Go.RowKit
/-- One round of a class: what it adds, and how it leaves the reader. -/
def roundC (s : List UInt8) (r : RS) : (Nat → Bool) × RS :=
  match (groupR s r).1 with
  | some f => (f, (groupR s r).2)
  | none =>
    if (takeR s (charR s r).2 45).1 = true then
      (rgF (charR s r).1.toNat (charR s (takeR s (charR s r).2 45).2).1.toNat,
        if (charR s (takeR s (charR s r).2 45).2).1 < (charR s r).1 ∧ (charR s (takeR s (charR s r).2 45).2).2.e = 0 then failR { (charR s (takeR s (charR s r).2 45).2).2 with pos := (takeR s (charR s r).2 45).2.pos } 3
        else (charR s (takeR s (charR s r).2 45).2).2)
    else (rgF (charR s r).1.toNat (charR s r).1.toNat, (takeR s (charR s r).2 45).2)
theorem round_step {s : List UInt8} {r : RS} (h : r.pos ≤ s.length) : Step s r (roundC s r).2 ∧ (r.pos < (roundC s r).2.pos ∨ (roundC s r).2.e ≠ 0) := by
  obtain ⟨g1, g2, g3⟩ := group_step h
  obtain ⟨c1, c2, _⟩ := char_step h
  obtain ⟨t1, t2⟩ := take_step c1.inn (b := 45) (by decide)
  obtain ⟨d1, d2, _⟩ := char_step t1.inn
  unfold roundC
  cases hg : (groupR s r).1 with
  | some f => exact ⟨g1, .inl (g3 f hg).1⟩
  | none =>
    dsimp only
    generalize charR s r = C at *
    generalize takeR s C.2 45 = T at *
    generalize charR s T.2 = D at *
    have ct := c1.trans t1
    have l1 := c1.le
    have l2 := t1.le
    have l3 := d1.le
    by_cases ht : T.1 = true
    · rw [if_pos ht]
      have h2 := t2 ht
      by_cases hb : D.1 < C.1 ∧ D.2.e = 0
      · rw [if_pos hb]
        obtain ⟨f1, f2, f3⟩ := failR_facts { D.2 with pos := T.2.pos } 3 (by decide)
        have f1' : (failR { D.2 with pos := T.2.pos } 3).pos = T.2.pos := f1
        have f2' : (failR { D.2 with pos := T.2.pos } 3).op = D.2.op := f2
        exact ⟨⟨by show (failR { D.2 with pos := T.2.pos } 3).pos ≤ _; rw [f1']; exact t1.inn, by show _ ≤ (failR { D.2 with pos := T.2.pos } 3).pos; rw [f1']; exact ct.le, by show (failR { D.2 with pos := T.2.pos } 3).op = _; rw [f2']; exact d1.op.trans ct.op, fun _ => f3⟩, .inr f3⟩
      · rw [if_neg hb]
        exact ⟨ct.trans d1, .inl (by show r.pos < D.2.pos; have := h2.1; omega)⟩
    · rw [if_neg ht]
      refine ⟨ct, ?_⟩
      rcases c2 with h3 | h3
      · exact .inl (by show r.pos < T.2.pos; omega)
      · exact .inr (t1.keep h3)
def loopC : Nat → List UInt8 → RS → Bool → (Nat → Bool) → (Nat → Bool) × RS
  | 0, _, r, _, F => (F, r)
  | f + 1, s, r, first, F => if r.e = 0 ∧ (first = true ∨ nextR s r ≠ 93) then loopC f s (roundC s r).2 false (fun x => F x || (roundC s r).1 x) else (F, r)
/-- How far a class may still go. -/
def leftC (s : List UInt8) (r : RS) : Nat := if r.e = 0 then s.length - r.pos + 1 else 0
theorem left_less {s : List UInt8} {r : RS} (h : r.pos ≤ s.length) (he : r.e = 0) : leftC s (roundC s r).2 < leftC s r := by
  obtain ⟨h1, h2⟩ := round_step h
  unfold leftC
  rw [if_pos he]
  have := h1.inn
  by_cases e2 : (roundC s r).2.e = 0
  · rw [if_pos e2]
    rcases h2 with h2 | h2
    · omega
    · exact absurd e2 h2
  · rw [if_neg e2]; omega
theorem loopC_fuel {s : List UInt8} : ∀ (f g : Nat) (r : RS) (first : Bool) (F : Nat → Bool), r.pos ≤ s.length → leftC s r ≤ f → leftC s r ≤ g → loopC f s r first F = loopC g s r first F
  | 0, 0, _, _, _, _, _, _ => rfl
  | 0, g + 1, r, first, F, _, h1, _ => by
    have : r.e ≠ 0 := fun e => by unfold leftC at h1; rw [if_pos e] at h1; omega
    rw [loopC, loopC, if_neg (fun h => this h.1)]
  | f + 1, 0, r, first, F, _, _, h2 => by
    have : r.e ≠ 0 := fun e => by unfold leftC at h2; rw [if_pos e] at h2; omega
    rw [loopC, loopC, if_neg (fun h => this h.1)]
  | f + 1, g + 1, r, first, F, hp, h1, h2 => by
    rw [loopC, loopC]
    by_cases hc : r.e = 0 ∧ (first = true ∨ nextR s r ≠ 93)
    · rw [if_pos hc, if_pos hc]
      have := left_less hp hc.1
      exact loopC_fuel f g _ _ _ (round_step hp).1.inn (by omega) (by omega)
    · rw [if_neg hc, if_neg hc]
def loopL (s : List UInt8) (r : RS) (first : Bool) (F : Nat → Bool) : (Nat → Bool) × RS := loopC (leftC s r) s r first F
theorem loop_eq {s : List UInt8} {r : RS} {first : Bool} {F : Nat → Bool} (hp : r.pos ≤ s.length) :
    loopL s r first F = if r.e = 0 ∧ (first = true ∨ nextR s r ≠ 93) then loopL s (roundC s r).2 false (fun x => F x || (roundC s r).1 x) else (F, r) := by
  unfold loopL
  by_cases hc : r.e = 0 ∧ (first = true ∨ nextR s r ≠ 93)
  · rw [if_pos hc]
    have h1 := left_less hp hc.1
    obtain ⟨k, hk⟩ : ∃ k, leftC s r = k + 1 := ⟨leftC s r - 1, by omega⟩
    rw [hk, loopC, if_pos hc]
    exact loopC_fuel _ _ _ _ _ (round_step hp).1.inn (by omega) (Nat.le_refl _)
  · rw [if_neg hc]
    cases leftC s r with
    | zero => rfl
    | succ k => rw [loopC, if_neg hc]
theorem loop_step {s : List UInt8} : ∀ (n : Nat) (r : RS) (first : Bool) (F : Nat → Bool), leftC s r ≤ n → r.pos ≤ s.length → Step s r (loopL s r first F).2
  | n, r, first, F, hn, hp => by
    rw [loop_eq hp]
    by_cases hc : r.e = 0 ∧ (first = true ∨ nextR s r ≠ 93)
    · rw [if_pos hc]
      have h1 := left_less hp hc.1
      match n, hn with
      | 0, hn => exact absurd hn (by omega)
      | n + 1, hn => exact (round_step hp).1.trans (loop_step n _ _ _ (by omega) (round_step hp).1.inn)
    · rw [if_neg hc]; exact Step.refl hp
/-- A class behind its bracket: the set and the reader. -/
def classF (s : List UInt8) (r : RS) : Nat → Bool := fun x => if (takeR s r 94).1 = true then !(loopL s (takeR s r 94).2 true fun _ => false).1 x else (loopL s (takeR s r 94).2 true fun _ => false).1 x
def classE (s : List UInt8) (r : RS) : RS := if setF (classF s r) = .zero then failR (loopL s (takeR s r 94).2 true fun _ => false).2 3 else (loopL s (takeR s r 94).2 true fun _ => false).2
def classR (s : List UInt8) (r : RS) : (Nat → Bool) × RS := (classF s r, (takeR s (classE s r) 93).2)
theorem class_step {s : List UInt8} {r : RS} (h : r.pos ≤ s.length) : Step s r (classR s r).2 := by
  have h1 := (take_step h (b := 94) (by decide)).1
  have h2 := h1.trans (loop_step _ (takeR s r 94).2 true (fun _ => false) (Nat.le_refl _) h1.inn)
  have h3 : Step s r (classE s r) := by
    unfold classE
    by_cases hz : setF (classF s r) = .zero
    · rw [if_pos hz]; exact h2.trans (step_fail h2.inn 3 (by decide))
    · rw [if_neg hz]; exact h2
  exact h3.trans (take_step h3.inn (by decide)).1
end Go.Proofs.YthfjmlcjkbgboaaGreatDoor
namespace Go.Proofs.YthfjmlcjkbgboaaGreatDoor
open Go.RowKit Go.ChangeShapes Go.WideShapes Go.Deep
/-- No cell of the reader's block is a word of 64 bits without sign. -/
theorem rd_apart {g : Nat} {s : ByteArray} {r : RS} {w : World} (h : RdAt g s r w) {b off : Nat} {x : Int} (hc : w.cell? ⟨b, off, none⟩ = some (.int .u64 x)) : b ≠ g := by
  rintro rfl
  unfold RdAt at h
  unfold World.cell? at hc
  simp only [h] at hc
  match off, hc with
  | 0, hc => simp at hc
  | 1, hc => simp at hc
  | 2, hc => simp at hc
  | 3, hc => simp at hc
  | n + 4, hc => simp at hc
theorem cell_grown {w w' : World} {g b off : Nat} (hg : w.grownBy w' (some g)) (hb : b < w.heap.size) (hne : b ≠ g) : w'.cell? ⟨b, off, none⟩ = w.cell? ⟨b, off, none⟩ := by
  have := hg.block b hb (fun e => hne (Option.some.inj e))
  simp only [World.cell?, this]
mutual
theorem LT.reader {g : Nat} {s : ByteArray} {r : RS} {w w' : World} (h : RdAt g s r w) (hg : w.grownBy w' (some g)) : ∀ (t : Tree) (cs : List Value), LT w w.heap.size t cs → LT w' w'.heap.size t cs
  | .node k s ts, cs, hl => by
    rw [LT] at hl ⊢
    obtain ⟨A, c, h1, h2, h3⟩ := hl
    exact ⟨A, c, h1, h2, LK.reader h hg ts A h3⟩
theorem LK.reader {g : Nat} {s : ByteArray} {r : RS} {w w' : World} (h : RdAt g s r w) (hg : w.grownBy w' (some g)) : ∀ (ts : List Tree) (A : Option Addr), LK w w.heap.size ts A → LK w' w'.heap.size ts A
  | [], _, _ => by rw [LK]; trivial
  | t :: ts, A, hl => by
    rw [LK] at hl ⊢
    obtain ⟨b, off, cs, h1, h2, h3, h4, h5, h6⟩ := hl
    have hne : b ≠ g := by
      obtain ⟨A', c', e, _, _⟩ := h5.parts
      have hc := h4 1 (by omega)
      subst e
      exact rd_apart h hc
    exact ⟨b, off, cs, h1, Nat.lt_of_lt_of_le h2 hg.size, h3, fun j hj => (cell_grown hg h2 hne).trans (h4 j hj), LT.reader h hg t cs h5, LK.reader h hg ts _ h6⟩
end
end Go.Proofs.YthfjmlcjkbgboaaGreatDoor
namespace Go.Proofs.YthfjmlcjkbgboaaGreatDoor
open Go.RowKit
theorem zero_wfR : Set4.zero.Wf := ⟨⟨by decide, by decide⟩, ⟨by decide, by decide⟩, ⟨by decide, by decide⟩, ⟨by decide, by decide⟩⟩
def TreeP (t : Tree) (w : World) (e : Ending) (w' : World) : Prop :=
  ∃ A c, e = .returned (argX t A c) ∧ LT w' w'.heap.size t (cellsX t.kind t.set A t.kids.length c) ∧ Below w.heap.size w w'
set_option maxRecDepth 100000 in
set_option maxHeartbeats 800000 in
theorem rone_any (k : Int) (w : World) : Calls Tryz.prog 310 #[.int .i64 k] w (TreeP (.node k .zero []) w) := by
  have HB : Hid (∀ o, Below w.heap.size w (w.alloc o)) := fun o => (Below.refl _ _).alloc (Nat.le_refl _) o
  go_enter Tryz.func310, Tryz.ntmps310
  go_wp2_with fail
  refine bodyPost_ret (v := argX (.node k .zero []) none 0) (by simp [results, Tryz.results310, go_sem, argX, Tree.kind, Tree.set, Tree.kids, Set4.zero]) rfl ⟨none, 0, rfl, ?_, HB.out _⟩
  rw [LT]
  exact ⟨_, _, rfl, zero_wfR, LK.nil _ _ _⟩
end Go.Proofs.YthfjmlcjkbgboaaGreatDoor
namespace Go.Proofs.YthfjmlcjkbgboaaGreatDoor
open Go.RowKit
mutual
def sizeT : Tree → Int → Int
  | .node _ _ ts, n => sizeK ts (n + 1)
def sizeK : List Tree → Int → Int
  | [], n => n
  | t :: ts, n => if 80 < n then n else sizeK ts (sizeT t n)
end
mutual
theorem sizeT_le : ∀ (t : Tree) (n : Int), n ≤ 80 → n < sizeT t n ∧ sizeT t n ≤ 81
  | .node _ _ ts, n, h => by
    rw [sizeT]
    have := sizeK_le ts (n + 1) (by omega)
    exact ⟨by omega, this.2⟩
theorem sizeK_le : ∀ (ts : List Tree) (n : Int), n ≤ 81 → n ≤ sizeK ts n ∧ sizeK ts n ≤ 81
  | [], n, h => by rw [sizeK]; exact ⟨Int.le_refl _, h⟩
  | t :: ts, n, h => by
    rw [sizeK]
    by_cases h2 : 80 < n
    · rw [if_pos h2]; exact ⟨Int.le_refl _, h⟩
    · rw [if_neg h2]
      have h3 := sizeT_le t n (by omega)
      have h4 := sizeK_le ts (sizeT t n) h3.2
      exact ⟨by omega, h4.2⟩
end
mutual
/-- No node has more than two kids. -/
def FewT : Tree → Prop
  | .node _ _ ts => ts.length ≤ 2 ∧ FewK ts
def FewK : List Tree → Prop
  | [] => True
  | t :: ts => FewT t ∧ FewK ts
end
theorem FewK.at : ∀ {ts : List Tree}, FewK ts → ∀ (i : Nat) (h : i < ts.length), FewT ts[i]
  | [], _, i, h => absurd h (by simp)
  | t :: ts, hf, 0, _ => by rw [FewK] at hf; exact hf.1
  | t :: ts, hf, i + 1, h => by rw [FewK] at hf; exact FewK.at hf.2 i (by simpa using h)
theorem sizeK_step (ts : List Tree) (j : Nat) (h : j < ts.length) (m : Int) : sizeK (ts.drop j) m = if 80 < m then m else sizeK (ts.drop (j + 1)) (sizeT ts[j] m) := by
  rw [List.drop_eq_getElem_cons h, sizeK]
def SzRel (ts : List Tree) (n : Int) (w : World) (v1 v12 : Value) (wr : World) : Prop :=
  ∃ (j : Nat) (m : Int), j ≤ ts.length ∧ v1 = .int .i64 m ∧ v12 = .int .i64 j ∧ 0 ≤ m ∧ m ≤ 81 ∧ sizeK (ts.drop j) m = n ∧ Below w.heap.size w wr
def SizeC (t : Tree) : Prop := FewT t → ∀ (A : Option Addr) (c : Nat) (w : World) (n : Int), LT w w.heap.size t (cellsX t.kind t.set A t.kids.length c) → 0 ≤ n → n ≤ 80 →
  Calls Tryz.prog 284 #[argX t A c, .int .i64 n] w fun e w' => e = .returned (.int .i64 (sizeT t n)) ∧ Below w.heap.size w w'
set_option maxRecDepth 100000 in
set_option maxHeartbeats 1600000 in
theorem size_node (k : Int) (s : Set4) (ts : List Tree) (ih : ∀ (i : Nat) (h : i < ts.length), SizeC ts[i]) : SizeC (.node k s ts) := by
  intro hfw A c w n hl hn0 hn1
  rw [FewT] at hfw
  have hts := hfw.1
  have HFK := Lib.hid hfw.2
  clear hfw
  have IH := Lib.hid ih
  rw [LT] at hl
  obtain ⟨A', c', he, _, hk⟩ := hl
  have hA : A' = A := by unfold cellsX at he; simp only [List.cons.injEq, Value.slice.injEq] at he; exact he.2.2.2.2.2.1.1.symm
  subst hA
  have HS : Hid (sizeT (.node k s ts) n = sizeK ts (n + 1)) := by unfold Hid; rw [sizeT]
  have i0 : IntKind.i64.wrap (n + 1) = n + 1 := IntWalk.i64_in _ (by omega)
  have HB0 : Hid (∀ o, Below w.heap.size w (w.alloc o)) := fun o => (Below.refl _ _).alloc (Nat.le_refl _) o
  have HLK : Hid (∀ W, Below w.heap.size w W → LK W w.heap.size ts A') := fun W h => hk.below h
  generalize hN : sizeK ts (n + 1) = N at *
  have HN := Lib.hid hN
  unfold argX Tree.kind Tree.set Tree.kids
  dsimp only
  clear ih hk he hN
  go_enter Tryz.func284, Tryz.ntmps284
  go_wp2_with fail
  go_loopw [1, 6, 12] (fun v1 _ v12 wr => SzRel ts N w v1 v12 wr) (fun _ _ v12 _ => ts.length - (intOf v12).toNat)
  case atStart => exact ⟨0, n + 1, Nat.zero_le _, rfl, rfl, by omega, by omega, HN.out, HB0.out _⟩
  case round =>
    obtain ⟨j, m, hj, rfl, rfl, hm0, hm1, hM, hb⟩ := hrel
    have HBR := Lib.hid hb
    by_cases hlt : j < ts.length
    · have d1 : decide ((j : Int) < (ts.length : Int)) = true := decide_eq_true (by omega)
      have i7 : IntKind.i64.wrap ((j : Int) + 1) = (j : Int) + 1 := IntWalk.i64_in _ (by omega)
      have hzr := hb.size
      obtain ⟨b, off, cs2, rfl, hbB, hca, hl2⟩ := (HLK.out wr hb).at j hlt
      have IHj := IH.out j hlt (HFK.out.at j hlt)
      have HST := Lib.hid (sizeK_step ts j hlt m)
      generalize ts[j] = t2 at *
      obtain ⟨A2, c2, hcs2, _⟩ := hl2.parts
      subst hcs2
      have ⟨y0, y1, y2, y3, y4, y5⟩ := (show CellsAt wr b (off + j * 6) [_, _, _, _, _, _] from hca).six
      by_cases h80 : 80 < m
      · have d2 : decide (80 < m) = true := decide_eq_true h80
        have HF : Hid (N = m) := by unfold Hid; rw [← hM, HST.out, if_pos h80]
        have HBE : Hid (∀ o, Below w.heap.size w (wr.alloc o)) := fun o => HBR.out.alloc hzr o
        clear hM hb hca hl2 h80 IHj
        go_wp2_with fail
        exact bodyPost_ret (v := .int .i64 m) (by simp [results, Tryz.results284, go_sem]) rfl ⟨by rw [HS.out, HF.out], HBE.out _⟩
      · have d2 : decide (80 < m) = false := decide_eq_false h80
        have hrg := sizeT_le t2 m (by omega)
        have HQ : Hid (∀ o, Calls Tryz.prog 284 #[argX t2 A2 c2, .int .i64 m] (wr.alloc o) fun e w' => e = .returned (.int .i64 (sizeT t2 m)) ∧ Below (wr.alloc o).heap.size (wr.alloc o) w') := fun o =>
          IHj A2 c2 (wr.alloc o) m (hl2.keep (by simp; omega) (fun bb oo hp => ((Below.refl wr.heap.size wr).alloc (Nat.le_refl _) o).cell (p := ⟨bb, oo, none⟩) (by show bb < wr.heap.size; omega))) hm0 (by omega)
        rw [HST.out, if_neg h80] at hM
        have HM := Lib.hid hM
        generalize sizeT t2 m = m2 at *
        have HBE : Hid (∀ o w', Below (wr.alloc o).heap.size (wr.alloc o) w' → Below w.heap.size w w') := fun o w' h => (HBR.out.alloc hzr o).trans (h.mono (by simp; omega))
        unfold argX at HQ
        clear hM hb hca hl2 h80 IHj HST
        go_wp2_with (go_at_call 284; apply Hid.out)
        unfold Hid
        refine (HQ.out _).mono ?_
        rintro e w2 ⟨rfl, hb2⟩
        have hb3 := HBE.out _ _ hb2
        clear hb2 y0 y1 y2 y3 y4 y5
        go_wp2_with fail
        exact ⟨⟨j + 1, m2, by omega, rfl, rfl, by omega, hrg.2, HM.out, hb3⟩, by dsimp only [intOf]; omega⟩
    · obtain rfl : j = ts.length := by omega
      have d1 : decide ((ts.length : Int) < (ts.length : Int)) = false := by simp
      have HF : Hid (N = m) := by unfold Hid; rw [← hM, List.drop_length, sizeK]
      clear hM hb
      go_wp2_with fail
      exact bodyPost_ret (v := .int .i64 m) (by simp [results, Tryz.results284, go_sem]) rfl ⟨by rw [HS.out, HF.out], HBR.out⟩
theorem size_any (t : Tree) : SizeC t :=
  match t with
  | .node k s ts => size_node k s ts fun i h => size_any ts[i]
termination_by SizeOf.sizeOf t
decreasing_by
  have := List.sizeOf_lt_of_mem (List.getElem_mem h)
  simp only [Tree.node.sizeOf_spec]
  omega
end Go.Proofs.YthfjmlcjkbgboaaGreatDoor
namespace Go.Proofs.YthfjmlcjkbgboaaGreatDoor
open Go.RowKit
def iterI {α : Type} (step : α → Option α) : Nat → α → α
  | 0, x => x
  | n + 1, x => match step x with
    | none => x
    | some y => iterI step n y
def fixI {α : Type} (step : α → Option α) (m : α → Nat) (x : α) : α := iterI step (m x) x
structure Falls {α : Type} (I : α → Prop) (step : α → Option α) (m : α → Nat) : Prop where
  keep : ∀ x y, I x → step x = some y → I y
  less : ∀ x y, I x → step x = some y → m y < m x
theorem iterI_fuel {α : Type} {I : α → Prop} {step : α → Option α} {m : α → Nat} (h : Falls I step m) : ∀ (n k : Nat) (x : α), I x → m x ≤ n → m x ≤ k → iterI step n x = iterI step k x
  | 0, 0, _, _, _, _ => rfl
  | 0, k + 1, x, hx, h1, _ => by
    rw [iterI, iterI]
    cases hs : step x with
    | none => rfl
    | some y => exact absurd (h.less x y hx hs) (by omega)
  | n + 1, 0, x, hx, _, h2 => by
    rw [iterI, iterI]
    cases hs : step x with
    | none => rfl
    | some y => exact absurd (h.less x y hx hs) (by omega)
  | n + 1, k + 1, x, hx, h1, h2 => by
    rw [iterI, iterI]
    cases hs : step x with
    | none => rfl
    | some y =>
      have := h.less x y hx hs
      exact iterI_fuel h n k y (h.keep x y hx hs) (by omega) (by omega)
theorem fixI_eq {α : Type} {I : α → Prop} {step : α → Option α} {m : α → Nat} (h : Falls I step m) {x : α} (hx : I x) : fixI step m x = match step x with | none => x | some y => fixI step m y := by
  unfold fixI
  cases hs : step x with
  | none =>
    cases m x with
    | zero => rfl
    | succ k => rw [iterI, hs]
  | some y =>
    have h1 := h.less x y hx hs
    obtain ⟨k, hk⟩ : ∃ k, m x = k + 1 := ⟨m x - 1, by omega⟩
    rw [hk, iterI, hs]
    exact iterI_fuel h k (m y) y (h.keep x y hx hs) (by omega) (Nat.le_refl _)
theorem fixI_none {α : Type} {I : α → Prop} {step : α → Option α} {m : α → Nat} (h : Falls I step m) {x : α} (hx : I x) (hs : step x = none) : fixI step m x = x := by rw [fixI_eq h hx, hs]
theorem fixI_some {α : Type} {I : α → Prop} {step : α → Option α} {m : α → Nat} (h : Falls I step m) {x y : α} (hx : I x) (hs : step x = some y) : fixI step m x = fixI step m y := by rw [fixI_eq h hx, hs]
theorem iterI_keeps {α : Type} {Q : α → Prop} {step : α → Option α} (h : ∀ x y, Q x → step x = some y → Q y) : ∀ (n : Nat) (x : α), Q x → Q (iterI step n x)
  | 0, _, hx => hx
  | n + 1, x, hx => by
    rw [iterI]
    cases hs : step x with
    | none => exact hx
    | some y => exact iterI_keeps h n y (h x y hx hs)
theorem fixI_keeps {α : Type} {Q : α → Prop} {step : α → Option α} {m : α → Nat} (h : ∀ x y, Q x → step x = some y → Q y) {x : α} (hx : Q x) : Q (fixI step m x) := iterI_keeps h _ _ hx
abbrev TR := Tree × RS
def emT : Tree := .node 2 .zero []
def kT (k : Int) : Tree := .node k .zero []
def byT (f : Nat → Bool) : Tree := .node 3 (setF f) []
def onR (r : RS) : RS := { r with pos := r.pos + 1 }
def againT (t : Tree) : Tree := if sizeT t 0 ≤ 80 then t else emT
def stT (t : Tree) : Tree := .node 6 .zero [t]
def jnT (t u : Tree) : Tree := .node 4 .zero [t, u]
def orT (t u : Tree) : Tree := .node 5 .zero [t, u]
def leftT (s : List UInt8) (x : TR) : Nat := leftC s x.2
def closeR (s : List UInt8) (T : TR) : TR :=
  (T.1, if (takeR s { T.2 with op := T.2.op - 1 } 41).1 = true then (takeR s { T.2 with op := T.2.op - 1 } 41).2 else failR { T.2 with op := T.2.op - 1 } 3)
def baseR (s : List UInt8) (r : RS) : TR :=
  match (groupR s r).1 with
  | some f => (byT f, (groupR s r).2)
  | none => (byT (rgF (charR s r).1.toNat (charR s r).1.toNat), (charR s r).2)
def atomR (s : List UInt8) (A : RS → TR) (r : RS) : TR :=
  if nextR s r = 40 then (if r.op = 20 then (kT 0, failR r 11) else closeR s (A { r with pos := r.pos + 1, op := r.op + 1 }))
  else if nextR s r = 46 then (byT (fun x => !(rgF 10 10 x)), onR r)
  else if nextR s r = 94 then (kT 7, onR r)
  else if nextR s r = 36 then (kT 8, onR r)
  else if nextR s r = 91 then (byT (classR s (onR r)).1, (classR s (onR r)).2)
  else baseR s r
def pieceS (s : List UInt8) (x : TR) : Option TR :=
  if nextR s x.2 = 42 then some (stT x.1, onR x.2)
  else if nextR s x.2 = 63 then some (orT x.1 emT, onR x.2)
  else if nextR s x.2 = 43 then some (jnT x.1 (stT (againT x.1)), onR x.2)
  else none
def pieceR (s : List UInt8) (A : RS → TR) (r : RS) : TR := fixI (pieceS s) (leftT s) (atomR s A r)
def rowS (s : List UInt8) (P : RS → TR) (x : TR) : Option TR := if endsR s x.2 = true then none else some (jnT x.1 (P x.2).1, (P x.2).2)
def rowR (s : List UInt8) (P : RS → TR) (r : RS) : TR := if endsR s r = true then (emT, r) else fixI (rowS s P) (leftT s) (P r)
def altS (s : List UInt8) (R : RS → TR) (x : TR) : Option TR := if nextR s x.2 = 124 then some (orT x.1 (R (onR x.2)).1, (R (onR x.2)).2) else none
def altR (s : List UInt8) (R : RS → TR) (r : RS) : TR := fixI (altS s R) (leftT s) (R r)
/-- With so many brackets that may be opened, and one more. -/
def altD (s : List UInt8) : Nat → RS → TR
  | 0, r => (kT 0, r)
  | d + 1, r => altR s (rowR s (pieceR s (altD s d))) r
def pieceD (s : List UInt8) (d : Nat) : RS → TR := pieceR s (altD s d)
def rowD (s : List UInt8) (d : Nat) : RS → TR := rowR s (pieceD s d)
mutual
/-- No node is of the kind that matches nothing. -/
def NoN : Tree → Prop
  | .node k _ ts => k ≠ 1 ∧ NoNK ts
def NoNK : List Tree → Prop
  | [] => True
  | t :: ts => NoN t ∧ NoNK ts
end
structure GoodT (s : List UInt8) (r : RS) (T : TR) : Prop where
  step : Step s r T.2
  few : FewT T.1
  non : NoN T.1
def GoodF (s : List UInt8) (A : RS → TR) : Prop := ∀ r : RS, r.pos ≤ s.length → GoodT s r (A r)
theorem few_leaf (k : Int) (S : Set4) : FewT (.node k S []) := by rw [FewT, FewK]; exact ⟨by simp, trivial⟩
theorem non_leaf {k : Int} (S : Set4) (h : k ≠ 1) : NoN (.node k S []) := by rw [NoN, NoNK]; exact ⟨h, trivial⟩
theorem few_one {k : Int} {S : Set4} {t : Tree} (h : FewT t) : FewT (.node k S [t]) := by rw [FewT, FewK, FewK]; exact ⟨by simp, h, trivial⟩
theorem non_one {k : Int} {S : Set4} {t : Tree} (hk : k ≠ 1) (h : NoN t) : NoN (.node k S [t]) := by rw [NoN, NoNK, NoNK]; exact ⟨hk, h, trivial⟩
theorem few_two {k : Int} {S : Set4} {t u : Tree} (h : FewT t) (h2 : FewT u) : FewT (.node k S [t, u]) := by rw [FewT, FewK, FewK, FewK]; exact ⟨by simp, h, h2, trivial⟩
theorem non_two {k : Int} {S : Set4} {t u : Tree} (hk : k ≠ 1) (h : NoN t) (h2 : NoN u) : NoN (.node k S [t, u]) := by rw [NoN, NoNK, NoNK, NoNK]; exact ⟨hk, h, h2, trivial⟩
theorem few_again {t : Tree} (h : FewT t) : FewT (againT t) := by unfold againT; split; exact h; exact few_leaf _ _
theorem non_again {t : Tree} (h : NoN t) : NoN (againT t) := by unfold againT; split; exact h; exact non_leaf _ (by decide)
theorem on_step {s : List UInt8} {r : RS} {b : Int} (h : nextR s r = b) (hb : 0 ≤ b) : Step s r (onR r) ∧ r.pos < (onR r).pos ∧ r.e = 0 := by
  obtain ⟨h1, h2⟩ := nextR_pos h hb
  exact ⟨step_on h1, Nat.lt_succ_self _, h2⟩
theorem ends_e {s : List UInt8} {r : RS} (h : endsR s r = false) : r.e = 0 := by
  by_cases he : r.e = 0
  · exact he
  · have : nextR s r = -1 := by unfold nextR; rw [if_neg he]
    unfold endsR at h
    rw [this] at h
    exact absurd h (by decide)
theorem good_close {s : List UInt8} {r : RS} {T : TR} (hn : nextR s r = 40) (h : GoodT s { r with pos := r.pos + 1, op := r.op + 1 } T) : GoodT s r (closeR s T) ∧ (r.pos < (closeR s T).2.pos ∨ (closeR s T).2.e ≠ 0) := by
  obtain ⟨hp, he⟩ := nextR_pos hn (by decide)
  have hs := h.step
  have hop : T.2.op - 1 = r.op := by have : T.2.op = r.op + 1 := hs.op; omega
  have hle : r.pos + 1 ≤ T.2.pos := hs.le
  have h1 : Step s r { T.2 with op := T.2.op - 1 } := ⟨hs.inn, by show r.pos ≤ T.2.pos; omega, hop, fun e => absurd he e⟩
  have h2 := (take_step h1.inn (b := 41) (by decide)).1
  have h3 : Step s r (closeR s T).2 ∧ r.pos < (closeR s T).2.pos := by
    unfold closeR
    dsimp only
    split
    · exact ⟨h1.trans h2, Nat.lt_of_lt_of_le (show r.pos < T.2.pos by omega) h2.le⟩
    · exact ⟨h1.trans (step_fail h1.inn 3 (by decide)), by rw [(failR_facts _ 3 (by decide)).1]; show r.pos < T.2.pos; omega⟩
  exact ⟨⟨h3.1, h.few, h.non⟩, .inl h3.2⟩
theorem good_base {s : List UInt8} {r : RS} (h : r.pos ≤ s.length) : GoodT s r (baseR s r) ∧ (r.pos < (baseR s r).2.pos ∨ (baseR s r).2.e ≠ 0) := by
  obtain ⟨g1, g2, g3⟩ := group_step h
  obtain ⟨c1, c2, c3⟩ := char_step h
  unfold baseR
  cases hg : (groupR s r).1 with
  | some f => exact ⟨⟨g1, few_leaf _ _, non_leaf _ (by decide)⟩, .inl (g3 f hg).1⟩
  | none => exact ⟨⟨c1, few_leaf _ _, non_leaf _ (by decide)⟩, c2⟩
theorem good_atom {s : List UInt8} {A : RS → TR} (hA : GoodF s A) {r : RS} (h : r.pos ≤ s.length) : GoodT s r (atomR s A r) ∧ (r.pos < (atomR s A r).2.pos ∨ (atomR s A r).2.e ≠ 0) := by
  unfold atomR
  by_cases h1 : nextR s r = 40
  · rw [if_pos h1]
    by_cases h2 : r.op = 20
    · rw [if_pos h2]
      exact ⟨⟨step_fail h 11 (by decide), few_leaf _ _, non_leaf _ (by decide)⟩, .inr (failR_facts r 11 (by decide)).2.2⟩
    · rw [if_neg h2]
      exact good_close h1 (hA _ (nextR_pos h1 (by decide)).1)
  rw [if_neg h1]
  have leaf : ∀ (b k : Int) (S : Set4), 0 ≤ b → k ≠ 1 → nextR s r = b → GoodT s r (.node k S [], onR r) ∧ (r.pos < (onR r).pos ∨ (onR r).e ≠ 0) := fun b k S hb hk hn =>
    ⟨⟨(on_step hn hb).1, few_leaf _ _, non_leaf _ hk⟩, .inl (on_step hn hb).2.1⟩
  by_cases h2 : nextR s r = 46
  · rw [if_pos h2]; exact leaf 46 _ _ (by decide) (by decide) h2
  rw [if_neg h2]
  by_cases h3 : nextR s r = 94
  · rw [if_pos h3]; exact leaf 94 _ _ (by decide) (by decide) h3
  rw [if_neg h3]
  by_cases h4 : nextR s r = 36
  · rw [if_pos h4]; exact leaf 36 _ _ (by decide) (by decide) h4
  rw [if_neg h4]
  by_cases h5 : nextR s r = 91
  · rw [if_pos h5]
    obtain ⟨o1, o2, _⟩ := on_step h5 (by decide)
    have c := class_step o1.inn
    exact ⟨⟨o1.trans c, few_leaf _ _, non_leaf _ (by decide)⟩, .inl (Nat.lt_of_lt_of_le o2 c.le)⟩
  · rw [if_neg h5]; exact good_base h
theorem left_on {s : List UInt8} {r : RS} {b : Int} (h : nextR s r = b) (hb : 0 ≤ b) : leftC s (onR r) < leftC s r := by
  obtain ⟨h1, h2⟩ := nextR_pos h hb
  unfold leftC
  rw [if_pos h2, if_pos (show (onR r).e = 0 from h2)]
  show s.length - (r.pos + 1) + 1 < _
  omega
theorem left_mono {s : List UInt8} {a b : RS} (h : Step s a b) : leftC s b ≤ leftC s a := by
  have h1 := h.le
  have h2 := h.inn
  unfold leftC
  by_cases ha : a.e = 0
  · rw [if_pos ha]
    by_cases hb : b.e = 0
    · rw [if_pos hb]; omega
    · rw [if_neg hb]; omega
  · rw [if_neg ha, if_neg (h.keep ha)]; exact Nat.le_refl _
theorem left_prog {s : List UInt8} {a b : RS} (h : Step s a b) (ha : a.e = 0) (hp : a.pos < b.pos ∨ b.e ≠ 0) : leftC s b < leftC s a := by
  have h2 := h.inn
  unfold leftC
  rw [if_pos ha]
  by_cases hb : b.e = 0
  · rw [if_pos hb]
    rcases hp with hp | hp
    · omega
    · exact absurd hb hp
  · rw [if_neg hb]; omega
def InR (s : List UInt8) (x : TR) : Prop := x.2.pos ≤ s.length
theorem pieceS_cases {s : List UInt8} {x y : TR} (h : pieceS s x = some y) : ∃ b, 0 ≤ b ∧ nextR s x.2 = b ∧ y.2 = onR x.2 ∧ (FewT x.1 → FewT y.1) ∧ (NoN x.1 → NoN y.1) := by
  unfold pieceS at h
  by_cases h1 : nextR s x.2 = 42
  · rw [if_pos h1] at h
    obtain rfl := Option.some.inj h
    exact ⟨42, by decide, h1, rfl, few_one, non_one (by decide)⟩
  rw [if_neg h1] at h
  by_cases h2 : nextR s x.2 = 63
  · rw [if_pos h2] at h
    obtain rfl := Option.some.inj h
    exact ⟨63, by decide, h2, rfl, fun q => few_two q (few_leaf _ _), fun q => non_two (by decide) q (non_leaf _ (by decide))⟩
  rw [if_neg h2] at h
  by_cases h3 : nextR s x.2 = 43
  · rw [if_pos h3] at h
    obtain rfl := Option.some.inj h
    exact ⟨43, by decide, h3, rfl, fun q => few_two q (few_one (few_again q)), fun q => non_two (by decide) q (non_one (by decide) (non_again q))⟩
  · rw [if_neg h3] at h; cases h
theorem pieceS_falls (s : List UInt8) : Falls (InR s) (pieceS s) (leftT s) where
  keep x y hx h := by
    obtain ⟨b, hb, hn, hy, _⟩ := pieceS_cases h
    unfold InR
    rw [hy]
    exact (on_step hn hb).1.inn
  less x y hx h := by
    obtain ⟨b, hb, hn, hy, _⟩ := pieceS_cases h
    unfold leftT
    rw [hy]
    exact left_on hn hb
theorem good_pieceS {s : List UInt8} {r : RS} {x y : TR} (g : GoodT s r x) (h : pieceS s x = some y) : GoodT s r y ∧ x.2.pos < y.2.pos := by
  obtain ⟨b, hb, hn, hy, h1, h2⟩ := pieceS_cases h
  obtain ⟨o1, o2, _⟩ := on_step hn hb
  refine ⟨⟨?_, h1 g.few, h2 g.non⟩, by rw [hy]; exact o2⟩
  rw [hy]
  exact g.step.trans o1
theorem good_piece {s : List UInt8} {A : RS → TR} (hA : GoodF s A) {r : RS} (h : r.pos ≤ s.length) : GoodT s r (pieceR s A r) ∧ (r.pos < (pieceR s A r).2.pos ∨ (pieceR s A r).2.e ≠ 0) := by
  have g := good_atom hA h
  unfold pieceR
  refine fixI_keeps (Q := fun T => GoodT s r T ∧ (r.pos < T.2.pos ∨ T.2.e ≠ 0)) (fun x y hx hs => ?_) g
  obtain ⟨g1, g2⟩ := good_pieceS hx.1 hs
  exact ⟨g1, .inl (Nat.lt_of_le_of_lt hx.1.step.le g2)⟩
def PieceF (s : List UInt8) (P : RS → TR) : Prop := ∀ r : RS, r.pos ≤ s.length → GoodT s r (P r) ∧ (r.pos < (P r).2.pos ∨ (P r).2.e ≠ 0)
theorem rowS_some {s : List UInt8} {P : RS → TR} {x y : TR} (h : rowS s P x = some y) : endsR s x.2 = false ∧ y = (jnT x.1 (P x.2).1, (P x.2).2) := by
  unfold rowS at h
  cases he : endsR s x.2 with
  | true => rw [he, if_pos rfl] at h; cases h
  | false => rw [he, if_neg (by decide)] at h; exact ⟨rfl, (Option.some.inj h).symm⟩
theorem rowS_falls {s : List UInt8} {P : RS → TR} (hP : PieceF s P) : Falls (InR s) (rowS s P) (leftT s) where
  keep x y hx h := by
    obtain ⟨_, rfl⟩ := rowS_some h
    exact (hP x.2 hx).1.step.inn
  less x y hx h := by
    obtain ⟨he, rfl⟩ := rowS_some h
    exact left_prog (hP x.2 hx).1.step (ends_e he) (hP x.2 hx).2
theorem good_row {s : List UInt8} {P : RS → TR} (hP : PieceF s P) : GoodF s (rowR s P) := by
  intro r h
  unfold rowR
  cases he : endsR s r with
  | true => rw [if_pos rfl]; exact ⟨Step.refl h, few_leaf _ _, non_leaf _ (by decide)⟩
  | false =>
    rw [if_neg (by decide)]
    refine fixI_keeps (Q := GoodT s r) (fun x y hx hs => ?_) (hP r h).1
    obtain ⟨_, rfl⟩ := rowS_some hs
    have := (hP x.2 hx.step.inn).1
    exact ⟨hx.step.trans this.step, few_two hx.few this.few, non_two (by decide) hx.non this.non⟩
theorem altS_some {s : List UInt8} {R : RS → TR} {x y : TR} (h : altS s R x = some y) : nextR s x.2 = 124 ∧ y = (orT x.1 (R (onR x.2)).1, (R (onR x.2)).2) := by
  unfold altS at h
  by_cases he : nextR s x.2 = 124
  · rw [if_pos he] at h; exact ⟨he, (Option.some.inj h).symm⟩
  · rw [if_neg he] at h; cases h
theorem altS_falls {s : List UInt8} {R : RS → TR} (hR : GoodF s R) : Falls (InR s) (altS s R) (leftT s) where
  keep x y hx h := by
    obtain ⟨hn, rfl⟩ := altS_some h
    exact (hR _ (on_step hn (by decide)).1.inn).step.inn
  less x y hx h := by
    obtain ⟨hn, rfl⟩ := altS_some h
    have o := on_step hn (by decide)
    exact Nat.lt_of_le_of_lt (left_mono (hR _ o.1.inn).step) (left_on hn (by decide))
theorem good_alt {s : List UInt8} {R : RS → TR} (hR : GoodF s R) : GoodF s (altR s R) := by
  intro r h
  unfold altR
  refine fixI_keeps (Q := GoodT s r) (fun x y hx hs => ?_) (hR r h)
  obtain ⟨hn, rfl⟩ := altS_some hs
  have o := on_step hn (by decide)
  have := hR _ o.1.inn
  exact ⟨hx.step.trans (o.1.trans this.step), few_two hx.few this.few, non_two (by decide) hx.non this.non⟩
theorem good_altD (s : List UInt8) : ∀ d, GoodF s (altD s d)
  | 0 => fun r h => ⟨Step.refl h, few_leaf _ _, non_leaf _ (by decide)⟩
  | d + 1 => good_alt (good_row fun r h => good_piece (good_altD s d) h)
theorem good_pieceD (s : List UInt8) (d : Nat) : PieceF s (pieceD s d) := fun _ h => good_piece (good_altD s d) h
theorem good_rowD (s : List UInt8) (d : Nat) : GoodF s (rowD s d) := good_row (good_pieceD s d)
end Go.Proofs.YthfjmlcjkbgboaaGreatDoor
