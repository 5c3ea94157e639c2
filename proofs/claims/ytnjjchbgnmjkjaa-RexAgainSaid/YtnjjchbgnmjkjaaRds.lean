/- rex.size. -/
import Derived.Test.YtnjjchbgnmjkjaaRdw
namespace Go.Proofs.Ytnjjchbgnmjkjaa
open Go.RowKit

mutual
def sizeT : Tree → Int → Int
  | .node _ _ ts, n => sizeK ts (n + 1)
def sizeK : List Tree → Int → Int
  | [], n => n
  | t :: ts, n => if 80 < n then n else sizeK ts (sizeT t n)
end
mutual
theorem sizeT_le : ∀ (t : Tree) (n : Int), n ≤ 80 → n < sizeT t n ∧ sizeT t n ≤ 81
  | .node _ _ ts, n, h => by
    rw [sizeT]
    have := sizeK_le ts (n + 1) (by omega)
    exact ⟨by omega, this.2⟩
theorem sizeK_le : ∀ (ts : List Tree) (n : Int), n ≤ 81 → n ≤ sizeK ts n ∧ sizeK ts n ≤ 81
  | [], n, h => by rw [sizeK]; exact ⟨Int.le_refl _, h⟩
  | t :: ts, n, h => by
    rw [sizeK]
    by_cases h2 : 80 < n
    · rw [if_pos h2]; exact ⟨Int.le_refl _, h⟩
    · rw [if_neg h2]
      have h3 := sizeT_le t n (by omega)
      have h4 := sizeK_le ts (sizeT t n) h3.2
      exact ⟨by omega, h4.2⟩
end
mutual
/-- No node has more than two kids. -/
def FewT : Tree → Prop
  | .node _ _ ts => ts.length ≤ 2 ∧ FewK ts
def FewK : List Tree → Prop
  | [] => True
  | t :: ts => FewT t ∧ FewK ts
end
theorem FewK.at : ∀ {ts : List Tree}, FewK ts → ∀ (i : Nat) (h : i < ts.length), FewT ts[i]
  | [], _, i, h => absurd h (by simp)
  | t :: ts, hf, 0, _ => by rw [FewK] at hf; exact hf.1
  | t :: ts, hf, i + 1, h => by rw [FewK] at hf; exact FewK.at hf.2 i (by simpa using h)
theorem sizeK_step (ts : List Tree) (j : Nat) (h : j < ts.length) (m : Int) : sizeK (ts.drop j) m = if 80 < m then m else sizeK (ts.drop (j + 1)) (sizeT ts[j] m) := by
  rw [List.drop_eq_getElem_cons h, sizeK]
def SzRel (ts : List Tree) (n : Int) (w : World) (v1 v12 : Value) (wr : World) : Prop :=
  ∃ (j : Nat) (m : Int), j ≤ ts.length ∧ v1 = .int .i64 m ∧ v12 = .int .i64 j ∧ 0 ≤ m ∧ m ≤ 81 ∧ sizeK (ts.drop j) m = n ∧ Below w.heap.size w wr
def SizeC (t : Tree) : Prop := FewT t → ∀ (A : Option Addr) (c : Nat) (w : World) (n : Int), LT w w.heap.size t (cellsX t.kind t.set A t.kids.length c) → 0 ≤ n → n ≤ 80 →
  Calls Try.prog 82 #[argX t A c, .int .i64 n] w fun e w' => e = .returned (.int .i64 (sizeT t n)) ∧ Below w.heap.size w w'

set_option maxRecDepth 100000 in
set_option maxHeartbeats 1600000 in
theorem size_node (k : Int) (s : Set4) (ts : List Tree) (ih : ∀ (i : Nat) (h : i < ts.length), SizeC ts[i]) : SizeC (.node k s ts) := by
  intro hfw A c w n hl hn0 hn1
  rw [FewT] at hfw
  have hts := hfw.1
  have HFK := Lib.hid hfw.2
  clear hfw
  have IH := Lib.hid ih
  rw [LT] at hl
  obtain ⟨A', c', he, _, hk⟩ := hl
  have hA : A' = A := by unfold cellsX at he; simp only [List.cons.injEq, Value.slice.injEq] at he; exact he.2.2.2.2.2.1.1.symm
  subst hA
  have HS : Hid (sizeT (.node k s ts) n = sizeK ts (n + 1)) := by unfold Hid; rw [sizeT]
  have i0 : IntKind.i64.wrap (n + 1) = n + 1 := IntWalk.i64_in _ (by omega)
  have HB0 : Hid (∀ o, Below w.heap.size w (w.alloc o)) := fun o => (Below.refl _ _).alloc (Nat.le_refl _) o
  have HLK : Hid (∀ W, Below w.heap.size w W → LK W w.heap.size ts A') := fun W h => hk.below h
  generalize hN : sizeK ts (n + 1) = N at *
  have HN := Lib.hid hN
  unfold argX Tree.kind Tree.set Tree.kids
  dsimp only
  clear ih hk he hN
  go_enter Try.func82, Try.ntmps82
  go_wp2_with fail
  go_loopw [1, 6, 12] (fun v1 _ v12 wr => SzRel ts N w v1 v12 wr) (fun _ _ v12 _ => ts.length - (intOf v12).toNat)
  case atStart => exact ⟨0, n + 1, Nat.zero_le _, rfl, rfl, by omega, by omega, HN.out, HB0.out _⟩
  case round =>
    obtain ⟨j, m, hj, rfl, rfl, hm0, hm1, hM, hb⟩ := hrel
    have HBR := Lib.hid hb
    by_cases hlt : j < ts.length
    · have d1 : decide ((j : Int) < (ts.length : Int)) = true := decide_eq_true (by omega)
      have i7 : IntKind.i64.wrap ((j : Int) + 1) = (j : Int) + 1 := IntWalk.i64_in _ (by omega)
      have hzr := hb.size
      obtain ⟨b, off, cs2, rfl, hbB, hca, hl2⟩ := (HLK.out wr hb).at j hlt
      have IHj := IH.out j hlt (HFK.out.at j hlt)
      have HST := Lib.hid (sizeK_step ts j hlt m)
      generalize ts[j] = t2 at *
      obtain ⟨A2, c2, hcs2, _⟩ := hl2.parts
      subst hcs2
      have ⟨y0, y1, y2, y3, y4, y5⟩ := (show CellsAt wr b (off + j * 6) [_, _, _, _, _, _] from hca).six
      by_cases h80 : 80 < m
      · have d2 : decide (80 < m) = true := decide_eq_true h80
        have HF : Hid (N = m) := by unfold Hid; rw [← hM, HST.out, if_pos h80]
        have HBE : Hid (∀ o, Below w.heap.size w (wr.alloc o)) := fun o => HBR.out.alloc hzr o
        clear hM hb hca hl2 h80 IHj
        go_wp2_with fail
        exact bodyPost_ret (v := .int .i64 m) (by simp [results, Try.results82, go_sem]) rfl ⟨by rw [HS.out, HF.out], HBE.out _⟩
      · have d2 : decide (80 < m) = false := decide_eq_false h80
        have hrg := sizeT_le t2 m (by omega)
        have HQ : Hid (∀ o, Calls Try.prog 82 #[argX t2 A2 c2, .int .i64 m] (wr.alloc o) fun e w' => e = .returned (.int .i64 (sizeT t2 m)) ∧ Below (wr.alloc o).heap.size (wr.alloc o) w') := fun o =>
          IHj A2 c2 (wr.alloc o) m (hl2.keep (by simp; omega) (fun bb oo hp => ((Below.refl wr.heap.size wr).alloc (Nat.le_refl _) o).cell (p := ⟨bb, oo, none⟩) (by show bb < wr.heap.size; omega))) hm0 (by omega)
        rw [HST.out, if_neg h80] at hM
        have HM := Lib.hid hM
        generalize sizeT t2 m = m2 at *
        have HBE : Hid (∀ o w', Below (wr.alloc o).heap.size (wr.alloc o) w' → Below w.heap.size w w') := fun o w' h => (HBR.out.alloc hzr o).trans (h.mono (by simp; omega))
        unfold argX at HQ
        clear hM hb hca hl2 h80 IHj HST
        go_wp2_with (go_at_call 82; apply Hid.out)
        unfold Hid
        refine (HQ.out _).mono ?_
        rintro e w2 ⟨rfl, hb2⟩
        have hb3 := HBE.out _ _ hb2
        clear hb2 y0 y1 y2 y3 y4 y5
        go_wp2_with fail
        exact ⟨⟨j + 1, m2, by omega, rfl, rfl, by omega, hrg.2, HM.out, hb3⟩, by dsimp only [intOf]; omega⟩
    · obtain rfl : j = ts.length := by omega
      have d1 : decide ((ts.length : Int) < (ts.length : Int)) = false := by simp
      have HF : Hid (N = m) := by unfold Hid; rw [← hM, List.drop_length, sizeK]
      clear hM hb
      go_wp2_with fail
      exact bodyPost_ret (v := .int .i64 m) (by simp [results, Try.results82, go_sem]) rfl ⟨by rw [HS.out, HF.out], HBR.out⟩
theorem size_any (t : Tree) : SizeC t :=
  match t with
  | .node k s ts => size_node k s ts fun i h => size_any ts[i]
termination_by SizeOf.sizeOf t
decreasing_by
  have := List.sizeOf_lt_of_mem (List.getElem_mem h)
  simp only [Tree.node.sizeOf_spec]
  omega
end Go.Proofs.Ytnjjchbgnmjkjaa
