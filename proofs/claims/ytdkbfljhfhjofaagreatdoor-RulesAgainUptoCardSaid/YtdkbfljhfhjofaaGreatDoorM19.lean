/- Part 19 of the proof: lemmas and walks that the last texts use. -/
import Derived.Test.YtdkbfljhfhjofaaGreatDoorM18
import Derived.Deep.CutRange
import Derived.Deep.RegionWith
namespace Go.Proofs.YtdkbfljhfhjofaaGreatDoor
section
open Go.RowKit
theorem FourW.grown {w w' : World} {g k : Nat} {S : Set4} (h : FourW w k S) (hg : w.grownBy w' (some g)) (hne : k ≠ g) : FourW w' k S := (hg.block k h.lt (fun e => hne (Option.some.inj e))).trans h
/-- The block of a result of the type Rex that nothing was stored to yet. -/
def ZeroX (w : World) (k : Nat) : Prop := w.heap[k]? = some (.cells #[.int .i64 0, .int .u64 0, .int .u64 0, .int .u64 0, .int .u64 0, .slice none 0 0] 153 (0, 0))
theorem ZeroX.lt {w : World} {k : Nat} (h : ZeroX w k) : k < w.heap.size := by
  rcases Nat.lt_or_ge k w.heap.size with h' | h'
  · exact h'
  · unfold ZeroX at h; simp [Array.getElem?_eq_none h'] at h
theorem ZeroX.grown {w w' : World} {g k : Nat} (h : ZeroX w k) (hg : w.grownBy w' (some g)) (hne : k ≠ g) : ZeroX w' k := (hg.block k h.lt (fun e => hne (Option.some.inj e))).trans h
theorem ZeroX.block {w w' : World} {k : Nat} (h : ZeroX w k) (hb : w'.heap[k]? = w.heap[k]?) : ZeroX w' k := hb.trans h
theorem ZeroX.new (w : World) : ZeroX (w.alloc (.cells #[.int .i64 0, .int .u64 0, .int .u64 0, .int .u64 0, .int .u64 0, .slice none 0 0] 153)) w.heap.size := heap_alloc_new w _
theorem ZeroX.cells {w : World} {k : Nat} (h : ZeroX w k) : w.cell? ⟨k, 0, none⟩ = some (.int .i64 0) ∧ w.cell? ⟨k, 1, none⟩ = some (.int .u64 0) ∧ w.cell? ⟨k, 2, none⟩ = some (.int .u64 0) ∧ w.cell? ⟨k, 3, none⟩ = some (.int .u64 0) ∧ w.cell? ⟨k, 4, none⟩ = some (.int .u64 0) ∧ w.cell? ⟨k, 5, none⟩ = some (.slice none 0 0) :=
  ⟨cell_of_row w k 0 _ _ _ h, cell_of_row w k 1 _ _ _ h, cell_of_row w k 2 _ _ _ h, cell_of_row w k 3 _ _ _ h, cell_of_row w k 4 _ _ _ h, cell_of_row w k 5 _ _ _ h⟩
theorem ZeroX.free {w : World} {k : Nat} (h : ZeroX w k) (j : Nat) : w.frozen? ⟨k, j, none⟩ = false := by
  unfold ZeroX at h; simp [World.frozen?, h]
/-- The cells of a Rex at a place. -/
def PutX (w : World) (k : Nat) (cs : List Value) : Prop := w.heap[k]? = some (.cells cs.toArray 153 (0, 0))
def fill6 (W : World) (k : Nat) (a b c d e f : Value) : World := (((((W.setCell ⟨k, 0, none⟩ a).setCell ⟨k, 1, none⟩ b).setCell ⟨k, 2, none⟩ c).setCell ⟨k, 3, none⟩ d).setCell ⟨k, 4, none⟩ e).setCell ⟨k, 5, none⟩ f
theorem ZeroX.fill {W : World} {k : Nat} (h : ZeroX W k) (a b c d e f : Value) : PutX (fill6 W k a b c d e f) k [a, b, c, d, e, f] := by
  unfold ZeroX at h
  unfold PutX fill6
  simp only [World.setCell, Array.getElem?_modify, h]
  rfl
theorem PutX.cells {w : World} {k : Nat} {a b c d e f : Value} (h : PutX w k [a, b, c, d, e, f]) : w.cell? ⟨k, 0, none⟩ = some a ∧ w.cell? ⟨k, 1, none⟩ = some b ∧ w.cell? ⟨k, 2, none⟩ = some c ∧ w.cell? ⟨k, 3, none⟩ = some d ∧ w.cell? ⟨k, 4, none⟩ = some e ∧ w.cell? ⟨k, 5, none⟩ = some f :=
  ⟨cell_of_row w k 0 _ _ _ h, cell_of_row w k 1 _ _ _ h, cell_of_row w k 2 _ _ _ h, cell_of_row w k 3 _ _ _ h, cell_of_row w k 4 _ _ _ h, cell_of_row w k 5 _ _ _ h⟩
theorem fill6_below {W w : World} {B k : Nat} (h : Below B w W) (hk : B ≤ k) (a b c d e f : Value) : Below B w (fill6 W k a b c d e f) :=
  (((((h.setCell (p := ⟨k, 0, none⟩) hk _).setCell (p := ⟨k, 1, none⟩) hk _).setCell (p := ⟨k, 2, none⟩) hk _).setCell (p := ⟨k, 3, none⟩) hk _).setCell (p := ⟨k, 4, none⟩) hk _).setCell (p := ⟨k, 5, none⟩) hk _
theorem grown_set {w wr w' : World} {row : Option Nat} {k : Nat} (h : w.grownBy wr row) (hk : w.heap.size ≤ k) (hb : Below k wr w') : w.grownBy w' row :=
  ⟨hb.os.trans h.os, hb.tape.trans h.tape, hb.output.trans h.output, Nat.le_trans h.size hb.size, fun i hi hne => (hb.block i (by omega)).trans (h.block i hi hne)⟩
end
section
open Go.RowKit
mutual
/-- These cells are the tree's, the blocks of its kids are such. -/
def LX (w : World) (p : Nat → Prop) : Tree → List Value → Prop
  | .node k s ts, cs => ∃ A c, cs = cellsX k s A ts.length c ∧ s.Wf ∧ LXK w p ts A
def LXK (w : World) (p : Nat → Prop) : List Tree → Option Addr → Prop
  | [], _ => True
  | t :: ts, A => ∃ b off cs, A = some ⟨b, off, none⟩ ∧ p b ∧ cs.length = 6 ∧ CellsAt w b off cs ∧ LX w p t cs ∧ LXK w p ts (some ⟨b, off + 6, none⟩)
end
mutual
theorem LX.keep {w w' : World} {p q : Nat → Prop} (hp : ∀ b, p b → q b) (hk : ∀ b o, p b → w'.cell? ⟨b, o, none⟩ = w.cell? ⟨b, o, none⟩) : ∀ (t : Tree) (cs : List Value), LX w p t cs → LX w' q t cs
  | .node k s ts, cs, h => by
    rw [LX] at h ⊢
    obtain ⟨A, c, h1, h2, h3⟩ := h
    exact ⟨A, c, h1, h2, LXK.keep hp hk ts A h3⟩
theorem LXK.keep {w w' : World} {p q : Nat → Prop} (hp : ∀ b, p b → q b) (hk : ∀ b o, p b → w'.cell? ⟨b, o, none⟩ = w.cell? ⟨b, o, none⟩) : ∀ (ts : List Tree) (A : Option Addr), LXK w p ts A → LXK w' q ts A
  | [], _, _ => by rw [LXK]; trivial
  | t :: ts, A, h => by
    rw [LXK] at h ⊢
    obtain ⟨b, off, cs, h1, h2, h3, h4, h5, h6⟩ := h
    exact ⟨b, off, cs, h1, hp b h2, h3, fun j hj => (hk b _ h2).trans (h4 j hj), LX.keep hp hk t cs h5, LXK.keep hp hk ts _ h6⟩
end
mutual
theorem LX.lt {w : World} {p : Nat → Prop} {B : Nat} (hp : ∀ b, p b → b < B) : ∀ (t : Tree) (cs : List Value), LX w p t cs → LT w B t cs
  | .node k s ts, cs, h => by
    rw [LX] at h
    rw [LT]
    obtain ⟨A, c, h1, h2, h3⟩ := h
    exact ⟨A, c, h1, h2, LXK.lt hp ts A h3⟩
theorem LXK.lt {w : World} {p : Nat → Prop} {B : Nat} (hp : ∀ b, p b → b < B) : ∀ (ts : List Tree) (A : Option Addr), LXK w p ts A → LK w B ts A
  | [], _, _ => by rw [LK]; trivial
  | t :: ts, A, h => by
    rw [LXK] at h
    rw [LK]
    obtain ⟨b, off, cs, h1, h2, h3, h4, h5, h6⟩ := h
    exact ⟨b, off, cs, h1, hp b h2, h3, h4, LX.lt hp t cs h5, LXK.lt hp ts _ h6⟩
end
theorem LXK.nil (w : World) (p : Nat → Prop) (A : Option Addr) : LXK w p [] A := by rw [LXK]; trivial
theorem LX.parts {w : World} {p : Nat → Prop} {t : Tree} {cs : List Value} (h : LX w p t cs) : ∃ A c, cs = cellsX t.kind t.set A t.kids.length c ∧ t.set.Wf ∧ LXK w p t.kids A := by
  cases t with
  | node k s ts => rw [LX] at h; exact h
theorem LX.leaf (w : World) (p : Nat → Prop) (k : Int) (S : Set4) (A : Option Addr) (c : Nat) (h : S.Wf) : LX w p (.node k S []) (cellsX k S A 0 c) := by
  rw [LX]; exact ⟨A, c, rfl, h, LXK.nil _ _ _⟩
/-- The blocks from one world's end to another's. -/
def Fresh (a b : Nat) (x : Nat) : Prop := a ≤ x ∧ x < b
/-- A tree that a call has made. -/
def NewX (w w' : World) (t : Tree) (A : Option Addr) (c : Nat) : Prop := LX w' (Fresh w.heap.size w'.heap.size) t (cellsX t.kind t.set A t.kids.length c)
/-- What a function of the reader hands back that reads a tree. -/
def TxPost (g : Nat) (s : ByteArray) (T : TR) (w : World) (e : Ending) (w' : World) : Prop :=
  ∃ A c, e = .returned (argX T.1 A c) ∧ NewX w w' T.1 A c ∧ RdEnd g s T.2 w w'
/-- A tree's cells in a block of six: the variable. -/
theorem PutX.fill {W : World} {k : Nat} {cs : List Value} (h : PutX W k cs) (hl : cs.length = 6) (a b c d e f : Value) : PutX (fill6 W k a b c d e f) k [a, b, c, d, e, f] := by
  obtain ⟨x0, x1, x2, x3, x4, x5, rfl⟩ := list_six hl
  unfold PutX at h
  unfold PutX fill6
  simp only [World.setCell, Array.getElem?_modify, h]
  rfl
theorem PutX.lt {w : World} {k : Nat} {cs : List Value} (h : PutX w k cs) : k < w.heap.size := by
  rcases Nat.lt_or_ge k w.heap.size with h' | h'
  · exact h'
  · unfold PutX at h; simp [Array.getElem?_eq_none h'] at h
theorem PutX.free {w : World} {k : Nat} {cs : List Value} (h : PutX w k cs) (j : Nat) : w.frozen? ⟨k, j, none⟩ = false := by
  unfold PutX at h; simp [World.frozen?, h]
theorem PutX.grown {w w' : World} {g k : Nat} {cs : List Value} (h : PutX w k cs) (hg : w.grownBy w' (some g)) (hne : k ≠ g) : PutX w' k cs := (hg.block k h.lt (fun e => hne (Option.some.inj e))).trans h
theorem PutX.new (w : World) (cs : List Value) : PutX (w.alloc (.cells cs.toArray 153)) w.heap.size cs := heap_alloc_new w _
/-- Two trees become the kids of a new one. -/
def TwoPost (k : Int) (ta tb : Tree) (p : Nat → Prop) (w : World) (e : Ending) (w' : World) : Prop :=
  ∃ A c, e = .returned (argX (.node k .zero [ta, tb]) A c) ∧ LX w' (fun b => p b ∨ Fresh w.heap.size w'.heap.size b) (.node k .zero [ta, tb]) (cellsX k .zero A 2 c) ∧ Below w.heap.size w w'
set_option maxRecDepth 100000 in
set_option maxHeartbeats 800000 in
theorem twoX_any (k : Int) (ta tb : Tree) (A1 A2 : Option Addr) (c1 c2 : Nat) (p : Nat → Prop) (w : World) (hp : ∀ b, p b → b < w.heap.size)
    (h1 : LX w p ta (cellsX ta.kind ta.set A1 ta.kids.length c1)) (h2 : LX w p tb (cellsX tb.kind tb.set A2 tb.kids.length c2)) :
    Calls Tryz.prog 169 #[.int .i64 k, argX ta A1 c1, argX tb A2 c2] w (TwoPost k ta tb p w) := by
  have HT : Hid (∀ o1 o2 o3, ∀ W, W = (((w.alloc o1).alloc o2).alloc o3).alloc (.cells #[.int .i64 ta.kind, .int .u64 ta.set.a, .int .u64 ta.set.b, .int .u64 ta.set.c, .int .u64 ta.set.d, .slice A1 ta.kids.length c1, .int .i64 tb.kind, .int .u64 tb.set.a, .int .u64 tb.set.b, .int .u64 tb.set.c, .int .u64 tb.set.d, .slice A2 tb.kids.length c2] 153) →
      LXK W (fun b => p b ∨ Fresh w.heap.size W.heap.size b) [ta, tb] (some ⟨w.heap.size + 1 + 1 + 1, 0, none⟩) ∧ Below w.heap.size w W) := fun o1 o2 o3 W hW => by
    have hbw : Below w.heap.size w W := by rw [hW]; exact (((((Below.refl _ _).alloc (Nat.le_refl _) o1).alloc (by simp) o2).alloc (by simp; omega) o3).alloc (by simp; omega) _)
    have hsz : W.heap.size = w.heap.size + 1 + 1 + 1 + 1 := by rw [hW]; simp
    have hheap : W.heap[w.heap.size + 1 + 1 + 1]? = some (.cells #[.int .i64 ta.kind, .int .u64 ta.set.a, .int .u64 ta.set.b, .int .u64 ta.set.c, .int .u64 ta.set.d, .slice A1 ta.kids.length c1, .int .i64 tb.kind, .int .u64 tb.set.a, .int .u64 tb.set.b, .int .u64 tb.set.c, .int .u64 tb.set.d, .slice A2 tb.kids.length c2] 153 (0, 0)) := by
      rw [hW]
      have := heap_alloc_new (((w.alloc o1).alloc o2).alloc o3) (.cells #[.int .i64 ta.kind, .int .u64 ta.set.a, .int .u64 ta.set.b, .int .u64 ta.set.c, .int .u64 ta.set.d, .slice A1 ta.kids.length c1, .int .i64 tb.kind, .int .u64 tb.set.a, .int .u64 tb.set.b, .int .u64 tb.set.c, .int .u64 tb.set.d, .slice A2 tb.kids.length c2] 153)
      simpa using this
    have hkeep : ∀ (t : Tree) (cs : List Value), LX w p t cs → LX W (fun b => p b ∨ Fresh w.heap.size W.heap.size b) t cs := fun t cs h =>
      LX.keep (fun b hb => .inl hb) (fun b o hb => hbw.cell (p := ⟨b, o, none⟩) (hp b hb)) t cs h
    have hin : p (w.heap.size + 1 + 1 + 1) ∨ Fresh w.heap.size W.heap.size (w.heap.size + 1 + 1 + 1) := .inr ⟨by omega, by omega⟩
    refine ⟨?_, hbw⟩
    rw [LXK]
    refine ⟨_, 0, _, rfl, hin, rfl, fun j hj => ?_, hkeep _ _ h1, ?_⟩
    · rw [Nat.zero_add, cell_of_row W _ j _ _ _ hheap]
      match j, hj with
      | 0, _ => rfl
      | 1, _ => rfl
      | 2, _ => rfl
      | 3, _ => rfl
      | 4, _ => rfl
      | 5, _ => rfl
    · rw [LXK]
      refine ⟨_, 6, _, rfl, hin, rfl, fun j hj => ?_, hkeep _ _ h2, LXK.nil _ _ _⟩
      rw [cell_of_row W _ (6 + j) _ _ _ hheap]
      match j, hj with
      | 0, _ => rfl
      | 1, _ => rfl
      | 2, _ => rfl
      | 3, _ => rfl
      | 4, _ => rfl
      | 5, _ => rfl
  unfold argX
  clear h1 h2 hp
  go_enter Tryz.func169, Tryz.ntmps169
  go_wp2_with fail
  refine bodyPost_ret (v := argX (.node k .zero [ta, tb]) (some ⟨w.heap.size + 1 + 1 + 1, 0, none⟩) 2) (by simp [results, Tryz.results169, go_sem, argX, Tree.kind, Tree.set, Tree.kids, Set4.zero]) rfl ⟨_, _, rfl, ?_, (HT.out _ _ _ _ rfl).2⟩
  rw [LX]
  exact ⟨_, _, rfl, zero_wfR, (HT.out _ _ _ _ rfl).1⟩
/-- A tree read by a call within a call. -/
theorem NewX.more {w w1 w2 : World} {t : Tree} {A : Option Addr} {c : Nat} (h : NewX w1 w2 t A c) (hw : w.heap.size ≤ w1.heap.size) : NewX w w2 t A c :=
  LX.keep (fun _ hb => ⟨Nat.le_trans hw hb.1, hb.2⟩) (fun _ _ _ => rfl) _ _ h
/-- The variable out of a reader's function: its tree, the result's block, the frame. -/
structure OutSt (g : Nat) (s : ByteArray) (w : World) (k : Nat) (x : TR) (A : Option Addr) (c : Nat) (wr : World) : Prop where
  rd : RdAt g s x.2 wr
  out : PutX wr k (cellsX x.1.kind x.1.set A x.1.kids.length c)
  tree : LX wr (fun b => w.heap.size < b ∧ b ≠ k ∧ b < wr.heap.size) x.1 (cellsX x.1.kind x.1.set A x.1.kids.length c)
  zero : ZeroX wr w.heap.size
  frame : w.grownBy wr (some g)
  far : w.heap.size < k
theorem OutSt.lt {g : Nat} {s : ByteArray} {w : World} {k : Nat} {x : TR} {A : Option Addr} {c : Nat} {wr : World} (h : OutSt g s w k x A c wr) : LT wr wr.heap.size x.1 (cellsX x.1.kind x.1.set A x.1.kids.length c) := LX.lt (fun _ hb => hb.2.2) _ _ h.tree
/-- The reader goes on; new blocks come. -/
theorem OutSt.call {g : Nat} {s : ByteArray} {w : World} {k : Nat} {x : TR} {q : RS} {A : Option Addr} {c : Nat} {wr w' : World} (hg : g < w.heap.size) (h : OutSt g s w k x A c wr) (e : RdEnd g s q wr w') : OutSt g s w k (x.1, q) A c w' :=
  ⟨e.1, h.out.grown e.2 (by have := h.far; omega),
    LX.keep (fun b hb => ⟨hb.1, hb.2.1, Nat.lt_of_lt_of_le hb.2.2 e.2.size⟩) (fun b o hb => cell_grown e.2 hb.2.2 (by have := hb.1; omega)) _ _ h.tree,
    h.zero.grown e.2 (by omega), only_trans h.frame e.2, h.far⟩
theorem OutSt.low {g : Nat} {s : ByteArray} {w : World} {k : Nat} {x : TR} {A : Option Addr} {c : Nat} {wr w' : World} (hg : g < w.heap.size) (h : OutSt g s w k x A c wr) (hb : Below wr.heap.size wr w') : OutSt g s w k x A c w' :=
  h.call hg (rd_end h.rd hb)
/-- A new tree is put into the variable. -/
theorem OutSt.put {g : Nat} {s : ByteArray} {w : World} {k : Nat} {x : TR} {A : Option Addr} {c : Nat} {wr : World} (hg : g < w.heap.size) (h : OutSt g s w k x A c wr) (t : Tree) (A' : Option Addr) (c' : Nat)
    (ht : LX wr (fun b => w.heap.size < b ∧ b ≠ k ∧ b < wr.heap.size) t (cellsX t.kind t.set A' t.kids.length c')) :
    OutSt g s w k (t, x.2) A' c' (fill6 wr k (.int .i64 t.kind) (.int .u64 t.set.a) (.int .u64 t.set.b) (.int .u64 t.set.c) (.int .u64 t.set.d) (.slice A' t.kids.length c')) := by
  have h1 := h.far
  have hb : Below k wr (fill6 wr k (.int .i64 t.kind) (.int .u64 t.set.a) (.int .u64 t.set.b) (.int .u64 t.set.c) (.int .u64 t.set.d) (.slice A' t.kids.length c')) := fill6_below (Below.refl _ _) (Nat.le_refl _) _ _ _ _ _ _
  have hot : ∀ i, i ≠ k → (fill6 wr k (.int .i64 t.kind) (.int .u64 t.set.a) (.int .u64 t.set.b) (.int .u64 t.set.c) (.int .u64 t.set.d) (.slice A' t.kids.length c')).heap[i]? = wr.heap[i]? := fun i hi => by
    unfold fill6
    rw [Below.heap_setCell _ _ _ _ hi, Below.heap_setCell _ _ _ _ hi, Below.heap_setCell _ _ _ _ hi, Below.heap_setCell _ _ _ _ hi, Below.heap_setCell _ _ _ _ hi, Below.heap_setCell _ _ _ _ hi]
  have hsz := hb.size
  refine ⟨(hb.block g (by omega)).trans h.rd, h.out.fill rfl _ _ _ _ _ _, LX.keep (fun b hb => ⟨hb.1, hb.2.1, Nat.lt_of_lt_of_le hb.2.2 hsz⟩) (fun b o hb => ?_) _ _ ht, (hb.block _ (by omega)).trans h.zero, grown_set h.frame (by omega) hb, h1⟩
  simp only [World.cell?, hot b hb.2.1]
/-- The result's block is filled, and the function returns. -/
theorem OutSt.done {g : Nat} {s : ByteArray} {w : World} {k : Nat} {x : TR} {A : Option Addr} {c : Nat} {wr : World} (hg : g < w.heap.size) (h : OutSt g s w k x A c wr) :
    PutX (fill6 wr w.heap.size (.int .i64 x.1.kind) (.int .u64 x.1.set.a) (.int .u64 x.1.set.b) (.int .u64 x.1.set.c) (.int .u64 x.1.set.d) (.slice A x.1.kids.length c)) w.heap.size (cellsX x.1.kind x.1.set A x.1.kids.length c) ∧
    NewX w (fill6 wr w.heap.size (.int .i64 x.1.kind) (.int .u64 x.1.set.a) (.int .u64 x.1.set.b) (.int .u64 x.1.set.c) (.int .u64 x.1.set.d) (.slice A x.1.kids.length c)) x.1 A c ∧
    RdEnd g s x.2 w (fill6 wr w.heap.size (.int .i64 x.1.kind) (.int .u64 x.1.set.a) (.int .u64 x.1.set.b) (.int .u64 x.1.set.c) (.int .u64 x.1.set.d) (.slice A x.1.kids.length c)) := by
  have hb : Below w.heap.size wr (fill6 wr w.heap.size (.int .i64 x.1.kind) (.int .u64 x.1.set.a) (.int .u64 x.1.set.b) (.int .u64 x.1.set.c) (.int .u64 x.1.set.d) (.slice A x.1.kids.length c)) := fill6_below (Below.refl _ _) (Nat.le_refl _) _ _ _ _ _ _
  have hot : ∀ i, i ≠ w.heap.size → (fill6 wr w.heap.size (.int .i64 x.1.kind) (.int .u64 x.1.set.a) (.int .u64 x.1.set.b) (.int .u64 x.1.set.c) (.int .u64 x.1.set.d) (.slice A x.1.kids.length c)).heap[i]? = wr.heap[i]? := fun i hi => by
    unfold fill6
    rw [Below.heap_setCell _ _ _ _ hi, Below.heap_setCell _ _ _ _ hi, Below.heap_setCell _ _ _ _ hi, Below.heap_setCell _ _ _ _ hi, Below.heap_setCell _ _ _ _ hi, Below.heap_setCell _ _ _ _ hi]
  have hsz := hb.size
  refine ⟨h.zero.fill _ _ _ _ _ _, LX.keep (fun b hb => ⟨Nat.le_of_lt hb.1, Nat.lt_of_lt_of_le hb.2.2 hsz⟩) (fun b o hb => ?_) _ _ h.tree, (hb.block g hg).trans h.rd, grown_set h.frame (Nat.le_refl _) hb⟩
  have hne : b ≠ w.heap.size := fun e => by have := hb.1; omega
  simp only [World.cell?, hot b hne]
end
end Go.Proofs.YtdkbfljhfhjofaaGreatDoor
