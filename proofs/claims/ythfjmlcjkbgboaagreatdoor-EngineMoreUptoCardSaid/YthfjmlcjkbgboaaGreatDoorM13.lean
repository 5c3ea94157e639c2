/- Part 13 of the proof: lemmas and walks that the last texts use. -/
import Derived.Test.YthfjmlcjkbgboaaGreatDoorM12
import Derived.Deep.CutRange
import Derived.Deep.RegionWith
import Derived.Deep.Cut
namespace Go.Proofs.YthfjmlcjkbgboaaGreatDoor
section
open Go.RowKit
theorem FourW.grown {w w' : World} {g k : Nat} {S : Set4} (h : FourW w k S) (hg : w.grownBy w' (some g)) (hne : k ≠ g) : FourW w' k S := (hg.block k h.lt (fun e => hne (Option.some.inj e))).trans h
/-- The block of a result of the type Rex that nothing was stored to yet. -/
def ZeroX (w : World) (k : Nat) : Prop := w.heap[k]? = some (.cells #[.int .i64 0, .int .u64 0, .int .u64 0, .int .u64 0, .int .u64 0, .slice none 0 0] 217 (0, 0))
theorem ZeroX.lt {w : World} {k : Nat} (h : ZeroX w k) : k < w.heap.size := by
  rcases Nat.lt_or_ge k w.heap.size with h' | h'
  · exact h'
  · unfold ZeroX at h; simp [Array.getElem?_eq_none h'] at h
theorem ZeroX.grown {w w' : World} {g k : Nat} (h : ZeroX w k) (hg : w.grownBy w' (some g)) (hne : k ≠ g) : ZeroX w' k := (hg.block k h.lt (fun e => hne (Option.some.inj e))).trans h
theorem ZeroX.block {w w' : World} {k : Nat} (h : ZeroX w k) (hb : w'.heap[k]? = w.heap[k]?) : ZeroX w' k := hb.trans h
theorem ZeroX.new (w : World) : ZeroX (w.alloc (.cells #[.int .i64 0, .int .u64 0, .int .u64 0, .int .u64 0, .int .u64 0, .slice none 0 0] 217)) w.heap.size := heap_alloc_new w _
theorem ZeroX.cells {w : World} {k : Nat} (h : ZeroX w k) : w.cell? ⟨k, 0, none⟩ = some (.int .i64 0) ∧ w.cell? ⟨k, 1, none⟩ = some (.int .u64 0) ∧ w.cell? ⟨k, 2, none⟩ = some (.int .u64 0) ∧ w.cell? ⟨k, 3, none⟩ = some (.int .u64 0) ∧ w.cell? ⟨k, 4, none⟩ = some (.int .u64 0) ∧ w.cell? ⟨k, 5, none⟩ = some (.slice none 0 0) :=
  ⟨cell_of_row w k 0 _ _ _ h, cell_of_row w k 1 _ _ _ h, cell_of_row w k 2 _ _ _ h, cell_of_row w k 3 _ _ _ h, cell_of_row w k 4 _ _ _ h, cell_of_row w k 5 _ _ _ h⟩
theorem ZeroX.free {w : World} {k : Nat} (h : ZeroX w k) (j : Nat) : w.frozen? ⟨k, j, none⟩ = false := by
  unfold ZeroX at h; simp [World.frozen?, h]
/-- The cells of a Rex at a place. -/
def PutX (w : World) (k : Nat) (cs : List Value) : Prop := w.heap[k]? = some (.cells cs.toArray 217 (0, 0))
def fill6 (W : World) (k : Nat) (a b c d e f : Value) : World := (((((W.setCell ⟨k, 0, none⟩ a).setCell ⟨k, 1, none⟩ b).setCell ⟨k, 2, none⟩ c).setCell ⟨k, 3, none⟩ d).setCell ⟨k, 4, none⟩ e).setCell ⟨k, 5, none⟩ f
theorem ZeroX.fill {W : World} {k : Nat} (h : ZeroX W k) (a b c d e f : Value) : PutX (fill6 W k a b c d e f) k [a, b, c, d, e, f] := by
  unfold ZeroX at h
  unfold PutX fill6
  simp only [World.setCell, Array.getElem?_modify, h]
  rfl
theorem PutX.cells {w : World} {k : Nat} {a b c d e f : Value} (h : PutX w k [a, b, c, d, e, f]) : w.cell? ⟨k, 0, none⟩ = some a ∧ w.cell? ⟨k, 1, none⟩ = some b ∧ w.cell? ⟨k, 2, none⟩ = some c ∧ w.cell? ⟨k, 3, none⟩ = some d ∧ w.cell? ⟨k, 4, none⟩ = some e ∧ w.cell? ⟨k, 5, none⟩ = some f :=
  ⟨cell_of_row w k 0 _ _ _ h, cell_of_row w k 1 _ _ _ h, cell_of_row w k 2 _ _ _ h, cell_of_row w k 3 _ _ _ h, cell_of_row w k 4 _ _ _ h, cell_of_row w k 5 _ _ _ h⟩
theorem fill6_below {W w : World} {B k : Nat} (h : Below B w W) (hk : B ≤ k) (a b c d e f : Value) : Below B w (fill6 W k a b c d e f) :=
  (((((h.setCell (p := ⟨k, 0, none⟩) hk _).setCell (p := ⟨k, 1, none⟩) hk _).setCell (p := ⟨k, 2, none⟩) hk _).setCell (p := ⟨k, 3, none⟩) hk _).setCell (p := ⟨k, 4, none⟩) hk _).setCell (p := ⟨k, 5, none⟩) hk _
theorem grown_set {w wr w' : World} {row : Option Nat} {k : Nat} (h : w.grownBy wr row) (hk : w.heap.size ≤ k) (hb : Below k wr w') : w.grownBy w' row :=
  ⟨hb.os.trans h.os, hb.tape.trans h.tape, hb.output.trans h.output, Nat.le_trans h.size hb.size, fun i hi hne => (hb.block i (by omega)).trans (h.block i hi hne)⟩
end
section
open Go.RowKit
mutual
/-- These cells are the tree's, the blocks of its kids are such. -/
def LX (w : World) (p : Nat → Prop) : Tree → List Value → Prop
  | .node k s ts, cs => ∃ A c, cs = cellsX k s A ts.length c ∧ s.Wf ∧ LXK w p ts A
def LXK (w : World) (p : Nat → Prop) : List Tree → Option Addr → Prop
  | [], _ => True
  | t :: ts, A => ∃ b off cs, A = some ⟨b, off, none⟩ ∧ p b ∧ cs.length = 6 ∧ CellsAt w b off cs ∧ LX w p t cs ∧ LXK w p ts (some ⟨b, off + 6, none⟩)
end
mutual
theorem LX.keep {w w' : World} {p q : Nat → Prop} (hp : ∀ b, p b → q b) (hk : ∀ b o, p b → w'.cell? ⟨b, o, none⟩ = w.cell? ⟨b, o, none⟩) : ∀ (t : Tree) (cs : List Value), LX w p t cs → LX w' q t cs
  | .node k s ts, cs, h => by
    rw [LX] at h ⊢
    obtain ⟨A, c, h1, h2, h3⟩ := h
    exact ⟨A, c, h1, h2, LXK.keep hp hk ts A h3⟩
theorem LXK.keep {w w' : World} {p q : Nat → Prop} (hp : ∀ b, p b → q b) (hk : ∀ b o, p b → w'.cell? ⟨b, o, none⟩ = w.cell? ⟨b, o, none⟩) : ∀ (ts : List Tree) (A : Option Addr), LXK w p ts A → LXK w' q ts A
  | [], _, _ => by rw [LXK]; trivial
  | t :: ts, A, h => by
    rw [LXK] at h ⊢
    obtain ⟨b, off, cs, h1, h2, h3, h4, h5, h6⟩ := h
    exact ⟨b, off, cs, h1, hp b h2, h3, fun j hj => (hk b _ h2).trans (h4 j hj), LX.keep hp hk t cs h5, LXK.keep hp hk ts _ h6⟩
end
mutual
theorem LX.lt {w : World} {p : Nat → Prop} {B : Nat} (hp : ∀ b, p b → b < B) : ∀ (t : Tree) (cs : List Value), LX w p t cs → LT w B t cs
  | .node k s ts, cs, h => by
    rw [LX] at h
    rw [LT]
    obtain ⟨A, c, h1, h2, h3⟩ := h
    exact ⟨A, c, h1, h2, LXK.lt hp ts A h3⟩
theorem LXK.lt {w : World} {p : Nat → Prop} {B : Nat} (hp : ∀ b, p b → b < B) : ∀ (ts : List Tree) (A : Option Addr), LXK w p ts A → LK w B ts A
  | [], _, _ => by rw [LK]; trivial
  | t :: ts, A, h => by
    rw [LXK] at h
    rw [LK]
    obtain ⟨b, off, cs, h1, h2, h3, h4, h5, h6⟩ := h
    exact ⟨b, off, cs, h1, hp b h2, h3, h4, LX.lt hp t cs h5, LXK.lt hp ts _ h6⟩
end
theorem LXK.nil (w : World) (p : Nat → Prop) (A : Option Addr) : LXK w p [] A := by rw [LXK]; trivial
theorem LX.parts {w : World} {p : Nat → Prop} {t : Tree} {cs : List Value} (h : LX w p t cs) : ∃ A c, cs = cellsX t.kind t.set A t.kids.length c ∧ t.set.Wf ∧ LXK w p t.kids A := by
  cases t with
  | node k s ts => rw [LX] at h; exact h
theorem LX.leaf (w : World) (p : Nat → Prop) (k : Int) (S : Set4) (A : Option Addr) (c : Nat) (h : S.Wf) : LX w p (.node k S []) (cellsX k S A 0 c) := by
  rw [LX]; exact ⟨A, c, rfl, h, LXK.nil _ _ _⟩
/-- The blocks from one world's end to another's. -/
def Fresh (a b : Nat) (x : Nat) : Prop := a ≤ x ∧ x < b
/-- A tree that a call has made. -/
def NewX (w w' : World) (t : Tree) (A : Option Addr) (c : Nat) : Prop := LX w' (Fresh w.heap.size w'.heap.size) t (cellsX t.kind t.set A t.kids.length c)
/-- What a function of the reader hands back that reads a tree. -/
def TxPost (g : Nat) (s : ByteArray) (T : TR) (w : World) (e : Ending) (w' : World) : Prop :=
  ∃ A c, e = .returned (argX T.1 A c) ∧ NewX w w' T.1 A c ∧ RdEnd g s T.2 w w'
/-- A tree's cells in a block of six: the variable. -/
theorem PutX.fill {W : World} {k : Nat} {cs : List Value} (h : PutX W k cs) (hl : cs.length = 6) (a b c d e f : Value) : PutX (fill6 W k a b c d e f) k [a, b, c, d, e, f] := by
  obtain ⟨x0, x1, x2, x3, x4, x5, rfl⟩ := list_six hl
  unfold PutX at h
  unfold PutX fill6
  simp only [World.setCell, Array.getElem?_modify, h]
  rfl
theorem PutX.lt {w : World} {k : Nat} {cs : List Value} (h : PutX w k cs) : k < w.heap.size := by
  rcases Nat.lt_or_ge k w.heap.size with h' | h'
  · exact h'
  · unfold PutX at h; simp [Array.getElem?_eq_none h'] at h
theorem PutX.free {w : World} {k : Nat} {cs : List Value} (h : PutX w k cs) (j : Nat) : w.frozen? ⟨k, j, none⟩ = false := by
  unfold PutX at h; simp [World.frozen?, h]
theorem PutX.grown {w w' : World} {g k : Nat} {cs : List Value} (h : PutX w k cs) (hg : w.grownBy w' (some g)) (hne : k ≠ g) : PutX w' k cs := (hg.block k h.lt (fun e => hne (Option.some.inj e))).trans h
theorem PutX.new (w : World) (cs : List Value) : PutX (w.alloc (.cells cs.toArray 217)) w.heap.size cs := heap_alloc_new w _
/-- Two trees become the kids of a new one. -/
def TwoPost (k : Int) (ta tb : Tree) (p : Nat → Prop) (w : World) (e : Ending) (w' : World) : Prop :=
  ∃ A c, e = .returned (argX (.node k .zero [ta, tb]) A c) ∧ LX w' (fun b => p b ∨ Fresh w.heap.size w'.heap.size b) (.node k .zero [ta, tb]) (cellsX k .zero A 2 c) ∧ Below w.heap.size w w'
set_option maxRecDepth 100000 in
set_option maxHeartbeats 800000 in
theorem twoX_any (k : Int) (ta tb : Tree) (A1 A2 : Option Addr) (c1 c2 : Nat) (p : Nat → Prop) (w : World) (hp : ∀ b, p b → b < w.heap.size)
    (h1 : LX w p ta (cellsX ta.kind ta.set A1 ta.kids.length c1)) (h2 : LX w p tb (cellsX tb.kind tb.set A2 tb.kids.length c2)) :
    Calls Tryz.prog 227 #[.int .i64 k, argX ta A1 c1, argX tb A2 c2] w (TwoPost k ta tb p w) := by
  have HT : Hid (∀ o1 o2 o3, ∀ W, W = (((w.alloc o1).alloc o2).alloc o3).alloc (.cells #[.int .i64 ta.kind, .int .u64 ta.set.a, .int .u64 ta.set.b, .int .u64 ta.set.c, .int .u64 ta.set.d, .slice A1 ta.kids.length c1, .int .i64 tb.kind, .int .u64 tb.set.a, .int .u64 tb.set.b, .int .u64 tb.set.c, .int .u64 tb.set.d, .slice A2 tb.kids.length c2] 217) →
      LXK W (fun b => p b ∨ Fresh w.heap.size W.heap.size b) [ta, tb] (some ⟨w.heap.size + 1 + 1 + 1, 0, none⟩) ∧ Below w.heap.size w W) := fun o1 o2 o3 W hW => by
    have hbw : Below w.heap.size w W := by rw [hW]; exact (((((Below.refl _ _).alloc (Nat.le_refl _) o1).alloc (by simp) o2).alloc (by simp; omega) o3).alloc (by simp; omega) _)
    have hsz : W.heap.size = w.heap.size + 1 + 1 + 1 + 1 := by rw [hW]; simp
    have hheap : W.heap[w.heap.size + 1 + 1 + 1]? = some (.cells #[.int .i64 ta.kind, .int .u64 ta.set.a, .int .u64 ta.set.b, .int .u64 ta.set.c, .int .u64 ta.set.d, .slice A1 ta.kids.length c1, .int .i64 tb.kind, .int .u64 tb.set.a, .int .u64 tb.set.b, .int .u64 tb.set.c, .int .u64 tb.set.d, .slice A2 tb.kids.length c2] 217 (0, 0)) := by
      rw [hW]
      have := heap_alloc_new (((w.alloc o1).alloc o2).alloc o3) (.cells #[.int .i64 ta.kind, .int .u64 ta.set.a, .int .u64 ta.set.b, .int .u64 ta.set.c, .int .u64 ta.set.d, .slice A1 ta.kids.length c1, .int .i64 tb.kind, .int .u64 tb.set.a, .int .u64 tb.set.b, .int .u64 tb.set.c, .int .u64 tb.set.d, .slice A2 tb.kids.length c2] 217)
      simpa using this
    have hkeep : ∀ (t : Tree) (cs : List Value), LX w p t cs → LX W (fun b => p b ∨ Fresh w.heap.size W.heap.size b) t cs := fun t cs h =>
      LX.keep (fun b hb => .inl hb) (fun b o hb => hbw.cell (p := ⟨b, o, none⟩) (hp b hb)) t cs h
    have hin : p (w.heap.size + 1 + 1 + 1) ∨ Fresh w.heap.size W.heap.size (w.heap.size + 1 + 1 + 1) := .inr ⟨by omega, by omega⟩
    refine ⟨?_, hbw⟩
    rw [LXK]
    refine ⟨_, 0, _, rfl, hin, rfl, fun j hj => ?_, hkeep _ _ h1, ?_⟩
    · rw [Nat.zero_add, cell_of_row W _ j _ _ _ hheap]
      match j, hj with
      | 0, _ => rfl
      | 1, _ => rfl
      | 2, _ => rfl
      | 3, _ => rfl
      | 4, _ => rfl
      | 5, _ => rfl
    · rw [LXK]
      refine ⟨_, 6, _, rfl, hin, rfl, fun j hj => ?_, hkeep _ _ h2, LXK.nil _ _ _⟩
      rw [cell_of_row W _ (6 + j) _ _ _ hheap]
      match j, hj with
      | 0, _ => rfl
      | 1, _ => rfl
      | 2, _ => rfl
      | 3, _ => rfl
      | 4, _ => rfl
      | 5, _ => rfl
  unfold argX
  clear h1 h2 hp
  go_enter Tryz.func227, Tryz.ntmps227
  go_wp2_with fail
  refine bodyPost_ret (v := argX (.node k .zero [ta, tb]) (some ⟨w.heap.size + 1 + 1 + 1, 0, none⟩) 2) (by simp [results, Tryz.results227, go_sem, argX, Tree.kind, Tree.set, Tree.kids, Set4.zero]) rfl ⟨_, _, rfl, ?_, (HT.out _ _ _ _ rfl).2⟩
  rw [LX]
  exact ⟨_, _, rfl, zero_wfR, (HT.out _ _ _ _ rfl).1⟩
/-- A tree read by a call within a call. -/
theorem NewX.more {w w1 w2 : World} {t : Tree} {A : Option Addr} {c : Nat} (h : NewX w1 w2 t A c) (hw : w.heap.size ≤ w1.heap.size) : NewX w w2 t A c :=
  LX.keep (fun _ hb => ⟨Nat.le_trans hw hb.1, hb.2⟩) (fun _ _ _ => rfl) _ _ h
/-- The variable out of a reader's function: its tree, the result's block, the frame. -/
structure OutSt (g : Nat) (s : ByteArray) (w : World) (k : Nat) (x : TR) (A : Option Addr) (c : Nat) (wr : World) : Prop where
  rd : RdAt g s x.2 wr
  out : PutX wr k (cellsX x.1.kind x.1.set A x.1.kids.length c)
  tree : LX wr (fun b => w.heap.size < b ∧ b ≠ k ∧ b < wr.heap.size) x.1 (cellsX x.1.kind x.1.set A x.1.kids.length c)
  zero : ZeroX wr w.heap.size
  frame : w.grownBy wr (some g)
  far : w.heap.size < k
theorem OutSt.lt {g : Nat} {s : ByteArray} {w : World} {k : Nat} {x : TR} {A : Option Addr} {c : Nat} {wr : World} (h : OutSt g s w k x A c wr) : LT wr wr.heap.size x.1 (cellsX x.1.kind x.1.set A x.1.kids.length c) := LX.lt (fun _ hb => hb.2.2) _ _ h.tree
/-- The reader goes on; new blocks come. -/
theorem OutSt.call {g : Nat} {s : ByteArray} {w : World} {k : Nat} {x : TR} {q : RS} {A : Option Addr} {c : Nat} {wr w' : World} (hg : g < w.heap.size) (h : OutSt g s w k x A c wr) (e : RdEnd g s q wr w') : OutSt g s w k (x.1, q) A c w' :=
  ⟨e.1, h.out.grown e.2 (by have := h.far; omega),
    LX.keep (fun b hb => ⟨hb.1, hb.2.1, Nat.lt_of_lt_of_le hb.2.2 e.2.size⟩) (fun b o hb => cell_grown e.2 hb.2.2 (by have := hb.1; omega)) _ _ h.tree,
    h.zero.grown e.2 (by omega), only_trans h.frame e.2, h.far⟩
theorem OutSt.low {g : Nat} {s : ByteArray} {w : World} {k : Nat} {x : TR} {A : Option Addr} {c : Nat} {wr w' : World} (hg : g < w.heap.size) (h : OutSt g s w k x A c wr) (hb : Below wr.heap.size wr w') : OutSt g s w k x A c w' :=
  h.call hg (rd_end h.rd hb)
/-- A new tree is put into the variable. -/
theorem OutSt.put {g : Nat} {s : ByteArray} {w : World} {k : Nat} {x : TR} {A : Option Addr} {c : Nat} {wr : World} (hg : g < w.heap.size) (h : OutSt g s w k x A c wr) (t : Tree) (A' : Option Addr) (c' : Nat)
    (ht : LX wr (fun b => w.heap.size < b ∧ b ≠ k ∧ b < wr.heap.size) t (cellsX t.kind t.set A' t.kids.length c')) :
    OutSt g s w k (t, x.2) A' c' (fill6 wr k (.int .i64 t.kind) (.int .u64 t.set.a) (.int .u64 t.set.b) (.int .u64 t.set.c) (.int .u64 t.set.d) (.slice A' t.kids.length c')) := by
  have h1 := h.far
  have hb : Below k wr (fill6 wr k (.int .i64 t.kind) (.int .u64 t.set.a) (.int .u64 t.set.b) (.int .u64 t.set.c) (.int .u64 t.set.d) (.slice A' t.kids.length c')) := fill6_below (Below.refl _ _) (Nat.le_refl _) _ _ _ _ _ _
  have hot : ∀ i, i ≠ k → (fill6 wr k (.int .i64 t.kind) (.int .u64 t.set.a) (.int .u64 t.set.b) (.int .u64 t.set.c) (.int .u64 t.set.d) (.slice A' t.kids.length c')).heap[i]? = wr.heap[i]? := fun i hi => by
    unfold fill6
    rw [Below.heap_setCell _ _ _ _ hi, Below.heap_setCell _ _ _ _ hi, Below.heap_setCell _ _ _ _ hi, Below.heap_setCell _ _ _ _ hi, Below.heap_setCell _ _ _ _ hi, Below.heap_setCell _ _ _ _ hi]
  have hsz := hb.size
  refine ⟨(hb.block g (by omega)).trans h.rd, h.out.fill rfl _ _ _ _ _ _, LX.keep (fun b hb => ⟨hb.1, hb.2.1, Nat.lt_of_lt_of_le hb.2.2 hsz⟩) (fun b o hb => ?_) _ _ ht, (hb.block _ (by omega)).trans h.zero, grown_set h.frame (by omega) hb, h1⟩
  simp only [World.cell?, hot b hb.2.1]
/-- The result's block is filled, and the function returns. -/
theorem OutSt.done {g : Nat} {s : ByteArray} {w : World} {k : Nat} {x : TR} {A : Option Addr} {c : Nat} {wr : World} (hg : g < w.heap.size) (h : OutSt g s w k x A c wr) :
    PutX (fill6 wr w.heap.size (.int .i64 x.1.kind) (.int .u64 x.1.set.a) (.int .u64 x.1.set.b) (.int .u64 x.1.set.c) (.int .u64 x.1.set.d) (.slice A x.1.kids.length c)) w.heap.size (cellsX x.1.kind x.1.set A x.1.kids.length c) ∧
    NewX w (fill6 wr w.heap.size (.int .i64 x.1.kind) (.int .u64 x.1.set.a) (.int .u64 x.1.set.b) (.int .u64 x.1.set.c) (.int .u64 x.1.set.d) (.slice A x.1.kids.length c)) x.1 A c ∧
    RdEnd g s x.2 w (fill6 wr w.heap.size (.int .i64 x.1.kind) (.int .u64 x.1.set.a) (.int .u64 x.1.set.b) (.int .u64 x.1.set.c) (.int .u64 x.1.set.d) (.slice A x.1.kids.length c)) := by
  have hb : Below w.heap.size wr (fill6 wr w.heap.size (.int .i64 x.1.kind) (.int .u64 x.1.set.a) (.int .u64 x.1.set.b) (.int .u64 x.1.set.c) (.int .u64 x.1.set.d) (.slice A x.1.kids.length c)) := fill6_below (Below.refl _ _) (Nat.le_refl _) _ _ _ _ _ _
  have hot : ∀ i, i ≠ w.heap.size → (fill6 wr w.heap.size (.int .i64 x.1.kind) (.int .u64 x.1.set.a) (.int .u64 x.1.set.b) (.int .u64 x.1.set.c) (.int .u64 x.1.set.d) (.slice A x.1.kids.length c)).heap[i]? = wr.heap[i]? := fun i hi => by
    unfold fill6
    rw [Below.heap_setCell _ _ _ _ hi, Below.heap_setCell _ _ _ _ hi, Below.heap_setCell _ _ _ _ hi, Below.heap_setCell _ _ _ _ hi, Below.heap_setCell _ _ _ _ hi, Below.heap_setCell _ _ _ _ hi]
  have hsz := hb.size
  refine ⟨h.zero.fill _ _ _ _ _ _, LX.keep (fun b hb => ⟨Nat.le_of_lt hb.1, Nat.lt_of_lt_of_le hb.2.2 hsz⟩) (fun b o hb => ?_) _ _ h.tree, (hb.block g hg).trans h.rd, grown_set h.frame (Nat.le_refl _) hb⟩
  have hne : b ≠ w.heap.size := fun e => by have := hb.1; omega
  simp only [World.cell?, hot b hne]
end
end Go.Proofs.YthfjmlcjkbgboaaGreatDoor
namespace Go.Proofs.YthfjmlcjkbgboaaGreatDoor
section
open Go.RowKit
/-- A function of the reader that hands back a tree: what it reads, at so many open brackets. -/
def ReadsT (f : Nat) (s : ByteArray) (op : Nat) (P : RS → TR) : Prop :=
  ∀ (g : Nat) (q : RS) (W : World), RdAt g s q W → q.pos ≤ s.size → q.op = op → Calls Tryz.prog f #[.pointer (some ⟨g, 0, none⟩)] W (TxPost g s (P q) W)
def leftM (g n : Nat) (w : World) : Nat := match w.cell? ⟨g, 3, none⟩, w.cell? ⟨g, 1, none⟩ with
  | some (.int _ e), some (.int _ p) => if e = 0 then n - p.toNat + 1 else 0
  | _, _ => 0
theorem leftM_eq {g : Nat} {s : ByteArray} {r : RS} {w : World} (h : RdAt g s r w) : leftM g s.size w = leftC s.data.toList r := by
  obtain ⟨_, c1, _, c3⟩ := h.cells
  have hsl : s.data.toList.length = s.size := by simp
  unfold leftM leftC
  rw [c3, c1, hsl]
  rfl
/-- The variable begins. -/
theorem OutSt.start {g : Nat} {s : ByteArray} {w w1 w2 : World} {x : TR} {A : Option Addr} {c : Nat} (_ : g < w.heap.size) (hz : ZeroX w2 w.heap.size) (hf : w.grownBy w2 (some g)) (hsz : w.heap.size < w1.heap.size)
    (hn : NewX w1 w2 x.1 A c) (hr : RdAt g s x.2 w2) (h12 : w1.heap.size ≤ w2.heap.size) :
    OutSt g s w w2.heap.size x A c (w2.alloc (.cells (cellsX x.1.kind x.1.set A x.1.kids.length c).toArray 217)) := by
  have hal : Below w2.heap.size w2 (w2.alloc (.cells (cellsX x.1.kind x.1.set A x.1.kids.length c).toArray 217)) := (Below.refl _ _).alloc (Nat.le_refl _) _
  refine ⟨hr.below hal, PutX.new w2 _, LX.keep (fun b hb => ⟨Nat.lt_of_lt_of_le hsz hb.1, ?_, ?_⟩) (fun b o hb => hal.cell (p := ⟨b, o, none⟩) hb.2) _ _ hn, (hal.block _ hz.lt).trans hz, only_trans hf (only_low (grown_refl w2 _) hal), by omega⟩
  · have := hb.2; omega
  · have := hb.2; have := hal.size; omega
def RoRel (g : Nat) (s : ByteArray) (w : World) (k op : Nat) (step : TR → Option TR) (R : TR) (wr : World) : Prop :=
  ∃ (x : TR) (A : Option Addr) (c : Nat), fixI step (leftT s.data.toList) x = R ∧ x.2.pos ≤ s.size ∧ x.2.op = op ∧ OutSt g s w k x A c wr
set_option maxRecDepth 100000 in
set_option maxHeartbeats 6400000 in
theorem row_any (s : ByteArray) (op : Nat) (P : RS → TR) (_ : s.size ≤ 4096) (hP : PieceF s.data.toList P) (hC : ReadsT 253 s op P) :
    ReadsT 225 s op (rowR s.data.toList P) := by
  intro g r w h hp hop
  have hsl : s.data.toList.length = s.size := by simp
  have hg := h.lt
  have HCC := Lib.hid hC
  have HPP := Lib.hid hP
  obtain ⟨W0, hW0⟩ : ∃ W0, w.alloc (.cells #[.int .i64 0, .int .u64 0, .int .u64 0, .int .u64 0, .int .u64 0, .slice none 0 0] 217) = W0 := ⟨_, rfl⟩
  have hb0 : Below w.heap.size w W0 := by rw [← hW0]; exact (Below.refl _ _).alloc (Nat.le_refl _) _
  have hz0 : ZeroX W0 w.heap.size := by rw [← hW0]; exact ZeroX.new w
  have hsz0 : w.heap.size < W0.heap.size := hz0.lt
  have hr0 := h.below hb0
  have HE0 := Lib.hid (rends_any g s r W0 hr0 hp)
  have HF0 : Hid (w.grownBy W0 (some g)) := only_low (grown_refl w _) hb0
  have HZ0 := Lib.hid hz0
  have HR : Hid (rowR s.data.toList P r = if endsR s.data.toList r = true then (emT, r) else fixI (rowS s.data.toList P) (leftT s.data.toList) (P r)) := rfl
  have HPR := Lib.hid (hP r (by omega)).1.step
  generalize hR : rowR s.data.toList P r = R at *
  have HW0 := Lib.hid hW0
  clear h hC hP hb0 hW0 hr0 hz0 hR
  go_enter Tryz.func225, Tryz.ntmps225
  go_upto_region 1 with fail
  rw [HW0.out]
  cases hends : endsR s.data.toList r with
  | true =>
    rw [hends] at HE0 HR
    have HRR : Hid (R = (emT, r)) := by unfold Hid; rw [HR.out]; rfl
    go_wp2_with (go_at_call 252; apply Hid.out)
    unfold Hid
    refine HE0.out.mono ?_
    rintro e w1 ⟨rfl, h1⟩
    have hz1 := HZ0.out.grown h1.2 (by omega)
    have HX := Lib.hid (hz1.fill (.int .i64 2) (.int .u64 0) (.int .u64 0) (.int .u64 0) (.int .u64 0) (.slice none 0 0))
    have hb6 : Below w.heap.size w1 (fill6 w1 w.heap.size (.int .i64 2) (.int .u64 0) (.int .u64 0) (.int .u64 0) (.int .u64 0) (.slice none 0 0)) := fill6_below (Below.refl _ _) (Nat.le_refl _) _ _ _ _ _ _
    have HEND : Hid (RdEnd g s r w (fill6 w1 w.heap.size (.int .i64 2) (.int .u64 0) (.int .u64 0) (.int .u64 0) (.int .u64 0) (.slice none 0 0))) := ⟨(hb6.block g hg).trans h1.1, grown_set (only_trans HF0.out h1.2) (Nat.le_refl _) hb6⟩
    have ⟨z0, z1, z2, z3, z4, z5⟩ := hz1.cells
    have y0 := hz1.free 0
    have y1 := hz1.free 1
    have y2 := hz1.free 2
    have y3 := hz1.free 3
    have y4 := hz1.free 4
    have y5 := hz1.free 5
    clear h1 hb6 hz1
    go_wp2_with fail
    have ⟨s0, s1, s2, s3, s4, s5⟩ := HX.out.cells
    unfold fill6 at s0 s1 s2 s3 s4 s5
    exact bodyPost_ret (v := argX emT none 0) (by simp [results, Tryz.results225, go_sem, s0, s1, s2, s3, s4, s5, argX, emT, Tree.kind, Tree.set, Tree.kids, Set4.zero]) rfl (by rw [HRR.out]; exact ⟨none, 0, rfl, LX.leaf _ _ _ _ _ _ zero_wfR, HEND.out⟩)
  | false =>
    rw [hends] at HE0 HR
    have HRR : Hid (fixI (rowS s.data.toList P) (leftT s.data.toList) (P r) = R) := by unfold Hid; rw [HR.out]; rfl
    go_wp2_with (go_at_call 252; apply Hid.out)
    unfold Hid
    refine HE0.out.mono ?_
    rintro e w1 ⟨rfl, h1⟩
    have HC1 := Lib.hid (HCC.out g r w1 h1.1 hp hop)
    have hz1 := HZ0.out.grown h1.2 (by omega)
    have hf1 := only_trans HF0.out h1.2
    have hs1 : w.heap.size < w1.heap.size := hz1.lt
    have HS1 := Lib.hid (And.intro hz1 hf1)
    clear h1 hz1 hf1
    go_wp2_with (go_at_call 253; apply Hid.out)
    unfold Hid
    refine HC1.out.mono ?_
    rintro e w2 ⟨A, c, rfl, hn2, h2⟩
    have HO : Hid (OutSt g s w w2.heap.size (P r) A c (w2.alloc (.cells #[.int .i64 (P r).1.kind, .int .u64 (P r).1.set.a, .int .u64 (P r).1.set.b, .int .u64 (P r).1.set.c, .int .u64 (P r).1.set.d, .slice A (P r).1.kids.length c] 217))) :=
      OutSt.start hg (HS1.out.1.grown h2.2 (by omega)) (only_trans HS1.out.2 h2.2) hs1 hn2 h2.1 h2.2.size
    have hxp : (P r).2.pos ≤ s.size := by have := HPR.out.inn; omega
    have hxo : (P r).2.op = op := HPR.out.op.trans hop
    clear hn2 h2 HPR HC1 HS1 HR
    generalize P r = x at *
    unfold argX
    go_upto_region 4 with fail
    generalize w2.alloc (.cells #[.int .i64 x.1.kind, .int .u64 x.1.set.a, .int .u64 x.1.set.b, .int .u64 x.1.set.c, .int .u64 x.1.set.d, .slice A x.1.kids.length c] 217) = W3 at *
    generalize w2.heap.size = k at *
    have HS : Hid (RoRel g s w k op (rowS s.data.toList P) R W3) := ⟨x, A, c, HRR.out, hxp, hxo, HO.out⟩
    clear HO hxp hxo HRR hends
    go_loopw [9] (fun _ wr => RoRel g s w k op (rowS s.data.toList P) R wr) (fun _ wr => leftM g s.size wr)
    case atStart => exact HS.out
    case round =>
      obtain ⟨x, A, c, hx, hxp, hxo, hO⟩ := hrel
      have HM := Lib.hid (leftM_eq hO.rd)
      have HE := Lib.hid (rends_any g s x.2 wr hO.rd hxp)
      have HO := Lib.hid hO
      have hin : InR s.data.toList x := by unfold InR; omega
      cases hends : endsR s.data.toList x.2 with
      | true =>
        rw [hends] at HE
        have HRX : Hid (R = x) := by
          unfold Hid
          rw [← hx, fixI_none (rowS_falls HPP.out) hin (by unfold rowS; rw [hends]; rfl)]
        clear hx hO HM hin hends
        go_wp2_with (go_at_call 252; apply Hid.out)
        unfold Hid
        refine HE.out.mono ?_
        rintro e w4 ⟨rfl, h4⟩
        have h5 := HO.out.call hg h4
        have HD := Lib.hid (OutSt.done hg h5)
        have ⟨o0, o1, o2, o3, o4, o5⟩ := (show PutX w4 k [_, _, _, _, _, _] from h5.out).cells
        have ⟨z0, z1, z2, z3, z4, z5⟩ := h5.zero.cells
        have y0 := h5.zero.free 0
        have y1 := h5.zero.free 1
        have y2 := h5.zero.free 2
        have y3 := h5.zero.free 3
        have y4 := h5.zero.free 4
        have y5 := h5.zero.free 5
        clear h4 h5
        go_wp2_with fail
        obtain ⟨d1, d2, d3⟩ := HD.out
        have ⟨s0, s1, s2, s3, s4, s5⟩ := (show PutX _ w.heap.size [_, _, _, _, _, _] from d1).cells
        unfold fill6 at s0 s1 s2 s3 s4 s5
        exact bodyPost_ret (v := argX x.1 A c) (by simp [results, Tryz.results225, go_sem, s0, s1, s2, s3, s4, s5, argX]) rfl (by rw [HRX.out]; exact ⟨A, c, rfl, d2, d3⟩)
      | false =>
        rw [hends] at HE
        have HST : Hid (rowS s.data.toList P x = some (jnT x.1 (P x.2).1, (P x.2).2)) := by unfold Hid rowS; rw [hends]; rfl
        have HNX : Hid (fixI (rowS s.data.toList P) (leftT s.data.toList) (jnT x.1 (P x.2).1, (P x.2).2) = R) := by unfold Hid; rw [← hx]; exact (fixI_some (rowS_falls HPP.out) hin HST.out).symm
        have HLS : Hid (leftC s.data.toList (P x.2).2 < leftC s.data.toList x.2) := (rowS_falls HPP.out).less x (jnT x.1 (P x.2).1, (P x.2).2) hin HST.out
        have HPS := Lib.hid (HPP.out x.2 hin).1.step
        clear hx hO hin hends
        go_wp2_with (go_at_call 252; apply Hid.out)
        unfold Hid
        refine HE.out.mono ?_
        rintro e w4 ⟨rfl, h4⟩
        have h5 := HO.out.call hg h4
        have HPC : Hid (∀ W, Below w4.heap.size w4 W → Calls Tryz.prog 253 #[.pointer (some ⟨g, 0, none⟩)] W (TxPost g s (P x.2) W)) := fun W hW => HCC.out g x.2 W (h5.rd.below hW) hxp hxo
        have H5 := Lib.hid h5
        have ⟨o0, o1, o2, o3, o4, o5⟩ := (show PutX w4 k [_, _, _, _, _, _] from h5.out).cells
        have f0 := h5.out.free 0
        have f1 := h5.out.free 1
        have f2 := h5.out.free 2
        have f3 := h5.out.free 3
        have f4 := h5.out.free 4
        have f5 := h5.out.free 5
        clear h4 h5
        have hk5 : k < w4.heap.size := H5.out.out.lt
        have hwk : w.heap.size < k := H5.out.far
        obtain ⟨y, hy⟩ : ∃ y, P x.2 = y := ⟨_, rfl⟩
        rw [hy] at HPC HST HNX HLS HPS
        have HTW : Hid (∀ (A4 : Option Addr) (c4 : Nat) (W w6 : World), Below w4.heap.size w4 W → NewX W w6 y.1 A4 c4 → RdEnd g s y.2 W w6 →
            OutSt g s w k (x.1, y.2) A c w6 ∧ Calls Tryz.prog 227 #[.int .i64 4, .agg #[.int .i64 x.1.kind, .int .u64 x.1.set.a, .int .u64 x.1.set.b, .int .u64 x.1.set.c, .int .u64 x.1.set.d, .slice A x.1.kids.length c], .agg #[.int .i64 y.1.kind, .int .u64 y.1.set.a, .int .u64 y.1.set.b, .int .u64 y.1.set.c, .int .u64 y.1.set.d, .slice A4 y.1.kids.length c4]] w6
              (fun e w7 => ∃ A7 c7, e = .returned (argX (jnT x.1 y.1) A7 c7) ∧ OutSt g s w k (x.1, y.2) A c w7 ∧ LX w7 (fun b => w.heap.size < b ∧ b ≠ k ∧ b < w7.heap.size) (jnT x.1 y.1) (cellsX 4 .zero A7 2 c7))) := fun A4 c4 W w6 hW hn h6 => by
          have hO6 := (H5.out.low hg hW).call hg h6
          refine ⟨hO6, (twoX_any 4 x.1 y.1 A A4 c c4 (fun b => w.heap.size < b ∧ b ≠ k ∧ b < w6.heap.size) w6 (fun b hb => hb.2.2) hO6.tree (LX.keep (fun b hb => ⟨by have := hb.1; have := hW.size; omega, by have := hb.1; have := hW.size; omega, hb.2⟩) (fun _ _ _ => rfl) _ _ hn)).mono ?_⟩
          rintro e w7 ⟨A7, c7, rfl, hl7, hb7⟩
          refine ⟨A7, c7, rfl, hO6.low hg hb7, LX.keep (fun b hb => ?_) (fun _ _ _ => rfl) _ _ hl7⟩
          have h1 := hO6.out.lt
          have h2 := hb7.size
          rcases hb with hb | hb
          · exact ⟨hb.1, hb.2.1, by omega⟩
          · have := hb.1; have := hb.2; exact ⟨by omega, by omega, hb.2⟩
        have HFIN : Hid (∀ A7 c7 w7, OutSt g s w k (x.1, y.2) A c w7 → LX w7 (fun b => w.heap.size < b ∧ b ≠ k ∧ b < w7.heap.size) (jnT x.1 y.1) (cellsX 4 .zero A7 2 c7) →
            RoRel g s w k op (rowS s.data.toList P) R (fill6 w7 k (.int .i64 (jnT x.1 y.1).kind) (.int .u64 (jnT x.1 y.1).set.a) (.int .u64 (jnT x.1 y.1).set.b) (.int .u64 (jnT x.1 y.1).set.c) (.int .u64 (jnT x.1 y.1).set.d) (.slice A7 (jnT x.1 y.1).kids.length c7)) ∧
            leftM g s.size (fill6 w7 k (.int .i64 (jnT x.1 y.1).kind) (.int .u64 (jnT x.1 y.1).set.a) (.int .u64 (jnT x.1 y.1).set.b) (.int .u64 (jnT x.1 y.1).set.c) (.int .u64 (jnT x.1 y.1).set.d) (.slice A7 (jnT x.1 y.1).kids.length c7)) < leftM g s.size wr) := fun A7 c7 w7 h7 hl7 => by
          have hp := h7.put hg (jnT x.1 y.1) A7 c7 hl7
          refine ⟨⟨_, A7, c7, HNX.out, ?_, ?_, hp⟩, ?_⟩
          · have := HPS.out.inn; show y.2.pos ≤ _; omega
          · exact HPS.out.op.trans hxo
          · rw [HM.out]; rw [leftM_eq hp.rd]; exact HLS.out
        clear hy HM HPS HLS HNX HST
        go_upto_region 5 with fail
        go_region_with (first
          | (go_at_call 253; (with_reducible refine (HPC.out _ ?_).mono ?_); (first | exact Below.refl _ _ | exact (Below.refl _ _).drew); rintro e w6 ⟨A4, c4, rfl, hn6, h6⟩; obtain ⟨hO6, hT6⟩ := HTW.out A4 c4 _ w6 (by first | exact Below.refl _ _ | exact (Below.refl _ _).drew) hn6 h6; have HT6 := Lib.hid hT6; have ⟨o0, o1, o2, o3, o4, o5⟩ := (show PutX w6 k [_, _, _, _, _, _] from hO6.out).cells; clear hn6 h6 hT6 hO6; unfold argX)
          | (go_at_call 227; (refine HT6.out.mono ?_); rintro e w7 ⟨A7, c7, rfl, hO7, hl7⟩; have f0 := hO7.out.free 0; have f1 := hO7.out.free 1; have f2 := hO7.out.free 2; have f3 := hO7.out.free 3; have f4 := hO7.out.free 4; have f5 := hO7.out.free 5; have ⟨o0, o1, o2, o3, o4, o5⟩ := (show PutX w7 k [_, _, _, _, _, _] from hO7.out).cells; have HX7 := Lib.hid (HFIN.out A7 c7 w7 hO7 hl7); clear hO7 hl7; unfold argX))
        all_goals go_roundw
        all_goals first
          | exact HX7.out.2
          | ((repeat apply Exists.intro); exact ⟨HX7.out.1, rfl⟩)
          | fail "row"
end
section
open Go.RowKit
set_option maxRecDepth 100000 in
set_option maxHeartbeats 6400000 in
theorem alt_any (s : ByteArray) (op : Nat) (P : RS → TR) (hs : s.size ≤ 4096) (hP : GoodF s.data.toList P) (hC : ReadsT 225 s op P) :
    ReadsT 182 s op (altR s.data.toList P) := by
  intro g r w h hp hop
  have hsl : s.data.toList.length = s.size := by simp
  have hg := h.lt
  have HCC := Lib.hid hC
  have HPP := Lib.hid hP
  obtain ⟨W0, hW0⟩ : ∃ W0, w.alloc (.cells #[.int .i64 0, .int .u64 0, .int .u64 0, .int .u64 0, .int .u64 0, .slice none 0 0] 217) = W0 := ⟨_, rfl⟩
  have hb0 : Below w.heap.size w W0 := by rw [← hW0]; exact (Below.refl _ _).alloc (Nat.le_refl _) _
  have hz0 : ZeroX W0 w.heap.size := by rw [← hW0]; exact ZeroX.new w
  have hs1 : w.heap.size < W0.heap.size := hz0.lt
  have HC1 := Lib.hid (hC g r W0 (h.below hb0) hp hop)
  have HS1 : Hid (ZeroX W0 w.heap.size ∧ w.grownBy W0 (some g)) := ⟨hz0, only_low (grown_refl w _) hb0⟩
  have HRR : Hid (fixI (altS s.data.toList P) (leftT s.data.toList) (P r) = altR s.data.toList P r) := rfl
  have HPR := Lib.hid (hP r (by omega)).step
  generalize hR : altR s.data.toList P r = R at *
  have HW0 := Lib.hid hW0
  clear h hC hP hb0 hW0 hz0 hR
  go_enter Tryz.func182, Tryz.ntmps182
  go_upto_region 1 with fail
  rw [HW0.out]
  go_wp2_with (go_at_call 225; apply Hid.out)
  unfold Hid
  refine HC1.out.mono ?_
  rintro e w2 ⟨A, c, rfl, hn2, h2⟩
  have HO : Hid (OutSt g s w w2.heap.size (P r) A c (w2.alloc (.cells #[.int .i64 (P r).1.kind, .int .u64 (P r).1.set.a, .int .u64 (P r).1.set.b, .int .u64 (P r).1.set.c, .int .u64 (P r).1.set.d, .slice A (P r).1.kids.length c] 217))) :=
    OutSt.start hg (HS1.out.1.grown h2.2 (by omega)) (only_trans HS1.out.2 h2.2) hs1 hn2 h2.1 h2.2.size
  have hxp : (P r).2.pos ≤ s.size := by have := HPR.out.inn; omega
  have hxo : (P r).2.op = op := HPR.out.op.trans hop
  clear hn2 h2 HPR HC1 HS1
  generalize P r = x at *
  unfold argX
  go_upto_region 2 with fail
  generalize w2.alloc (.cells #[.int .i64 x.1.kind, .int .u64 x.1.set.a, .int .u64 x.1.set.b, .int .u64 x.1.set.c, .int .u64 x.1.set.d, .slice A x.1.kids.length c] 217) = W3 at *
  generalize w2.heap.size = k at *
  have HS : Hid (RoRel g s w k op (altS s.data.toList P) R W3) := ⟨x, A, c, HRR.out, hxp, hxo, HO.out⟩
  clear HO hxp hxo HRR
  go_loopw [6] (fun _ wr => RoRel g s w k op (altS s.data.toList P) R wr) (fun _ wr => leftM g s.size wr)
  case atStart => exact HS.out
  case round =>
    obtain ⟨x, A, c, hx, hxp, hxo, hO⟩ := hrel
    have HM := Lib.hid (leftM_eq hO.rd)
    have HE := Lib.hid (take_any g s x.2 124 wr hO.rd hxp hs)
    have HO := Lib.hid hO
    have hin : InR s.data.toList x := by unfold InR; omega
    by_cases hends : nextR s.data.toList x.2 = 124
    rotate_left
    · have ht : takeR s.data.toList x.2 124 = (false, x.2) := by unfold takeR; rw [if_neg hends]
      rw [ht] at HE
      have HRX : Hid (R = x) := by
        unfold Hid
        rw [← hx, fixI_none (altS_falls HPP.out) hin (by unfold altS; rw [if_neg hends])]
      clear hx hO HM hin hends ht
      go_wp2_with (go_at_call 226; apply Hid.out)
      unfold Hid
      refine HE.out.mono ?_
      rintro e w4 ⟨rfl, h4⟩
      have h5 := HO.out.call hg h4
      have HD := Lib.hid (OutSt.done hg h5)
      have ⟨o0, o1, o2, o3, o4, o5⟩ := (show PutX w4 k [_, _, _, _, _, _] from h5.out).cells
      have ⟨z0, z1, z2, z3, z4, z5⟩ := h5.zero.cells
      have y0 := h5.zero.free 0
      have y1 := h5.zero.free 1
      have y2 := h5.zero.free 2
      have y3 := h5.zero.free 3
      have y4 := h5.zero.free 4
      have y5 := h5.zero.free 5
      clear h4 h5
      go_wp2_with fail
      obtain ⟨d1, d2, d3⟩ := HD.out
      have ⟨s0, s1, s2, s3, s4, s5⟩ := (show PutX _ w.heap.size [_, _, _, _, _, _] from d1).cells
      unfold fill6 at s0 s1 s2 s3 s4 s5
      exact bodyPost_ret (v := argX x.1 A c) (by simp [results, Tryz.results182, go_sem, s0, s1, s2, s3, s4, s5, argX]) rfl (by rw [HRX.out]; exact ⟨A, c, rfl, d2, d3⟩)
    · have ht : takeR s.data.toList x.2 124 = (true, onR x.2) := by unfold takeR; rw [if_pos hends]; rfl
      rw [ht] at HE
      have hon : (onR x.2).pos ≤ s.data.toList.length := (on_step hends (by decide)).1.inn
      have hop2 : (onR x.2).pos ≤ s.size := by omega
      have HST : Hid (altS s.data.toList P x = some (orT x.1 (P (onR x.2)).1, (P (onR x.2)).2)) := by unfold Hid altS; rw [if_pos hends]
      have HNX : Hid (fixI (altS s.data.toList P) (leftT s.data.toList) (orT x.1 (P (onR x.2)).1, (P (onR x.2)).2) = R) := by unfold Hid; rw [← hx]; exact (fixI_some (altS_falls HPP.out) hin HST.out).symm
      have HLS : Hid (leftC s.data.toList (P (onR x.2)).2 < leftC s.data.toList x.2) := (altS_falls HPP.out).less x (orT x.1 (P (onR x.2)).1, (P (onR x.2)).2) hin HST.out
      have HPS := Lib.hid (HPP.out (onR x.2) hon).step
      clear hx hO hin hends ht
      go_wp2_with (go_at_call 226; apply Hid.out)
      unfold Hid
      refine HE.out.mono ?_
      rintro e w4 ⟨rfl, h4⟩
      have h5 := HO.out.call hg h4
      have HPC : Hid (∀ W, Below w4.heap.size w4 W → Calls Tryz.prog 225 #[.pointer (some ⟨g, 0, none⟩)] W (TxPost g s (P (onR x.2)) W)) := fun W hW => HCC.out g (onR x.2) W (h5.rd.below hW) hop2 hxo
      have H5 := Lib.hid h5
      have ⟨o0, o1, o2, o3, o4, o5⟩ := (show PutX w4 k [_, _, _, _, _, _] from h5.out).cells
      have f0 := h5.out.free 0
      have f1 := h5.out.free 1
      have f2 := h5.out.free 2
      have f3 := h5.out.free 3
      have f4 := h5.out.free 4
      have f5 := h5.out.free 5
      clear h4 h5
      have hk5 : k < w4.heap.size := H5.out.out.lt
      have hwk : w.heap.size < k := H5.out.far
      obtain ⟨y, hy⟩ : ∃ y, P (onR x.2) = y := ⟨_, rfl⟩
      rw [hy] at HPC HST HNX HLS HPS
      have HTW : Hid (∀ (A4 : Option Addr) (c4 : Nat) (W w6 : World), Below w4.heap.size w4 W → NewX W w6 y.1 A4 c4 → RdEnd g s y.2 W w6 →
          OutSt g s w k (x.1, y.2) A c w6 ∧ Calls Tryz.prog 227 #[.int .i64 5, .agg #[.int .i64 x.1.kind, .int .u64 x.1.set.a, .int .u64 x.1.set.b, .int .u64 x.1.set.c, .int .u64 x.1.set.d, .slice A x.1.kids.length c], .agg #[.int .i64 y.1.kind, .int .u64 y.1.set.a, .int .u64 y.1.set.b, .int .u64 y.1.set.c, .int .u64 y.1.set.d, .slice A4 y.1.kids.length c4]] w6
            (fun e w7 => ∃ A7 c7, e = .returned (argX (orT x.1 y.1) A7 c7) ∧ OutSt g s w k (x.1, y.2) A c w7 ∧ LX w7 (fun b => w.heap.size < b ∧ b ≠ k ∧ b < w7.heap.size) (orT x.1 y.1) (cellsX 5 .zero A7 2 c7))) := fun A4 c4 W w6 hW hn h6 => by
        have hO6 := (H5.out.low hg hW).call hg h6
        refine ⟨hO6, (twoX_any 5 x.1 y.1 A A4 c c4 (fun b => w.heap.size < b ∧ b ≠ k ∧ b < w6.heap.size) w6 (fun b hb => hb.2.2) hO6.tree (LX.keep (fun b hb => ⟨by have := hb.1; have := hW.size; omega, by have := hb.1; have := hW.size; omega, hb.2⟩) (fun _ _ _ => rfl) _ _ hn)).mono ?_⟩
        rintro e w7 ⟨A7, c7, rfl, hl7, hb7⟩
        refine ⟨A7, c7, rfl, hO6.low hg hb7, LX.keep (fun b hb => ?_) (fun _ _ _ => rfl) _ _ hl7⟩
        have h1 := hO6.out.lt
        have h2 := hb7.size
        rcases hb with hb | hb
        · exact ⟨hb.1, hb.2.1, by omega⟩
        · have := hb.1; have := hb.2; exact ⟨by omega, by omega, hb.2⟩
      have HFIN : Hid (∀ A7 c7 w7, OutSt g s w k (x.1, y.2) A c w7 → LX w7 (fun b => w.heap.size < b ∧ b ≠ k ∧ b < w7.heap.size) (orT x.1 y.1) (cellsX 5 .zero A7 2 c7) →
          RoRel g s w k op (altS s.data.toList P) R (fill6 w7 k (.int .i64 (orT x.1 y.1).kind) (.int .u64 (orT x.1 y.1).set.a) (.int .u64 (orT x.1 y.1).set.b) (.int .u64 (orT x.1 y.1).set.c) (.int .u64 (orT x.1 y.1).set.d) (.slice A7 (orT x.1 y.1).kids.length c7)) ∧
          leftM g s.size (fill6 w7 k (.int .i64 (orT x.1 y.1).kind) (.int .u64 (orT x.1 y.1).set.a) (.int .u64 (orT x.1 y.1).set.b) (.int .u64 (orT x.1 y.1).set.c) (.int .u64 (orT x.1 y.1).set.d) (.slice A7 (orT x.1 y.1).kids.length c7)) < leftM g s.size wr) := fun A7 c7 w7 h7 hl7 => by
        have hp := h7.put hg (orT x.1 y.1) A7 c7 hl7
        refine ⟨⟨_, A7, c7, HNX.out, ?_, ?_, hp⟩, ?_⟩
        · have := HPS.out.inn; show y.2.pos ≤ _; omega
        · exact HPS.out.op.trans hxo
        · rw [HM.out]; rw [leftM_eq hp.rd]; exact HLS.out
      clear hy HM HPS HLS HNX HST
      go_upto_region 3 with fail
      go_region_with (first
        | (go_at_call 225; (with_reducible refine (HPC.out _ ?_).mono ?_); (first | exact Below.refl _ _ | exact (Below.refl _ _).drew); rintro e w6 ⟨A4, c4, rfl, hn6, h6⟩; obtain ⟨hO6, hT6⟩ := HTW.out A4 c4 _ w6 (by first | exact Below.refl _ _ | exact (Below.refl _ _).drew) hn6 h6; have HT6 := Lib.hid hT6; have ⟨o0, o1, o2, o3, o4, o5⟩ := (show PutX w6 k [_, _, _, _, _, _] from hO6.out).cells; clear hn6 h6 hT6 hO6; unfold argX)
        | (go_at_call 227; (refine HT6.out.mono ?_); rintro e w7 ⟨A7, c7, rfl, hO7, hl7⟩; have f0 := hO7.out.free 0; have f1 := hO7.out.free 1; have f2 := hO7.out.free 2; have f3 := hO7.out.free 3; have f4 := hO7.out.free 4; have f5 := hO7.out.free 5; have ⟨o0, o1, o2, o3, o4, o5⟩ := (show PutX w7 k [_, _, _, _, _, _] from hO7.out).cells; have HX7 := Lib.hid (HFIN.out A7 c7 w7 hO7 hl7); clear hO7 hl7; unfold argX))
      all_goals go_roundw
      all_goals first
        | exact HX7.out.2
        | ((repeat apply Exists.intro); exact ⟨HX7.out.1, rfl⟩)
        | fail "row"
end
end Go.Proofs.YthfjmlcjkbgboaaGreatDoor
