/- The walk of prog.code. -/
import Derived.Test.YteinbjopclblaaaThoM
import Derived.Test.YteinbjopclblaaaMem2
import Derived.Test.YteinbjopclblaaaRexH
import Derived.Deep.RegionHeld3
import Derived.Deep.Cut
namespace Go.Proofs.Yteinbjopclblaaa
open Go.RowKit

mutual
def nodes : Tree → Nat
  | .node _ _ ts => 1 + nodesL ts
def nodesL : List Tree → Nat
  | [] => 0
  | t :: ts => nodes t + nodesL ts
end
theorem code_len {t : Tree} {at_ : Nat} {l : List Ins} (h : Code t at_ l) : l.length ≤ 2 * nodes t := by
  induction h with
  | none => simp [nodes, nodesL]
  | empty => simp
  | byte => simp [nodes, nodesL]
  | begin => simp [nodes, nodesL]
  | finish => simp [nodes, nodesL]
  | cat S a b at_ la lb _ _ h1 h2 => simp only [nodes, nodesL, List.length_append]; omega
  | alt S a b at_ la lb _ _ h1 h2 => simp only [nodes, nodesL, List.length_append, List.length_cons]; omega
  | star S a at_ la _ h1 => simp only [nodes, nodesL, List.length_append, List.length_cons, List.length_nil]; omega

/-- Blocks of other types stay. -/
def Keeps (w w' : World) : Prop := ∀ (g : Nat) (cs : Array Value) (t : TypeId) (fz : Nat × Nat), 126 ≠ t → w.heap[g]? = some (Obj.cells cs t fz) → w'.heap[g]? = some (Obj.cells cs t fz)
theorem Keeps.refl (w : World) : Keeps w w := fun _ _ _ _ _ h => h
theorem Keeps.trans {a b c : World} (h : Keeps a b) (k : Keeps b c) : Keeps a c := fun g cs t fz ht hg => k g cs t fz ht (h g cs t fz ht hg)
theorem heap_lt {w : World} {g : Nat} {o : Obj} (h : w.heap[g]? = some o) : g < w.heap.size := by
  rcases Nat.lt_or_ge g w.heap.size with hlt | hge
  · exact hlt
  · rw [Array.getElem?_eq_none hge] at h; cases h
theorem Keeps.below {w w' : World} (hb : Below w.heap.size w w') : Keeps w w' := fun g _ _ _ _ hg => (hb.block g (heap_lt hg)).trans hg
theorem Keeps.alloc (w : World) (o : Obj) : Keeps w (w.alloc o) := Keeps.below ((Below.refl _ _).alloc (Nat.le_refl _) o)
theorem Keeps.own {w w' : World} {base : Nat} {v : Value} {l : List Ins} (h : OwnP w base v l) (hk : ∀ g, g < w.heap.size → v.ownBlock ≠ some g → w'.heap[g]? = w.heap[g]?) : Keeps w w' := fun g _ _ _ ht hg => (hk g (heap_lt hg) (own_apart h hg ht)).trans hg
theorem Keeps.only {w w' : World} {base g : Nat} {c n : Nat} {l : List Ins} (h : OwnP w base (.slice (some ⟨g, 0, none⟩) n c) l) (hk : w.grownBy w' (some g)) : Keeps w w' := fun k _ _ _ ht hg =>
  (hk.block k (heap_lt hg) (fun e => own_apart h hg ht e.symm)).trans hg

def CodePost (t : Tree) (p : List Ins) (B : Nat) (w : World) (e : Ending) (w' : World) : Prop :=
  ∃ v' l, e = .returned v' ∧ Code t p.length l ∧ OwnP w' B v' (p ++ l) ∧ Below B w w' ∧ Keeps w w' ∧ w.heap.size ≤ w'.heap.size
def CodeC (t : Tree) : Prop := ∀ (A : Option Addr) (c : Nat) (w : World) (B : Nat) (v : Value) (p : List Ins), B ≤ w.heap.size → LK w B t.kids A → OwnP w B v p → p.length + 2 * nodes t ≤ 1000 →
  Calls Try.prog 85 #[v, argX t A c] w (CodePost t p B w)

set_option maxRecDepth 100000 in
set_option maxHeartbeats 800000 in
theorem code_app (k : Int) (S : Set4) (x : Ins) (hk : (k = 1 ∨ k = 3) ∧ x = ⟨1, 0, 0, S⟩ ∨ k = 7 ∧ x = ⟨4, 0, 0, .zero⟩ ∨ k = 8 ∧ x = ⟨5, 0, 0, .zero⟩) (hc : ∀ at_, Code (.node k S []) at_ [x]) : CodeC (.node k S []) := by
  intro A c w B v p hB _ hO hn
  have HC := Lib.hid hc
  obtain ⟨A0, c0, rfl, _⟩ := hO.form
  have hO2 : ∀ o, OwnP (w.alloc o) B (.slice A0 p.length c0) p := fun o => hO.below ((Below.refl _ _).alloc (Nat.le_refl _) o)
  have hp : p.length ≤ 1000 := by omega
  have HB := Lib.hid hB
  unfold argX
  obtain ⟨a, b, c', d⟩ := S
  dsimp only [Tree.kind, Tree.set, Tree.kids, List.length_nil]
  clear hc hn hB
  rcases hk with ⟨rfl | rfl, rfl⟩ | ⟨rfl, rfl⟩ | ⟨rfl, rfl⟩
  all_goals
    go_enter Try.func85, Try.ntmps85
    go_wp2_with (at_builtin; refine wpList_append_p rfl _ _ rfl B _ p rfl (hO2 _) (by simp; exact Nat.le_succ_of_le HB.out) _ ⟨_, 0, 0, ⟨_, _, _, _⟩⟩ rfl (w.heap.size + 1) (by simp) 1 rfl (by omega) ?_; intro v' w' hO3 hb3 hk3 hz3)
    go_ret
    exact ⟨v', _, rfl, HC.out _, hO3, ((Below.refl _ _).alloc HB.out _).trans hb3, (Keeps.alloc _ _).trans (Keeps.own (hO2 _) hk3), by simp at hz3; omega⟩

theorem CodeC.call {t : Tree} (ih : CodeC t) {w : World} {B : Nat} {A : Option Addr} {c : Nat} (h : LT w B t (cellsX t.kind t.set A t.kids.length c)) :
    ∀ (W : World) (v : Value) (p : List Ins), B ≤ W.heap.size → Below B w W → OwnP W B v p → p.length + 2 * nodes t ≤ 1000 → Calls Try.prog 85 #[v, argX t A c] W (CodePost t p B W) := fun W v p hB hb hO hn => by
  obtain ⟨A', c', e, _, hk⟩ := h.parts
  have e6 : Value.slice A t.kids.length c = .slice A' t.kids.length c' := by unfold cellsX at e; injection e with _ e; injection e with _ e; injection e with _ e; injection e with _ e; injection e with _ e; injection e with e
  injection e6 with e7 _ e8
  subst e7; subst e8
  exact ih A c W B v p hB (hk.below hb) hO hn
def boxX (k : Int) (a b c d : Int) (A : Option Addr) (n q : Nat) : Obj := .cells #[.int .i64 k, .int .u64 a, .int .u64 b, .int .u64 c, .int .u64 d, .slice A n q] 64
theorem box_keeps {w W : World} {k a b c d : Int} {A : Option Addr} {n q : Nat} (h : Keeps (w.alloc (boxX k a b c d A n q)) W) : W.cell? ⟨w.heap.size, 5, none⟩ = some (.slice A n q) ∧ W.cell? ⟨w.heap.size, 0, none⟩ = some (.int .i64 k) := by
  have h1 := h w.heap.size _ 64 (0, 0) (by decide) (heap_alloc_new w _)
  exact ⟨cell_of_row W w.heap.size 5 _ _ (0, 0) h1, cell_of_row W w.heap.size 0 _ _ (0, 0) h1⟩
theorem six_below {w W : World} {B b off : Nat} {t : Tree} {A : Option Addr} {c : Nat} (h : CellsAt w b off (cellsX t.kind t.set A t.kids.length c)) (hb : Below B w W) (hlt : b < B) : CellsAt W b off (cellsX t.kind t.set A t.kids.length c) :=
  fun j hj => (hb.cell (p := ⟨b, off + j, none⟩) hlt).trans (h j hj)

theorem code_empty (S : Set4) : CodeC (.node 2 S []) := by
  intro A c w B v p hB _ hO hn
  obtain ⟨A0, c0, rfl, _⟩ := hO.form
  have hO2 : ∀ o, OwnP (w.alloc o) B (.slice A0 p.length c0) (p ++ []) := fun o => by rw [List.append_nil]; exact hO.below ((Below.refl _ _).alloc (Nat.le_refl _) o)
  unfold argX
  obtain ⟨a, b, c', d⟩ := S
  dsimp only [Tree.kind, Tree.set, Tree.kids, List.length_nil]
  go_enter Try.func85, Try.ntmps85
  go_wp2_with fail
  go_ret
  exact ⟨_, [], rfl, .empty _ _, hO2 _, (Below.refl _ _).alloc hB _, Keeps.alloc _ _, by simp⟩

set_option maxRecDepth 100000 in
set_option maxHeartbeats 1600000 in
theorem code_cat (S : Set4) (ta tb : Tree) (iha : CodeC ta) (ihb : CodeC tb) : CodeC (.node 4 S [ta, tb]) := by
  intro A c w B v p hB hk hO hn
  obtain ⟨bb, off, ca, cb, rfl, hbb, hca, hla, hcb, hlb⟩ := LK.two hk
  obtain ⟨A1, c1, rfl, _, _⟩ := hla.parts
  obtain ⟨A2, c2, rfl, _, _⟩ := hlb.parts
  have HA := Lib.hid (iha.call hla)
  have HB := Lib.hid (ihb.call hlb)
  have HX := Lib.hid fun W hb => six_below hca (W := W) hb hbb
  have HY := Lib.hid fun W hb => six_below hcb (W := W) hb hbb
  simp only [nodes, nodesL] at hn
  obtain ⟨A0, c0, rfl, _⟩ := hO.form
  have hO2 : ∀ o, OwnP (w.alloc o) B (.slice A0 p.length c0) p := fun o => hO.below ((Below.refl _ _).alloc (Nat.le_refl _) o)
  have HBX : Hid (∀ k a b c d A n q W, Keeps (w.alloc (boxX k a b c d A n q)) W → _) := fun k a b c d A n q W h => box_keeps h
  unfold boxX at HBX
  unfold argX at HA HB ⊢
  obtain ⟨a, b, c', d⟩ := S
  dsimp only [Tree.kind, Tree.set, Tree.kids, List.length_nil, List.length_cons] at HBX ⊢
  clear hk iha ihb hla hlb
  go_enter Try.func85, Try.ntmps85
  obtain ⟨x0, x1, x2, x3, x4, x5⟩ := hca.six
  clear hca hcb
  have hq1 : bb < w.heap.size := by omega
  go_wp2_with fail
  refine (HA.out _ _ p (by simp; omega) ((Below.refl _ _).alloc hB _) (hO2 _) (by omega)).mono ?_
  rintro e w1 ⟨v1, la, rfl, hc1, hO1, hb1, hk1, hz1⟩
  have hbw1 := ((Below.refl B w).alloc hB _).trans hb1
  have hkk := hk1
  obtain ⟨f5, f0⟩ := HBX.out _ _ _ _ _ _ _ _ _ hk1
  obtain ⟨y0, y1, y2, y3, y4, y5⟩ := (HY.out _ hbw1).six
  have hll := code_len hc1
  have hz1' : w.heap.size + 1 ≤ w1.heap.size := by simpa using hz1
  clear x0 x1 x2 x3 x4 x5 hb1 hk1 hz1
  go_wp2_with fail
  refine (HB.out _ _ (p ++ la) (by omega) hbw1 hO1 (by rw [List.length_append]; omega)).mono ?_
  rintro e w2 ⟨v2, lb, rfl, hc2, hO2', hb2, hk2, hz2⟩
  clear y0 y1 y2 y3 y4 y5 f0 f5
  go_wp2_with fail
  go_ret
  rw [List.length_append] at hc2
  exact ⟨v2, la ++ lb, rfl, .cat _ _ _ _ _ _ hc1 hc2, by rw [← List.append_assoc]; exact hO2', hbw1.trans hb2, ((Keeps.alloc _ _).trans hkk).trans hk2, by omega⟩
end Go.Proofs.Yteinbjopclblaaa
