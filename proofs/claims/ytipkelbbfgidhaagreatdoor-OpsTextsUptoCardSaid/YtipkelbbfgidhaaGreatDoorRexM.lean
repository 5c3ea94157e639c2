/- Trees of expressions in memory. -/
import Derived.Test.YtipkelbbfgidhaaGreatDoorOpen
import Derived.Test.YtipkelbbfgidhaaGreatDoorRexL
namespace Go.Proofs.YtipkelbbfgidhaaGreatDoor
open Go.RowKit Go.ChangeShapes Go.WideShapes Go.Deep

def cellsX (k : Int) (s : Set4) (A : Option Addr) (n c : Nat) : List Value := [.int .i64 k, .int .u64 s.a, .int .u64 s.b, .int .u64 s.c, .int .u64 s.d, .slice A n c]
def word64 (x : Int) : Prop := 0 ≤ x ∧ x ≤ 18446744073709551615
def Set4.Wf (s : Set4) : Prop := word64 s.a ∧ word64 s.b ∧ word64 s.c ∧ word64 s.d
/-- Six cells lie at a place. -/
def CellsAt (w : World) (b off : Nat) (cs : List Value) : Prop := ∀ j (h : j < cs.length), w.cell? ⟨b, off + j, none⟩ = some cs[j]
mutual
/-- These cells are the tree's, its kids lie below B. -/
def LT (w : World) (B : Nat) : Tree → List Value → Prop
  | .node k s ts, cs => ∃ A c, cs = cellsX k s A ts.length c ∧ s.Wf ∧ LK w B ts A
def LK (w : World) (B : Nat) : List Tree → Option Addr → Prop
  | [], _ => True
  | t :: ts, A => ∃ b off cs, A = some ⟨b, off, none⟩ ∧ b < B ∧ cs.length = 6 ∧ CellsAt w b off cs ∧ LT w B t cs ∧ LK w B ts (some ⟨b, off + 6, none⟩)
end
mutual
theorem LT.keep {w w' : World} {B B' : Nat} (hB : B ≤ B') (hk : ∀ b o, b < B → w'.cell? ⟨b, o, none⟩ = w.cell? ⟨b, o, none⟩) : ∀ (t : Tree) (cs : List Value), LT w B t cs → LT w' B' t cs
  | .node k s ts, cs, h => by
    rw [LT] at h ⊢
    obtain ⟨A, c, h1, h2, h3⟩ := h
    exact ⟨A, c, h1, h2, LK.keep hB hk ts A h3⟩
theorem LK.keep {w w' : World} {B B' : Nat} (hB : B ≤ B') (hk : ∀ b o, b < B → w'.cell? ⟨b, o, none⟩ = w.cell? ⟨b, o, none⟩) : ∀ (ts : List Tree) (A : Option Addr), LK w B ts A → LK w' B' ts A
  | [], _, _ => by rw [LK]; trivial
  | t :: ts, A, h => by
    rw [LK] at h ⊢
    obtain ⟨b, off, cs, h1, h2, h3, h4, h5, h6⟩ := h
    exact ⟨b, off, cs, h1, by omega, h3, fun j hj => (hk b _ h2).trans (h4 j hj), LT.keep hB hk t cs h5, LK.keep hB hk ts _ h6⟩
end
theorem LT.below {w w' : World} {B : Nat} {t : Tree} {cs : List Value} (h : LT w B t cs) (hb : Below B w w') : LT w' B t cs := LT.keep (Nat.le_refl _) (fun b o hp => hb.cell (p := ⟨b, o, none⟩) hp) t cs h
theorem LK.below {w w' : World} {B : Nat} {ts : List Tree} {A : Option Addr} (h : LK w B ts A) (hb : Below B w w') : LK w' B ts A := LK.keep (Nat.le_refl _) (fun b o hp => hb.cell (p := ⟨b, o, none⟩) hp) ts A h
theorem LT.more {w : World} {B B' : Nat} {t : Tree} {cs : List Value} (h : LT w B t cs) (hB : B ≤ B') : LT w B' t cs := LT.keep hB (fun _ _ _ => rfl) t cs h
theorem LK.more {w : World} {B B' : Nat} {ts : List Tree} {A : Option Addr} (h : LK w B ts A) (hB : B ≤ B') : LK w B' ts A := LK.keep hB (fun _ _ _ => rfl) ts A h
theorem LT.len {w : World} {B : Nat} {t : Tree} {cs : List Value} (h : LT w B t cs) : cs.length = 6 := by
  cases t with
  | node k s ts => rw [LT] at h; obtain ⟨A, c, rfl, _⟩ := h; rfl
def Tree.kind : Tree → Int
  | .node k _ _ => k
def Tree.set : Tree → Set4
  | .node _ s _ => s
def Tree.kids : Tree → List Tree
  | .node _ _ ts => ts
theorem LT.parts {w : World} {B : Nat} {t : Tree} {cs : List Value} (h : LT w B t cs) : ∃ A c, cs = cellsX t.kind t.set A t.kids.length c ∧ t.set.Wf ∧ LK w B t.kids A := by
  cases t with
  | node k s ts => rw [LT] at h; exact h
/-- The kid at a place. -/
theorem LK.at {w : World} {B : Nat} : ∀ {ts : List Tree} {A : Option Addr}, LK w B ts A → ∀ i (h : i < ts.length), ∃ b off cs, A = some ⟨b, off, none⟩ ∧ b < B ∧ CellsAt w b (off + i * 6) cs ∧ LT w B ts[i] cs
  | [], _, _, i, h => absurd h (by simp)
  | t :: ts, A, h, 0, _ => by
    rw [LK] at h
    obtain ⟨b, off, cs, h1, h2, _, h4, h5, _⟩ := h
    exact ⟨b, off, cs, h1, h2, by simpa using h4, h5⟩
  | t :: ts, A, h, i + 1, hi => by
    rw [LK] at h
    obtain ⟨b, off, cs, h1, h2, _, _, _, h6⟩ := h
    obtain ⟨b', off', cs', e, h7, h8, h9⟩ := LK.at h6 i (by simpa using hi)
    injection e with e
    injection e with e1 e2
    subst e1; subst e2
    exact ⟨b, off, cs', h1, h7, by rw [show off + (i + 1) * 6 = off + 6 + i * 6 by omega]; exact h8, h9⟩
theorem LK.nil (w : World) (B : Nat) (A : Option Addr) : LK w B [] A := by rw [LK]; trivial
/-- Six cells one by one. -/
theorem CellsAt.six {w : World} {b off : Nat} {c0 c1 c2 c3 c4 c5 : Value} (h : CellsAt w b off [c0, c1, c2, c3, c4, c5]) :
    w.cell? ⟨b, off, none⟩ = some c0 ∧ w.cell? ⟨b, off + 1, none⟩ = some c1 ∧ w.cell? ⟨b, off + 2, none⟩ = some c2 ∧ w.cell? ⟨b, off + 3, none⟩ = some c3 ∧ w.cell? ⟨b, off + 4, none⟩ = some c4 ∧ w.cell? ⟨b, off + 5, none⟩ = some c5 :=
  ⟨h 0 (by simp), h 1 (by simp), h 2 (by simp), h 3 (by simp), h 4 (by simp), h 5 (by simp)⟩

/-! Trees that came in. -/
structure LTree (w : World) where
  tree : Tree
  cells : List Value
  six : cells.length = 6
theorem lk_flat {w : World} {B : Nat} : ∀ (l : List (LTree w)) (b off : Nat), b < B → (∀ a ∈ l, LT w B a.tree a.cells) → (∀ j (h : j < (l.flatMap LTree.cells).length), w.cell? ⟨b, off + j, none⟩ = some (l.flatMap LTree.cells)[j]) → LK w B (l.map LTree.tree) (some ⟨b, off, none⟩)
  | [], _, _, _, _, _ => by rw [List.map_nil, LK]; trivial
  | a :: r, b, off, hb, hl, hc => by
    rw [List.map_cons, LK]
    have h6 := a.six
    refine ⟨b, off, a.cells, rfl, hb, h6, fun j hj => ?_, hl a (by simp), lk_flat r b (off + 6) hb (fun x hx => hl x (by simp [hx])) fun j hj => ?_⟩
    · rw [hc j (by rw [List.flatMap_cons, List.length_append]; omega)]
      simp only [List.flatMap_cons]
      rw [List.getElem_append_left hj]
    · have := hc (6 + j) (by rw [List.flatMap_cons, List.length_append]; omega)
      rw [show off + 6 + j = off + (6 + j) by omega, this]
      simp only [List.flatMap_cons]
      rw [List.getElem_append_right (by omega)]
      simp [h6]
theorem cellsOf_rex : Tryz.prog.cellsOf 39 = 6 := by kernel_rfl
theorem cellsOf_int : Tryz.prog.cellsOf 3 = 1 := by kernel_rfl
theorem cellsOf_set : Tryz.prog.cellsOf 36 = 4 := by kernel_rfl
theorem cellsOf_u64 : Tryz.prog.cellsOf 34 = 1 := by kernel_rfl
theorem cellsOf_rexs : Tryz.prog.cellsOf 37 = 1 := by kernel_rfl
theorem list_six {α : Type} {l : List α} (h : l.length = 6) : ∃ a b c d e f, l = [a, b, c, d, e, f] := by
  match l, h with
  | [a, b, c, d, e, f], _ => exact ⟨a, b, c, d, e, f, rfl⟩
structure Cell6 (H : Type) where
  cells : List Value
  six : cells.length = 6
  dat : DataW H
theorem trees_of {H : Type} {w : World} : ∀ (l : List (Cell6 H)), (∀ a ∈ l, ∃ t, LT w w.heap.size t a.cells) → ∃ l' : List (LTree w), l'.length = l.length ∧ l'.flatMap LTree.cells = l.flatMap Cell6.cells ∧ ∀ a ∈ l', LT w w.heap.size a.tree a.cells
  | [], _ => ⟨[], rfl, rfl, by simp⟩
  | a :: r, h => by
    obtain ⟨t, ht⟩ := h a (by simp)
    obtain ⟨l', h1, h2, h3⟩ := trees_of r (fun x hx => h x (by simp [hx]))
    refine ⟨⟨t, a.cells, a.six⟩ :: l', by simp [h1], by simp [h2], fun x hx => ?_⟩
    rcases List.mem_cons.1 hx with rfl | hx
    · exact ht
    · exact h3 x hx
theorem wf64 {x : Int} (h : (Lit.int .u64 x).wf = true) : word64 x := by
  unfold word64
  simpa [Lit.wf, IntKind.min, IntKind.max, IntKind.signed, IntKind.bits] using h
theorem rex_trod {H : Type} {enc : TypeId × Value → H} {w : World} {base : Nat} {spare : Nat → Bool} {held : Bool} : ∀ (N fuel : Nat) (cs : List Value) (x : DataW H × List MemPlace), SizeOf.sizeOf x.1 < N →
    DataW.trod enc Tryz.prog w base spare held fuel 39 cs = some x → ∃ t, LT w w.heap.size t cs
  | 0, _, _, _, h, _ => absurd h (by omega)
  | N + 1, fuel, cs, x, hN, h => by
    obtain ⟨y0, y1, y2, n, hx, hl, h0, h1, h2⟩ := trod_struct3 Tryz.underlying39 h
    rw [cellsOf_rex] at hl
    obtain ⟨c0, c1, c2, c3, c4, c5, rfl⟩ := list_six hl
    rw [cellsOf_int] at h0
    rw [cellsOf_set] at h1
    rw [cellsOf_rexs] at h2
    obtain ⟨k, e0, _, _⟩ := DataW.trod_int Tryz.underlying3 h0
    obtain ⟨z0, z1, z2, z3, m, _, g0, g1, g2, g3⟩ := trod_array4 Tryz.underlying36 cellsOf_u64 (show DataW.trod enc Tryz.prog w base spare held n 36 [c1, c2, c3, c4] = some y1 from h1)
    obtain ⟨a0, q0, _, f0⟩ := DataW.trod_int Tryz.underlying34 g0
    obtain ⟨a1, q1, _, f1⟩ := DataW.trod_int Tryz.underlying34 g1
    obtain ⟨a2, q2, _, f2⟩ := DataW.trod_int Tryz.underlying34 g2
    obtain ⟨a3, q3, _, f3⟩ := DataW.trod_int Tryz.underlying34 g3
    obtain ⟨A, len, c, l, e2, hlen, _, _, hok, hsl, hd⟩ := open_list 6 Cell6.cells Cell6.dat (fun a => ∃ n y, DataW.trod enc Tryz.prog w base spare held n 39 a.cells = some y ∧ y.1 = a.dat) Tryz.underlying37 cellsOf_rex Cell6.six
      (fun n cs' y hy => by
        obtain ⟨_, _, _, _, _, hl', _⟩ := trod_struct3 Tryz.underlying39 hy
        exact ⟨⟨cs', hl'.trans cellsOf_rex, y.1⟩, rfl, rfl, n, y, hy, rfl⟩) h2
    have hsub : ∀ a ∈ l, ∃ t, LT w w.heap.size t a.cells := fun a ha => by
      obtain ⟨n', y, hy, hya⟩ := hok a ha
      refine rex_trod N n' a.cells y ?_ hy
      rcases hd with ⟨_, rfl⟩ | ⟨sp, hsp⟩
      · cases ha
      · have m1 : a.dat ∈ l.map Cell6.dat := List.mem_map_of_mem ha
        have s1 := List.sizeOf_lt_of_mem m1
        rw [hya]
        have s2 : SizeOf.sizeOf x.1 = SizeOf.sizeOf (DataW.agg [y0.1, y1.1, y2.1]) := by rw [hx]
        have s3 : SizeOf.sizeOf y2.1 = SizeOf.sizeOf (DataW.slice (l.map Cell6.dat) sp) := by rw [hsp]
        simp only [DataW.agg.sizeOf_spec, List.cons.sizeOf_spec, List.nil.sizeOf_spec] at s2
        simp only [DataW.slice.sizeOf_spec] at s3
        omega
    obtain ⟨l', l1, l2, l3⟩ := trees_of l hsub
    injection e0 with e0 _
    injection q0 with q0 _
    injection q1 with q1 _
    injection q2 with q2 _
    injection q3 with q3 _
    have e2' : c5 = .slice A len c := by injection e2
    subst e0; subst q0; subst q1; subst q2; subst q3; subst e2'
    refine ⟨.node k ⟨a0, a1, a2, a3⟩ (l'.map LTree.tree), ?_⟩
    rw [LT]
    refine ⟨A, c, ?_, ⟨wf64 f0, wf64 f1, wf64 f2, wf64 f3⟩, ?_⟩
    · rw [List.length_map, l1, hlen]; rfl
    · match l', l1, l2, l3 with
      | [], _, _, _ => rw [List.map_nil]; exact LK.nil _ _ _
      | a :: r, l1, l2, l3 =>
        have hp : 0 < (l.flatMap Cell6.cells).length := by rw [← l2, List.flatMap_cons, List.length_append, a.six]; omega
        obtain ⟨b, off, rfl, hb, hc⟩ := hsl.src hp
        refine lk_flat (a :: r) b off hb l3 fun j hj => ?_
        have hj2 : j < (l.flatMap Cell6.cells).length := by rw [← l2]; exact hj
        rw [hc j hj2]
        simp only [l2]

set_option maxRecDepth 100000 in
theorem open_rex {H : Type} {enc : TypeId × Value → H} {W : World} {base b0 : Nat} {r : Reach} {spare : Nat → Bool} {held : Bool} {v : Value} {d : DataW H} {p : List MemPlace}
    (hv : Value.okWide Tryz.prog W r b0 39 v) (h : DataW.Trod enc Tryz.prog W base spare held 39 v d p) :
    ∃ t cs, v = .agg cs ∧ LT W W.heap.size t cs.toList := by
  obtain ⟨cs, rfl, hsz⟩ := okWide_struct Tryz.underlying39 hv
  obtain ⟨fuel, hf⟩ := h
  obtain ⟨t, ht⟩ := rex_trod _ fuel _ _ (Nat.lt_succ_self _) hf
  exact ⟨t, cs, rfl, by simpa [Value.cells] using ht⟩
end Go.Proofs.YtipkelbbfgidhaaGreatDoor
