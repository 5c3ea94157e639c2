/- Part 42 of the proof: lemmas and walks that the last texts use. -/
import Derived.Test.YthfjmlcjkbgboaaGreatDoorM01
import Derived.Test.YthfjmlcjkbgboaaGreatDoorM03
import Derived.Test.YthfjmlcjkbgboaaGreatDoorM19
import Derived.Test.YthfjmlcjkbgboaaGreatDoorM26
import Derived.Test.YthfjmlcjkbgboaaGreatDoorM27
import Derived.Test.YthfjmlcjkbgboaaGreatDoorM28
import Derived.Test.YthfjmlcjkbgboaaGreatDoorM35
import Derived.Test.YthfjmlcjkbgboaaGreatDoorM39
import Derived.Test.YthfjmlcjkbgboaaGreatDoorM40
import Derived.Test.YthfjmlcjkbgboaaGreatDoorM41
import Derived.BigRegion
import Derived.BigQuiet
import Derived.Deep.QuietTactic
import Derived.Deep.RegionLaw
import Derived.Deep.Cut
import Derived.Deep.RegionHeld3
import Derived.Laws.Concat
import Derived.Laws.StructEq
import Derived.Lib.Builder
import Derived.Shelf.Strings.Builder1
namespace Go.Proofs.YthfjmlcjkbgboaaGreatDoor
open Go.RowKit
def V3 (w : World) (g : Nat) (k m : Int) (n : ByteArray) : Prop := w.heap[g]? = some (.cells #[.int .i64 k, .int .i64 m, .string n] 41 (0, 0))
section
variable {w w' : World} {g : Nat} {k m : Int} {n : ByteArray}
theorem V3.cells (h : V3 w g k m n) : w.cell? ⟨g, 0, none⟩ = some (.int .i64 k) ∧ w.cell? ⟨g, 1, none⟩ = some (.int .i64 m) ∧ w.cell? ⟨g, 2, none⟩ = some (.string n) := ⟨cell_of_row w g 0 _ _ (0, 0) h, cell_of_row w g 1 _ _ (0, 0) h, cell_of_row w g 2 _ _ (0, 0) h⟩
theorem V3.free (h : V3 w g k m n) (j : Nat) : w.frozen? ⟨g, j, none⟩ = false := by unfold V3 at h; simp [World.frozen?, h]
theorem V3.far (h : V3 w g k m n) {q : Nat} (hne : g ≠ q) (j : Nat) (u : Value) : V3 (w.setCell ⟨q, j, none⟩ u) g k m n := (Below.heap_setCell w ⟨q, j, none⟩ u g hne).trans h
theorem V3.drewN (h : V3 w g k m n) (q : Nat) : V3 (w.drewN q) g k m n := h
theorem V3.put0 (h : V3 w g k m n) (x : Int) : V3 (w.setCell ⟨g, 0, none⟩ (.int .i64 x)) g x m n := by unfold V3 at h ⊢; simp [World.setCell, Array.getElem?_modify, h]
theorem V3.put1 (h : V3 w g k m n) (x : Int) : V3 (w.setCell ⟨g, 1, none⟩ (.int .i64 x)) g k x n := by unfold V3 at h ⊢; simp [World.setCell, Array.getElem?_modify, h]
theorem V3.put2 (h : V3 w g k m n) (x : ByteArray) : V3 (w.setCell ⟨g, 2, none⟩ (.string x)) g k m x := by unfold V3 at h ⊢; simp [World.setCell, Array.getElem?_modify, h]
theorem V3.new (w : World) : V3 (w.alloc (.cells #[.int .i64 0, .int .i64 0, .string (ByteArray.mk #[])] 41)) w.heap.size 0 0 (ByteArray.mk #[]) := heap_alloc_new w _
end
def V2 (w : World) (g : Nat) (k n : Int) : Prop := w.heap[g]? = some (.cells #[.int .i64 k, .int .i64 n] 57 (0, 0))
section
variable {w w' : World} {g : Nat} {k n : Int}
theorem V2.cells (h : V2 w g k n) : w.cell? ⟨g, 0, none⟩ = some (.int .i64 k) ∧ w.cell? ⟨g, 1, none⟩ = some (.int .i64 n) := ⟨cell_of_row w g 0 _ _ (0, 0) h, cell_of_row w g 1 _ _ (0, 0) h⟩
theorem V2.free (h : V2 w g k n) (j : Nat) : w.frozen? ⟨g, j, none⟩ = false := by unfold V2 at h; simp [World.frozen?, h]
theorem V2.far (h : V2 w g k n) {q : Nat} (hne : g ≠ q) (j : Nat) (u : Value) : V2 (w.setCell ⟨q, j, none⟩ u) g k n := (Below.heap_setCell w ⟨q, j, none⟩ u g hne).trans h
theorem V2.drewN (h : V2 w g k n) (q : Nat) : V2 (w.drewN q) g k n := h
theorem V2.put0 (h : V2 w g k n) (x : Int) : V2 (w.setCell ⟨g, 0, none⟩ (.int .i64 x)) g x n := by unfold V2 at h ⊢; simp [World.setCell, Array.getElem?_modify, h]
theorem V2.put1 (h : V2 w g k n) (x : Int) : V2 (w.setCell ⟨g, 1, none⟩ (.int .i64 x)) g k x := by unfold V2 at h ⊢; simp [World.setCell, Array.getElem?_modify, h]
theorem V2.new (w : World) (k n : Int) : V2 (w.alloc (.cells #[.int .i64 k, .int .i64 n] 57)) w.heap.size k n := heap_alloc_new w _
end
end Go.Proofs.YthfjmlcjkbgboaaGreatDoor
namespace Go.Proofs.YthfjmlcjkbgboaaGreatDoor
open Go.RowKit
def rowRuV : RowT RuVar where
 e := 41
 t := 22
 size := 3
 bytes := 32
 z := .agg #[.int .i64 0, .int .i64 0, .string ByteArray.empty]
 cells := cellsRuV
 hsz _ := rfl
 hpos := by decide
 under := Tryz.underlying22
 info := by kernel_rfl
 hz := rfl
 one x u hu := by
  simp only [cellsRuV, List.mem_cons, List.not_mem_nil, or_false] at hu
  rcases hu with rfl | rfl | rfl <;> rfl
 hbytes := by decide
def rowRuA : RowT RuAct where
 e := 57
 t := 24
 size := 2
 bytes := 16
 z := .agg #[.int .i64 0, .int .i64 0]
 cells := cellsRuA
 hsz _ := rfl
 hpos := by decide
 under := Tryz.underlying24
 info := by kernel_rfl
 hz := rfl
 one x u hu := by
  simp only [cellsRuA, List.mem_cons, List.not_mem_nil, or_false] at hu
  rcases hu with rfl | rfl <;> rfl
 hbytes := by decide
end Go.Proofs.YthfjmlcjkbgboaaGreatDoor
namespace Go.Proofs.YthfjmlcjkbgboaaGreatDoor
open Go.RowKit
structure RuOwn (w : World) (base : Nat) (x : RuM) : Prop where
 vars : OwnG rowRuV w base (.slice x.vA x.r.vars.length x.vc) x.r.vars
 pipe : OwnK w base (.slice x.pA x.r.pipe.length x.pc) x.r.pipe
 acts : OwnG rowRuA w base (.slice x.aA x.r.acts.length x.ac) x.r.acts
theorem RuOwn.below {w w' : World} {base : Nat} {x : RuM} (h : RuOwn w base x) (hb : Below w.heap.size w w') : RuOwn w' base x := ⟨h.vars.below hb, h.pipe.below hb, h.acts.below hb⟩
def R9 (w : World) (g : Nat) (a0 a1 a2 a3 a4 a5 a6 a7 a8 : Value) : Prop := w.heap[g]? = some (.cells #[a0, a1, a2, a3, a4, a5, a6, a7, a8] 26 (0, 0))
section
variable {w w' : World} {g B : Nat} {a0 a1 a2 a3 a4 a5 a6 a7 a8 : Value}
theorem R9.cell (h : R9 w g a0 a1 a2 a3 a4 a5 a6 a7 a8) (j : Nat) : w.cell? ⟨g, j, none⟩ = (#[a0, a1, a2, a3, a4, a5, a6, a7, a8] : Array Value)[j]? := cell_of_row w g j _ _ (0, 0) h
theorem R9.free (h : R9 w g a0 a1 a2 a3 a4 a5 a6 a7 a8) (j : Nat) : w.frozen? ⟨g, j, none⟩ = false := by unfold R9 at h; simp [World.frozen?, h]
theorem R9.lt (h : R9 w g a0 a1 a2 a3 a4 a5 a6 a7 a8) : g < w.heap.size := by
 unfold R9 at h
 rw [Array.getElem?_eq_some_iff] at h
 exact h.1
theorem R9.far (h : R9 w g a0 a1 a2 a3 a4 a5 a6 a7 a8) {q : Nat} (hne : g ≠ q) (j : Nat) (u : Value) : R9 (w.setCell ⟨q, j, none⟩ u) g a0 a1 a2 a3 a4 a5 a6 a7 a8 := (Below.heap_setCell w ⟨q, j, none⟩ u g hne).trans h
theorem R9.below (h : R9 w g a0 a1 a2 a3 a4 a5 a6 a7 a8) (hb : Below w.heap.size w w') : R9 w' g a0 a1 a2 a3 a4 a5 a6 a7 a8 := (hb.block g h.lt).trans h
theorem R9.put0 (h : R9 w g a0 a1 a2 a3 a4 a5 a6 a7 a8) (u : Value) : R9 (w.setCell ⟨g, 0, none⟩ u) g u a1 a2 a3 a4 a5 a6 a7 a8 := by unfold R9 at h ⊢; simp [World.setCell, Array.getElem?_modify, h]
theorem R9.put1 (h : R9 w g a0 a1 a2 a3 a4 a5 a6 a7 a8) (u : Value) : R9 (w.setCell ⟨g, 1, none⟩ u) g a0 u a2 a3 a4 a5 a6 a7 a8 := by unfold R9 at h ⊢; simp [World.setCell, Array.getElem?_modify, h]
theorem R9.put2 (h : R9 w g a0 a1 a2 a3 a4 a5 a6 a7 a8) (u : Value) : R9 (w.setCell ⟨g, 2, none⟩ u) g a0 a1 u a3 a4 a5 a6 a7 a8 := by unfold R9 at h ⊢; simp [World.setCell, Array.getElem?_modify, h]
theorem R9.put4 (h : R9 w g a0 a1 a2 a3 a4 a5 a6 a7 a8) (u : Value) : R9 (w.setCell ⟨g, 4, none⟩ u) g a0 a1 a2 a3 u a5 a6 a7 a8 := by unfold R9 at h ⊢; simp [World.setCell, Array.getElem?_modify, h]
theorem R9.new (w : World) : R9 (w.alloc (.cells #[.int .i64 0, .int .i64 0, .slice none 0 0, .slice none 0 0, .bool false, .int .i64 0, .string (ByteArray.mk #[]), .slice none 0 0, .bool false] 26)) w.heap.size (.int .i64 0) (.int .i64 0) (.slice none 0 0) (.slice none 0 0) (.bool false) (.int .i64 0) (.string (ByteArray.mk #[])) (.slice none 0 0) (.bool false) := heap_alloc_new w _
end
theorem ruOwn_farS {w : World} {base size n g : Nat} {e : TypeId} {v : Value} {xs : List Value} (h : w.ownsRow base e size v n xs) (hg : g < base) (j : Nat) (u : Value) : (w.setCell ⟨g, j, none⟩ u).ownsRow base e size v n xs :=
 ownsRow_setCell_other (a := ⟨g, j, none⟩) h (fun e => by have := (World.ownsRow.lt h g e).1; omega) u
end Go.Proofs.YthfjmlcjkbgboaaGreatDoor
namespace Go.Proofs.YthfjmlcjkbgboaaGreatDoor
open Go.RowKit
def OwnRu (w : World) (base : Nat) (v : Value) (l : List RuM) : Prop := w.ownsRow base 26 9 v l.length (l.flatMap cellsRu)
theorem OwnRu.nil (w : World) (base : Nat) : OwnRu w base (.slice none 0 0) [] := World.ownsRow_nil w base 26 9
theorem OwnRu.form {w : World} {base : Nat} {v : Value} {l : List RuM} (h : OwnRu w base v l) : ∃ A c, v = .slice A l.length c ∧ l.length ≤ c ∧ Sl w w.heap.size 9 A l.length (l.flatMap cellsRu) := by
 rcases h.2 with ⟨h1, h2⟩ | ⟨g, cap, cur, h1, hb, hg, hnc, _⟩
 · have : l = [] := List.eq_nil_of_length_eq_zero h2
   subst this
   exact ⟨none, 0, h1, Nat.le_refl _, Sl.nil _ _ _ _⟩
 · refine ⟨_, _, h1, hnc, flat_len cellsRu 9 cellsRu_len l, fun hp => ⟨g, 0, rfl, ?_, fun j hj => ?_⟩⟩
   · exact ((World.ownsRow.lt h g (by rw [h1]; simp [Value.ownBlock])).2)
   · have := World.ownsRow.cells (g := g) h (by rw [h1]; simp [Value.ownBlock]) j _ (List.getElem?_eq_getElem hj)
     rw [addr_add] at this
     rw [Nat.zero_add]
     exact this
theorem OwnRu.below {w w' : World} {base : Nat} {v : Value} {l : List RuM} (h : OwnRu w base v l) (hb : Below w.heap.size w w') : OwnRu w' base v l := ownsRow_below h hb
section
variable {ops : Array Oper} {rest : List Oper} {o : Oper} {a : Act} {Q : Exit → Act → World → Prop} {w : World}
end
theorem ruRow_past {w w' : World} {v v' : Value} {b b' n n' size size' : Nat} {e e' : TypeId} {xs xs' : List Value} (h : w.ownsRow b e size v n xs) (ho : w.ownsRow b' e' size' v' n' xs') (hne : e' ≠ e) (hk : ∀ g, g < w.heap.size → v'.ownBlock ≠ some g → w'.heap[g]? = w.heap[g]?) : w'.ownsRow b e size v n xs := by
 refine ⟨h.1, ?_⟩
 rcases h.2 with h0 | ⟨g, cap, cur, h1, h2, h3, h4⟩
 · exact .inl h0
 · have hlt := (World.ownsRow.lt h g (by rw [h1]; rfl)).2
   exact .inr ⟨g, cap, cur, h1, h2, (hk g hlt (own_apart ho h3 hne)).trans h3, h4⟩
theorem RuOwn.past {w w' : World} {base b' : Nat} {x : RuM} {v : Value} {l : List RuM} (h : RuOwn w base x) (ho : OwnRu w b' v l) (hk : ∀ g, g < w.heap.size → v.ownBlock ≠ some g → w'.heap[g]? = w.heap[g]?) : RuOwn w' base x :=
 ⟨ruRow_past h.vars ho (by decide) hk, ruRow_past h.pipe ho (by decide) hk, ruRow_past h.acts ho (by decide) hk⟩
theorem RuOwn.farS {w : World} {base g : Nat} {x : RuM} (h : RuOwn w base x) (hg : g < base) (j : Nat) (u : Value) : RuOwn (w.setCell ⟨g, j, none⟩ u) base x := ⟨ruOwn_farS h.vars hg j u, ruOwn_farS h.pipe hg j u, ruOwn_farS h.acts hg j u⟩
theorem RuOwn.low {w : World} {base b : Nat} {x : RuM} (h : RuOwn w base x) (hb : b ≤ base) : RuOwn w b x := ⟨h.vars.low hb, h.pipe.low hb, h.acts.low hb⟩
def R3 (w : World) (g : Nat) (m st : Int) (v : Value) : Prop := w.heap[g]? = some (.cells #[.int .i64 m, .int .i64 st, v] 32 (0, 0))
section
variable {w w' : World} {g : Nat} {m st : Int} {v : Value}
theorem R3.cell (h : R3 w g m st v) : w.cell? ⟨g, 0, none⟩ = some (.int .i64 m) ∧ w.cell? ⟨g, 1, none⟩ = some (.int .i64 st) ∧ w.cell? ⟨g, 2, none⟩ = some v := ⟨cell_of_row w g 0 _ _ (0, 0) h, cell_of_row w g 1 _ _ (0, 0) h, cell_of_row w g 2 _ _ (0, 0) h⟩
theorem R3.free (h : R3 w g m st v) (j : Nat) : w.frozen? ⟨g, j, none⟩ = false := by unfold R3 at h; simp [World.frozen?, h]
theorem R3.lt (h : R3 w g m st v) : g < w.heap.size := by
 unfold R3 at h
 rw [Array.getElem?_eq_some_iff] at h
 exact h.1
theorem R3.far (h : R3 w g m st v) {q : Nat} (hne : g ≠ q) (j : Nat) (u : Value) : R3 (w.setCell ⟨q, j, none⟩ u) g m st v := (Below.heap_setCell w ⟨q, j, none⟩ u g hne).trans h
theorem R3.below (h : R3 w g m st v) (hb : Below w.heap.size w w') : R3 w' g m st v := (hb.block g h.lt).trans h
theorem R3.put0 (h : R3 w g m st v) (x : Int) : R3 (w.setCell ⟨g, 0, none⟩ (.int .i64 x)) g x st v := by unfold R3 at h ⊢; simp [World.setCell, Array.getElem?_modify, h]
theorem R3.put1 (h : R3 w g m st v) (x : Int) : R3 (w.setCell ⟨g, 1, none⟩ (.int .i64 x)) g m x v := by unfold R3 at h ⊢; simp [World.setCell, Array.getElem?_modify, h]
theorem R3.put2 (h : R3 w g m st v) (x : Value) : R3 (w.setCell ⟨g, 2, none⟩ x) g m st x := by unfold R3 at h ⊢; simp [World.setCell, Array.getElem?_modify, h]
theorem R3.new (w : World) : R3 (w.alloc (.cells #[.int .i64 0, .int .i64 0, .slice none 0 0] 32)) w.heap.size 0 0 (.slice none 0 0) := heap_alloc_new w _
end
structure PyAt (w wr : World) (m st : Int) (v : Value) (l : List RuM) : Prop where
 out : R3 wr (w.heap.size + 1) m st v
 res : R3 wr w.heap.size 0 0 (.slice none 0 0)
 rows : OwnRu wr (w.heap.size + 1 + 1) v l
 own : ∀ x ∈ l, RuOwn wr (w.heap.size + 1 + 1) x
 small : ∀ x ∈ l, RuSmall x.r
 bel : Below w.heap.size w wr
theorem PyAt.below {w wr w' : World} {m st : Int} {v : Value} {l : List RuM} (h : PyAt w wr m st v l) (hb : Below wr.heap.size wr w') : PyAt w w' m st v l :=
 ⟨h.out.below hb, h.res.below hb, h.rows.below hb, fun x hx => (h.own x hx).below hb, h.small, h.bel.trans (hb.mono h.bel.size)⟩
end Go.Proofs.YthfjmlcjkbgboaaGreatDoor
namespace Go.Proofs.YthfjmlcjkbgboaaGreatDoor
open Go.RowKit
theorem RuOwn.drew {w : World} {base : Nat} {x : RuM} (h : RuOwn w base x) : RuOwn w.drew base x := ⟨h.vars, h.pipe, h.acts⟩
theorem PyAt.push {w W w5 : World} {m st : Int} {v v5 : Value} {l : List RuM} {x : RuM} (h : PyAt w W m st v l) (hx : RuOwn W (w.heap.size + 1 + 1) x) (hsx : RuSmall x.r) (hO : OwnRu w5 (w.heap.size + 1 + 1) v5 (l ++ [x])) (hb : Below (w.heap.size + 1 + 1) W w5)
  (hk : ∀ g, g < W.heap.size → v.ownBlock ≠ some g → w5.heap[g]? = W.heap[g]?) : PyAt w (w5.setCell ⟨w.heap.size + 1, 2, none⟩ v5) m st v5 (l ++ [x]) := by
 have h1 : R3 w5 (w.heap.size + 1) m st v := (hb.block _ (by omega)).trans h.out
 have h2 : R3 w5 w.heap.size 0 0 (.slice none 0 0) := (hb.block _ (by omega)).trans h.res
 refine ⟨h1.put2 v5, h2.far (by omega) 2 v5, ruOwn_farS hO (Nat.lt_succ_self _) 2 v5, fun y hy => ?_, fun y hy => ?_, (h.bel.trans (hb.mono (by omega))).setCell (p := ⟨w.heap.size + 1, 2, none⟩) (by show w.heap.size ≤ w.heap.size + 1; omega) v5⟩
 · rcases List.mem_append.1 hy with hy | hy
   · exact ((h.own y hy).past h.rows hk).farS (Nat.lt_succ_self _) 2 v5
   · rw [List.mem_singleton.1 hy]; exact (hx.past h.rows hk).farS (Nat.lt_succ_self _) 2 v5
 · rcases List.mem_append.1 hy with hy | hy
   · exact h.small y hy
   · rw [List.mem_singleton.1 hy]; exact hsx
theorem PyAt.head {w W : World} {m st m' st' : Int} {v : Value} {l : List RuM} (h : PyAt w W m st v l) : PyAt w ((W.setCell ⟨w.heap.size + 1, 0, none⟩ (.int .i64 m')).setCell ⟨w.heap.size + 1, 1, none⟩ (.int .i64 st')).drew m' st' v l := by
 refine ⟨(h.out.put0 m').put1 st', (h.res.far (by omega) 0 _).far (by omega) 1 _, ruOwn_farS (ruOwn_farS h.rows (Nat.lt_succ_self _) 0 _) (Nat.lt_succ_self _) 1 _, fun y hy => (((h.own y hy).farS (Nat.lt_succ_self _) 0 (.int .i64 m')).farS (Nat.lt_succ_self _) 1 (.int .i64 st')).drew, h.small, ?_⟩
 exact ((h.bel.setCell (p := ⟨w.heap.size + 1, 0, none⟩) (by show w.heap.size ≤ w.heap.size + 1; omega) _).setCell (p := ⟨w.heap.size + 1, 1, none⟩) (by show w.heap.size ≤ w.heap.size + 1; omega) _).drew
end Go.Proofs.YthfjmlcjkbgboaaGreatDoor
namespace Go.Proofs.YthfjmlcjkbgboaaGreatDoor
open Go.RowKit
structure OneFit (x : RuOne) : Prop where
 ok : OneOk x
 vs : x.vars.length ≤ 8
 acs : x.acts.length ≤ 6
end Go.Proofs.YthfjmlcjkbgboaaGreatDoor
namespace Go.Proofs.YthfjmlcjkbgboaaGreatDoor
open Go.RowKit
theorem ruBuilder_keep {T e : TypeId} {B b : Nat} {p : Value} {bs : List Value} {w w' : World} (h : Lib.BuilderAt T e B b p bs w) (hk : ∀ k, k < w.heap.size → w'.heap[k]? = w.heap[k]?) : Lib.BuilderAt T e B b p bs w' := by
 have hlt := h.lt
 obtain ⟨hB, v, hb, hown, hne⟩ := h
 refine ⟨hB, v, (hk b hlt).trans hb, ?_, hne⟩
 refine ⟨hown.1, ?_⟩
 rcases hown.2 with h1 | ⟨g, cap, cur, h1, h2, h3, h4, h5, h6, h7⟩
 · exact .inl h1
 · have hg := World.ownsRow.lt hown g (by rw [h1]; rfl)
   exact .inr ⟨g, cap, cur, h1, h2, (hk g hg.2).trans h3, h4, h5, h6, h7⟩
def Bu (g : Nat) (l : List UInt8) (w : World) : Prop := Lib.IsBuilder 161 5 g g (Lib.byteCells l) w
theorem Bu.lt {g : Nat} {l : List UInt8} {w : World} (h : Bu g l w) : g < w.heap.size := by
 unfold Bu at h
 exact h.elim (fun x => x.lt) (fun x => x.lt)
theorem Bu.below {g : Nat} {l : List UInt8} {w w' : World} (h : Bu g l w) (hb : Below w.heap.size w w') : Bu g l w' := by
 unfold Bu at h ⊢
 exact h.imp (fun x => ruBuilder_keep x fun k hk => hb.block k hk) (fun x => ruBuilder_keep x fun k hk => hb.block k hk)
theorem Bu.new (w : World) : Bu w.heap.size [] (w.alloc (.cells #[.pointer none, .slice none 0 0] 161)) := Lib.fresh_isBuilder 161 5 w
end Go.Proofs.YthfjmlcjkbgboaaGreatDoor
namespace Go.Proofs.YthfjmlcjkbgboaaGreatDoor
open Go.RowKit Go.ChangeShapes Go.WideShapes Go.Deep
structure IArg where
 A : Option Addr
 c : Nat
 l : List Int
structure IntsArg (W : World) (v : Value) (a : IArg) : Prop where
 val : v = .slice a.A a.l.length a.c
 sl : Sl W W.heap.size 1 a.A a.l.length (a.l.map (Value.int .i64))
 room : a.l.length ≤ a.c
end Go.Proofs.YthfjmlcjkbgboaaGreatDoor
namespace Go.Proofs.YthfjmlcjkbgboaaGreatDoor
open Go.RowKit
def evilB : ByteArray := ByteArray.mk #[101, 118, 105, 108]
def dropB : ByteArray := ByteArray.mk #[100, 114, 111, 112, 124, 115, 101, 108, 101, 99, 116]
def simpleSet : RuSet := ⟨10, 403, [⟨1, 1, [⟨3, 0, ByteArray.mk #[]⟩], [], false, 4, evilB, [⟨2, 404⟩], false⟩, ⟨2, 2, [⟨6, 0, ByteArray.mk #[]⟩], [1], false, 2, dropB, [⟨3, 10⟩], false⟩]⟩
theorem drop_pieces : piecesP dropB = [⟨#[100, 114, 111, 112]⟩, ⟨#[115, 101, 108, 101, 99, 116]⟩] := by decide +kernel
theorem drop_arg : argC 2 dropB = 0 := by
 have h : mkC (piecesP dropB) = 0 := by
  rw [drop_pieces]
  exact mkC_ok.2 ⟨good_of_code (by decide +kernel), not_full (by decide +kernel)⟩
 unfold argC
 rw [if_neg (by decide), if_pos rfl, h]; rfl
theorem evil_arg : argC 4 evilB = 0 := by
 unfold argC
 rw [if_neg (by decide), if_neg (by decide), if_neg (by decide), if_neg (by decide), if_neg (by decide), if_neg (by decide), if_neg (by decide)]
theorem blk_new (w : World) (o : Obj) (g : Nat) (h : w.heap.size = g) : (w.alloc o).heap[g]? = some o := by rw [← h]; exact heap_alloc_new w o
theorem sl_block {w : World} {g B n size : Nat} {xs : List Value} {t : TypeId} (h : w.heap[g]? = some (.cells xs.toArray t (0, 0))) (hB : g < B) (hl : xs.length = n * size) : Sl w B size (some ⟨g, 0, none⟩) n xs :=
 ⟨hl, fun _ => ⟨g, 0, rfl, hB, fun j hj => by rw [Nat.zero_add, cell_of_row w g j _ _ (0, 0) h, List.getElem?_toArray, List.getElem?_eq_getElem hj]⟩⟩
theorem simple_lies (w F : World) (hF : F = (((((((w.alloc (.cells #[.int .i64 10, .int .i64 403, .slice (some ⟨w.heap.size + 1 + 1 + 1 + 1 + 1 + 1, 0, none⟩) 2 2] 32)).alloc (.cells #[.int .i64 3, .int .i64 0, .string (ByteArray.mk #[])] 41)).alloc (.cells #[.int .i64 2, .int .i64 404] 57)).alloc (.cells #[.int .i64 6, .int .i64 0, .string (ByteArray.mk #[])] 41)).alloc (.cells #[.int .i64 1] 3)).alloc (.cells #[.int .i64 3, .int .i64 10] 57)).alloc (.cells #[.int .i64 1, .int .i64 1, .slice (some ⟨w.heap.size + 1, 0, none⟩) 1 1, .slice none 0 0, .bool false, .int .i64 4, .string evilB, .slice (some ⟨w.heap.size + 1 + 1, 0, none⟩) 1 1, .bool false, .int .i64 2, .int .i64 2, .slice (some ⟨w.heap.size + 1 + 1 + 1, 0, none⟩) 1 1, .slice (some ⟨w.heap.size + 1 + 1 + 1 + 1, 0, none⟩) 1 1, .bool false, .int .i64 2, .string dropB, .slice (some ⟨w.heap.size + 1 + 1 + 1 + 1 + 1, 0, none⟩) 1 1, .bool false] 26))) : ((⟨10, 403, some ⟨w.heap.size + 1 + 1 + 1 + 1 + 1 + 1, 0, none⟩, 2, [⟨⟨1, 1, [⟨3, 0, ByteArray.mk #[]⟩], [], false, 4, evilB, [⟨2, 404⟩], false⟩, some ⟨w.heap.size + 1, 0, none⟩, 1, none, 0, some ⟨w.heap.size + 1 + 1, 0, none⟩, 1⟩, ⟨⟨2, 2, [⟨6, 0, ByteArray.mk #[]⟩], [1], false, 2, dropB, [⟨3, 10⟩], false⟩, some ⟨w.heap.size + 1 + 1 + 1, 0, none⟩, 1, some ⟨w.heap.size + 1 + 1 + 1 + 1, 0, none⟩, 1, some ⟨w.heap.size + 1 + 1 + 1 + 1 + 1, 0, none⟩, 1⟩]⟩ : RuArg)).set = simpleSet ∧ RuLies F F.heap.size (⟨10, 403, some ⟨w.heap.size + 1 + 1 + 1 + 1 + 1 + 1, 0, none⟩, 2, [⟨⟨1, 1, [⟨3, 0, ByteArray.mk #[]⟩], [], false, 4, evilB, [⟨2, 404⟩], false⟩, some ⟨w.heap.size + 1, 0, none⟩, 1, none, 0, some ⟨w.heap.size + 1 + 1, 0, none⟩, 1⟩, ⟨⟨2, 2, [⟨6, 0, ByteArray.mk #[]⟩], [1], false, 2, dropB, [⟨3, 10⟩], false⟩, some ⟨w.heap.size + 1 + 1 + 1, 0, none⟩, 1, some ⟨w.heap.size + 1 + 1 + 1 + 1, 0, none⟩, 1, some ⟨w.heap.size + 1 + 1 + 1 + 1 + 1, 0, none⟩, 1⟩]⟩ : RuArg) ∧ RuBulk (⟨10, 403, some ⟨w.heap.size + 1 + 1 + 1 + 1 + 1 + 1, 0, none⟩, 2, [⟨⟨1, 1, [⟨3, 0, ByteArray.mk #[]⟩], [], false, 4, evilB, [⟨2, 404⟩], false⟩, some ⟨w.heap.size + 1, 0, none⟩, 1, none, 0, some ⟨w.heap.size + 1 + 1, 0, none⟩, 1⟩, ⟨⟨2, 2, [⟨6, 0, ByteArray.mk #[]⟩], [1], false, 2, dropB, [⟨3, 10⟩], false⟩, some ⟨w.heap.size + 1 + 1 + 1, 0, none⟩, 1, some ⟨w.heap.size + 1 + 1 + 1 + 1, 0, none⟩, 1, some ⟨w.heap.size + 1 + 1 + 1 + 1 + 1, 0, none⟩, 1⟩]⟩ : RuArg) ∧ Below w.heap.size w F ∧ R3 F w.heap.size 10 403 (.slice (some ⟨w.heap.size + 1 + 1 + 1 + 1 + 1 + 1, 0, none⟩) 2 2) := by
 have hz : F.heap.size = w.heap.size + 7 := by rw [hF]; simp
 have h0 : F.heap[w.heap.size]? = some (.cells #[.int .i64 10, .int .i64 403, .slice (some ⟨w.heap.size + 1 + 1 + 1 + 1 + 1 + 1, 0, none⟩) 2 2] 32 (0, 0)) := by rw [hF]; exact (Below.heap_alloc _ _ _ (by simp only [World.size_alloc]; omega)).trans ((Below.heap_alloc _ _ _ (by simp only [World.size_alloc]; omega)).trans ((Below.heap_alloc _ _ _ (by simp only [World.size_alloc]; omega)).trans ((Below.heap_alloc _ _ _ (by simp only [World.size_alloc]; omega)).trans ((Below.heap_alloc _ _ _ (by simp only [World.size_alloc]; omega)).trans ((Below.heap_alloc _ _ _ (by simp only [World.size_alloc]; omega)).trans (blk_new _ _ _ (by first | rfl | simp only [World.size_alloc])))))))
 have h1 : F.heap[w.heap.size + 1]? = some (.cells #[.int .i64 3, .int .i64 0, .string (ByteArray.mk #[])] 41 (0, 0)) := by rw [hF]; exact (Below.heap_alloc _ _ _ (by simp only [World.size_alloc]; omega)).trans ((Below.heap_alloc _ _ _ (by simp only [World.size_alloc]; omega)).trans ((Below.heap_alloc _ _ _ (by simp only [World.size_alloc]; omega)).trans ((Below.heap_alloc _ _ _ (by simp only [World.size_alloc]; omega)).trans ((Below.heap_alloc _ _ _ (by simp only [World.size_alloc]; omega)).trans (blk_new _ _ _ (by first | rfl | simp only [World.size_alloc]))))))
 have h2 : F.heap[w.heap.size + 1 + 1]? = some (.cells #[.int .i64 2, .int .i64 404] 57 (0, 0)) := by rw [hF]; exact (Below.heap_alloc _ _ _ (by simp only [World.size_alloc]; omega)).trans ((Below.heap_alloc _ _ _ (by simp only [World.size_alloc]; omega)).trans ((Below.heap_alloc _ _ _ (by simp only [World.size_alloc]; omega)).trans ((Below.heap_alloc _ _ _ (by simp only [World.size_alloc]; omega)).trans (blk_new _ _ _ (by first | rfl | simp only [World.size_alloc])))))
 have h3 : F.heap[w.heap.size + 1 + 1 + 1]? = some (.cells #[.int .i64 6, .int .i64 0, .string (ByteArray.mk #[])] 41 (0, 0)) := by rw [hF]; exact (Below.heap_alloc _ _ _ (by simp only [World.size_alloc]; omega)).trans ((Below.heap_alloc _ _ _ (by simp only [World.size_alloc]; omega)).trans ((Below.heap_alloc _ _ _ (by simp only [World.size_alloc]; omega)).trans (blk_new _ _ _ (by first | rfl | simp only [World.size_alloc]))))
 have h4 : F.heap[w.heap.size + 1 + 1 + 1 + 1]? = some (.cells #[.int .i64 1] 3 (0, 0)) := by rw [hF]; exact (Below.heap_alloc _ _ _ (by simp only [World.size_alloc]; omega)).trans ((Below.heap_alloc _ _ _ (by simp only [World.size_alloc]; omega)).trans (blk_new _ _ _ (by first | rfl | simp only [World.size_alloc])))
 have h5 : F.heap[w.heap.size + 1 + 1 + 1 + 1 + 1]? = some (.cells #[.int .i64 3, .int .i64 10] 57 (0, 0)) := by rw [hF]; exact (Below.heap_alloc _ _ _ (by simp only [World.size_alloc]; omega)).trans (blk_new _ _ _ (by first | rfl | simp only [World.size_alloc]))
 have h6 : F.heap[w.heap.size + 1 + 1 + 1 + 1 + 1 + 1]? = some (.cells #[.int .i64 1, .int .i64 1, .slice (some ⟨w.heap.size + 1, 0, none⟩) 1 1, .slice none 0 0, .bool false, .int .i64 4, .string evilB, .slice (some ⟨w.heap.size + 1 + 1, 0, none⟩) 1 1, .bool false, .int .i64 2, .int .i64 2, .slice (some ⟨w.heap.size + 1 + 1 + 1, 0, none⟩) 1 1, .slice (some ⟨w.heap.size + 1 + 1 + 1 + 1, 0, none⟩) 1 1, .bool false, .int .i64 2, .string dropB, .slice (some ⟨w.heap.size + 1 + 1 + 1 + 1 + 1, 0, none⟩) 1 1, .bool false] 26 (0, 0)) := by rw [hF]; exact blk_new _ _ _ (by first | rfl | simp only [World.size_alloc])
 have hb : Below w.heap.size w F := by
  rw [hF]
  exact ((((((((Below.refl _ _).alloc (Nat.le_refl _) _).alloc (by simp) _).alloc (by simp; omega) _).alloc (by simp; omega) _).alloc (by simp; omega) _).alloc (by simp; omega) _).alloc (by simp; omega) _)
 refine ⟨rfl, ⟨sl_block h6 (by omega) rfl, fun x hx => ?_, Nat.le_refl _⟩, ⟨by show 2 ≤ 1048576; decide, fun x hx => ?_⟩, hb, h0⟩
 · rcases List.mem_cons.1 hx with rfl | hx
   · exact ⟨sl_block h1 (by omega) rfl, Sl.nil _ _ _ _, sl_block h2 (by omega) rfl⟩
   · rw [List.mem_singleton.1 hx]
     exact ⟨sl_block h3 (by omega) rfl, sl_block h4 (by omega) rfl, sl_block h5 (by omega) rfl⟩
 · rcases List.mem_cons.1 hx with rfl | hx
   · exact ⟨by show 1 ≤ 1048576; decide, fun v hv => by rw [List.mem_singleton.1 hv]; show 0 ≤ 1048576; decide, by show 0 ≤ 1048576; decide, by show evilB.size ≤ 1048576; decide, by show 1 ≤ 1048576; decide⟩
   · rw [List.mem_singleton.1 hx]
     exact ⟨by show 1 ≤ 1048576; decide, fun v hv => by rw [List.mem_singleton.1 hv]; show 0 ≤ 1048576; decide, by show 1 ≤ 1048576; decide, by show dropB.size ≤ 1048576; decide, by show 1 ≤ 1048576; decide⟩
set_option maxRecDepth 100000 in
set_option maxHeartbeats 1600000 in
theorem simple_any (w : World) : Calls Tryz.prog 10 #[] w fun e w' => ∃ a : RuArg, e = .returned a.value ∧ a.set = simpleSet ∧ RuLies w' w'.heap.size a ∧ RuBulk a ∧ Below w.heap.size w w' := by
 obtain ⟨F, hF⟩ : ∃ F, F = (((((((w.alloc (.cells #[.int .i64 10, .int .i64 403, .slice (some ⟨w.heap.size + 1 + 1 + 1 + 1 + 1 + 1, 0, none⟩) 2 2] 32)).alloc (.cells #[.int .i64 3, .int .i64 0, .string (ByteArray.mk #[])] 41)).alloc (.cells #[.int .i64 2, .int .i64 404] 57)).alloc (.cells #[.int .i64 6, .int .i64 0, .string (ByteArray.mk #[])] 41)).alloc (.cells #[.int .i64 1] 3)).alloc (.cells #[.int .i64 3, .int .i64 10] 57)).alloc (.cells #[.int .i64 1, .int .i64 1, .slice (some ⟨w.heap.size + 1, 0, none⟩) 1 1, .slice none 0 0, .bool false, .int .i64 4, .string evilB, .slice (some ⟨w.heap.size + 1 + 1, 0, none⟩) 1 1, .bool false, .int .i64 2, .int .i64 2, .slice (some ⟨w.heap.size + 1 + 1 + 1, 0, none⟩) 1 1, .slice (some ⟨w.heap.size + 1 + 1 + 1 + 1, 0, none⟩) 1 1, .bool false, .int .i64 2, .string dropB, .slice (some ⟨w.heap.size + 1 + 1 + 1 + 1 + 1, 0, none⟩) 1 1, .bool false] 26)) := ⟨_, rfl⟩
 have HL := Lib.hid (simple_lies w F hF)
 have HF := Lib.hid hF
 clear hF
 unfold evilB dropB at HF
 go_enter Tryz.func10, Tryz.ntmps10
 go_wp2_with fail
 rw [← HF.out]
 exact bodyPost_ret (v := .agg #[.int .i64 10, .int .i64 403, .slice (some ⟨w.heap.size + 1 + 1 + 1 + 1 + 1 + 1, 0, none⟩) 2 2]) (by simp [results, Tryz.results10, go_sem, HL.out.2.2.2.2.cell.1, HL.out.2.2.2.2.cell.2.1, HL.out.2.2.2.2.cell.2.2]) rfl ⟨(⟨10, 403, some ⟨w.heap.size + 1 + 1 + 1 + 1 + 1 + 1, 0, none⟩, 2, [⟨⟨1, 1, [⟨3, 0, ByteArray.mk #[]⟩], [], false, 4, evilB, [⟨2, 404⟩], false⟩, some ⟨w.heap.size + 1, 0, none⟩, 1, none, 0, some ⟨w.heap.size + 1 + 1, 0, none⟩, 1⟩, ⟨⟨2, 2, [⟨6, 0, ByteArray.mk #[]⟩], [1], false, 2, dropB, [⟨3, 10⟩], false⟩, some ⟨w.heap.size + 1 + 1 + 1, 0, none⟩, 1, some ⟨w.heap.size + 1 + 1 + 1 + 1, 0, none⟩, 1, some ⟨w.heap.size + 1 + 1 + 1 + 1 + 1, 0, none⟩, 1⟩]⟩ : RuArg), rfl, HL.out.1, HL.out.2.1, HL.out.2.2.1, HL.out.2.2.2.1⟩
end Go.Proofs.YthfjmlcjkbgboaaGreatDoor
namespace Go.Proofs.YthfjmlcjkbgboaaGreatDoor
open Go.RowKit
structure RunS where
 sc : Int
 st : Int
 who : Int
 mt : List Int
 sk : Int
 dn : Bool
def scoreA (a : RuAct) : Int := if a.k = 3 then a.n else 0
def sumI (l : List Int) : Int := l.foldr (· + ·) 0
def scoreR (r : RuOne) : Int := sumI (r.acts.map scoreA)
def scoreL (l : List RuOne) : Int := sumI (l.map scoreR)
def noDeny (l : List RuOne) : Prop := ∀ r ∈ l, ∀ a ∈ r.acts, a.k ≠ 2
structure StepOk (s t : RunS) (c : List RuOne) : Prop where
 sc : t.sc ≤ s.sc + scoreL c
 mt : t.mt = s.mt ∨ t.mt = s.mt ++ c.map (·.id)
 who : t.who = s.who ∨ t.who ∈ t.mt
 keep : ∀ x ∈ s.mt, x ∈ t.mt
 deny : noDeny c → t.who = s.who ∧ t.st = s.st
 lo : 0 ≤ s.sc → 0 ≤ t.sc
 hi : s.sc ≤ 1000000 → t.sc ≤ 1000000
structure PhaseOk (s0 : RunS) (done : List RuOne) (x : RunS × List RuOne) : Prop where
 sc : x.1.sc + scoreL x.2 ≤ s0.sc + scoreL done
 mt : (x.1.mt ++ x.2.map (·.id)).Sublist (s0.mt ++ done.map (·.id))
 who : x.1.who = s0.who ∨ x.1.who ∈ x.1.mt
 keep : ∀ y ∈ s0.mt, y ∈ x.1.mt
 sub : ∀ r ∈ x.2, r ∈ done
 deny : noDeny done → x.1.who = s0.who ∧ x.1.st = s0.st
 lo : 0 ≤ s0.sc → 0 ≤ x.1.sc
 hi : s0.sc ≤ 1000000 → x.1.sc ≤ 1000000
structure RunOk (r : RuSet) (v : RunS) : Prop where
 sc : v.sc ≤ scoreL r.list
 lo : 0 ≤ v.sc
 hi : v.sc ≤ 1000000
 who : v.who = 0 ∨ v.who ∈ v.mt
 deny : noDeny r.list → v.who = 0 ∧ (scoreL r.list < r.most → v.st = 0)
 nodup : v.mt.Nodup
 ids : ∀ x ∈ v.mt, ∃ y ∈ r.list, y.id = x
theorem goC_all {argC : Int → ByteArray → Int} : ∀ (l done : List RuOne), goC argC done l = 0 → (∀ x ∈ l, oneC argC x = 0) ∧ (∀ x ∈ l, ∀ y ∈ done, y.id ≠ x.id) ∧ (l.map (·.id)).Nodup
 | [], _, _ => ⟨fun x hx => (by cases hx), fun x hx => (by cases hx), List.nodup_nil⟩
 | y :: r, done, h => by
  unfold goC at h
  split at h
  · cases h
  split at h
  · cases h
  rename_i hd
  split at h
  · contradiction
  rename_i h2
  obtain ⟨i1, i2, i3⟩ := goC_all r _ h
  have hdone : ∀ z ∈ done, z.id ≠ y.id := fun z hz e => hd (List.any_eq_true.2 ⟨z, hz, by simp [e]⟩)
  refine ⟨fun x hx => ?_, fun x hx z hz => ?_, ?_⟩
  · rcases List.mem_cons.1 hx with rfl | hx
    · simpa using h2
    · exact i1 x hx
  · rcases List.mem_cons.1 hx with rfl | hx
    · exact hdone z hz
    · exact i2 x hx z (List.mem_append_left _ hz)
  · rw [List.map_cons, List.nodup_cons]
    refine ⟨fun hm => ?_, i3⟩
    obtain ⟨x, hx, e⟩ := List.mem_map.1 hm
    exact i2 x hx y (List.mem_append_right _ List.mem_cons_self) e.symm
theorem oneC_arg {argC : Int → ByteArray → Int} {x : RuOne} (h : oneC argC x = 0) : 1 ≤ x.op ∧ x.op ≤ 12 ∧ argC x.op x.arg = 0 := by
 unfold oneC at h
 split at h
 · cases h
 split at h
 · cases h
 split at h
 · contradiction
 split at h
 · contradiction
 split at h
 · cases h
 rename_i ho
 split at h
 · contradiction
 rename_i ha
 exact ⟨by omega, by omega, by simpa using ha⟩
structure CheckOk (argC : Int → ByteArray → Int) (r : RuSet) : Prop where
 len : r.list.length ≤ 40
 one : ∀ x ∈ r.list, oneC argC x = 0
 nodup : (r.list.map (·.id)).Nodup
 chain : chainC r.list = 0
theorem check_all {argC : Int → ByteArray → Int} {r : RuSet} (h : checkR argC r = 0) : CheckOk argC r := by
 unfold checkR at h
 split at h
 · cases h
 split at h
 · cases h
 rename_i hl
 split at h
 · contradiction
 rename_i h2
 obtain ⟨a, _, b⟩ := goC_all _ _ (show goC argC [] r.list = 0 by simpa using h2)
 exact ⟨by omega, a, b, h⟩
end Go.Proofs.YthfjmlcjkbgboaaGreatDoor
