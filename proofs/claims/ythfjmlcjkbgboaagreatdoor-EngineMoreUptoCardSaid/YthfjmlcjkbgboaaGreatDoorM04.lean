/- Part 4 of the proof: lemmas and walks that the last texts use. -/
import Derived.Test.YthfjmlcjkbgboaaGreatDoorM02
import Derived.Test.YthfjmlcjkbgboaaGreatDoorM03
import Derived.Lib.OwnKind
import Derived.OwnWalk
import Derived.ChangeKeysEq
import Derived.Deep.QuietTactic
import Derived.BigQuiet
import Derived.Deep.RegionHeld3
import Derived.Laws.CopyOwn
import Derived.StillTailTactics
import Derived.BigRegion
import Derived.IntWalk
namespace Go.Proofs.YthfjmlcjkbgboaaGreatDoor
open Go.RowKit Go.ChangeShapes Go.WideShapes Go.Deep
def cellsX (k : Int) (s : Set4) (A : Option Addr) (n c : Nat) : List Value := [.int .i64 k, .int .u64 s.a, .int .u64 s.b, .int .u64 s.c, .int .u64 s.d, .slice A n c]
def word64 (x : Int) : Prop := 0 ≤ x ∧ x ≤ 18446744073709551615
def Set4.Wf (s : Set4) : Prop := word64 s.a ∧ word64 s.b ∧ word64 s.c ∧ word64 s.d
/-- Six cells lie at a place. -/
def CellsAt (w : World) (b off : Nat) (cs : List Value) : Prop := ∀ j (h : j < cs.length), w.cell? ⟨b, off + j, none⟩ = some cs[j]
mutual
/-- These cells are the tree's, its kids lie below B. -/
def LT (w : World) (B : Nat) : Tree → List Value → Prop
  | .node k s ts, cs => ∃ A c, cs = cellsX k s A ts.length c ∧ s.Wf ∧ LK w B ts A
def LK (w : World) (B : Nat) : List Tree → Option Addr → Prop
  | [], _ => True
  | t :: ts, A => ∃ b off cs, A = some ⟨b, off, none⟩ ∧ b < B ∧ cs.length = 6 ∧ CellsAt w b off cs ∧ LT w B t cs ∧ LK w B ts (some ⟨b, off + 6, none⟩)
end
mutual
theorem LT.keep {w w' : World} {B B' : Nat} (hB : B ≤ B') (hk : ∀ b o, b < B → w'.cell? ⟨b, o, none⟩ = w.cell? ⟨b, o, none⟩) : ∀ (t : Tree) (cs : List Value), LT w B t cs → LT w' B' t cs
  | .node k s ts, cs, h => by
    rw [LT] at h ⊢
    obtain ⟨A, c, h1, h2, h3⟩ := h
    exact ⟨A, c, h1, h2, LK.keep hB hk ts A h3⟩
theorem LK.keep {w w' : World} {B B' : Nat} (hB : B ≤ B') (hk : ∀ b o, b < B → w'.cell? ⟨b, o, none⟩ = w.cell? ⟨b, o, none⟩) : ∀ (ts : List Tree) (A : Option Addr), LK w B ts A → LK w' B' ts A
  | [], _, _ => by rw [LK]; trivial
  | t :: ts, A, h => by
    rw [LK] at h ⊢
    obtain ⟨b, off, cs, h1, h2, h3, h4, h5, h6⟩ := h
    exact ⟨b, off, cs, h1, by omega, h3, fun j hj => (hk b _ h2).trans (h4 j hj), LT.keep hB hk t cs h5, LK.keep hB hk ts _ h6⟩
end
theorem LT.below {w w' : World} {B : Nat} {t : Tree} {cs : List Value} (h : LT w B t cs) (hb : Below B w w') : LT w' B t cs := LT.keep (Nat.le_refl _) (fun b o hp => hb.cell (p := ⟨b, o, none⟩) hp) t cs h
theorem LK.below {w w' : World} {B : Nat} {ts : List Tree} {A : Option Addr} (h : LK w B ts A) (hb : Below B w w') : LK w' B ts A := LK.keep (Nat.le_refl _) (fun b o hp => hb.cell (p := ⟨b, o, none⟩) hp) ts A h
theorem LT.more {w : World} {B B' : Nat} {t : Tree} {cs : List Value} (h : LT w B t cs) (hB : B ≤ B') : LT w B' t cs := LT.keep hB (fun _ _ _ => rfl) t cs h
theorem LK.more {w : World} {B B' : Nat} {ts : List Tree} {A : Option Addr} (h : LK w B ts A) (hB : B ≤ B') : LK w B' ts A := LK.keep hB (fun _ _ _ => rfl) ts A h
theorem LT.len {w : World} {B : Nat} {t : Tree} {cs : List Value} (h : LT w B t cs) : cs.length = 6 := by
  cases t with
  | node k s ts => rw [LT] at h; obtain ⟨A, c, rfl, _⟩ := h; rfl
def Tree.kind : Tree → Int
  | .node k _ _ => k
def Tree.set : Tree → Set4
  | .node _ s _ => s
def Tree.kids : Tree → List Tree
  | .node _ _ ts => ts
theorem LT.parts {w : World} {B : Nat} {t : Tree} {cs : List Value} (h : LT w B t cs) : ∃ A c, cs = cellsX t.kind t.set A t.kids.length c ∧ t.set.Wf ∧ LK w B t.kids A := by
  cases t with
  | node k s ts => rw [LT] at h; exact h
/-- The kid at a place. -/
theorem LK.at {w : World} {B : Nat} : ∀ {ts : List Tree} {A : Option Addr}, LK w B ts A → ∀ i (h : i < ts.length), ∃ b off cs, A = some ⟨b, off, none⟩ ∧ b < B ∧ CellsAt w b (off + i * 6) cs ∧ LT w B ts[i] cs
  | [], _, _, i, h => absurd h (by simp)
  | t :: ts, A, h, 0, _ => by
    rw [LK] at h
    obtain ⟨b, off, cs, h1, h2, _, h4, h5, _⟩ := h
    exact ⟨b, off, cs, h1, h2, by simpa using h4, h5⟩
  | t :: ts, A, h, i + 1, hi => by
    rw [LK] at h
    obtain ⟨b, off, cs, h1, h2, _, _, _, h6⟩ := h
    obtain ⟨b', off', cs', e, h7, h8, h9⟩ := LK.at h6 i (by simpa using hi)
    injection e with e
    injection e with e1 e2
    subst e1; subst e2
    exact ⟨b, off, cs', h1, h7, by rw [show off + (i + 1) * 6 = off + 6 + i * 6 by omega]; exact h8, h9⟩
theorem LK.nil (w : World) (B : Nat) (A : Option Addr) : LK w B [] A := by rw [LK]; trivial
/-- Six cells one by one. -/
theorem CellsAt.six {w : World} {b off : Nat} {c0 c1 c2 c3 c4 c5 : Value} (h : CellsAt w b off [c0, c1, c2, c3, c4, c5]) :
    w.cell? ⟨b, off, none⟩ = some c0 ∧ w.cell? ⟨b, off + 1, none⟩ = some c1 ∧ w.cell? ⟨b, off + 2, none⟩ = some c2 ∧ w.cell? ⟨b, off + 3, none⟩ = some c3 ∧ w.cell? ⟨b, off + 4, none⟩ = some c4 ∧ w.cell? ⟨b, off + 5, none⟩ = some c5 :=
  ⟨h 0 (by simp), h 1 (by simp), h 2 (by simp), h 3 (by simp), h 4 (by simp), h 5 (by simp)⟩
structure LTree (w : World) where
  tree : Tree
  cells : List Value
  six : cells.length = 6
theorem cellsOf_u64 : Tryz.prog.cellsOf 212 = 1 := by kernel_rfl
theorem list_six {α : Type} {l : List α} (h : l.length = 6) : ∃ a b c d e f, l = [a, b, c, d, e, f] := by
  match l, h with
  | [a, b, c, d, e, f], _ => exact ⟨a, b, c, d, e, f, rfl⟩
structure Cell6 (H : Type) where
  cells : List Value
  six : cells.length = 6
  dat : DataW H
end Go.Proofs.YthfjmlcjkbgboaaGreatDoor
namespace Go.Proofs.YthfjmlcjkbgboaaGreatDoor
open Go.RowKit
def tt (l : List Bool) (j : Nat) : Bool := l.getD j false
section
variable {s : List UInt8} {fr tq : List Bool} {S : Set4}
/-- How many are not. -/
def falN (o : List Bool) (n : Nat) : Nat := (List.range n).countP fun j => !tt o j
end
end Go.Proofs.YthfjmlcjkbgboaaGreatDoor
namespace Go.Proofs.YthfjmlcjkbgboaaGreatDoor
open Go.RowKit
theorem own_apart {w : World} {base : Nat} {e t : TypeId} {size n g : Nat} {v : Value} {xs : List Value} {cs : Array Value} {fz : Nat × Nat} (h : w.ownsRow base e size v n xs) (hg : w.heap[g]? = some (.cells cs t fz)) (hne : e ≠ t) : v.ownBlock ≠ some g := by
  intro he
  obtain ⟨c, f, hc⟩ := Lib.ownsRow_kind h g he
  rw [hg] at hc
  injection hc with hc
  injection hc with _ ht
  exact hne ht.symm
theorem only_drewN {a w : World} {row : Option Nat} (h : a.grownBy w row) (n : Nat) : a.grownBy (w.drewN n) row := ⟨h.os, h.tape, h.output, h.size, h.block⟩
theorem only_setCell {a w : World} {g : Nat} (h : a.grownBy w (some g)) (j : Nat) (u : Value) : a.grownBy (w.setCell ⟨g, j, none⟩ u) (some g) :=
  ⟨h.os, h.tape, h.output, by simpa [World.setCell] using h.size, fun i hi hne => (Below.heap_setCell w ⟨g, j, none⟩ u i (fun e => hne (by rw [e]))).trans (h.block i hi hne)⟩
theorem only_below {a w w' : World} {row : Option Nat} (h : a.grownBy w row) (hb : Below w.heap.size w w') : a.grownBy w' row :=
  ⟨hb.os.trans h.os, hb.tape.trans h.tape, hb.output.trans h.output, Nat.le_trans h.size hb.size, fun i hi hne => (hb.block i (Nat.lt_of_lt_of_le hi h.size)).trans (h.block i hi hne)⟩
theorem only_trans {a b c : World} {row : Option Nat} (h : a.grownBy b row) (k : b.grownBy c row) : a.grownBy c row :=
  ⟨k.os.trans h.os, k.tape.trans h.tape, k.output.trans h.output, Nat.le_trans h.size k.size, fun i hi hne => (k.block i (Nat.lt_of_lt_of_le hi h.size) hne).trans (h.block i hi hne)⟩
section
variable {ops : Array Oper} {rest : List Oper} {o : Oper} {a : Act} {Q : Exit → Act → World → Prop} {w : World}
end
end Go.Proofs.YthfjmlcjkbgboaaGreatDoor
namespace Go.Proofs.YthfjmlcjkbgboaaGreatDoor
open Go.RowKit
/-- A row of n truth values of the call's own, from the head of a block. -/
structure BL (w : World) (base g cap n : Nat) (l : List Bool) : Prop where
  len : l.length = n
  own : w.ownsRow base 4 1 (.slice (some ⟨g, 0, none⟩) n cap) n (l.map Value.bool)
section
variable {w w' : World} {base g cap n : Nat} {l : List Bool}
theorem BL.lt (h : BL w base g cap n l) : base ≤ g ∧ g < w.heap.size := World.ownsRow.lt h.own g rfl
theorem BL.cell (h : BL w base g cap n l) {j : Nat} (hj : j < n) : w.cell? ⟨g, j, none⟩ = some (.bool (tt l j)) := by
  have hl := h.len
  have := h.own.cellAt j (by omega)
  rw [this, List.getElem?_map]
  unfold tt
  rw [List.getD_eq_getElem?_getD, List.getElem?_eq_getElem (by omega)]
  rfl
theorem BL.free (h : BL w base g cap n l) (j : Nat) : w.frozen? ⟨g, j, none⟩ = false := h.own.frozenAt j
theorem BL.set (h : BL w base g cap n l) (j : Nat) (b : Bool) : BL (w.setCell ⟨g, j, none⟩ (.bool b)) base g cap n (l.set j b) :=
  ⟨by rw [List.length_set]; exact h.len, by rw [List.map_set]; exact (h.own.stored j (.bool b)).1⟩
theorem BL.keep (h : BL w base g cap n l) (hb : w.heap.size ≤ w'.heap.size ∧ w'.heap[g]? = w.heap[g]?) : BL w' base g cap n l := by
  refine ⟨h.len, h.own.1, ?_⟩
  rcases h.own.2 with h0 | ⟨g', cap', cur, h1, h2, h3, h4⟩
  · exact .inl h0
  · refine .inr ⟨g', cap', cur, h1, h2, ?_, h4⟩
    injection h1 with h1
    injection h1 with h1
    injection h1 with h1
    subst h1
    exact hb.2.trans h3
theorem BL.below (h : BL w base g cap n l) (hb : Below w.heap.size w w') : BL w' base g cap n l := h.keep ⟨hb.size, hb.block g h.lt.2⟩
theorem BL.only {k : Nat} (h : BL w base g cap n l) (hb : w.grownBy w' (some k)) (hk : g ≠ k) : BL w' base g cap n l := h.keep ⟨hb.size, hb.block g h.lt.2 (fun e => hk (by injection e))⟩
theorem BL.far {k : Nat} (h : BL w base g cap n l) (hk : g ≠ k) (j : Nat) (u : Value) : BL (w.setCell ⟨k, j, none⟩ u) base g cap n l :=
  h.keep ⟨by simp [World.setCell], Below.heap_setCell w ⟨k, j, none⟩ u g hk⟩
theorem BL.drewN (h : BL w base g cap n l) (q : Nat) : BL (w.drewN q) base g cap n l := h.keep ⟨Nat.le_refl _, rfl⟩
theorem BL.drew (h : BL w base g cap n l) : BL w.drew base g cap n l := h.keep ⟨Nat.le_refl _, rfl⟩
theorem BL.alloc (h : BL w base g cap n l) (o : Obj) : BL (w.alloc o) base g cap n l := h.below ((Below.refl _ _).alloc (Nat.le_refl _) o)
theorem BL.low {b2 : Nat} (h : BL w base g cap n l) (hb : b2 ≤ base) : BL w b2 g cap n l := by
  refine ⟨h.len, h.own.1, ?_⟩
  rcases h.own.2 with h0 | ⟨g', cap', cur, h1, h2, h3⟩
  · exact .inl h0
  · exact .inr ⟨g', cap', cur, h1, Nat.le_trans hb h2, h3⟩
end
theorem below_none {w w' : World} (h : w.grownBy w' none) : Below w.heap.size w w' := ⟨h.os, h.tape, h.output, h.size, fun i hi => h.block i hi (fun e => by cases e)⟩
section
variable {ops : Array Oper} {rest : List Oper} {o : Oper} {a : Act} {Q : Exit → Act → World → Prop} {w : World}
end
end Go.Proofs.YthfjmlcjkbgboaaGreatDoor
namespace Go.Proofs.YthfjmlcjkbgboaaGreatDoor
open Go.RowKit
theorem kids_any (k : Int) (w : World) : Calls Tryz.prog 255 #[.int .i64 k] w fun e w' => e = .returned (.int .i64 (kidsI k)) ∧ w' = w := by
  by_cases h4 : k = 4
  · subst h4; go_enter Tryz.func255, Tryz.ntmps255
    go_wp2; go_ret; exact ⟨rfl, rfl⟩
  by_cases h5 : k = 5
  · subst h5; go_enter Tryz.func255, Tryz.ntmps255
    go_wp2; go_ret; exact ⟨rfl, rfl⟩
  by_cases h6 : k = 6
  · subst h6; go_enter Tryz.func255, Tryz.ntmps255
    go_wp2; go_ret; exact ⟨rfl, rfl⟩
  by_cases h1 : k = 1
  · subst h1; go_enter Tryz.func255, Tryz.ntmps255
    go_wp2; go_ret; exact ⟨rfl, rfl⟩
  by_cases h2 : k = 2
  · subst h2; go_enter Tryz.func255, Tryz.ntmps255
    go_wp2; go_ret; exact ⟨rfl, rfl⟩
  by_cases h3 : k = 3
  · subst h3; go_enter Tryz.func255, Tryz.ntmps255
    go_wp2; go_ret; exact ⟨rfl, rfl⟩
  by_cases h7 : k = 7
  · subst h7; go_enter Tryz.func255, Tryz.ntmps255
    go_wp2; go_ret; exact ⟨rfl, rfl⟩
  by_cases h8 : k = 8
  · subst h8; go_enter Tryz.func255, Tryz.ntmps255
    go_wp2; go_ret; exact ⟨rfl, rfl⟩
  have hk : Hid (kidsI k = -1) := by unfold Hid kidsI; rw [if_neg (by omega), if_neg h6, if_neg (by omega)]
  have q1 : (k == 1) = false := beq_eq_false_iff_ne.2 h1
  have q2 : (k == 2) = false := beq_eq_false_iff_ne.2 h2
  have q3 : (k == 3) = false := beq_eq_false_iff_ne.2 h3
  have q4 : (k == 4) = false := beq_eq_false_iff_ne.2 h4
  have q5 : (k == 5) = false := beq_eq_false_iff_ne.2 h5
  have q6 : (k == 6) = false := beq_eq_false_iff_ne.2 h6
  have q7 : (k == 7) = false := beq_eq_false_iff_ne.2 h7
  have q8 : (k == 8) = false := beq_eq_false_iff_ne.2 h8
  clear h1 h2 h3 h4 h5 h6 h7 h8
  go_enter Tryz.func255, Tryz.ntmps255
  go_wp2
  go_ret
  exact ⟨by rw [hk.out]; rfl, rfl⟩
def setV (s : Set4) : Value := .agg #[.int .u64 s.a, .int .u64 s.b, .int .u64 s.c, .int .u64 s.d]
theorem word_at (s : Set4) (k : Nat) (hk : k < 4) : ([.int .u64 s.a, .int .u64 s.b, .int .u64 s.c, .int .u64 s.d] : List Value)[k]? = some (.int .u64 (s.word k)) := by
  match k, hk with
  | 0, _ => rfl
  | 1, _ => rfl
  | 2, _ => rfl
  | 3, _ => rfl
theorem word_wf {s : Set4} (h : s.Wf) (k : Nat) : 0 ≤ s.word k ∧ s.word k ≤ 18446744073709551615 := by
  obtain ⟨h1, h2, h3, h4⟩ := h
  unfold word64 at h1 h2 h3 h4
  unfold Set4.word
  split
  · exact h1
  · split
    · exact h2
    · split
      · exact h3
      · exact h4
set_option maxHeartbeats 800000 in
theorem Has_any (s : Set4) (x : UInt8) (w : World) (h : s.Wf) : Calls Tryz.prog 208 #[setV s, .int .u8 x.toNat] w fun e w' => e = .returned (.bool (hasB s x)) ∧ Below w.heap.size w w' := by
  have hx := x.toNat_lt
  have hat := word_at s (x.toNat / 64) (by omega)
  have hwf := word_wf h (x.toNat / 64)
  have HH : Hid (hasB s x = (s.word (x.toNat / 64) / 2 ^ (x.toNat % 64) % 2 == 1)) := rfl
  generalize s.word (x.toNat / 64) = W at *
  obtain ⟨a, b, c, d⟩ := s
  unfold setV
  dsimp only at hat ⊢
  clear h
  go_enter Tryz.func208, Tryz.ntmps208
  go_wp2_with fail
  have hV : 0 ≤ W / 2 ^ (x.toNat % 64) ∧ W / 2 ^ (x.toNat % 64) < 18446744073709551616 := by
    refine ⟨Int.ediv_nonneg hwf.1 (Int.le_of_lt (Int.pow_pos (by decide))), ?_⟩
    have := Int.ediv_le_self (2 ^ (x.toNat % 64)) hwf.1
    omega
  rw [and_one_u64 _ hV.1 (by omega)]
  go_ret
  exact ⟨by rw [HH.out]; rfl, (Below.refl _ _).alloc (Nat.le_refl _) _⟩
theorem info_u64 : ∃ i, Tryz.prog.info? 212 = some i := by
  cases h : Tryz.prog.info? 212 with
  | some i => exact ⟨i, rfl⟩
  | none => exact absurd (show (Tryz.prog.info? 212).isSome = true by kernel_rfl) (by rw [h]; decide)
theorem run_eq64 (d : Nat) (x y : Int) (w : World) : (Op.equalIn (d + 1) 212 (.int .u64 x) (.int .u64 y)).run Tryz.prog w = .ok (x == y) w := by
  simp [Op.equalIn, run_underlying Tryz.underlying212]
theorem plain_u64 : Tryz.prog.plainKey 212 = true := by kernel_rfl
theorem items_one (d i : Nat) (is : List Nat) (xs ys : Array Value) (x y : Int) (hx : xs[i]? = some (.int .u64 x)) (hy : ys[i]? = some (.int .u64 y)) (w : World) :
    (Op.eqItems (d + 1) 212 1 xs ys (i :: is)).run Tryz.prog w = if x = y then (Op.eqItems (d + 1) 212 1 xs ys is).run Tryz.prog w else .ok false w := by
  simp only [Op.eqItems, Sem.run_bind, Nat.mul_one, run_part_plain w plain_u64 hx, run_part_plain w plain_u64 hy, Result.andThen_ok, run_eq64]
  by_cases h : x = y
  · subst h; simp
  · have : (x == y) = false := beq_eq_false_iff_ne.2 h
    simp [h]
set_option maxRecDepth 100000 in
theorem run_set_equal (x y : Set4) (w : World) : (Op.equal 214 (setV x) (setV y)).run Tryz.prog w = .ok (decide (x = y)) w := by
  obtain ⟨i, hi⟩ := info_u64
  obtain ⟨a, b, c, d⟩ := x
  obtain ⟨a', b', c', d'⟩ := y
  have h := run_equalIn_array (P := Tryz.prog) (w := w) 9999 #[.int .u64 a, .int .u64 b, .int .u64 c, .int .u64 d] #[.int .u64 a', .int .u64 b', .int .u64 c', .int .u64 d'] Tryz.underlying214 hi
  rw [cellsOf_u64] at h
  unfold Op.equal setV
  refine h.trans ?_
  rw [show List.range 4 = [0, 1, 2, 3] from rfl, items_one 9998 0 _ _ _ a a' rfl rfl, items_one 9998 1 _ _ _ b b' rfl rfl, items_one 9998 2 _ _ _ c c' rfl rfl, items_one 9998 3 _ _ _ d d' rfl rfl]
  by_cases h1 : a = a' <;> by_cases h2 : b = b' <;> by_cases h3 : c = c' <;> by_cases h4 : d = d' <;> simp [h1, h2, h3, h4, Op.eqItems]
def sameB (x y : Set4) : Bool := decide (x = y)
theorem run_set_eql (x y : Set4) (w : World) : (binOp .eql 214 (setV x) (setV y)).run Tryz.prog w = .ok (.bool (sameB x y)) w := by
  have h := run_set_equal x y w
  unfold setV at h ⊢
  simp only [binOp, Sem.run_bind]
  rw [h]
  rfl
end Go.Proofs.YthfjmlcjkbgboaaGreatDoor
namespace Go.Proofs.YthfjmlcjkbgboaaGreatDoor
open Go.RowKit
theorem box_six {W w' : World} {c0 c1 c2 c3 c4 c5 : Value} {t : TypeId} (hb : Below (W.alloc (.cells #[c0, c1, c2, c3, c4, c5] t)).heap.size (W.alloc (.cells #[c0, c1, c2, c3, c4, c5] t)) w') :
    (w'.cell? ⟨W.heap.size, 0, none⟩ = some c0 ∧ w'.cell? ⟨W.heap.size, 1, none⟩ = some c1 ∧ w'.cell? ⟨W.heap.size, 2, none⟩ = some c2 ∧ w'.cell? ⟨W.heap.size, 3, none⟩ = some c3 ∧ w'.cell? ⟨W.heap.size, 4, none⟩ = some c4 ∧ w'.cell? ⟨W.heap.size, 5, none⟩ = some c5) ∧ Below W.heap.size W w' :=
  ⟨⟨new_cell hb 0, new_cell hb 1, new_cell hb 2, new_cell hb 3, new_cell hb 4, new_cell hb 5⟩, below_new hb (Nat.le_refl _)⟩
theorem BL.heap {w : World} {base g n : Nat} {l : List Bool} (h : BL w base g n n l) : w.heap[g]? = some (.cells (l.map Value.bool).toArray 4 (0, 0)) := by
  rcases h.own.2 with ⟨h0, _⟩ | ⟨g', cap', cur, h1, h2, h3, h4, h5, h6, h7⟩
  · cases h0
  · injection h1 with h1 _ h1c
    injection h1 with h1
    injection h1 with h1
    subst h1; subst h1c
    have : cur.toList = l.map Value.bool := by rw [← h7, List.take_of_length_le (by rw [Array.length_toList, h6]; exact Nat.le_refl _)]
    rw [h3, ← this]
end Go.Proofs.YthfjmlcjkbgboaaGreatDoor
namespace Go.Proofs.YthfjmlcjkbgboaaGreatDoor
open Go.RowKit
def argX (t : Tree) (A : Option Addr) (c : Nat) : Value := .agg #[.int .i64 t.kind, .int .u64 t.set.a, .int .u64 t.set.b, .int .u64 t.set.c, .int .u64 t.set.d, .slice A t.kids.length c]
/-- Two kids in memory. -/
theorem LK.two {w : World} {B : Nat} {a b : Tree} {A : Option Addr} (h : LK w B [a, b] A) : ∃ bb off ca cb, A = some ⟨bb, off, none⟩ ∧ bb < B ∧ CellsAt w bb off ca ∧ LT w B a ca ∧ CellsAt w bb (off + 6) cb ∧ LT w B b cb := by
  rw [LK] at h
  obtain ⟨bb, off, ca, h1, h2, h3, h4, h5, h6⟩ := h
  rw [LK] at h6
  obtain ⟨b2, off2, cb, g1, g2, g3, g4, g5, g6⟩ := h6
  injection g1 with g1
  injection g1 with e1 e2
  subst e1; subst e2
  exact ⟨bb, off, ca, cb, h1, h2, h4, h5, g4, g5⟩
theorem LK.one {w : World} {B : Nat} {a : Tree} {A : Option Addr} (h : LK w B [a] A) : ∃ bb off ca, A = some ⟨bb, off, none⟩ ∧ bb < B ∧ CellsAt w bb off ca ∧ LT w B a ca := by
  rw [LK] at h
  obtain ⟨bb, off, ca, h1, h2, h3, h4, h5, h6⟩ := h
  exact ⟨bb, off, ca, h1, h2, h4, h5⟩
end Go.Proofs.YthfjmlcjkbgboaaGreatDoor
namespace Go.Proofs.YthfjmlcjkbgboaaGreatDoor
open Go.RowKit
def cellsP (x : Ins) : List Value := [.int .i64 x.kind, .int .i64 x.a, .int .i64 x.b, .int .u64 x.set.a, .int .u64 x.set.b, .int .u64 x.set.c, .int .u64 x.set.d]
theorem cellsP_len (x : Ins) : (cellsP x).length = 7 := rfl
/-- A row of instructions of the call's own. -/
def OwnP (w : World) (base : Nat) (v : Value) (l : List Ins) : Prop := w.ownsRow base 262 7 v l.length (l.flatMap cellsP)
theorem OwnP.nil (w : World) (base : Nat) : OwnP w base (.slice none 0 0) [] := World.ownsRow_nil w base 262 7
theorem OwnP.form {w : World} {base : Nat} {v : Value} {l : List Ins} (h : OwnP w base v l) : ∃ A c, v = .slice A l.length c ∧ Sl w w.heap.size 7 A l.length (l.flatMap cellsP) := by
  rcases h.2 with ⟨h1, h2⟩ | ⟨g, cap, cur, h1, hb, hg, _⟩
  · have : l = [] := List.eq_nil_of_length_eq_zero h2
    subst this
    exact ⟨none, 0, h1, Sl.nil _ _ _ _⟩
  · refine ⟨_, _, h1, flat_len cellsP 7 cellsP_len l, fun hp => ⟨g, 0, rfl, ?_, fun j hj => ?_⟩⟩
    · exact ((h.lt g (by rw [h1]; simp [Value.ownBlock])).2)
    · have := World.ownsRow.cells (g := g) h (by rw [h1]; simp [Value.ownBlock]) j _ (List.getElem?_eq_getElem hj)
      rw [addr_add] at this
      rw [Nat.zero_add]
      exact this
theorem OwnP.below {w w' : World} {base : Nat} {v : Value} {l : List Ins} (h : OwnP w base v l) (hb : Below w.heap.size w w') : OwnP w' base v l := ownsRow_below h hb
theorem OwnP.head {w : World} {base : Nat} {v : Value} {l : List Ins} (h : OwnP w base v l) (hl : 0 < l.length) : ∃ g c, v = .slice (some ⟨g, 0, none⟩) l.length c ∧ base ≤ g ∧ g < w.heap.size := by
  rcases h.2 with ⟨h1, h2⟩ | ⟨g, cap, cur, h1, hb, hg, _⟩
  · omega
  · exact ⟨g, cap, h1, hb, (h.lt g (by rw [h1]; simp [Value.ownBlock])).2⟩
theorem info_ins : (Tryz.prog.info? 262).map (fun i => (i.zero, i.size, i.bytes)) = some (some (.agg #[.int .i64 0, .int .i64 0, .int .i64 0, .int .u64 0, .int .u64 0, .int .u64 0, .int .u64 0]), 7, 56) := by kernel_rfl
section
variable {ops : Array Oper} {rest : List Oper} {o : Oper} {a : Act} {Q : Exit → Act → World → Prop} {w : World}
theorem wp_append_p {K : Act → World → Prop} (s x : Operand) (ho : o.op = .call { callee := .builtin .append, args := #[s, x], argTypes := #[220, 220] })
    (base : Nat) (v : Value) (l : List Ins) (hs : a.eval s = v) (hown : OwnP w base v l) (hbase : base ≤ w.heap.size)
    (vs : List Value) (new : Ins) (hv : vs = cellsP new) (g0 : Nat) (hg0 : w.heap.size = g0) (c : Nat) (hx : a.eval x = .slice (some ⟨g0, 0, none⟩) 1 c)
    (hbytes : l.length ≤ 1048576)
    (h : ∀ v' w', OwnP w' base v' (l ++ [new]) → Below base w w' → (∀ g, g < w.heap.size → v.ownBlock ≠ some g → w'.heap[g]? = w.heap[g]?) → w.heap.size < w'.heap.size → K (a.put o.dst v') w') :
    o.wp Tryz.prog a (w.alloc (.cells vs.toArray 262)) K Q := by
  subst hv; subst hg0
  obtain ⟨i0, hi, hz0, hz1, hz2⟩ := info_parts info_ins
  exact wp_append_kept s x 220 ho base 262 i0 _ 7 56 Tryz.underlying220 hi hz0 hz1 hz2 rfl (by decide) v l.length (l.flatMap cellsP) hs hown hbase (cellsP new) 1 c hx rfl
    (fun u hu => by simp only [cellsP, List.mem_cons, List.not_mem_nil, or_false] at hu; rcases hu with rfl | rfl | rfl | rfl | rfl | rfl | rfl <;> rfl) (by unfold maxLen; omega) (by omega) fun v' w' h1 h2 h3 h4 => h v' w' (by unfold OwnP; rw [List.length_append, List.flatMap_append]; simpa using h1) h2 h3 h4
theorem wpList_append_p (hgd : o.guard = none) (s x : Operand) (ho : o.op = .call { callee := .builtin .append, args := #[s, x], argTypes := #[220, 220] })
    (base : Nat) (v : Value) (l : List Ins) (hs : a.eval s = v) (hown : OwnP w base v l) (hbase : base ≤ w.heap.size)
    (vs : List Value) (new : Ins) (hv : vs = cellsP new) (g0 : Nat) (hg0 : w.heap.size = g0) (c : Nat) (hx : a.eval x = .slice (some ⟨g0, 0, none⟩) 1 c)
    (hbytes : l.length ≤ 1048576)
    (h : ∀ v' w', OwnP w' base v' (l ++ [new]) → Below base w w' → (∀ g, g < w.heap.size → v.ownBlock ≠ some g → w'.heap[g]? = w.heap[g]?) → w.heap.size < w'.heap.size → wpList Tryz.prog ops Q rest (a.put o.dst v') w') :
    wpList Tryz.prog ops Q (o :: rest) a (w.alloc (.cells vs.toArray 262)) :=
  wpList_plain hgd fun _ hK => wp_append_p s x ho base v l hs hown hbase vs new hv g0 hg0 c hx hbytes fun v' w' h1 h2 h3 h4 => hK _ _ (h v' w' h1 h2 h3 h4)
theorem step_append_p {K : Act → World → Prop} {E : Prop} (hgd : o.guard = none) (s x : Operand) (ho : o.op = .call { callee := .builtin .append, args := #[s, x], argTypes := #[220, 220] })
    (base : Nat) (v : Value) (l : List Ins) (hs : a.eval s = v) (hown : OwnP w base v l) (hbase : base ≤ w.heap.size)
    (vs : List Value) (new : Ins) (hv : vs = cellsP new) (g0 : Nat) (hg0 : w.heap.size = g0) (c : Nat) (hx : a.eval x = .slice (some ⟨g0, 0, none⟩) 1 c)
    (hbytes : l.length ≤ 1048576)
    (h : ∀ v' w', OwnP w' base v' (l ++ [new]) → Below base w w' → (∀ g, g < w.heap.size → v.ownBlock ≠ some g → w'.heap[g]? = w.heap[g]?) → w.heap.size < w'.heap.size → K (a.put o.dst v') w') :
    if Region.wanted o (yielded ops a.tmps) = true then Oper.wp Tryz.prog o a (w.alloc (.cells vs.toArray 262)) K Q else E := by
  have hw : Region.wanted o (yielded ops a.tmps) = true := by simp [Region.wanted, hgd]
  rw [if_pos hw]
  exact wp_append_p s x ho base v l hs hown hbase vs new hv g0 hg0 c hx hbytes h
end
/-- Seven cells of an instruction. -/
theorem ins_at {w : World} {B n : Nat} {A : Option Addr} {l : List Ins} (h : Sl w B 7 A n (l.flatMap cellsP)) (k : Nat) (hk : k < l.length) :
    ∃ b off, A = some ⟨b, off, none⟩ ∧ b < B ∧ w.cell? ⟨b, off + k * 7, none⟩ = some (.int .i64 l[k].kind) ∧ w.cell? ⟨b, off + k * 7 + 1, none⟩ = some (.int .i64 l[k].a) ∧ w.cell? ⟨b, off + k * 7 + 2, none⟩ = some (.int .i64 l[k].b) ∧
      w.cell? ⟨b, off + k * 7 + 3, none⟩ = some (.int .u64 l[k].set.a) ∧ w.cell? ⟨b, off + k * 7 + 4, none⟩ = some (.int .u64 l[k].set.b) ∧ w.cell? ⟨b, off + k * 7 + 5, none⟩ = some (.int .u64 l[k].set.c) ∧ w.cell? ⟨b, off + k * 7 + 6, none⟩ = some (.int .u64 l[k].set.d) := by
  have hl := flat_len cellsP 7 cellsP_len l
  obtain ⟨b, off, e, hb, hc⟩ := h.src (by omega)
  have hat : ∀ j, j < 7 → ∀ v, (cellsP l[k])[j]? = some v → w.cell? ⟨b, off + k * 7 + j, none⟩ = some v := fun j hj v hv => by
    have h1 := flat_at cellsP 7 cellsP_len l k j hk hj
    have h2 : k * 7 + j < (l.flatMap cellsP).length := by omega
    rw [Nat.add_assoc, hc (k * 7 + j) h2]
    rw [List.getElem?_eq_getElem h2] at h1
    rw [h1, hv]
  exact ⟨b, off, e, hb, hat 0 (by decide) _ rfl, hat 1 (by decide) _ rfl, hat 2 (by decide) _ rfl, hat 3 (by decide) _ rfl, hat 4 (by decide) _ rfl, hat 5 (by decide) _ rfl, hat 6 (by decide) _ rfl⟩
theorem flat_set {α : Type} (cells : α → List Value) (size : Nat) (hsz : ∀ a, (cells a).length = size) (j : Nat) (hj : j < size) (v : Value) (y : α) : ∀ (l : List α) (k : Nat) (h : k < l.length), cells y = (cells l[k]).set j v →
    (l.flatMap cells).set (k * size + j) v = (l.set k y).flatMap cells
  | [], k, h, _ => absurd h (by simp)
  | a :: r, 0, _, he => by
    have he' : cells y = (cells a).set j v := he
    simp only [List.flatMap_cons, List.set_cons_zero, Nat.zero_mul, Nat.zero_add]
    rw [List.set_append_left _ _ (by rw [hsz]; exact hj), he']
  | a :: r, k + 1, h, he => by
    simp only [List.flatMap_cons, List.set_cons_succ]
    rw [List.set_append_right _ _ (by rw [hsz, Nat.succ_mul]; omega), hsz, show (k + 1) * size + j - size = k * size + j by rw [Nat.succ_mul]; omega]
    rw [flat_set cells size hsz j hj v y r k (by simpa using h) he]
/-- One cell of an instruction stored. -/
theorem OwnP.setAB {w : World} {base g c : Nat} {l : List Ins} (h : OwnP w base (.slice (some ⟨g, 0, none⟩) l.length c) l) (k : Nat) (hk : k < l.length) (j : Nat) (hj : j < 7) (u : Value) (y : Ins) (hy : cellsP y = (cellsP l[k]).set j u) :
    OwnP (w.setCell ⟨g, k * 7 + j, none⟩ u) base (.slice (some ⟨g, 0, none⟩) l.length c) (l.set k y) ∧ w.grownBy (w.setCell ⟨g, k * 7 + j, none⟩ u) (some g) := by
  have hs := World.ownsRow.stored h (k * 7 + j) u
  refine ⟨?_, hs.2⟩
  unfold OwnP
  rw [List.length_set, ← flat_set cellsP 7 cellsP_len j hj u y l k hk hy]
  exact hs.1
end Go.Proofs.YthfjmlcjkbgboaaGreatDoor
namespace Go.Proofs.YthfjmlcjkbgboaaGreatDoor
open Go.RowKit
def hitI (p : Nat → Bool) (n : Nat) : Int := match (List.range n).find? p with
  | some i => (i : Int)
  | none => -1
def anyN (p : Nat → Bool) (n : Nat) : Bool := (List.range n).any p
theorem hit_none (p : Nat → Bool) (n : Nat) (h : ∀ i, i < n → p i = false) : hitI p n = -1 := by
  unfold hitI
  rw [List.find?_eq_none.2 (fun x hx => by rw [h x (List.mem_range.1 hx)]; decide)]
theorem hit_at (p : Nat → Bool) (n j : Nat) (hj : j < n) (h1 : p j = true) (h : ∀ i, i < j → p i = false) : hitI p n = j := by
  unfold hitI
  have : (List.range n).find? p = some j := by
    rw [List.find?_eq_some_iff_getElem]
    refine ⟨h1, j, by simpa using hj, by simp, fun i hi => by simpa using h i hi⟩
  rw [this]
theorem any_false (p : Nat → Bool) (n : Nat) : anyN p n = false ↔ ∀ i, i < n → p i = false := by
  unfold anyN; simp
theorem any_true (p : Nat → Bool) (n : Nat) : anyN p n = true ↔ ∃ i, i < n ∧ p i = true := by
  unfold anyN; simp
theorem hit_any (p : Nat → Bool) (n : Nat) : decide (0 ≤ hitI p n) = anyN p n := by
  cases h : anyN p n with
  | false => rw [hit_none p n ((any_false p n).1 h)]; rfl
  | true =>
    obtain ⟨i, hi, hpi⟩ := (any_true p n).1 h
    unfold hitI
    cases hf : (List.range n).find? p with
    | some j => simp
    | none => exact absurd hpi (by have := List.find?_eq_none.1 hf i (by simpa using hi); simpa using this)
theorem anyN_list {α : Type} (f : α → Bool) (l : List α) (d : α) : anyN (fun j => f (l.getD j d)) l.length = l.any f := by
  rw [Bool.eq_iff_iff, any_true, List.any_eq_true]
  constructor
  · rintro ⟨i, hi, h⟩
    rw [List.getD_eq_getElem?_getD, List.getElem?_eq_getElem hi] at h
    exact ⟨l[i], List.getElem_mem hi, h⟩
  · rintro ⟨x, hx, h⟩
    obtain ⟨i, hi, rfl⟩ := List.mem_iff_getElem.1 hx
    exact ⟨i, hi, by rw [List.getD_eq_getElem?_getD, List.getElem?_eq_getElem hi]; exact h⟩
def BoolPost (b : Bool) (w : World) (e : Ending) (w' : World) : Prop := e = .returned (.bool b) ∧ Below w.heap.size w w'
end Go.Proofs.YthfjmlcjkbgboaaGreatDoor
