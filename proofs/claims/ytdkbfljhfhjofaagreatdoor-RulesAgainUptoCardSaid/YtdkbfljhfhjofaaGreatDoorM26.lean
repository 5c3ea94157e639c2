/- Part 26 of the proof: lemmas and walks that the last texts use. -/
import Derived.Test.YtdkbfljhfhjofaaGreatDoorM03
import Derived.Test.YtdkbfljhfhjofaaGreatDoorM11
import Derived.Test.YtdkbfljhfhjofaaGreatDoorM18
import Derived.Deep.RegionHeld3
import Derived.Deep.Cut
namespace Go.Proofs.YtdkbfljhfhjofaaGreatDoor
open Go.RowKit
structure Ins where
  kind : Int
  a : Int
  b : Int
  set : Set4
deriving DecidableEq
/-- The code of an expression at a place. -/
inductive Code : Tree → Nat → List Ins → Prop
  | none (S : Set4) (at_ : Nat) : Code (.node 1 S []) at_ [⟨1, 0, 0, S⟩]
  | empty (S : Set4) (at_ : Nat) : Code (.node 2 S []) at_ []
  | byte (S : Set4) (at_ : Nat) : Code (.node 3 S []) at_ [⟨1, 0, 0, S⟩]
  | begin (S : Set4) (at_ : Nat) : Code (.node 7 S []) at_ [⟨4, 0, 0, .zero⟩]
  | finish (S : Set4) (at_ : Nat) : Code (.node 8 S []) at_ [⟨5, 0, 0, .zero⟩]
  | cat (S : Set4) (a b : Tree) (at_ : Nat) (la lb : List Ins) : Code a at_ la → Code b (at_ + la.length) lb → Code (.node 4 S [a, b]) at_ (la ++ lb)
  | alt (S : Set4) (a b : Tree) (at_ : Nat) (la lb : List Ins) : Code a (at_ + 1) la → Code b (at_ + 1 + la.length + 1) lb →
      Code (.node 5 S [a, b]) at_ (⟨2, at_ + 1, (at_ + 1 + la.length + 1 : Nat), .zero⟩ :: (la ++ ⟨3, (at_ + 1 + la.length + 1 + lb.length : Nat), 0, .zero⟩ :: lb))
  | star (S : Set4) (a : Tree) (at_ : Nat) (la : List Ins) : Code a (at_ + 1) la →
      Code (.node 6 S [a]) at_ (⟨2, at_ + 1, (at_ + 1 + la.length + 1 : Nat), .zero⟩ :: (la ++ [⟨3, at_, 0, .zero⟩]))
/-- One step without a byte. -/
inductive Eps (P : List Ins) (s : List UInt8) (i : Nat) : Nat → Nat → Prop
  | one (n : Nat) (x : Ins) : P[n]? = some x → x.kind = 2 → Eps P s i n x.a.toNat
  | two (n : Nat) (x : Ins) : P[n]? = some x → x.kind = 2 → Eps P s i n x.b.toNat
  | jump (n : Nat) (x : Ins) : P[n]? = some x → x.kind = 3 → Eps P s i n x.a.toNat
  | begin (n : Nat) (x : Ins) : P[n]? = some x → x.kind = 4 → i = 0 → Eps P s i n (n + 1)
  | finish (n : Nat) (x : Ins) : P[n]? = some x → x.kind = 5 → i = s.length → Eps P s i n (n + 1)
def ByteAt (P : List Ins) (s : List UInt8) (i n : Nat) : Prop := ∃ x c, P[n]? = some x ∧ x.kind = 1 ∧ s[i]? = some c ∧ hasB x.set c = true
/-- A path of so many steps. -/
inductive Path (P : List Ins) (s : List UInt8) (N j : Nat) : Nat → Nat → Nat → Prop
  | here : Path P s N j 0 N j
  | eps (L n m i : Nat) : Eps P s i n m → Path P s N j L m i → Path P s N j (L + 1) n i
  | byte (L n i : Nat) : ByteAt P s i n → Path P s N j L (n + 1) (i + 1) → Path P s N j (L + 1) n i
theorem Path.trans {P : List Ins} {s : List UInt8} {N j N' j' L : Nat} {n i : Nat} (h : Path P s N j L n i) : ∀ {L'}, Path P s N' j' L' N j → Path P s N' j' (L + L') n i := by
  induction h with
  | here => intro L' h2; rw [Nat.zero_add]; exact h2
  | eps L n m i h1 _ ih => intro L' h2; rw [show L + 1 + L' = (L + L') + 1 by omega]; exact .eps _ _ _ _ h1 (ih h2)
  | byte L n i h1 _ ih => intro L' h2; rw [show L + 1 + L' = (L + L') + 1 by omega]; exact .byte _ _ _ h1 (ih h2)
/-- The fragment lies in the program. -/
def Lies (P : List Ins) (at_ : Nat) (l : List Ins) : Prop := ∀ k, k < l.length → P[at_ + k]? = l[k]?
theorem Lies.left {P : List Ins} {at_ : Nat} {l m : List Ins} (h : Lies P at_ (l ++ m)) : Lies P at_ l := fun k hk => by
  rw [h k (by rw [List.length_append]; omega), List.getElem?_append_left hk]
theorem Lies.right {P : List Ins} {at_ : Nat} {l m : List Ins} (h : Lies P at_ (l ++ m)) : Lies P (at_ + l.length) m := fun k hk => by
  rw [Nat.add_assoc, h (l.length + k) (by rw [List.length_append]; omega), List.getElem?_append_right (by omega), Nat.add_sub_cancel_left]
end Go.Proofs.YtdkbfljhfhjofaaGreatDoor
namespace Go.Proofs.YtdkbfljhfhjofaaGreatDoor
open Go.RowKit
def cellsP (x : Ins) : List Value := [.int .i64 x.kind, .int .i64 x.a, .int .i64 x.b, .int .u64 x.set.a, .int .u64 x.set.b, .int .u64 x.set.c, .int .u64 x.set.d]
theorem cellsP_len (x : Ins) : (cellsP x).length = 7 := rfl
/-- A row of instructions of the call's own. -/
def OwnP (w : World) (base : Nat) (v : Value) (l : List Ins) : Prop := w.ownsRow base 204 7 v l.length (l.flatMap cellsP)
theorem OwnP.nil (w : World) (base : Nat) : OwnP w base (.slice none 0 0) [] := World.ownsRow_nil w base 204 7
theorem OwnP.form {w : World} {base : Nat} {v : Value} {l : List Ins} (h : OwnP w base v l) : ∃ A c, v = .slice A l.length c ∧ Sl w w.heap.size 7 A l.length (l.flatMap cellsP) := by
  rcases h.2 with ⟨h1, h2⟩ | ⟨g, cap, cur, h1, hb, hg, _⟩
  · have : l = [] := List.eq_nil_of_length_eq_zero h2
    subst this
    exact ⟨none, 0, h1, Sl.nil _ _ _ _⟩
  · refine ⟨_, _, h1, flat_len cellsP 7 cellsP_len l, fun hp => ⟨g, 0, rfl, ?_, fun j hj => ?_⟩⟩
    · exact ((h.lt g (by rw [h1]; simp [Value.ownBlock])).2)
    · have := World.ownsRow.cells (g := g) h (by rw [h1]; simp [Value.ownBlock]) j _ (List.getElem?_eq_getElem hj)
      rw [addr_add] at this
      rw [Nat.zero_add]
      exact this
theorem OwnP.below {w w' : World} {base : Nat} {v : Value} {l : List Ins} (h : OwnP w base v l) (hb : Below w.heap.size w w') : OwnP w' base v l := ownsRow_below h hb
theorem OwnP.head {w : World} {base : Nat} {v : Value} {l : List Ins} (h : OwnP w base v l) (hl : 0 < l.length) : ∃ g c, v = .slice (some ⟨g, 0, none⟩) l.length c ∧ base ≤ g ∧ g < w.heap.size := by
  rcases h.2 with ⟨h1, h2⟩ | ⟨g, cap, cur, h1, hb, hg, _⟩
  · omega
  · exact ⟨g, cap, h1, hb, (h.lt g (by rw [h1]; simp [Value.ownBlock])).2⟩
theorem info_ins : (Tryz.prog.info? 204).map (fun i => (i.zero, i.size, i.bytes)) = some (some (.agg #[.int .i64 0, .int .i64 0, .int .i64 0, .int .u64 0, .int .u64 0, .int .u64 0, .int .u64 0]), 7, 56) := by kernel_rfl
section
variable {ops : Array Oper} {rest : List Oper} {o : Oper} {a : Act} {Q : Exit → Act → World → Prop} {w : World}
theorem wp_append_p {K : Act → World → Prop} (s x : Operand) (ho : o.op = .call { callee := .builtin .append, args := #[s, x], argTypes := #[156, 156] })
    (base : Nat) (v : Value) (l : List Ins) (hs : a.eval s = v) (hown : OwnP w base v l) (hbase : base ≤ w.heap.size)
    (vs : List Value) (new : Ins) (hv : vs = cellsP new) (g0 : Nat) (hg0 : w.heap.size = g0) (c : Nat) (hx : a.eval x = .slice (some ⟨g0, 0, none⟩) 1 c)
    (hbytes : l.length ≤ 1048576)
    (h : ∀ v' w', OwnP w' base v' (l ++ [new]) → Below base w w' → (∀ g, g < w.heap.size → v.ownBlock ≠ some g → w'.heap[g]? = w.heap[g]?) → w.heap.size < w'.heap.size → K (a.put o.dst v') w') :
    o.wp Tryz.prog a (w.alloc (.cells vs.toArray 204)) K Q := by
  subst hv; subst hg0
  obtain ⟨i0, hi, hz0, hz1, hz2⟩ := info_parts info_ins
  exact wp_append_kept s x 156 ho base 204 i0 _ 7 56 Tryz.underlying156 hi hz0 hz1 hz2 rfl (by decide) v l.length (l.flatMap cellsP) hs hown hbase (cellsP new) 1 c hx rfl
    (fun u hu => by simp only [cellsP, List.mem_cons, List.not_mem_nil, or_false] at hu; rcases hu with rfl | rfl | rfl | rfl | rfl | rfl | rfl <;> rfl) (by unfold maxLen; omega) (by omega) fun v' w' h1 h2 h3 h4 => h v' w' (by unfold OwnP; rw [List.length_append, List.flatMap_append]; simpa using h1) h2 h3 h4
theorem wpList_append_p (hgd : o.guard = none) (s x : Operand) (ho : o.op = .call { callee := .builtin .append, args := #[s, x], argTypes := #[156, 156] })
    (base : Nat) (v : Value) (l : List Ins) (hs : a.eval s = v) (hown : OwnP w base v l) (hbase : base ≤ w.heap.size)
    (vs : List Value) (new : Ins) (hv : vs = cellsP new) (g0 : Nat) (hg0 : w.heap.size = g0) (c : Nat) (hx : a.eval x = .slice (some ⟨g0, 0, none⟩) 1 c)
    (hbytes : l.length ≤ 1048576)
    (h : ∀ v' w', OwnP w' base v' (l ++ [new]) → Below base w w' → (∀ g, g < w.heap.size → v.ownBlock ≠ some g → w'.heap[g]? = w.heap[g]?) → w.heap.size < w'.heap.size → wpList Tryz.prog ops Q rest (a.put o.dst v') w') :
    wpList Tryz.prog ops Q (o :: rest) a (w.alloc (.cells vs.toArray 204)) :=
  wpList_plain hgd fun _ hK => wp_append_p s x ho base v l hs hown hbase vs new hv g0 hg0 c hx hbytes fun v' w' h1 h2 h3 h4 => hK _ _ (h v' w' h1 h2 h3 h4)
theorem step_append_p {K : Act → World → Prop} {E : Prop} (hgd : o.guard = none) (s x : Operand) (ho : o.op = .call { callee := .builtin .append, args := #[s, x], argTypes := #[156, 156] })
    (base : Nat) (v : Value) (l : List Ins) (hs : a.eval s = v) (hown : OwnP w base v l) (hbase : base ≤ w.heap.size)
    (vs : List Value) (new : Ins) (hv : vs = cellsP new) (g0 : Nat) (hg0 : w.heap.size = g0) (c : Nat) (hx : a.eval x = .slice (some ⟨g0, 0, none⟩) 1 c)
    (hbytes : l.length ≤ 1048576)
    (h : ∀ v' w', OwnP w' base v' (l ++ [new]) → Below base w w' → (∀ g, g < w.heap.size → v.ownBlock ≠ some g → w'.heap[g]? = w.heap[g]?) → w.heap.size < w'.heap.size → K (a.put o.dst v') w') :
    if Region.wanted o (yielded ops a.tmps) = true then Oper.wp Tryz.prog o a (w.alloc (.cells vs.toArray 204)) K Q else E := by
  have hw : Region.wanted o (yielded ops a.tmps) = true := by simp [Region.wanted, hgd]
  rw [if_pos hw]
  exact wp_append_p s x ho base v l hs hown hbase vs new hv g0 hg0 c hx hbytes h
end
/-- Seven cells of an instruction. -/
theorem ins_at {w : World} {B n : Nat} {A : Option Addr} {l : List Ins} (h : Sl w B 7 A n (l.flatMap cellsP)) (k : Nat) (hk : k < l.length) :
    ∃ b off, A = some ⟨b, off, none⟩ ∧ b < B ∧ w.cell? ⟨b, off + k * 7, none⟩ = some (.int .i64 l[k].kind) ∧ w.cell? ⟨b, off + k * 7 + 1, none⟩ = some (.int .i64 l[k].a) ∧ w.cell? ⟨b, off + k * 7 + 2, none⟩ = some (.int .i64 l[k].b) ∧
      w.cell? ⟨b, off + k * 7 + 3, none⟩ = some (.int .u64 l[k].set.a) ∧ w.cell? ⟨b, off + k * 7 + 4, none⟩ = some (.int .u64 l[k].set.b) ∧ w.cell? ⟨b, off + k * 7 + 5, none⟩ = some (.int .u64 l[k].set.c) ∧ w.cell? ⟨b, off + k * 7 + 6, none⟩ = some (.int .u64 l[k].set.d) := by
  have hl := flat_len cellsP 7 cellsP_len l
  obtain ⟨b, off, e, hb, hc⟩ := h.src (by omega)
  have hat : ∀ j, j < 7 → ∀ v, (cellsP l[k])[j]? = some v → w.cell? ⟨b, off + k * 7 + j, none⟩ = some v := fun j hj v hv => by
    have h1 := flat_at cellsP 7 cellsP_len l k j hk hj
    have h2 : k * 7 + j < (l.flatMap cellsP).length := by omega
    rw [Nat.add_assoc, hc (k * 7 + j) h2]
    rw [List.getElem?_eq_getElem h2] at h1
    rw [h1, hv]
  exact ⟨b, off, e, hb, hat 0 (by decide) _ rfl, hat 1 (by decide) _ rfl, hat 2 (by decide) _ rfl, hat 3 (by decide) _ rfl, hat 4 (by decide) _ rfl, hat 5 (by decide) _ rfl, hat 6 (by decide) _ rfl⟩
theorem flat_set {α : Type} (cells : α → List Value) (size : Nat) (hsz : ∀ a, (cells a).length = size) (j : Nat) (hj : j < size) (v : Value) (y : α) : ∀ (l : List α) (k : Nat) (h : k < l.length), cells y = (cells l[k]).set j v →
    (l.flatMap cells).set (k * size + j) v = (l.set k y).flatMap cells
  | [], k, h, _ => absurd h (by simp)
  | a :: r, 0, _, he => by
    have he' : cells y = (cells a).set j v := he
    simp only [List.flatMap_cons, List.set_cons_zero, Nat.zero_mul, Nat.zero_add]
    rw [List.set_append_left _ _ (by rw [hsz]; exact hj), he']
  | a :: r, k + 1, h, he => by
    simp only [List.flatMap_cons, List.set_cons_succ]
    rw [List.set_append_right _ _ (by rw [hsz, Nat.succ_mul]; omega), hsz, show (k + 1) * size + j - size = k * size + j by rw [Nat.succ_mul]; omega]
    rw [flat_set cells size hsz j hj v y r k (by simpa using h) he]
/-- One cell of an instruction stored. -/
theorem OwnP.setAB {w : World} {base g c : Nat} {l : List Ins} (h : OwnP w base (.slice (some ⟨g, 0, none⟩) l.length c) l) (k : Nat) (hk : k < l.length) (j : Nat) (hj : j < 7) (u : Value) (y : Ins) (hy : cellsP y = (cellsP l[k]).set j u) :
    OwnP (w.setCell ⟨g, k * 7 + j, none⟩ u) base (.slice (some ⟨g, 0, none⟩) l.length c) (l.set k y) ∧ w.grownBy (w.setCell ⟨g, k * 7 + j, none⟩ u) (some g) := by
  have hs := World.ownsRow.stored h (k * 7 + j) u
  refine ⟨?_, hs.2⟩
  unfold OwnP
  rw [List.length_set, ← flat_set cellsP 7 cellsP_len j hj u y l k hk hy]
  exact hs.1
end Go.Proofs.YtdkbfljhfhjofaaGreatDoor
namespace Go.Proofs.YtdkbfljhfhjofaaGreatDoor
open Go.RowKit
mutual
def nodes : Tree → Nat
  | .node _ _ ts => 1 + nodesL ts
def nodesL : List Tree → Nat
  | [] => 0
  | t :: ts => nodes t + nodesL ts
end
theorem code_len {t : Tree} {at_ : Nat} {l : List Ins} (h : Code t at_ l) : l.length ≤ 2 * nodes t := by
  induction h with
  | none => simp [nodes, nodesL]
  | empty => simp
  | byte => simp [nodes, nodesL]
  | begin => simp [nodes, nodesL]
  | finish => simp [nodes, nodesL]
  | cat S a b at_ la lb _ _ h1 h2 => simp only [nodes, nodesL, List.length_append]; omega
  | alt S a b at_ la lb _ _ h1 h2 => simp only [nodes, nodesL, List.length_append, List.length_cons]; omega
  | star S a at_ la _ h1 => simp only [nodes, nodesL, List.length_append, List.length_cons, List.length_nil]; omega
/-- Blocks of other types stay. -/
def Keeps (w w' : World) : Prop := ∀ (g : Nat) (cs : Array Value) (t : TypeId) (fz : Nat × Nat), 204 ≠ t → w.heap[g]? = some (Obj.cells cs t fz) → w'.heap[g]? = some (Obj.cells cs t fz)
theorem Keeps.refl (w : World) : Keeps w w := fun _ _ _ _ _ h => h
theorem Keeps.trans {a b c : World} (h : Keeps a b) (k : Keeps b c) : Keeps a c := fun g cs t fz ht hg => k g cs t fz ht (h g cs t fz ht hg)
theorem heap_lt {w : World} {g : Nat} {o : Obj} (h : w.heap[g]? = some o) : g < w.heap.size := by
  rcases Nat.lt_or_ge g w.heap.size with hlt | hge
  · exact hlt
  · rw [Array.getElem?_eq_none hge] at h; cases h
theorem Keeps.below {w w' : World} (hb : Below w.heap.size w w') : Keeps w w' := fun g _ _ _ _ hg => (hb.block g (heap_lt hg)).trans hg
theorem Keeps.alloc (w : World) (o : Obj) : Keeps w (w.alloc o) := Keeps.below ((Below.refl _ _).alloc (Nat.le_refl _) o)
theorem Keeps.own {w w' : World} {base : Nat} {v : Value} {l : List Ins} (h : OwnP w base v l) (hk : ∀ g, g < w.heap.size → v.ownBlock ≠ some g → w'.heap[g]? = w.heap[g]?) : Keeps w w' := fun g _ _ _ ht hg => (hk g (heap_lt hg) (own_apart h hg ht)).trans hg
theorem Keeps.only {w w' : World} {base g : Nat} {c n : Nat} {l : List Ins} (h : OwnP w base (.slice (some ⟨g, 0, none⟩) n c) l) (hk : w.grownBy w' (some g)) : Keeps w w' := fun k _ _ _ ht hg =>
  (hk.block k (heap_lt hg) (fun e => own_apart h hg ht e.symm)).trans hg
def TCodePost (t : Tree) (p : List Ins) (B : Nat) (w : World) (e : Ending) (w' : World) : Prop :=
  ∃ v' l, e = .returned v' ∧ Code t p.length l ∧ OwnP w' B v' (p ++ l) ∧ Below B w w' ∧ Keeps w w' ∧ w.heap.size ≤ w'.heap.size
def CodeC (t : Tree) : Prop := ∀ (A : Option Addr) (c : Nat) (w : World) (B : Nat) (v : Value) (p : List Ins), B ≤ w.heap.size → LK w B t.kids A → OwnP w B v p → p.length + 2 * nodes t ≤ 1000 →
  Calls Tryz.prog 128 #[v, argX t A c] w (TCodePost t p B w)
set_option maxRecDepth 100000 in
set_option maxHeartbeats 800000 in
theorem code_app (k : Int) (S : Set4) (x : Ins) (hk : (k = 1 ∨ k = 3) ∧ x = ⟨1, 0, 0, S⟩ ∨ k = 7 ∧ x = ⟨4, 0, 0, .zero⟩ ∨ k = 8 ∧ x = ⟨5, 0, 0, .zero⟩) (hc : ∀ at_, Code (.node k S []) at_ [x]) : CodeC (.node k S []) := by
  intro A c w B v p hB _ hO hn
  have HC := Lib.hid hc
  obtain ⟨A0, c0, rfl, _⟩ := hO.form
  have hO2 : ∀ o, OwnP (w.alloc o) B (.slice A0 p.length c0) p := fun o => hO.below ((Below.refl _ _).alloc (Nat.le_refl _) o)
  have hp : p.length ≤ 1000 := by omega
  have HB := Lib.hid hB
  unfold argX
  obtain ⟨a, b, c', d⟩ := S
  dsimp only [Tree.kind, Tree.set, Tree.kids, List.length_nil]
  clear hc hn hB
  rcases hk with ⟨rfl | rfl, rfl⟩ | ⟨rfl, rfl⟩ | ⟨rfl, rfl⟩
  all_goals
    go_enter Tryz.func128, Tryz.ntmps128
    go_wp2_with (at_builtin; refine wpList_append_p rfl _ _ rfl B _ p rfl (hO2 _) (by simp; exact Nat.le_succ_of_le HB.out) _ ⟨_, 0, 0, ⟨_, _, _, _⟩⟩ rfl (w.heap.size + 1) (by simp) 1 rfl (by omega) ?_; intro v' w' hO3 hb3 hk3 hz3)
    go_ret
    exact ⟨v', _, rfl, HC.out _, hO3, ((Below.refl _ _).alloc HB.out _).trans hb3, (Keeps.alloc _ _).trans (Keeps.own (hO2 _) hk3), by simp at hz3; omega⟩
theorem CodeC.call {t : Tree} (ih : CodeC t) {w : World} {B : Nat} {A : Option Addr} {c : Nat} (h : LT w B t (cellsX t.kind t.set A t.kids.length c)) :
    ∀ (W : World) (v : Value) (p : List Ins), B ≤ W.heap.size → Below B w W → OwnP W B v p → p.length + 2 * nodes t ≤ 1000 → Calls Tryz.prog 128 #[v, argX t A c] W (TCodePost t p B W) := fun W v p hB hb hO hn => by
  obtain ⟨A', c', e, _, hk⟩ := h.parts
  have e6 : Value.slice A t.kids.length c = .slice A' t.kids.length c' := by unfold cellsX at e; injection e with _ e; injection e with _ e; injection e with _ e; injection e with _ e; injection e with _ e; injection e with e
  injection e6 with e7 _ e8
  subst e7; subst e8
  exact ih A c W B v p hB (hk.below hb) hO hn
def boxX (k : Int) (a b c d : Int) (A : Option Addr) (n q : Nat) : Obj := .cells #[.int .i64 k, .int .u64 a, .int .u64 b, .int .u64 c, .int .u64 d, .slice A n q] 153
theorem box_keeps {w W : World} {k a b c d : Int} {A : Option Addr} {n q : Nat} (h : Keeps (w.alloc (boxX k a b c d A n q)) W) : W.cell? ⟨w.heap.size, 5, none⟩ = some (.slice A n q) ∧ W.cell? ⟨w.heap.size, 0, none⟩ = some (.int .i64 k) := by
  have h1 := h w.heap.size _ 153 (0, 0) (by decide) (heap_alloc_new w _)
  exact ⟨cell_of_row W w.heap.size 5 _ _ (0, 0) h1, cell_of_row W w.heap.size 0 _ _ (0, 0) h1⟩
theorem six_below {w W : World} {B b off : Nat} {t : Tree} {A : Option Addr} {c : Nat} (h : CellsAt w b off (cellsX t.kind t.set A t.kids.length c)) (hb : Below B w W) (hlt : b < B) : CellsAt W b off (cellsX t.kind t.set A t.kids.length c) :=
  fun j hj => (hb.cell (p := ⟨b, off + j, none⟩) hlt).trans (h j hj)
theorem code_empty (S : Set4) : CodeC (.node 2 S []) := by
  intro A c w B v p hB _ hO hn
  obtain ⟨A0, c0, rfl, _⟩ := hO.form
  have hO2 : ∀ o, OwnP (w.alloc o) B (.slice A0 p.length c0) (p ++ []) := fun o => by rw [List.append_nil]; exact hO.below ((Below.refl _ _).alloc (Nat.le_refl _) o)
  unfold argX
  obtain ⟨a, b, c', d⟩ := S
  dsimp only [Tree.kind, Tree.set, Tree.kids, List.length_nil]
  go_enter Tryz.func128, Tryz.ntmps128
  go_wp2_with fail
  go_ret
  exact ⟨_, [], rfl, .empty _ _, hO2 _, (Below.refl _ _).alloc hB _, Keeps.alloc _ _, by simp⟩
set_option maxRecDepth 100000 in
set_option maxHeartbeats 1600000 in
theorem code_cat (S : Set4) (ta tb : Tree) (iha : CodeC ta) (ihb : CodeC tb) : CodeC (.node 4 S [ta, tb]) := by
  intro A c w B v p hB hk hO hn
  obtain ⟨bb, off, ca, cb, rfl, hbb, hca, hla, hcb, hlb⟩ := LK.two hk
  obtain ⟨A1, c1, rfl, _, _⟩ := hla.parts
  obtain ⟨A2, c2, rfl, _, _⟩ := hlb.parts
  have HA := Lib.hid (iha.call hla)
  have HB := Lib.hid (ihb.call hlb)
  have HX := Lib.hid fun W hb => six_below hca (W := W) hb hbb
  have HY := Lib.hid fun W hb => six_below hcb (W := W) hb hbb
  simp only [nodes, nodesL] at hn
  obtain ⟨A0, c0, rfl, _⟩ := hO.form
  have hO2 : ∀ o, OwnP (w.alloc o) B (.slice A0 p.length c0) p := fun o => hO.below ((Below.refl _ _).alloc (Nat.le_refl _) o)
  have HBX : Hid (∀ k a b c d A n q W, Keeps (w.alloc (boxX k a b c d A n q)) W → _) := fun k a b c d A n q W h => box_keeps h
  unfold boxX at HBX
  unfold argX at HA HB ⊢
  obtain ⟨a, b, c', d⟩ := S
  dsimp only [Tree.kind, Tree.set, Tree.kids, List.length_nil, List.length_cons] at HBX ⊢
  clear hk iha ihb hla hlb
  go_enter Tryz.func128, Tryz.ntmps128
  obtain ⟨x0, x1, x2, x3, x4, x5⟩ := hca.six
  clear hca hcb
  have hq1 : bb < w.heap.size := by omega
  go_wp2_with fail
  refine (HA.out _ _ p (by simp; omega) ((Below.refl _ _).alloc hB _) (hO2 _) (by omega)).mono ?_
  rintro e w1 ⟨v1, la, rfl, hc1, hO1, hb1, hk1, hz1⟩
  have hbw1 := ((Below.refl B w).alloc hB _).trans hb1
  have hkk := hk1
  obtain ⟨f5, f0⟩ := HBX.out _ _ _ _ _ _ _ _ _ hk1
  obtain ⟨y0, y1, y2, y3, y4, y5⟩ := (HY.out _ hbw1).six
  have hll := code_len hc1
  have hz1' : w.heap.size + 1 ≤ w1.heap.size := by simpa using hz1
  clear x0 x1 x2 x3 x4 x5 hb1 hk1 hz1
  go_wp2_with fail
  refine (HB.out _ _ (p ++ la) (by omega) hbw1 hO1 (by rw [List.length_append]; omega)).mono ?_
  rintro e w2 ⟨v2, lb, rfl, hc2, hO2', hb2, hk2, hz2⟩
  clear y0 y1 y2 y3 y4 y5 f0 f5
  go_wp2_with fail
  go_ret
  rw [List.length_append] at hc2
  exact ⟨v2, la ++ lb, rfl, .cat _ _ _ _ _ _ hc1 hc2, by rw [← List.append_assoc]; exact hO2', hbw1.trans hb2, ((Keeps.alloc _ _).trans hkk).trans hk2, by omega⟩
end Go.Proofs.YtdkbfljhfhjofaaGreatDoor
namespace Go.Proofs.YtdkbfljhfhjofaaGreatDoor
open Go.RowKit
theorem OwnP.drewN {w : World} {base : Nat} {v : Value} {l : List Ins} (h : OwnP w base v l) (n : Nat) : OwnP (w.drewN n) base v l := h
theorem OwnP.drew {w : World} {base : Nat} {v : Value} {l : List Ins} (h : OwnP w base v l) : OwnP w.drew base v l := h
theorem OwnP.spot {w : World} {base g c : Nat} {l : List Ins} (h : OwnP w base (.slice (some ⟨g, 0, none⟩) l.length c) l) (k : Nat) (hk : k < l.length) (j : Nat) (hj : j < 7) :
    w.cell? ⟨g, k * 7 + j, none⟩ = (cellsP l[k])[j]? ∧ w.frozen? ⟨g, k * 7 + j, none⟩ = false := by
  refine ⟨?_, World.ownsRow.frozenAt h _⟩
  have h1 := flat_at cellsP 7 cellsP_len l k j hk hj
  have hl := flat_len cellsP 7 cellsP_len l
  have h2 : k * 7 + j < (l.flatMap cellsP).length := by omega
  have := World.ownsRow.cells (g := g) h (by simp [Value.ownBlock]) (k * 7 + j) _ (List.getElem?_eq_getElem h2)
  rw [addr_add] at this
  rw [this, ← List.getElem?_eq_getElem h2, h1]
theorem OwnP.ab {w : World} {base g c : Nat} {l : List Ins} (h : OwnP w base (.slice (some ⟨g, 0, none⟩) l.length c) l) (k : Nat) (hk : k < l.length) :
    (w.cell? ⟨g, k * 7 + 1, none⟩ = some (.int .i64 l[k].a) ∧ w.cell? ⟨g, k * 7 + 2, none⟩ = some (.int .i64 l[k].b)) ∧ w.frozen? ⟨g, k * 7 + 1, none⟩ = false ∧ w.frozen? ⟨g, k * 7 + 2, none⟩ = false :=
  ⟨⟨(h.spot k hk 1 (by decide)).1, (h.spot k hk 2 (by decide)).1⟩, (h.spot k hk 1 (by decide)).2, (h.spot k hk 2 (by decide)).2⟩
theorem star_list (p la : List Ins) (n : Nat) (k : Int) (hn : n = p.length) : (p ++ [(⟨2, (n : Int) + 1, 0, .zero⟩ : Ins)] ++ la ++ [(⟨3, (n : Int), 0, .zero⟩ : Ins)]).set n ⟨2, (n : Int) + 1, k, .zero⟩ =
    p ++ ((⟨2, (n : Int) + 1, k, .zero⟩ : Ins) :: (la ++ [⟨3, (n : Int), 0, .zero⟩])) := by
  subst hn
  rw [List.append_assoc, List.append_assoc, List.set_append_right _ _ (Nat.le_refl _), Nat.sub_self]
  rfl
theorem star_at (p la : List Ins) (x y : Ins) (h : p.length < (p ++ [x] ++ la ++ [y]).length) : (p ++ [x] ++ la ++ [y])[p.length] = x := by
  simp
theorem Keeps.undrew {w w' : World} (h : Keeps w.drew w') : Keeps w w' := h
set_option maxRecDepth 100000 in
set_option maxHeartbeats 1600000 in
theorem code_star (S : Set4) (ta : Tree) (iha : CodeC ta) : CodeC (.node 6 S [ta]) := by
  intro A c w B v p hB hk hO hn
  obtain ⟨bb, off, ca, rfl, hbb, hca, hla⟩ := LK.one hk
  obtain ⟨A1, c1, rfl, _, _⟩ := hla.parts
  have HA := Lib.hid (iha.call hla)
  have HX := Lib.hid fun W hb => (six_below hca (W := W) hb hbb).six
  simp only [nodes, nodesL] at hn
  obtain ⟨A0, c0, rfl, _⟩ := hO.form
  have hO2 : ∀ o, OwnP (w.alloc o) B (.slice A0 p.length c0) p := fun o => hO.below ((Below.refl _ _).alloc (Nat.le_refl _) o)
  have HBX : Hid (∀ k a b c d A n q W, Keeps (w.alloc (boxX k a b c d A n q)) W → _) := fun k a b c d A n q W h => (box_keeps h).1
  unfold boxX at HBX
  unfold argX at HA ⊢
  obtain ⟨a, b, c', d⟩ := S
  dsimp only [Tree.kind, Tree.set, Tree.kids, List.length_nil, List.length_cons] at HBX ⊢
  clear hk iha hla
  have hHA := Lib.hid hO
  have i1 : IntKind.i64.wrap ((p.length : Int) + 1) = (p.length : Int) + 1 := IntWalk.i64_in _ (by omega)
  go_enter Tryz.func128, Tryz.ntmps128
  obtain ⟨x0, x1, x2, x3, x4, x5⟩ := hca.six
  clear hca
  have hq1 : bb < w.heap.size := by omega
  go_wp2_with fail
  have hbA : ∀ o, B ≤ (w.alloc o).heap.size := fun o => by simp; omega
  have HS := Lib.hid fun W hk hb => And.intro (HBX.out 6 a b c' d (some ⟨bb, off, none⟩) 1 c W hk) (HX.out W hb)
  go_region_held3 (fun w' => w'.cell? ⟨w.heap.size, 5, none⟩ = some (.slice (some ⟨bb, off, none⟩) 1 c) ∧ w'.cell? ⟨bb, off, none⟩ = some (.int .i64 ta.kind) ∧ w'.cell? ⟨bb, off + 1, none⟩ = some (.int .u64 ta.set.a) ∧ w'.cell? ⟨bb, off + 2, none⟩ = some (.int .u64 ta.set.b) ∧
      w'.cell? ⟨bb, off + 3, none⟩ = some (.int .u64 ta.set.c) ∧ w'.cell? ⟨bb, off + 4, none⟩ = some (.int .u64 ta.set.d) ∧ w'.cell? ⟨bb, off + 5, none⟩ = some (.slice A1 ta.kids.length c1))
    (first | exact HS.out _ (hkk8.trans hk1) (hbb8.trans hb1) | exact HS.out _ hkk8 hbb8 | go_keep)
    (first
      | (refine step_append_p rfl (.tmp 85) (.tmp 89) rfl B (.slice A0 p.length c0) p rfl (hO2 _).drew (hbA _) _ ⟨2, (p.length : Int) + 1, 0, .zero⟩ rfl (w.heap.size + 1) (by simp) 1 rfl (by omega) ?_; intro v8 w8 hO8 hb8 hk8 hz8; have hkk8 := Keeps.undrew (Keeps.own (hO2 _).drew hk8); have hbb8 : Below B w w8 := ((Below.refl B w).alloc hB _).drew.trans hb8)
      | (go_at_call 128; (with_reducible refine (HA.out w8 v8 (p ++ [⟨2, (p.length : Int) + 1, 0, .zero⟩]) (Nat.le_trans hB hbb8.size) hbb8 hO8 (by rw [List.length_append, List.length_singleton]; omega)).mono ?_); rintro e w1 ⟨v1, la, rfl, hc1, hO1, hb1, hk1, hz1⟩))
  rw [List.length_append, List.length_singleton] at hc1
  have hll := code_len hc1
  have hbw1 := hbb8.trans hb1
  have hkw1 := hkk8.trans hk1
  clear HA HS HX HBX hb1 hk1 hb8 hk8 x0 x1 x2 x3 x4 x5 hO8 hbA
  have hzz := hbw1.size
  have hB1 : B ≤ w1.heap.size := Nat.le_trans hB hbw1.size
  obtain ⟨A1', c1', rfl, _⟩ := hO1.form
  have hl1 : (p ++ [(⟨2, (p.length : Int) + 1, 0, .zero⟩ : Ins)] ++ la).length = p.length + 1 + la.length := by simp; omega
  have HM : Hid (∀ k, ((p ++ [(⟨2, (p.length : Int) + 1, 0, .zero⟩ : Ins)] ++ la ++ [(⟨3, (p.length : Int), 0, .zero⟩ : Ins)]).set p.length ⟨2, (p.length : Int) + 1, k, .zero⟩) = p ++ ((⟨2, (p.length : Int) + 1, k, .zero⟩ : Ins) :: (la ++ [⟨3, (p.length : Int), 0, .zero⟩]))) := Lib.hid fun k => star_list p la _ k rfl
  have HM2 : Hid (∀ h, (p ++ [(⟨2, (p.length : Int) + 1, 0, .zero⟩ : Ins)] ++ la ++ [(⟨3, (p.length : Int), 0, .zero⟩ : Ins)])[p.length]'h = ⟨2, (p.length : Int) + 1, 0, .zero⟩) := fun h => star_at p la _ _ h
  have HM3 : Hid ((p ++ [(⟨2, (p.length : Int) + 1, 0, .zero⟩ : Ins)] ++ la ++ [(⟨3, (p.length : Int), 0, .zero⟩ : Ins)]).length = p.length + 1 + la.length + 1) := Lib.hid (by simp; omega)
  generalize hL : p ++ [(⟨2, (p.length : Int) + 1, 0, .zero⟩ : Ins)] ++ la ++ [(⟨3, (p.length : Int), 0, .zero⟩ : Ins)] = L at HM HM2 HM3
  go_wp2_with (at_builtin; refine wpList_append_p rfl _ _ rfl B _ (p ++ [⟨2, (p.length : Int) + 1, 0, .zero⟩] ++ la) rfl hO1 hB1 _ ⟨3, p.length, 0, .zero⟩ rfl w1.heap.size rfl 1 rfl (by rw [hl1]; omega) ?_; intro v2 w2 hO3 hb2 hk2 hz2; rw [hL] at hO3; have hL1 : p.length < L.length := (by rw [HM3.out]; omega); have hL2 : (p.length : Int) < (L.length : Int) := (by omega); obtain ⟨gq, cq, rfl, hgb, hgl⟩ := hO3.head (by omega); have ⟨⟨_, hq2⟩, _, hf2⟩ := hO3.ab p.length hL1)
  go_ret
  have hst := hO3.setAB p.length hL1 2 (by decide) (.int .i64 (L.length : Int)) ⟨2, (p.length : Int) + 1, ((p.length + 1 + la.length + 1 : Nat) : Int), .zero⟩ (by rw [HM2.out, HM3.out]; rfl)
  rw [HM.out] at hst
  exact ⟨_, _, rfl, .star _ _ _ _ hc1, hst.1, (hbw1.trans hb2).setCell hgb _, (((Keeps.alloc _ _).trans hkw1).trans (Keeps.own hO1 hk2)).trans (Keeps.only hO3 hst.2), by simp; omega⟩
end Go.Proofs.YtdkbfljhfhjofaaGreatDoor
