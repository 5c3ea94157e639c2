/- Part 2 of the proof: lemmas and walks that the last texts use. -/
import Derived.Test.YtdkbfljhfhjofaaGreatDoorProg
import Derived.WalkKit
import Derived.WalkSpells
import Derived.WalkLawsBesides
import Derived.Lib.Hide
import Derived.StillTailTactics
import Derived.Deep.RegionLaw
import Derived.Deep.Draws
import Derived.Deep.Slices
import Derived.Deep.Fields
import Derived.ChangeSame
import Derived.Lib.SmallJoins
import Derived.SizedLaws
namespace Go.Proofs.YtdkbfljhfhjofaaGreatDoor
open Go.RowKit
theorem ret_int {k : IntKind} {a b : Int} (h : a = b) : Ending.returned (.int k a) = .returned (.int k b) := by rw [h]
theorem ret_str {a b : ByteArray} (h : a = b) : Ending.returned (.string a) = .returned (.string b) := by rw [h]
theorem ret_bool {a b : Bool} (h : a = b) : Ending.returned (.bool a) = .returned (.bool b) := by rw [h]
def bs (l : List UInt8) : ByteArray := ⟨l.toArray⟩
theorem bs_toList (l : List UInt8) : (bs l).data.toList = l := rfl
theorem bs_eta (s : ByteArray) : bs s.data.toList = s := rfl
theorem bs_size (l : List UInt8) : (bs l).size = l.length := rfl
theorem bs_list (l : List UInt8) : (bs l).toList = l := by rw [ByteArray.toList_eq]; rfl
theorem bs_append (a b : List UInt8) : bs a ++ bs b = bs (a ++ b) := by
  show (bs a).append (bs b) = _
  apply ByteArray.ext
  have h : ((bs a) ++ (bs b)).data = (bs a).data ++ (bs b).data := by simp
  exact h.trans (by simp [bs])
attribute [go_sem] bs_size bs_list bs_toList bs_append
theorem all_bytes {p : UInt8 → Bool} (h : (List.range 256).all (fun n => p (UInt8.ofNat n)) = true) (b : UInt8) : p b = true := by
  have := List.all_eq_true.1 h b.toNat (List.mem_range.2 b.toNat_lt)
  simpa using this
def byteV (b : UInt8) : Value := .int .u8 b.toNat
theorem drop_cons (s : ByteArray) (k : Nat) (h : k < s.size) : s.data.toList.drop k = s[k] :: s.data.toList.drop (k + 1) := by
  rw [List.drop_eq_getElem_cons (by simpa using h)]; rfl
theorem take_snoc (s : ByteArray) (k : Nat) (h : k < s.size) : s.data.toList.take (k + 1) = s.data.toList.take k ++ [s[k]] := by
  rw [List.take_succ_eq_append_getElem (by simpa using h)]; rfl
/-- A block of the call's own whose first cells are these bytes, none of them frozen. -/
def BytesAt (w : World) (g : Nat) (l : List UInt8) : Prop :=
  g < w.heap.size ∧ ∀ j (hj : j < l.length), w.cell? ⟨g, j, none⟩ = some (.int .u8 (l[j].toNat : Int)) ∧ w.frozen? ⟨g, j, none⟩ = false
theorem BytesAt.cell {w : World} {g : Nat} {l : List UInt8} (h : BytesAt w g l) {j : Nat} (hj : j < l.length) : w.cell? ⟨g, j, none⟩ = some (.int .u8 (l[j].toNat : Int)) := (h.2 j hj).1
theorem BytesAt.free {w : World} {g : Nat} {l : List UInt8} (h : BytesAt w g l) {j : Nat} (hj : j < l.length) : w.frozen? ⟨g, j, none⟩ = false := (h.2 j hj).2
theorem BytesAt.below {w w' : World} {B g : Nat} {l : List UInt8} (h : BytesAt w g l) (hb : Below B w w') (hg : g < B) : BytesAt w' g l :=
  ⟨Nat.lt_of_lt_of_le h.1 hb.size, fun j hj => ⟨(hb.cell (p := ⟨g, j, none⟩) hg).trans (h.cell hj), (hb.frozen (p := ⟨g, j, none⟩) hg).trans (h.free hj)⟩⟩
theorem BytesAt.set {w : World} {g : Nat} {l : List UInt8} (h : BytesAt w g l) {k : Nat} (hk : k < l.length) (x : UInt8) : BytesAt (w.setCell ⟨g, k, none⟩ (.int .u8 x.toNat)) g (l.set k x) := by
  refine ⟨by simpa [World.setCell] using h.1, fun j hj => ?_⟩
  have hj' : j < l.length := by simpa using hj
  by_cases e : k = j
  · subst e
    refine ⟨?_, by rw [World.frozen?_setCell]; exact h.free hk⟩
    rw [World.cell?_setCell_same _ _ _ (h.cell hk)]
    simp
  · refine ⟨?_, by rw [World.frozen?_setCell]; exact h.free hj'⟩
    rw [World.cell?_setCell_other _ _ _ _ (by intro q; cases q; exact e rfl), h.cell hj']
    simp [e]
theorem addr_add (g j : Nat) : (⟨g, 0, none⟩ : Addr).add j = ⟨g, j, none⟩ := by unfold Addr.add; split <;> simp_all
/-- The string of a row of the call's own. -/
theorem run_string_of_own {P : Program} {w : World} {base n : Nat} {v : Value} {l : List UInt8} (src dst e : TypeId) (h : w.ownsRow base e 1 v n (l.map byteV))
    (hs : P.underlying src = some (.slice e)) (he : P.underlying e = some (.int .u8)) (hd : P.underlying dst = some .string) :
    (convert src dst v).run P w = .ok (.string (bs l)) w := by
  have hlen : n = l.length := by have := h.1; simp at this; omega
  rcases h.2 with ⟨rfl, h0⟩ | ⟨g, cap, cur, rfl, hb, hg, hnc, hcm, hcs, htake⟩
  · have : l = [] := List.eq_nil_of_length_eq_zero (by omega)
    subst this
    exact run_convert_bytes_nil w src e hs he 0 0 dst hd
  · subst hlen
    refine run_convert_bytes_back w src dst e ⟨g, 0, none⟩ cap l hs he hd (fun j hj => ?_)
    exact h.cells (g := g) rfl j _ (by simp [List.getElem?_eq_getElem hj, byteV])
theorem ext_bs {x : ByteArray} {l : List UInt8} (h : x.data.toList = l) : x = bs l := by subst h; rfl
theorem cells_new (w : World) (vs : List Value) (t : TypeId) : ∀ j u, vs[j]? = some u → (w.alloc (.cells vs.toArray t)).cell? ((⟨w.heap.size, 0, none⟩ : Addr).add j) = some u := fun j u h => by
  rw [addr_add, cell_of_row (w.alloc (.cells vs.toArray t)) w.heap.size j vs.toArray t (0, 0) (heap_alloc_new w _)]
  simpa using h
/-- A row of bytes of the call's own. -/
def OwnB (w : World) (base : Nat) (v : Value) (l : List UInt8) : Prop := w.ownsRow base 5 1 v l.length (l.map byteV)
theorem OwnB.nil (w : World) (base : Nat) : OwnB w base (.slice none 0 0) [] := World.ownsRow_nil w base 5 1
theorem OwnB.string {w : World} {base : Nat} {v : Value} {l : List UInt8} (h : OwnB w base v l) : (convert 59 9 v).run Tryz.prog w = .ok (.string (bs l)) w :=
  run_string_of_own 59 9 5 h Tryz.underlying59 Tryz.underlying5 Tryz.underlying9
theorem OwnB.drew {w : World} {base : Nat} {v : Value} {l : List UInt8} (h : OwnB w base v l) : OwnB w.drew base v l := h
theorem info_u8 : (Tryz.prog.info? 5).map (fun i => (i.zero, i.size, i.bytes)) = some (some (.int .u8 0), 1, 1) := by kernel_rfl
section
variable {P : Program} {ops : Array Oper} {rest : List Oper} {o : Oper} {a : Act} {Q : Exit → Act → World → Prop} {w : World}
/-- append of a list that was just built, onto a row of the call's own. -/
theorem wp_append_new {K : Act → World → Prop} (s x : Operand) (t : TypeId) (ho : o.op = .call { callee := .builtin .append, args := #[s, x], argTypes := #[t, t] })
    (base : Nat) (e : TypeId) (i : TypeInfo) (z : Value) (size bytes : Nat) (ht : P.underlying t = some (.slice e)) (hi : P.info? e = some i) (hz : i.zero = some z)
    (hsize : i.size = size) (hby : i.bytes = bytes) (hzs : z.cells.size = size) (hsz : 0 < size)
    (v : Value) (n : Nat) (xs : List Value) (hs : a.eval s = v) (hown : w.ownsRow base e size v n xs) (hbase : base ≤ w.heap.size)
    (vs : List Value) (m c : Nat) (hx : a.eval x = .slice (some ⟨w.heap.size, 0, none⟩) m c) (hl : vs.length = m * size) (h1 : ∀ u ∈ vs, u.oneCell' = true)
    (h63 : n + m ≤ maxLen) (hbytes : (n + m) * bytes ≤ 140737488355328)
    (h : ∀ v' w', w'.ownsRow base e size v' (n + m) (xs ++ vs) → Below base w w' → base ≤ w'.heap.size → K (a.put o.dst v') w') :
    o.wp P a (w.alloc (.cells vs.toArray e)) K Q := by
  have hown2 := hown.alloc (.cells vs.toArray e)
  refine wp_append_own (P := P) (w.alloc (.cells vs.toArray e)) s x t ho base e i z size bytes ht hi hz hsize hby hzs hsz v n xs hs hown2 ⟨w.heap.size, 0, none⟩ m c vs hx hl (cells_new w vs e) h1 h63 hbytes (by simp; omega) ?_
  intro v' w' ho' hg _
  have hb1 : Below base w (w.alloc (.cells vs.toArray e)) := (Below.refl _ _).alloc hbase _
  have hb2 := hb1.grown hg (by simp; omega) (fun k hk => (hown.lt k hk).1)
  exact h v' w' ho' hb2 (Nat.le_trans hbase hb2.size)
end
section
variable {ops : Array Oper} {rest : List Oper} {o : Oper} {a : Act} {Q : Exit → Act → World → Prop} {w : World}
theorem wp_append_b {K : Act → World → Prop} (s x : Operand) (ho : o.op = .call { callee := .builtin .append, args := #[s, x], argTypes := #[59, 59] })
    (base : Nat) (v : Value) (l : List UInt8) (hs : a.eval s = v) (hown : OwnB w base v l) (hbase : base ≤ w.heap.size)
    (vs : List Value) (news : List UInt8) (hv : vs = news.map byteV) (m c : Nat) (hx : a.eval x = .slice (some ⟨w.heap.size, 0, none⟩) m c) (hl : news.length = m)
    (hbytes : l.length + m ≤ 140737488355328)
    (h : ∀ v' w', OwnB w' base v' (l ++ news) → Below base w w' → base ≤ w'.heap.size → K (a.put o.dst v') w') :
    o.wp Tryz.prog a (w.alloc (.cells vs.toArray 5)) K Q := by
  subst hv; subst hl
  obtain ⟨i0, hi, hz0, hz1, hz2⟩ := info_parts info_u8
  refine wp_append_new s x 59 ho base 5 i0 (.int .u8 0) 1 1 Tryz.underlying59 hi hz0 hz1 hz2 rfl (by decide) v l.length (l.map byteV) hs hown hbase (news.map byteV) news.length c hx (by simp)
    (fun u hu => by obtain ⟨b, _, rfl⟩ := List.mem_map.1 hu; rfl) (by unfold maxLen; omega) (by omega) ?_
  intro v' w' ho' hb hbs
  exact h v' w' (by unfold OwnB; rw [List.length_append, List.map_append]; exact ho') hb hbs
theorem wpList_append_b (hgd : o.guard = none) (s x : Operand) (ho : o.op = .call { callee := .builtin .append, args := #[s, x], argTypes := #[59, 59] })
    (base : Nat) (v : Value) (l : List UInt8) (hs : a.eval s = v) (hown : OwnB w base v l) (hbase : base ≤ w.heap.size)
    (vs : List Value) (news : List UInt8) (hv : vs = news.map byteV) (m c : Nat) (hx : a.eval x = .slice (some ⟨w.heap.size, 0, none⟩) m c) (hl : news.length = m)
    (hbytes : l.length + m ≤ 140737488355328)
    (h : ∀ v' w', OwnB w' base v' (l ++ news) → Below base w w' → base ≤ w'.heap.size → wpList Tryz.prog ops Q rest (a.put o.dst v') w') :
    wpList Tryz.prog ops Q (o :: rest) a (w.alloc (.cells vs.toArray 5)) :=
  wpList_plain hgd fun _ hK => wp_append_b s x ho base v l hs hown hbase vs news hv m c hx hl hbytes fun v' w' h1 h2 h3 => hK _ _ (h v' w' h1 h2 h3)
theorem step_append_b {K : Act → World → Prop} {E : Prop} (hgd : o.guard = none) (s x : Operand) (ho : o.op = .call { callee := .builtin .append, args := #[s, x], argTypes := #[59, 59] })
    (base : Nat) (v : Value) (l : List UInt8) (hs : a.eval s = v) (hown : OwnB w base v l) (hbase : base ≤ w.heap.size)
    (vs : List Value) (news : List UInt8) (hv : vs = news.map byteV) (m c : Nat) (hx : a.eval x = .slice (some ⟨w.heap.size, 0, none⟩) m c) (hl : news.length = m)
    (hbytes : l.length + m ≤ 140737488355328)
    (h : ∀ v' w', OwnB w' base v' (l ++ news) → Below base w w' → base ≤ w'.heap.size → K (a.put o.dst v') w') :
    if Region.wanted o (yielded ops a.tmps) = true then Oper.wp Tryz.prog o a (w.alloc (.cells vs.toArray 5)) K Q else E := by
  have hw : Region.wanted o (yielded ops a.tmps) = true := by simp [Region.wanted, hgd]
  rw [if_pos hw]
  exact wp_append_b s x ho base v l hs hown hbase vs news hv m c hx hl hbytes h
end
end Go.Proofs.YtdkbfljhfhjofaaGreatDoor
namespace Go.Proofs.YtdkbfljhfhjofaaGreatDoor
open Go.RowKit
/-- The slice that begins at A, of n elements of so many cells each, reads as these cells, and lies in a block below B. -/
structure Sl (w : World) (B size : Nat) (A : Option Addr) (n : Nat) (xs : List Value) : Prop where
  len : xs.length = n * size
  src : 0 < xs.length → ∃ b off, A = some ⟨b, off, none⟩ ∧ b < B ∧ ∀ j (h : j < xs.length), w.cell? ⟨b, off + j, none⟩ = some xs[j]
theorem Sl.nil (w : World) (B size : Nat) (A : Option Addr) : Sl w B size A 0 [] := ⟨by simp, fun h => absurd h (by simp)⟩
theorem Sl.keep {w w' : World} {B size n : Nat} {A : Option Addr} {xs : List Value} (h : Sl w B size A n xs) (hk : ∀ b o, b < B → w'.cell? ⟨b, o, none⟩ = w.cell? ⟨b, o, none⟩) : Sl w' B size A n xs :=
  ⟨h.len, fun hp => by
    obtain ⟨b, off, e, hb, hc⟩ := h.src hp
    exact ⟨b, off, e, hb, fun j hj => (hk b _ hb).trans (hc j hj)⟩⟩
theorem Sl.below {w w' : World} {B size n : Nat} {A : Option Addr} {xs : List Value} (h : Sl w B size A n xs) (hb : Below B w w') : Sl w' B size A n xs :=
  h.keep fun b o hp => hb.cell (p := ⟨b, o, none⟩) hp
theorem Sl.more {w : World} {B B' size n : Nat} {A : Option Addr} {xs : List Value} (h : Sl w B size A n xs) (hB : B ≤ B') : Sl w B' size A n xs :=
  ⟨h.len, fun hp => by
    obtain ⟨b, off, e, hb, hc⟩ := h.src hp
    exact ⟨b, off, e, by omega, hc⟩⟩
theorem Sl.drewN {w : World} {B size n : Nat} {A : Option Addr} {xs : List Value} (h : Sl w B size A n xs) (q : Nat) : Sl (w.drewN q) B size A n xs := h.keep fun _ _ _ => rfl
theorem Sl.alloc {w : World} {B size n : Nat} {A : Option Addr} {xs : List Value} (h : Sl w B size A n xs) (hB : B ≤ w.heap.size) (o : Obj) : Sl (w.alloc o) B size A n xs :=
  h.below ((Below.refl _ _).alloc hB _)
theorem Sl.set {w : World} {B size n : Nat} {A : Option Addr} {xs : List Value} (h : Sl w B size A n xs) {p : Addr} (hB : B ≤ p.block) (u : Value) : Sl (w.setCell p u) B size A n xs :=
  h.below ((Below.refl _ _).setCell hB _)
theorem new_cell {W w' : World} {cs : Array Value} {t : TypeId} (hb : Below (W.alloc (.cells cs t)).heap.size (W.alloc (.cells cs t)) w') (j : Nat) : w'.cell? ⟨W.heap.size, j, none⟩ = cs[j]? :=
  (hb.cell (p := ⟨W.heap.size, j, none⟩) (by simp)).trans (cell_of_row (W.alloc (.cells cs t)) W.heap.size j cs t (0, 0) (heap_alloc_new W _))
theorem free_kept {W W' : World} (hb : Below W.heap.size W W') {p : Addr} {x : Value} (h : W.cell? p = some x) (hf : W.frozen? p = false) : W'.frozen? p = false := (hb.frozen (World.block_lt_of_cell? W p h)).trans hf
theorem undrew {B : Nat} {W w' : World} (hb : Below B W.drew w') : Below B W w' := ⟨hb.os, hb.tape, hb.output, hb.size, hb.block⟩
theorem below_new {B : Nat} {W w' : World} {o : Obj} (hb : Below (W.alloc o).heap.size (W.alloc o) w') (hB : B ≤ W.heap.size) : Below B W w' :=
  ((Below.refl B W).alloc hB o).trans (hb.mono (by simp; omega))
theorem cell_kept {W W' : World} (hb : Below W.heap.size W W') {p : Addr} {x : Value} (h : W.cell? p = some x) : W'.cell? p = some x := (hb.cell (World.block_lt_of_cell? W p h)).trans h
theorem ownsRow_below {w w' : World} {base : Nat} {e : TypeId} {size : Nat} {v : Value} {n : Nat} {xs : List Value} (h : w.ownsRow base e size v n xs) (hb : Below w.heap.size w w') : w'.ownsRow base e size v n xs := by
  refine ⟨h.1, ?_⟩
  rcases h.2 with h0 | ⟨g, cap, cur, h1, h2, h3, h4⟩
  · exact .inl h0
  · exact .inr ⟨g, cap, cur, h1, h2, (hb.block g (h.lt g (by rw [h1]; rfl)).2).trans h3, h4⟩
theorem Sl.lit {W : World} {cs : Array Value} {t : TypeId} {g B n size : Nat} {xs : List Value} (hg : W.heap.size = g) (hB : g < B) (hx : cs.toList = xs) (h : xs.length = n * size) : Sl (W.alloc (.cells cs t)) B size (some ⟨g, 0, none⟩) n xs := by
  subst hg; subst hx
  exact ⟨h, fun _ => ⟨_, 0, rfl, hB, fun j hj => by rw [Nat.zero_add, cell_of_row (W.alloc (.cells cs t)) W.heap.size j cs t (0, 0) (heap_alloc_new W _)]; simp [Array.getElem?_eq_getElem (by simpa using hj : j < cs.size)]⟩⟩
theorem two_set {w : World} {g : Nat} {x' y' : Value} (x y : Value) (h0 : w.cell? ⟨g, 0, none⟩ = some x') (h1 : w.cell? ⟨g, 1, none⟩ = some y') :
    ((w.setCell ⟨g, 0, none⟩ x).setCell ⟨g, 1, none⟩ y).cell? ⟨g, 0, none⟩ = some x ∧ ((w.setCell ⟨g, 0, none⟩ x).setCell ⟨g, 1, none⟩ y).cell? ⟨g, 1, none⟩ = some y := by
  have n1 : (⟨g, 1, none⟩ : Addr) ≠ ⟨g, 0, none⟩ := by intro e; cases e
  refine ⟨?_, ?_⟩
  · rw [World.cell?_setCell_other _ _ _ _ n1, World.cell?_setCell_same _ _ _ h0]
  · exact World.cell?_setCell_same (w.setCell ⟨g, 0, none⟩ x) _ _ ((World.cell?_setCell_other _ _ _ _ (Ne.symm n1)).trans h1)
theorem box_facts {w W' : World} {cs : Array Value} {t : TypeId} (hb : Below (w.heap.size + 1) (w.alloc (.cells cs t)) W') : (∀ j, W'.cell? ⟨w.heap.size, j, none⟩ = cs[j]?) ∧ Below w.heap.size w W' := by
  have hb' : Below (w.alloc (.cells cs t)).heap.size (w.alloc (.cells cs t)) W' := by simpa using hb
  exact ⟨fun j => new_cell hb' j, below_new hb' (Nat.le_refl _)⟩
/-- What a function hands back that makes a row of its own. -/
def RowIs (e : TypeId) (size n : Nat) (xs : List Value) (w : World) (r : Ending) (w' : World) : Prop := ∃ v, r = .returned v ∧ w'.ownsRow w.heap.size e size v n xs ∧ Below w.heap.size w w'
/-- A row of strings of the call's own. -/
def OwnS (w : World) (base : Nat) (v : Value) (l : List ByteArray) : Prop := w.ownsRow base 9 1 v l.length (l.map Value.string)
theorem OwnS.nil (w : World) (base : Nat) : OwnS w base (.slice none 0 0) [] := World.ownsRow_nil w base 9 1
theorem OwnS.form {w : World} {base : Nat} {v : Value} {l : List ByteArray} (h : OwnS w base v l) : ∃ A c, v = .slice A l.length c ∧ Sl w w.heap.size 1 A l.length (l.map Value.string) := by
  rcases h.2 with ⟨h1, h2⟩ | ⟨g, cap, cur, h1, hb, hg, _⟩
  · have : l = [] := List.eq_nil_of_length_eq_zero h2
    subst this
    exact ⟨none, 0, h1, Sl.nil _ _ _ _⟩
  · refine ⟨_, _, h1, by simp, fun hp => ⟨g, 0, rfl, ?_, fun j hj => ?_⟩⟩
    · exact ((h.lt g (by rw [h1]; simp [Value.ownBlock])).2)
    · have := World.ownsRow.cells (g := g) h (by rw [h1]; simp [Value.ownBlock]) j _ (List.getElem?_eq_getElem hj)
      rw [addr_add] at this
      rw [Nat.zero_add]
      exact this
theorem OwnS.below {w w' : World} {base : Nat} {v : Value} {l : List ByteArray} (h : OwnS w base v l) (hb : Below w.heap.size w w') : OwnS w' base v l := ownsRow_below h hb
theorem OwnS.later {w w' : World} {base : Nat} {v : Value} {l : List ByteArray} {o : Obj} (h : OwnS w base v l) (hb : Below (w.alloc o).heap.size (w.alloc o) w') : OwnS w' base v l := ownsRow_below h (below_new hb (Nat.le_refl _))
theorem OwnS.sl {w : World} {base : Nat} {A : Option Addr} {n c : Nat} {l : List ByteArray} (h : OwnS w base (.slice A n c) l) : Sl w w.heap.size 1 A l.length (l.map Value.string) := by
  obtain ⟨A', c', e, hs⟩ := h.form
  injection e with e1 e2 e3
  subst e1
  exact hs
theorem OwnS.far {w : World} {base g : Nat} {v : Value} {l : List ByteArray} (h : OwnS w base v l) (hne : ∀ k, v.ownBlock = some k → k ≠ g) (j : Nat) (x : Value) : OwnS (w.setCell ⟨g, j, none⟩ x) base v l :=
  ownsRow_setCell_other (a := ⟨g, j, none⟩) h (fun e => hne g e rfl) x
theorem OwnS.lt {w : World} {base : Nat} {v : Value} {l : List ByteArray} (h : OwnS w base v l) : ∀ k, v.ownBlock = some k → base ≤ k ∧ k < w.heap.size := World.ownsRow.lt h
theorem info_str : (Tryz.prog.info? 9).map (fun i => (i.zero, i.size, i.bytes)) = some (some (.string ByteArray.empty), 1, 16) := by kernel_rfl
section
variable {ops : Array Oper} {rest : List Oper} {o : Oper} {a : Act} {Q : Exit → Act → World → Prop} {w : World}
/-- append of a list that was just built, onto a row of the call's own: besides, what other blocks hold stays. -/
theorem wp_append_kept {K : Act → World → Prop} (s x : Operand) (t : TypeId) (ho : o.op = .call { callee := .builtin .append, args := #[s, x], argTypes := #[t, t] })
    (base : Nat) (e : TypeId) (i : TypeInfo) (z : Value) (size bytes : Nat) (ht : Tryz.prog.underlying t = some (.slice e)) (hi : Tryz.prog.info? e = some i) (hz : i.zero = some z)
    (hsize : i.size = size) (hby : i.bytes = bytes) (hzs : z.cells.size = size) (hsz : 0 < size)
    (v : Value) (n : Nat) (xs : List Value) (hs : a.eval s = v) (hown : w.ownsRow base e size v n xs) (hbase : base ≤ w.heap.size)
    (vs : List Value) (m c : Nat) (hx : a.eval x = .slice (some ⟨w.heap.size, 0, none⟩) m c) (hl : vs.length = m * size) (h1 : ∀ u ∈ vs, u.oneCell' = true)
    (h63 : n + m ≤ maxLen) (hbytes : (n + m) * bytes ≤ 140737488355328)
    (h : ∀ v' w', w'.ownsRow base e size v' (n + m) (xs ++ vs) → Below base w w' → (∀ g, g < w.heap.size → v.ownBlock ≠ some g → w'.heap[g]? = w.heap[g]?) → w.heap.size < w'.heap.size → K (a.put o.dst v') w') :
    o.wp Tryz.prog a (w.alloc (.cells vs.toArray e)) K Q := by
  have hown2 := hown.alloc (.cells vs.toArray e)
  refine wp_append_own (P := Tryz.prog) (w.alloc (.cells vs.toArray e)) s x t ho base e i z size bytes ht hi hz hsize hby hzs hsz v n xs hs hown2 ⟨w.heap.size, 0, none⟩ m c vs hx hl (cells_new w vs e) h1 h63 hbytes (by simp; omega) ?_
  intro v' w' ho' hg _
  have hb1 : Below base w (w.alloc (.cells vs.toArray e)) := (Below.refl _ _).alloc hbase _
  have hb2 := hb1.grown hg (by simp; omega) (fun k hk => (hown.lt k hk).1)
  refine h v' w' ho' hb2 (fun g hg' hne => (hg.block g (by simp; omega) (fun e => hne e.symm)).trans (Below.heap_alloc _ _ _ hg')) ?_
  have := hg.size
  simp at this
  omega
theorem wpList_append_s (hgd : o.guard = none) (s x : Operand) (ho : o.op = .call { callee := .builtin .append, args := #[s, x], argTypes := #[76, 76] })
    (base : Nat) (v : Value) (l : List ByteArray) (hs : a.eval s = v) (hown : OwnS w base v l) (hbase : base ≤ w.heap.size)
    (vs : List Value) (news : List ByteArray) (hv : vs = news.map Value.string) (m c : Nat) (hx : a.eval x = .slice (some ⟨w.heap.size, 0, none⟩) m c) (hl : news.length = m)
    (hbytes : (l.length + m) * 16 ≤ 140737488355328)
    (h : ∀ v' w', OwnS w' base v' (l ++ news) → Below base w w' → (∀ g, g < w.heap.size → v.ownBlock ≠ some g → w'.heap[g]? = w.heap[g]?) → w.heap.size < w'.heap.size → wpList Tryz.prog ops Q rest (a.put o.dst v') w') :
    wpList Tryz.prog ops Q (o :: rest) a (w.alloc (.cells vs.toArray 9)) := by
  subst hv; subst hl
  obtain ⟨i0, hi, hz0, hz1, hz2⟩ := info_parts info_str
  exact wpList_plain hgd fun _ hK => wp_append_kept s x 76 ho base 9 i0 (.string ByteArray.empty) 1 16 Tryz.underlying76 hi hz0 hz1 hz2 rfl (by decide) v l.length (l.map Value.string) hs hown hbase (news.map Value.string) news.length c hx (by simp)
    (fun u hu => by obtain ⟨b, _, rfl⟩ := List.mem_map.1 hu; rfl) (by unfold maxLen; omega) (by omega) fun v' w' h1 h2 h3 h4 => hK _ _ (h v' w' (by unfold OwnS; rw [List.length_append, List.map_append]; exact h1) h2 h3 h4)
end
def cellsF (fs : List (ByteArray × ByteArray)) : List Value := fs.flatMap fun f => [.string f.1, .string f.2]
theorem cellsF_len (fs : List (ByteArray × ByteArray)) : (cellsF fs).length = fs.length * 2 := by
  induction fs with
  | nil => rfl
  | cons f r ih => simp only [cellsF, List.flatMap_cons, List.length_append, List.length_cons, List.length_nil] at ih ⊢; omega
theorem cellsF_at : ∀ (fs : List (ByteArray × ByteArray)) (k : Nat) (h : k < fs.length), (cellsF fs)[k * 2]? = some (.string fs[k].1) ∧ (cellsF fs)[k * 2 + 1]? = some (.string fs[k].2)
  | [], k, h => absurd h (by simp)
  | f :: r, 0, h => ⟨rfl, rfl⟩
  | f :: r, k + 1, h => by
    have ih := cellsF_at r k (by simpa using h)
    have e : cellsF (f :: r) = .string f.1 :: .string f.2 :: cellsF r := rfl
    rw [e, show (k + 1) * 2 = k * 2 + 1 + 1 by omega]
    exact ih
theorem Sl.field {w : World} {B n : Nat} {A : Option Addr} {fs : List (ByteArray × ByteArray)} (h : Sl w B 2 A n (cellsF fs)) {k : Nat} (hk : k < fs.length) :
    ∃ b off, A = some ⟨b, off, none⟩ ∧ b < B ∧ w.cell? ⟨b, off + k * 2, none⟩ = some (.string fs[k].1) ∧ w.cell? ⟨b, off + k * 2 + 1, none⟩ = some (.string fs[k].2) := by
  have hl := cellsF_len fs
  obtain ⟨b, off, e, hb, hc⟩ := h.src (by omega)
  obtain ⟨h1, h2⟩ := cellsF_at fs k hk
  have hc1 := hc (k * 2) (by omega)
  have hc2 := hc (k * 2 + 1) (by omega)
  rw [List.getElem?_eq_getElem (by omega)] at h1 h2
  refine ⟨b, off, e, hb, by rw [hc1]; exact h1, by rw [Nat.add_assoc, hc2]; exact h2⟩
end Go.Proofs.YtdkbfljhfhjofaaGreatDoor
namespace Go.Proofs.YtdkbfljhfhjofaaGreatDoor
open Go.RowKit Go.ChangeShapes Go.WideShapes Go.Deep
theorem flat_len {α : Type} (cells : α → List Value) (size : Nat) (hsz : ∀ a, (cells a).length = size) : ∀ l : List α, (l.flatMap cells).length = l.length * size
  | [] => by simp
  | a :: r => by rw [List.flatMap_cons, List.length_append, hsz, flat_len cells size hsz r, List.length_cons, Nat.succ_mul]; omega
theorem flat_at {α : Type} (cells : α → List Value) (size : Nat) (hsz : ∀ a, (cells a).length = size) : ∀ (l : List α) (k j : Nat) (h : k < l.length), j < size → (l.flatMap cells)[k * size + j]? = (cells l[k])[j]?
  | [], k, j, h, _ => absurd h (by simp)
  | a :: r, 0, j, h, hj => by
    rw [List.flatMap_cons, Nat.zero_mul, Nat.zero_add, List.getElem?_append_left (by rw [hsz]; exact hj)]; rfl
  | a :: r, k + 1, j, h, hj => by
    rw [List.flatMap_cons, List.getElem?_append_right (by rw [hsz, Nat.succ_mul]; omega), hsz, show (k + 1) * size + j - size = k * size + j by rw [Nat.succ_mul]; omega]
    exact flat_at cells size hsz r k j (by simpa using h) hj
section
variable {H : Type} {enc : TypeId × Value → H} {P : Program} {w : World} {base : Nat} {spare : Nat → Bool} {held : Bool}
/-- A slice opened: its elements as a list, each with what its own reading tells. -/
theorem open_list {α : Type} {t e : TypeId} {fuel : Nat} {cs : List Value} {x : DataW H × List MemPlace} (size : Nat) (cells : α → List Value) (dat : α → DataW H) (Ok : α → Prop)
    (ht : P.underlying t = some (.slice e)) (hC : P.cellsOf e = size) (hsz : ∀ a, (cells a).length = size)
    (hel : ∀ n cs' y, DataW.trod enc P w base spare held n e cs' = some y → ∃ a : α, cs' = cells a ∧ y.1 = dat a ∧ Ok a)
    (h : DataW.trod enc P w base spare held fuel t cs = some x) :
    ∃ (A : Option Addr) (len c : Nat) (l : List α), cs = [.slice A len c] ∧ l.length = len ∧ len ≤ c ∧ c ≤ maxLen ∧ (∀ a ∈ l, Ok a) ∧ Sl w w.heap.size size A len (l.flatMap cells) ∧
      ((x.1 = .nil ∧ l = []) ∨ ∃ sp, x.1 = .slice (l.map dat) sp) := by
  rcases open_slice ht h with ⟨h1, h2⟩ | ⟨a, len, cap, m, n, D, Pl, hcs, hb, hl, hm, hmm, hx, hi⟩
  · exact ⟨none, 0, 0, [], h1, rfl, Nat.le_refl _, Nat.zero_le _, by simp, Sl.nil _ _ _ _, .inl ⟨by rw [h2], rfl⟩⟩
  · have hlm : len ≤ m := by rw [hmm]; split <;> omega
    have hall : ∀ i, i < len → ∃ a' : α, w.cells? base (a.add (i * size)) size = some (cells a') ∧ D i = dat a' ∧ Ok a' := fun i him => by
      obtain ⟨cs', hc, ht'⟩ := hi i (by omega)
      obtain ⟨a', e1, e2, e3⟩ := hel _ _ _ ht'
      rw [hC] at hc
      subst e1
      exact ⟨a', hc, e2, e3⟩
    have hlist : ∀ k, k ≤ len → ∃ l : List α, l.length = k ∧ (∀ i (h : i < l.length), w.cells? base (a.add (i * size)) size = some (cells l[i]) ∧ D i = dat l[i] ∧ Ok l[i]) := by
      intro k
      induction k with
      | zero => exact fun _ => ⟨[], rfl, fun i h => absurd h (by simp)⟩
      | succ k ih =>
        intro hk
        obtain ⟨l, hl1, hl2⟩ := ih (by omega)
        obtain ⟨a', q⟩ := hall k (by omega)
        refine ⟨l ++ [a'], by rw [List.length_append, hl1]; rfl, fun i h => ?_⟩
        by_cases c : i < l.length
        · rw [List.getElem_append_left c]; exact hl2 i c
        · have hik : i = k := by rw [List.length_append, List.length_cons, List.length_nil] at h; omega
          subst hik
          rw [List.getElem_append_right (by omega)]
          simpa [hl1] using q
    obtain ⟨l, hl1, hl2⟩ := hlist len (Nat.le_refl _)
    refine ⟨some a, len, cap, l, hcs, hl1, hl, hm, fun x hx => ?_, ?_, .inr ⟨(List.range (m - len)).map fun j => D (len + j), ?_⟩⟩
    · obtain ⟨i, hi', rfl⟩ := List.mem_iff_getElem.1 hx
      exact (hl2 i hi').2.2
    · refine ⟨by rw [flat_len cells size hsz, hl1], fun hp => ?_⟩
      rw [flat_len cells size hsz] at hp
      have hp1 : 0 < l.length := Nat.pos_of_mul_pos_right hp
      have hp2 : 0 < size := Nat.pos_of_mul_pos_left hp
      have h0 := (World.cells?_some (hl2 0 hp1).1).2.2 0 hp2
      have hsome : ∃ v, w.cell? a = some v := by
        have h00 : (cells l[0])[0]? = some ((cells l[0])[0]'(by rw [hsz]; exact hp2)) := List.getElem?_eq_getElem _
        rw [h00, Nat.zero_mul] at h0
        exact ⟨_, by simpa [Addr.add] using h0⟩
      obtain ⟨v, hv⟩ := hsome
      have hsp := World.cell?_spot hv
      obtain ⟨b, off, spot⟩ := a
      have : spot = none := hsp
      subst this
      refine ⟨b, off, rfl, World.block_lt_of_cell? w ⟨b, off, none⟩ hv, fun j hj => ?_⟩
      have hj' : j < l.length * size := by rw [flat_len cells size hsz] at hj; exact hj
      have e1 : j / size * size + j % size = j := by rw [Nat.mul_comm]; exact Nat.div_add_mod j size
      have hk : j / size < l.length := Nat.div_lt_of_lt_mul (by rw [Nat.mul_comm]; exact hj')
      have hm2 : j % size < size := Nat.mod_lt _ hp2
      have hat := flat_at cells size hsz l (j / size) (j % size) hk hm2
      rw [e1] at hat
      have hc := (World.cells?_some (hl2 _ hk).1).2.2 (j % size) hm2
      rw [← hat, List.getElem?_eq_getElem hj, Go.WideShapes.add_plain, Go.WideShapes.add_plain, Nat.add_assoc, e1] at hc
      exact hc
    · rw [hx]
      show DataW.slice _ _ = DataW.slice _ _
      congr 1
      refine List.ext_getElem (by simp [hl1]) fun i h1 h2 => ?_
      have hi' : i < l.length := by simpa using h2
      simp [(hl2 i hi').2.1]
end
/-- What an argument that is a head tells. -/
structure HeadArg (W : World) (v : Value) (m t : ByteArray) (A : Option Addr) (c : Nat) (fs : List (ByteArray × ByteArray)) : Prop where
  val : v = .agg #[.string m, .string t, .slice A fs.length c]
  sl : Sl W W.heap.size 2 A fs.length (cellsF fs)
  sizes : ∀ f ∈ fs, f.1.size ≤ maxLen ∧ f.2.size ≤ maxLen
  msize : m.size ≤ maxLen
  tsize : t.size ≤ maxLen
end Go.Proofs.YtdkbfljhfhjofaaGreatDoor
