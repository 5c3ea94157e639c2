/- Rows of instructions in memory. -/
import Derived.Test.YteinbjopclblaaaThoL
import Derived.Test.YteinbjopclblaaaRexN4
namespace Go.Proofs.Yteinbjopclblaaa
open Go.RowKit

def cellsP (x : Ins) : List Value := [.int .i64 x.kind, .int .i64 x.a, .int .i64 x.b, .int .u64 x.set.a, .int .u64 x.set.b, .int .u64 x.set.c, .int .u64 x.set.d]
theorem cellsP_len (x : Ins) : (cellsP x).length = 7 := rfl
/-- A row of instructions of the call's own. -/
def OwnP (w : World) (base : Nat) (v : Value) (l : List Ins) : Prop := w.ownsRow base 126 7 v l.length (l.flatMap cellsP)
theorem OwnP.nil (w : World) (base : Nat) : OwnP w base (.slice none 0 0) [] := World.ownsRow_nil w base 126 7
theorem OwnP.form {w : World} {base : Nat} {v : Value} {l : List Ins} (h : OwnP w base v l) : ∃ A c, v = .slice A l.length c ∧ Sl w w.heap.size 7 A l.length (l.flatMap cellsP) := by
  rcases h.2 with ⟨h1, h2⟩ | ⟨g, cap, cur, h1, hb, hg, _⟩
  · have : l = [] := List.eq_nil_of_length_eq_zero h2
    subst this
    exact ⟨none, 0, h1, Sl.nil _ _ _ _⟩
  · refine ⟨_, _, h1, flat_len cellsP 7 cellsP_len l, fun hp => ⟨g, 0, rfl, ?_, fun j hj => ?_⟩⟩
    · exact ((h.lt g (by rw [h1]; simp [Value.ownBlock])).2)
    · have := World.ownsRow.cells (g := g) h (by rw [h1]; simp [Value.ownBlock]) j _ (List.getElem?_eq_getElem hj)
      rw [addr_add] at this
      rw [Nat.zero_add]
      exact this
theorem OwnP.below {w w' : World} {base : Nat} {v : Value} {l : List Ins} (h : OwnP w base v l) (hb : Below w.heap.size w w') : OwnP w' base v l := ownsRow_below h hb
theorem OwnP.head {w : World} {base : Nat} {v : Value} {l : List Ins} (h : OwnP w base v l) (hl : 0 < l.length) : ∃ g c, v = .slice (some ⟨g, 0, none⟩) l.length c ∧ base ≤ g ∧ g < w.heap.size := by
  rcases h.2 with ⟨h1, h2⟩ | ⟨g, cap, cur, h1, hb, hg, _⟩
  · omega
  · exact ⟨g, cap, h1, hb, (h.lt g (by rw [h1]; simp [Value.ownBlock])).2⟩
theorem info_ins : (Try.prog.info? 126).map (fun i => (i.zero, i.size, i.bytes)) = some (some (.agg #[.int .i64 0, .int .i64 0, .int .i64 0, .int .u64 0, .int .u64 0, .int .u64 0, .int .u64 0]), 7, 56) := by kernel_rfl
section
variable {ops : Array Oper} {rest : List Oper} {o : Oper} {a : Act} {Q : Exit → Act → World → Prop} {w : World}
theorem wp_append_p {K : Act → World → Prop} (s x : Operand) (ho : o.op = .call { callee := .builtin .append, args := #[s, x], argTypes := #[84, 84] })
    (base : Nat) (v : Value) (l : List Ins) (hs : a.eval s = v) (hown : OwnP w base v l) (hbase : base ≤ w.heap.size)
    (vs : List Value) (new : Ins) (hv : vs = cellsP new) (g0 : Nat) (hg0 : w.heap.size = g0) (c : Nat) (hx : a.eval x = .slice (some ⟨g0, 0, none⟩) 1 c)
    (hbytes : l.length ≤ 1048576)
    (h : ∀ v' w', OwnP w' base v' (l ++ [new]) → Below base w w' → (∀ g, g < w.heap.size → v.ownBlock ≠ some g → w'.heap[g]? = w.heap[g]?) → w.heap.size < w'.heap.size → K (a.put o.dst v') w') :
    o.wp Try.prog a (w.alloc (.cells vs.toArray 126)) K Q := by
  subst hv; subst hg0
  obtain ⟨i0, hi, hz0, hz1, hz2⟩ := info_parts info_ins
  exact wp_append_kept s x 84 ho base 126 i0 _ 7 56 Try.underlying84 hi hz0 hz1 hz2 rfl (by decide) v l.length (l.flatMap cellsP) hs hown hbase (cellsP new) 1 c hx rfl
    (fun u hu => by simp only [cellsP, List.mem_cons, List.not_mem_nil, or_false] at hu; rcases hu with rfl | rfl | rfl | rfl | rfl | rfl | rfl <;> rfl) (by unfold maxLen; omega) (by omega) fun v' w' h1 h2 h3 h4 => h v' w' (by unfold OwnP; rw [List.length_append, List.flatMap_append]; simpa using h1) h2 h3 h4
theorem wpList_append_p (hgd : o.guard = none) (s x : Operand) (ho : o.op = .call { callee := .builtin .append, args := #[s, x], argTypes := #[84, 84] })
    (base : Nat) (v : Value) (l : List Ins) (hs : a.eval s = v) (hown : OwnP w base v l) (hbase : base ≤ w.heap.size)
    (vs : List Value) (new : Ins) (hv : vs = cellsP new) (g0 : Nat) (hg0 : w.heap.size = g0) (c : Nat) (hx : a.eval x = .slice (some ⟨g0, 0, none⟩) 1 c)
    (hbytes : l.length ≤ 1048576)
    (h : ∀ v' w', OwnP w' base v' (l ++ [new]) → Below base w w' → (∀ g, g < w.heap.size → v.ownBlock ≠ some g → w'.heap[g]? = w.heap[g]?) → w.heap.size < w'.heap.size → wpList Try.prog ops Q rest (a.put o.dst v') w') :
    wpList Try.prog ops Q (o :: rest) a (w.alloc (.cells vs.toArray 126)) :=
  wpList_plain hgd fun _ hK => wp_append_p s x ho base v l hs hown hbase vs new hv g0 hg0 c hx hbytes fun v' w' h1 h2 h3 h4 => hK _ _ (h v' w' h1 h2 h3 h4)
theorem step_append_p {K : Act → World → Prop} {E : Prop} (hgd : o.guard = none) (s x : Operand) (ho : o.op = .call { callee := .builtin .append, args := #[s, x], argTypes := #[84, 84] })
    (base : Nat) (v : Value) (l : List Ins) (hs : a.eval s = v) (hown : OwnP w base v l) (hbase : base ≤ w.heap.size)
    (vs : List Value) (new : Ins) (hv : vs = cellsP new) (g0 : Nat) (hg0 : w.heap.size = g0) (c : Nat) (hx : a.eval x = .slice (some ⟨g0, 0, none⟩) 1 c)
    (hbytes : l.length ≤ 1048576)
    (h : ∀ v' w', OwnP w' base v' (l ++ [new]) → Below base w w' → (∀ g, g < w.heap.size → v.ownBlock ≠ some g → w'.heap[g]? = w.heap[g]?) → w.heap.size < w'.heap.size → K (a.put o.dst v') w') :
    if Region.wanted o (yielded ops a.tmps) = true then Oper.wp Try.prog o a (w.alloc (.cells vs.toArray 126)) K Q else E := by
  have hw : Region.wanted o (yielded ops a.tmps) = true := by simp [Region.wanted, hgd]
  rw [if_pos hw]
  exact wp_append_p s x ho base v l hs hown hbase vs new hv g0 hg0 c hx hbytes h
end
/-- Seven cells of an instruction. -/
theorem ins_at {w : World} {B n : Nat} {A : Option Addr} {l : List Ins} (h : Sl w B 7 A n (l.flatMap cellsP)) (k : Nat) (hk : k < l.length) :
    ∃ b off, A = some ⟨b, off, none⟩ ∧ b < B ∧ w.cell? ⟨b, off + k * 7, none⟩ = some (.int .i64 l[k].kind) ∧ w.cell? ⟨b, off + k * 7 + 1, none⟩ = some (.int .i64 l[k].a) ∧ w.cell? ⟨b, off + k * 7 + 2, none⟩ = some (.int .i64 l[k].b) ∧
      w.cell? ⟨b, off + k * 7 + 3, none⟩ = some (.int .u64 l[k].set.a) ∧ w.cell? ⟨b, off + k * 7 + 4, none⟩ = some (.int .u64 l[k].set.b) ∧ w.cell? ⟨b, off + k * 7 + 5, none⟩ = some (.int .u64 l[k].set.c) ∧ w.cell? ⟨b, off + k * 7 + 6, none⟩ = some (.int .u64 l[k].set.d) := by
  have hl := flat_len cellsP 7 cellsP_len l
  obtain ⟨b, off, e, hb, hc⟩ := h.src (by omega)
  have hat : ∀ j, j < 7 → ∀ v, (cellsP l[k])[j]? = some v → w.cell? ⟨b, off + k * 7 + j, none⟩ = some v := fun j hj v hv => by
    have h1 := flat_at cellsP 7 cellsP_len l k j hk hj
    have h2 : k * 7 + j < (l.flatMap cellsP).length := by omega
    rw [Nat.add_assoc, hc (k * 7 + j) h2]
    rw [List.getElem?_eq_getElem h2] at h1
    rw [h1, hv]
  exact ⟨b, off, e, hb, hat 0 (by decide) _ rfl, hat 1 (by decide) _ rfl, hat 2 (by decide) _ rfl, hat 3 (by decide) _ rfl, hat 4 (by decide) _ rfl, hat 5 (by decide) _ rfl, hat 6 (by decide) _ rfl⟩
theorem flat_set {α : Type} (cells : α → List Value) (size : Nat) (hsz : ∀ a, (cells a).length = size) (j : Nat) (hj : j < size) (v : Value) (y : α) : ∀ (l : List α) (k : Nat) (h : k < l.length), cells y = (cells l[k]).set j v →
    (l.flatMap cells).set (k * size + j) v = (l.set k y).flatMap cells
  | [], k, h, _ => absurd h (by simp)
  | a :: r, 0, _, he => by
    have he' : cells y = (cells a).set j v := he
    simp only [List.flatMap_cons, List.set_cons_zero, Nat.zero_mul, Nat.zero_add]
    rw [List.set_append_left _ _ (by rw [hsz]; exact hj), he']
  | a :: r, k + 1, h, he => by
    simp only [List.flatMap_cons, List.set_cons_succ]
    rw [List.set_append_right _ _ (by rw [hsz, Nat.succ_mul]; omega), hsz, show (k + 1) * size + j - size = k * size + j by rw [Nat.succ_mul]; omega]
    rw [flat_set cells size hsz j hj v y r k (by simpa using h) he]
/-- One cell of an instruction stored. -/
theorem OwnP.setAB {w : World} {base g c : Nat} {l : List Ins} (h : OwnP w base (.slice (some ⟨g, 0, none⟩) l.length c) l) (k : Nat) (hk : k < l.length) (j : Nat) (hj : j < 7) (u : Value) (y : Ins) (hy : cellsP y = (cellsP l[k]).set j u) :
    OwnP (w.setCell ⟨g, k * 7 + j, none⟩ u) base (.slice (some ⟨g, 0, none⟩) l.length c) (l.set k y) ∧ w.grownBy (w.setCell ⟨g, k * 7 + j, none⟩ u) (some g) := by
  have hs := World.ownsRow.stored h (k * 7 + j) u
  refine ⟨?_, hs.2⟩
  unfold OwnP
  rw [List.length_set, ← flat_set cellsP 7 cellsP_len j hj u y l k hk hy]
  exact hs.1
end Go.Proofs.Yteinbjopclblaaa
