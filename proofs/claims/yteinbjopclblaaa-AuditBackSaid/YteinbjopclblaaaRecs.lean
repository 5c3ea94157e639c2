/- Rows of records in memory. -/
import Derived.Test.YteinbjopclblaaaAudD
import Derived.Test.YteinbjopclblaaaOpen
namespace Go.Proofs.Yteinbjopclblaaa
open Go.RowKit Go.ChangeShapes Go.WideShapes Go.Deep

/-- A record with where its list of numbers lies. -/
structure RC where
  re : Rec
  A : Option Addr
  c : Nat
def RC.ints (x : RC) : List Value := x.re.matched.map (Value.int .i64)
def cellsR (x : RC) : List Value := [.int .i64 x.re.conn, .int .i64 x.re.out, .int .i64 x.re.by_, .int .i64 x.re.score, .slice x.A x.re.matched.length x.c, .string (bs x.re.target)]
theorem cellsR_len (x : RC) : (cellsR x).length = 6 := rfl
/-- Its numbers lie below B. -/
def RcIn (w : World) (B : Nat) (x : RC) : Prop := Sl w B 1 x.A x.re.matched.length x.ints ∧ x.re.matched.length ≤ 9223372036854775807
theorem RcIn.keep {w w' : World} {B B' : Nat} {x : RC} (h : RcIn w B x) (hb : Below B w w') (hB : B ≤ B') : RcIn w' B' x := ⟨(h.1.below hb).more hB, h.2⟩
theorem rows_at (w : World) (B n : Nat) (A : Option Addr) (l : List RC) (h : Sl w B 6 A n (l.flatMap cellsR)) (k : Nat) (hk : k < l.length) :
    ∃ b off, A = some ⟨b, off, none⟩ ∧ b < B ∧ w.cell? ⟨b, off + k * 6, none⟩ = some (.int .i64 l[k].re.conn) ∧ w.cell? ⟨b, off + k * 6 + 1, none⟩ = some (.int .i64 l[k].re.out) ∧ w.cell? ⟨b, off + k * 6 + 2, none⟩ = some (.int .i64 l[k].re.by_) ∧
      w.cell? ⟨b, off + k * 6 + 3, none⟩ = some (.int .i64 l[k].re.score) ∧ w.cell? ⟨b, off + k * 6 + 4, none⟩ = some (.slice l[k].A l[k].re.matched.length l[k].c) ∧ w.cell? ⟨b, off + k * 6 + 5, none⟩ = some (.string (bs l[k].re.target)) := by
  have hl := flat_len cellsR 6 cellsR_len l
  obtain ⟨b, off, e, hb, hc⟩ := h.src (by omega)
  have hat : ∀ j, j < 6 → ∀ v, (cellsR l[k])[j]? = some v → w.cell? ⟨b, off + k * 6 + j, none⟩ = some v := fun j hj v hv => by
    have h1 := flat_at cellsR 6 cellsR_len l k j hk hj
    have h2 : k * 6 + j < (l.flatMap cellsR).length := by omega
    rw [Nat.add_assoc, hc (k * 6 + j) h2]
    rw [List.getElem?_eq_getElem h2] at h1
    rw [h1, hv]
  exact ⟨b, off, e, hb, hat 0 (by decide) _ rfl, hat 1 (by decide) _ rfl, hat 2 (by decide) _ rfl, hat 3 (by decide) _ rfl, hat 4 (by decide) _ rfl, hat 5 (by decide) _ rfl⟩

/-- Its numbers are a row of the call's own. -/
def RcOwn (w : World) (x : RC) : Prop := OwnI w 0 (.slice x.A x.re.matched.length x.c) x.re.matched ∧ x.re.matched.length ≤ 9223372036854775807
theorem RcOwn.rcIn {w : World} {x : RC} (h : RcOwn w x) : RcIn w w.heap.size x := by
  obtain ⟨A', c', e, hs⟩ := h.1.form
  injection e with e1 e2 e3
  refine ⟨?_, h.2⟩
  rw [e1]
  exact hs
theorem RcOwn.below {w w' : World} {x : RC} (h : RcOwn w x) (hb : Below w.heap.size w w') : RcOwn w' x := ⟨ownsRow_below h.1 hb, h.2⟩
/-- It stays where a row of another kind grows. -/
theorem RcOwn.past {w w' : World} {x : RC} {v : Value} {base n : Nat} {xs : List Value} (h : RcOwn w x) (ho : w.ownsRow base 51 6 v n xs) (hk : ∀ g, g < w.heap.size → v.ownBlock ≠ some g → w'.heap[g]? = w.heap[g]?) : RcOwn w' x := by
  refine ⟨⟨h.1.1, ?_⟩, h.2⟩
  rcases h.1.2 with h0 | ⟨g, cap, cur, h1, h2, h3, h4⟩
  · exact .inl h0
  · have hlt := (World.ownsRow.lt h.1 g (by rw [h1]; rfl)).2
    exact .inr ⟨g, cap, cur, h1, h2, (hk g hlt (own_apart ho h3 (by decide))).trans h3, h4⟩

/-- A row of records of the call's own. -/
def OwnR (w : World) (base : Nat) (v : Value) (l : List RC) : Prop := w.ownsRow base 51 6 v l.length (l.flatMap cellsR)
theorem OwnR.nil (w : World) (base : Nat) : OwnR w base (.slice none 0 0) [] := World.ownsRow_nil w base 51 6
theorem OwnR.form {w : World} {base : Nat} {v : Value} {l : List RC} (h : OwnR w base v l) : ∃ A c, v = .slice A l.length c ∧ Sl w w.heap.size 6 A l.length (l.flatMap cellsR) := by
  rcases h.2 with ⟨h1, h2⟩ | ⟨g, cap, cur, h1, hb, hg, _⟩
  · have : l = [] := List.eq_nil_of_length_eq_zero h2
    subst this
    exact ⟨none, 0, h1, Sl.nil _ _ _ _⟩
  · refine ⟨_, _, h1, flat_len cellsR 6 cellsR_len l, fun hp => ⟨g, 0, rfl, ?_, fun j hj => ?_⟩⟩
    · exact ((h.lt g (by rw [h1]; simp [Value.ownBlock])).2)
    · have := World.ownsRow.cells (g := g) h (by rw [h1]; simp [Value.ownBlock]) j _ (List.getElem?_eq_getElem hj)
      rw [addr_add] at this
      rw [Nat.zero_add]
      exact this
theorem OwnR.below {w w' : World} {base : Nat} {v : Value} {l : List RC} (h : OwnR w base v l) (hb : Below w.heap.size w w') : OwnR w' base v l := ownsRow_below h hb
theorem info_rec : (Try.prog.info? 51).map (fun i => (i.zero, i.size, i.bytes)) = some (some (.agg zero6), 6, 72) := by kernel_rfl
section
variable {ops : Array Oper} {rest : List Oper} {o : Oper} {a : Act} {Q : Exit → Act → World → Prop} {w : World}
theorem wpList_append_r (hgd : o.guard = none) (s x : Operand) (ho : o.op = .call { callee := .builtin .append, args := #[s, x], argTypes := #[78, 78] })
    (base : Nat) (v : Value) (l : List RC) (hs : a.eval s = v) (hown : OwnR w base v l) (hbase : base ≤ w.heap.size)
    (vs : List Value) (new : RC) (hv : vs = cellsR new) (g0 : Nat) (hg0 : w.heap.size = g0) (c : Nat) (hx : a.eval x = .slice (some ⟨g0, 0, none⟩) 1 c)
    (hbytes : (l.length + 1) * 72 ≤ 140737488355328)
    (h : ∀ v' w', OwnR w' base v' (l ++ [new]) → Below base w w' → (∀ g, g < w.heap.size → v.ownBlock ≠ some g → w'.heap[g]? = w.heap[g]?) → w.heap.size < w'.heap.size → wpList Try.prog ops Q rest (a.put o.dst v') w') :
    wpList Try.prog ops Q (o :: rest) a (w.alloc (.cells vs.toArray 51)) := by
  subst hv; subst hg0
  obtain ⟨i0, hi, hz0, hz1, hz2⟩ := info_parts info_rec
  exact wpList_plain hgd fun _ hK => wp_append_kept s x 78 ho base 51 i0 (.agg zero6) 6 72 Try.underlying78 hi hz0 hz1 hz2 rfl (by decide) v l.length (l.flatMap cellsR) hs hown hbase (cellsR new) 1 c hx rfl
    (fun u hu => by simp only [cellsR, List.mem_cons, List.not_mem_nil, or_false] at hu; rcases hu with rfl | rfl | rfl | rfl | rfl | rfl <;> rfl) (by unfold maxLen; omega) (by omega) fun v' w' h1 h2 h3 h4 => hK _ _ (h v' w' (by unfold OwnR; rw [List.length_append, List.flatMap_append]; simpa using h1) h2 h3 h4)
end
end Go.Proofs.Yteinbjopclblaaa
