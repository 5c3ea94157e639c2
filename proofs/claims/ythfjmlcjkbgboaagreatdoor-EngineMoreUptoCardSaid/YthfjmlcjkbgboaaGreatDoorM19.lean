/- Part 19 of the proof: lemmas and walks that the last texts use. -/
import Derived.Test.YthfjmlcjkbgboaaGreatDoorM03
import Derived.Test.YthfjmlcjkbgboaaGreatDoorM04
import Derived.Laws.OwnMore
import Derived.Below
namespace Go.Proofs.YthfjmlcjkbgboaaGreatDoor
open Go.RowKit
/-- How an element lies in a row. -/
structure RowT (α : Type) where
  e : TypeId
  t : TypeId
  size : Nat
  bytes : Nat
  z : Value
  cells : α → List Value
  hsz : ∀ a, (cells a).length = size
  hpos : 0 < size
  under : Tryz.prog.underlying t = some (.slice e)
  info : (Tryz.prog.info? e).map (fun i => (i.zero, i.size, i.bytes)) = some (some z, size, bytes)
  hz : z.cells.size = size
  one : ∀ a, ∀ u ∈ cells a, u.oneCell' = true
  hbytes : bytes ≤ 64
def OwnG {α : Type} (R : RowT α) (w : World) (base : Nat) (v : Value) (l : List α) : Prop := w.ownsRow base R.e R.size v l.length (l.flatMap R.cells)
theorem OwnG.nil {α : Type} (R : RowT α) (w : World) (base : Nat) : OwnG R w base (.slice none 0 0) [] := World.ownsRow_nil w base R.e R.size
theorem OwnG.below {α : Type} {R : RowT α} {w w' : World} {base : Nat} {v : Value} {l : List α} (h : OwnG R w base v l) (hb : Below w.heap.size w w') : OwnG R w' base v l := ownsRow_below h hb
theorem OwnG.keep {α : Type} {R : RowT α} {w w' : World} {base : Nat} {v : Value} {l : List α} (h : OwnG R w base v l) (hk : ∀ g, v.ownBlock = some g → w'.heap[g]? = w.heap[g]?) : OwnG R w' base v l := by
  refine ⟨h.1, ?_⟩
  rcases h.2 with h0 | ⟨g, cap, cur, h1, h2, h3, h4⟩
  · exact .inl h0
  · exact .inr ⟨g, cap, cur, h1, h2, (hk g (by rw [h1]; rfl)).trans h3, h4⟩
theorem OwnG.low {α : Type} {R : RowT α} {w : World} {base b : Nat} {v : Value} {l : List α} (h : OwnG R w base v l) (hb : b ≤ base) : OwnG R w b v l :=
  ⟨h.1, h.2.imp_right fun ⟨g, cap, cur, h1, h2, h3⟩ => ⟨g, cap, cur, h1, Nat.le_trans hb h2, h3⟩⟩
theorem OwnG.lt {α : Type} {R : RowT α} {w : World} {base : Nat} {v : Value} {l : List α} (h : OwnG R w base v l) : ∀ k, v.ownBlock = some k → base ≤ k ∧ k < w.heap.size := World.ownsRow.lt h
theorem OwnG.head {α : Type} {R : RowT α} {w : World} {base : Nat} {v : Value} {l : List α} (h : OwnG R w base v l) (hl : 0 < l.length) : ∃ g c, v = .slice (some ⟨g, 0, none⟩) l.length c ∧ base ≤ g ∧ g < w.heap.size := by
  rcases h.2 with ⟨h1, h2⟩ | ⟨g, cap, cur, h1, hb, hg, _⟩
  · omega
  · exact ⟨g, cap, h1, hb, (World.ownsRow.lt h g (by rw [h1]; simp [Value.ownBlock])).2⟩
theorem OwnG.cases {α : Type} {R : RowT α} {w : World} {base : Nat} {v : Value} {l : List α} (h : OwnG R w base v l) : (v = .slice none 0 0 ∧ l = []) ∨ ∃ g c, v = .slice (some ⟨g, 0, none⟩) l.length c ∧ base ≤ g ∧ g < w.heap.size := by
  rcases h.2 with ⟨h1, h2⟩ | ⟨g, cap, cur, h1, hb, hg, _⟩
  · exact .inl ⟨h1, List.eq_nil_of_length_eq_zero h2⟩
  · exact .inr ⟨g, cap, h1, hb, (World.ownsRow.lt h g (by rw [h1]; simp [Value.ownBlock])).2⟩
theorem OwnG.at {α : Type} {R : RowT α} {w : World} {base g c : Nat} {l : List α} (h : OwnG R w base (.slice (some ⟨g, 0, none⟩) l.length c) l) (k : Nat) (hk : k < l.length) (j : Nat) (hj : j < R.size) :
    w.cell? ⟨g, k * R.size + j, none⟩ = (R.cells l[k])[j]? ∧ w.frozen? ⟨g, k * R.size + j, none⟩ = false := by
  have h1 := flat_at R.cells R.size R.hsz l k j hk hj
  have hl := flat_len R.cells R.size R.hsz l
  have h2 : k * R.size + j < (l.flatMap R.cells).length := by
    rw [hl]
    have : (k + 1) * R.size ≤ l.length * R.size := Nat.mul_le_mul_right _ hk
    rw [Nat.succ_mul] at this
    omega
  have hc := World.ownsRow.cells (g := g) h (by simp [Value.ownBlock]) (k * R.size + j) _ (List.getElem?_eq_getElem h2)
  rw [addr_add] at hc
  rw [List.getElem?_eq_getElem h2] at h1
  exact ⟨hc.trans h1, World.ownsRow.frozenAt h _⟩
theorem OwnG.form {α : Type} {R : RowT α} {w : World} {base : Nat} {v : Value} {l : List α} (h : OwnG R w base v l) : ∃ A c, v = .slice A l.length c ∧ Sl w w.heap.size R.size A l.length (l.flatMap R.cells) := by
  rcases h.cases with ⟨h1, h2⟩ | ⟨g, cap, h1, hb, hg⟩
  · subst h2
    exact ⟨none, 0, h1, Sl.nil _ _ _ _⟩
  · refine ⟨_, _, h1, flat_len R.cells R.size R.hsz l, fun hp => ⟨g, 0, rfl, hg, fun j hj => ?_⟩⟩
    have := World.ownsRow.cells (g := g) h (by rw [h1]; simp [Value.ownBlock]) j _ (List.getElem?_eq_getElem hj)
    rw [addr_add] at this
    rw [Nat.zero_add]
    exact this
theorem OwnG.stored {α : Type} {R : RowT α} {w : World} {base g c : Nat} {l : List α} (h : OwnG R w base (.slice (some ⟨g, 0, none⟩) l.length c) l) (k : Nat) (hk : k < l.length) (j : Nat) (hj : j < R.size) (u : Value) (y : α) (hy : R.cells y = (R.cells l[k]).set j u) :
    OwnG R (w.setCell ⟨g, k * R.size + j, none⟩ u) base (.slice (some ⟨g, 0, none⟩) l.length c) (l.set k y) ∧ w.grownBy (w.setCell ⟨g, k * R.size + j, none⟩ u) (some g) := by
  have hs := World.ownsRow.stored h (k * R.size + j) u
  refine ⟨?_, hs.2⟩
  have he : ∀ (l : List α) (k : Nat) (h : k < l.length), R.cells y = (R.cells l[k]).set j u → (l.flatMap R.cells).set (k * R.size + j) u = (l.set k y).flatMap R.cells := by
    intro l
    induction l with
    | nil => intro k h; exact absurd h (by simp)
    | cons a r ih =>
      intro k h he
      cases k with
      | zero =>
        have he' : R.cells y = (R.cells a).set j u := he
        simp only [List.flatMap_cons, List.set_cons_zero, Nat.zero_mul, Nat.zero_add]
        rw [List.set_append_left _ _ (by rw [R.hsz]; exact hj), he']
      | succ k =>
        simp only [List.flatMap_cons, List.set_cons_succ]
        rw [List.set_append_right _ _ (by rw [R.hsz, Nat.succ_mul]; omega), R.hsz, show (k + 1) * R.size + j - R.size = k * R.size + j by rw [Nat.succ_mul]; omega]
        rw [ih k (by simpa using h) he]
  unfold OwnG
  rw [List.length_set, ← he l k hk hy]
  exact hs.1
section
variable {ops : Array Oper} {rest : List Oper} {o : Oper} {a : Act} {Q : Exit → Act → World → Prop} {w : World}
theorem wp_append_g {α : Type} (R : RowT α) {K : Act → World → Prop} (s x : Operand) (ho : o.op = .call { callee := .builtin .append, args := #[s, x], argTypes := #[R.t, R.t] })
    (base : Nat) (v : Value) (l : List α) (hs : a.eval s = v) (hown : OwnG R w base v l) (hbase : base ≤ w.heap.size)
    (vs : List Value) (new : α) (hv : vs = R.cells new) (g0 : Nat) (hg0 : w.heap.size = g0) (c : Nat) (hx : a.eval x = .slice (some ⟨g0, 0, none⟩) 1 c)
    (hbytes : l.length ≤ 1048576)
    (h : ∀ v' w', OwnG R w' base v' (l ++ [new]) → Below base w w' → (∀ g, g < w.heap.size → v.ownBlock ≠ some g → w'.heap[g]? = w.heap[g]?) → w.heap.size < w'.heap.size → K (a.put o.dst v') w') :
    o.wp Tryz.prog a (w.alloc (.cells vs.toArray R.e)) K Q := by
  subst hv; subst hg0
  obtain ⟨i0, hi, hz0, hz1, hz2⟩ := info_parts R.info
  have hb := R.hbytes
  exact wp_append_kept s x R.t ho base R.e i0 _ R.size R.bytes R.under hi hz0 hz1 hz2 R.hz R.hpos v l.length (l.flatMap R.cells) hs hown hbase (R.cells new) 1 c hx (by rw [R.hsz, Nat.one_mul])
    (R.one new) (by unfold maxLen; omega) (Nat.le_trans (Nat.mul_le_mul (Nat.add_le_add_right hbytes 1) hb) (by omega)) fun v' w' h1 h2 h3 h4 => h v' w' (by unfold OwnG; rw [List.length_append, List.flatMap_append]; simpa using h1) h2 h3 h4
theorem wpList_append_g {α : Type} (R : RowT α) (hgd : o.guard = none) (s x : Operand) (ho : o.op = .call { callee := .builtin .append, args := #[s, x], argTypes := #[R.t, R.t] })
    (base : Nat) (v : Value) (l : List α) (hs : a.eval s = v) (hown : OwnG R w base v l) (hbase : base ≤ w.heap.size)
    (vs : List Value) (new : α) (hv : vs = R.cells new) (g0 : Nat) (hg0 : w.heap.size = g0) (c : Nat) (hx : a.eval x = .slice (some ⟨g0, 0, none⟩) 1 c)
    (hbytes : l.length ≤ 1048576)
    (h : ∀ v' w', OwnG R w' base v' (l ++ [new]) → Below base w w' → (∀ g, g < w.heap.size → v.ownBlock ≠ some g → w'.heap[g]? = w.heap[g]?) → w.heap.size < w'.heap.size → wpList Tryz.prog ops Q rest (a.put o.dst v') w') :
    wpList Tryz.prog ops Q (o :: rest) a (w.alloc (.cells vs.toArray R.e)) :=
  wpList_plain hgd fun _ hK => wp_append_g R s x ho base v l hs hown hbase vs new hv g0 hg0 c hx hbytes fun v' w' h1 h2 h3 h4 => hK _ _ (h v' w' h1 h2 h3 h4)
end
end Go.Proofs.YthfjmlcjkbgboaaGreatDoor
namespace Go.Proofs.YthfjmlcjkbgboaaGreatDoor
/-- The strings of a tree's nodes: the first is empty, each other one is an earlier one and a byte; shorter ones come first; no two are the same. -/
structure TrieS (ss : List (List UInt8)) : Prop where
  root : ss[0]? = some []
  uniq : ss.Nodup
  pre : ∀ v b, v ++ [b] ∈ ss → v ∈ ss
  order : ∀ i j (hi : i < ss.length) (hj : j < ss.length), ss[i].length < ss[j].length → i < j
theorem TrieS.nil_mem {ss : List (List UInt8)} (h : TrieS ss) : [] ∈ ss := List.mem_of_getElem? h.root
/-- The longest suffix of a string that is a node. -/
def IsLong (ss : List (List UInt8)) (s v : List UInt8) : Prop := v ∈ ss ∧ v <:+ s ∧ ∀ u, u ∈ ss → u <:+ s → u <:+ v
/-- The longest proper one. -/
def IsFail (ss : List (List UInt8)) (s v : List UInt8) : Prop := v ∈ ss ∧ v <:+ s ∧ v ≠ s ∧ ∀ u, u ∈ ss → u <:+ s → u ≠ s → u <:+ v
theorem suffix_eq {u s : List UInt8} (h : u <:+ s) (hl : s.length ≤ u.length) : u = s := h.eq_of_length (Nat.le_antisymm h.length_le hl)
theorem suffix_snoc {u s : List UInt8} {b c : UInt8} : u ++ [b] <:+ s ++ [c] ↔ b = c ∧ u <:+ s := by
  constructor
  · rintro ⟨t, h⟩
    rw [← List.append_assoc] at h
    obtain ⟨h1, h2⟩ := List.append_inj' h rfl
    exact ⟨by simpa using h2, ⟨t, h1⟩⟩
  · rintro ⟨rfl, t, h⟩
    exact ⟨t, by rw [← List.append_assoc, h]⟩
theorem snoc_of {u s : List UInt8} {c : UInt8} (h : u <:+ s ++ [c]) (hu : u ≠ []) : ∃ u', u = u' ++ [c] ∧ u' <:+ s := by
  obtain ⟨u', b, rfl⟩ : ∃ u' b, u = u' ++ [b] := by
    rcases List.eq_nil_or_concat u with h0 | ⟨u', b, h1⟩
    · exact absurd h0 hu
    · exact ⟨u', b, by rw [h1, List.concat_eq_append]⟩
  obtain ⟨rfl, h2⟩ := suffix_snoc.1 h
  exact ⟨u', rfl, h2⟩
/-- Candidates at a place of the chain: whatever node ends s and goes on by b is v or ends v. -/
def Cand (ss : List (List UInt8)) (s : List UInt8) (b : UInt8) (v : List UInt8) : Prop := v ∈ ss ∧ v <:+ s ∧ ∀ u, u ∈ ss → u <:+ s → u ++ [b] ∈ ss → u <:+ v
theorem cand_of_long {ss : List (List UInt8)} {s v : List UInt8} (b : UInt8) (h : IsLong ss s v) : Cand ss s b v := ⟨h.1, h.2.1, fun u hu hs _ => h.2.2 u hu hs⟩
/-- On to the next of the chain. -/
theorem cand_next {ss : List (List UInt8)} {s v f : List UInt8} {b : UInt8} (h : Cand ss s b v) (hn : v ++ [b] ∉ ss) (hf : IsFail ss v f) : Cand ss s b f := by
  refine ⟨hf.1, hf.2.1.trans h.2.1, fun u hu hs hb => ?_⟩
  have h1 := h.2.2 u hu hs hb
  exact hf.2.2.2 u hu h1 fun e => hn (by rw [← e]; exact hb)
theorem cand_found {ss : List (List UInt8)} {s v : List UInt8} {b : UInt8} (ht : TrieS ss) (h : Cand ss s b v) (hk : v ++ [b] ∈ ss) : IsLong ss (s ++ [b]) (v ++ [b]) := by
  refine ⟨hk, suffix_snoc.2 ⟨rfl, h.2.1⟩, fun u hu hs => ?_⟩
  by_cases h0 : u = []
  · rw [h0]; exact List.nil_suffix
  · obtain ⟨u', rfl, h1⟩ := snoc_of hs h0
    exact suffix_snoc.2 ⟨rfl, h.2.2 u' (ht.pre u' b hu) h1 hu⟩
theorem cand_none {ss : List (List UInt8)} {s : List UInt8} {b : UInt8} (ht : TrieS ss) (h : Cand ss s b []) (hn : [b] ∉ ss) : IsLong ss (s ++ [b]) [] := by
  refine ⟨ht.nil_mem, List.nil_suffix, fun u hu hs => ?_⟩
  by_cases h0 : u = []
  · rw [h0]; exact List.suffix_refl _
  · obtain ⟨u', rfl, h1⟩ := snoc_of hs h0
    have := h.2.2 u' (ht.pre u' b hu) h1 hu
    rw [List.suffix_nil] at this
    rw [this] at hu
    exact absurd hu hn
/-- The longest proper suffix of a node that comes: from that of its parent. -/
theorem fail_of_long {ss : List (List UInt8)} {p f v : List UInt8} {b : UInt8} (hf : IsFail ss p f) (hv : IsLong ss (f ++ [b]) v) (ht : TrieS ss) (hnew : p ++ [b] ∉ ss) :
    v ∈ ss ∧ v <:+ p ++ [b] ∧ v ≠ p ++ [b] ∧ ∀ u, u ∈ ss → u <:+ p ++ [b] → u ≠ p ++ [b] → u <:+ v := by
  have hs : f ++ [b] <:+ p ++ [b] := suffix_snoc.2 ⟨rfl, hf.2.1⟩
  refine ⟨hv.1, hv.2.1.trans hs, fun e => hnew (by rw [← e]; exact hv.1), fun u hu h1 h2 => ?_⟩
  by_cases h0 : u = []
  · rw [h0]; exact List.nil_suffix
  · obtain ⟨u', rfl, h3⟩ := snoc_of h1 h0
    have hne : u' ≠ p := fun e => h2 (by rw [e])
    exact hv.2.2 _ hu (suffix_snoc.2 ⟨rfl, hf.2.2.2 u' (ht.pre u' b hu) h3 hne⟩)
theorem fail_root {ss : List (List UInt8)} {b : UInt8} (ht : TrieS ss) : [] ∈ ss ∧ [] <:+ [b] ∧ ([] : List UInt8) ≠ [b] ∧ ∀ u, u ∈ ss → u <:+ [b] → u ≠ [b] → u <:+ [] := by
  refine ⟨ht.nil_mem, List.nil_suffix, by simp, fun u _ h1 h2 => ?_⟩
  by_cases h0 : u = []
  · rw [h0]; exact List.suffix_refl _
  · have h3 := h1.length_le
    have h4 : 0 < u.length := List.length_pos_iff.2 h0
    exact absurd (suffix_eq h1 (by simp only [List.length_singleton] at h3 ⊢; omega)) h2
/-- A node that comes is no proper suffix of one that is not longer. -/
theorem IsFail.more {ss : List (List UInt8)} {s v x : List UInt8} (h : IsFail ss s v) (hx : s.length ≤ x.length) : IsFail (ss ++ [x]) s v :=
  ⟨List.mem_append_left _ h.1, h.2.1, h.2.2.1, fun u hu h1 h2 => by
    rcases List.mem_append.1 hu with hu | hu
    · exact h.2.2.2 u hu h1 h2
    · rw [List.mem_singleton.1 hu] at h1 h2
      exact absurd (suffix_eq h1 hx) h2⟩
theorem trie_add {ss : List (List UInt8)} (h : TrieS ss) {p : List UInt8} {b : UInt8} (hp : p ∈ ss) (hn : p ++ [b] ∉ ss) (hl : ∀ v, v ∈ ss → v.length ≤ p.length + 1) : TrieS (ss ++ [p ++ [b]]) := by
  have hlen : 0 < ss.length := List.length_pos_of_mem hp
  refine ⟨by rw [List.getElem?_append_left hlen]; exact h.root, ?_, fun v c hv => ?_, fun i j hi hj hij => ?_⟩
  · rw [List.nodup_append]
    refine ⟨h.uniq, by simp, fun a ha b' hb => ?_⟩
    rw [List.mem_singleton.1 hb]
    exact fun e => hn (by rw [← e]; exact ha)
  · rcases List.mem_append.1 hv with hv | hv
    · exact List.mem_append_left _ (h.pre v c hv)
    · have := List.mem_singleton.1 hv
      obtain ⟨e, _⟩ := List.append_inj' this rfl
      rw [e]
      exact List.mem_append_left _ hp
  · rw [List.length_append, List.length_singleton] at hi hj
    by_cases c1 : i < ss.length
    · by_cases c2 : j < ss.length
      · rw [List.getElem_append_left c1, List.getElem_append_left c2] at hij
        exact h.order i j c1 c2 hij
      · omega
    · have e : (ss ++ [p ++ [b]])[i] = p ++ [b] := by rw [List.getElem_append_right (by omega)]; simp
      rw [e] at hij
      by_cases c2 : j < ss.length
      · rw [List.getElem_append_left c2] at hij
        have := hl _ (List.getElem_mem c2)
        simp only [List.length_append, List.length_singleton] at hij
        omega
      · have e2 : (ss ++ [p ++ [b]])[j] = p ++ [b] := by rw [List.getElem_append_right (by omega)]; simp
        rw [e2] at hij
        omega
/-- The numbers of the words that a string ends by, in order. -/
def endsOf (ws : List (List UInt8)) (s : List UInt8) : List Nat := (List.range ws.length).filter fun k => decide (ws.getD k [] <:+ s)
theorem mem_endsOf {ws : List (List UInt8)} {s : List UInt8} {k : Nat} : k ∈ endsOf ws s ↔ k < ws.length ∧ ws.getD k [] <:+ s := by
  unfold endsOf
  rw [List.mem_filter, List.mem_range, decide_eq_true_eq]
theorem endsOf_sorted (ws : List (List UInt8)) (s : List UInt8) : (endsOf ws s).Pairwise (· < ·) := List.Pairwise.filter _ List.pairwise_lt_range
theorem sorted_ext : ∀ {l m : List Nat}, l.Pairwise (· < ·) → m.Pairwise (· < ·) → (∀ k, k ∈ l ↔ k ∈ m) → l = m
  | [], [], _, _, _ => rfl
  | [], b :: m, _, _, h => absurd ((h b).2 (by simp)) (by simp)
  | a :: l, [], _, _, h => absurd ((h a).1 (by simp)) (by simp)
  | a :: l, b :: m, h1, h2, h => by
    rw [List.pairwise_cons] at h1 h2
    have e : a = b := by
      rcases List.mem_cons.1 ((h a).1 (by simp)) with e | h3
      · exact e
      · rcases List.mem_cons.1 ((h b).2 (by simp)) with e | h4
        · exact e.symm
        · have := h2.1 a h3; have := h1.1 b h4; omega
    subst e
    refine congrArg (a :: ·) (sorted_ext h1.2 h2.2 fun k => ⟨fun hk => ?_, fun hk => ?_⟩)
    · rcases List.mem_cons.1 ((h k).1 (by simp [hk])) with e | h3
      · have := h1.1 k hk; omega
      · exact h3
    · rcases List.mem_cons.1 ((h k).2 (by simp [hk])) with e | h3
      · have := h2.1 k hk; omega
      · exact h3
/-- A string's words are those of the longest node that ends it. -/
theorem ends_long {ws ss : List (List UInt8)} {s v : List UInt8} (hw : ∀ k, k < ws.length → ws.getD k [] ∈ ss) (h : IsLong ss s v) : endsOf ws s = endsOf ws v :=
  sorted_ext (endsOf_sorted _ _) (endsOf_sorted _ _) fun k => by
    rw [mem_endsOf, mem_endsOf]
    exact ⟨fun ⟨h1, h2⟩ => ⟨h1, h.2.2 _ (hw k h1) h2⟩, fun ⟨h1, h2⟩ => ⟨h1, h2.trans h.2.1⟩⟩
/-- A node's words: itself, and those of its longest proper suffix. -/
theorem mem_ends_fail {ws ss : List (List UInt8)} {s v : List UInt8} (hw : ∀ k, k < ws.length → ws.getD k [] ∈ ss) (h : IsFail ss s v) (k : Nat) : k ∈ endsOf ws s ↔ k ∈ endsOf ws v ∨ (k < ws.length ∧ ws.getD k [] = s) := by
  rw [mem_endsOf, mem_endsOf]
  constructor
  · rintro ⟨h1, h2⟩
    by_cases e : ws.getD k [] = s
    · exact .inr ⟨h1, e⟩
    · exact .inl ⟨h1, h.2.2.2 _ (hw k h1) h2 e⟩
  · rintro (⟨h1, h2⟩ | ⟨h1, h2⟩)
    · exact ⟨h1, h2.trans h.2.1⟩
    · exact ⟨h1, by rw [h2]; exact List.suffix_refl _⟩
end Go.Proofs.YthfjmlcjkbgboaaGreatDoor
namespace Go.Proofs.YthfjmlcjkbgboaaGreatDoor
structure NodeP where
  b : UInt8
  up : Nat
  fail : Nat
structure Inv (ns : List NodeP) (ss : List (List UInt8)) : Prop where
  len : ns.length = ss.length
  trie : TrieS ss
  zero : ns[0]? = some ⟨0, 0, 0⟩
  node : ∀ j n, 0 < j → ns[j]? = some n → n.up < j ∧ n.fail < j ∧ ∃ p f, ss[n.up]? = some p ∧ ss[n.fail]? = some f ∧ ss[j]? = some (p ++ [n.b]) ∧ IsFail ss (p ++ [n.b]) f
theorem inv_start : Inv [⟨0, 0, 0⟩] [[]] where
  len := rfl
  trie := ⟨rfl, by simp, fun v b h => by simp at h, fun i j hi hj h => by
    have e1 : i = 0 := by simpa using hi
    have e2 : j = 0 := by simpa using hj
    subst e1; subst e2
    exact absurd h (by simp)⟩
  zero := rfl
  node j n hj h := by
    have := (List.getElem?_eq_some_iff.1 h).1
    simp only [List.length_singleton] at this
    omega
theorem Inv.lt {ns : List NodeP} {ss : List (List UInt8)} (h : Inv ns ss) {j : Nat} {v : List UInt8} (hv : ss[j]? = some v) : j < ns.length := by
  rw [h.len]; exact (List.getElem?_eq_some_iff.1 hv).1
/-- Two places of one string are one. -/
theorem Inv.inj {ns : List NodeP} {ss : List (List UInt8)} (h : Inv ns ss) {i j : Nat} {v : List UInt8} (hi : ss[i]? = some v) (hj : ss[j]? = some v) : i = j := by
  obtain ⟨h1, e1⟩ := List.getElem?_eq_some_iff.1 hi
  obtain ⟨h2, e2⟩ := List.getElem?_eq_some_iff.1 hj
  exact (List.getElem_inj h.trie.uniq).1 (e1.trans e2.symm)
theorem Inv.root {ns : List NodeP} {ss : List (List UInt8)} (h : Inv ns ss) {j : Nat} (hj : ss[j]? = some []) : j = 0 := h.inj hj h.trie.root
/-- The kid of a node by a byte. -/
theorem Inv.kid {ns : List NodeP} {ss : List (List UInt8)} (h : Inv ns ss) {u : Nat} {p : List UInt8} {b : UInt8} (hu : ss[u]? = some p) {j : Nat} : ss[j]? = some (p ++ [b]) ↔ (0 < j ∧ ∃ n, ns[j]? = some n ∧ n.up = u ∧ n.b = b) := by
  constructor
  · intro hj
    have h0 : 0 < j := by
      rcases Nat.eq_zero_or_pos j with e | e
      · subst e
        rw [h.trie.root] at hj
        have := Option.some.inj hj
        exact absurd this.symm (by simp)
      · exact e
    obtain ⟨n, hn⟩ : ∃ n, ns[j]? = some n := ⟨_, List.getElem?_eq_getElem (h.lt hj)⟩
    obtain ⟨_, _, p', f, e1, _, e3, _⟩ := h.node j n h0 hn
    rw [hj] at e3
    obtain ⟨e4, e5⟩ := List.append_inj' (Option.some.inj e3) rfl
    refine ⟨h0, n, hn, h.inj (v := p') e1 (by rw [← e4]; exact hu), ?_⟩
    simpa using e5.symm
  · rintro ⟨h0, n, hn, rfl, rfl⟩
    obtain ⟨_, _, p', f, e1, _, e3, _⟩ := h.node j n h0 hn
    rw [hu] at e1
    rw [Option.some.inj e1]
    exact e3
theorem Inv.fail_at {ns : List NodeP} {ss : List (List UInt8)} (h : Inv ns ss) {j : Nat} {n : NodeP} (h0 : 0 < j) (hn : ns[j]? = some n) {v : List UInt8} (hv : ss[j]? = some v) : n.fail < j ∧ ∃ f, ss[n.fail]? = some f ∧ IsFail ss v f := by
  obtain ⟨_, h2, p, f, _, e2, e3, e4⟩ := h.node j n h0 hn
  rw [hv] at e3
  rw [Option.some.inj e3]
  exact ⟨h2, f, e2, e4⟩
/-- A node comes. -/
theorem Inv.add {ns : List NodeP} {ss : List (List UInt8)} (h : Inv ns ss) {u fl : Nat} {b : UInt8} {p f : List UInt8} (hu : ss[u]? = some p) (hf : ss[fl]? = some f) (hn : p ++ [b] ∉ ss) (hl : ∀ v, v ∈ ss → v.length ≤ p.length + 1)
    (hfail : f ∈ ss ∧ f <:+ p ++ [b] ∧ f ≠ p ++ [b] ∧ ∀ u, u ∈ ss → u <:+ p ++ [b] → u ≠ p ++ [b] → u <:+ f) : Inv (ns ++ [⟨b, u, fl⟩]) (ss ++ [p ++ [b]]) where
  len := by rw [List.length_append, List.length_append, h.len]; rfl
  trie := trie_add h.trie (List.mem_of_getElem? hu) hn hl
  zero := by rw [List.getElem?_append_left (List.getElem?_eq_some_iff.1 h.zero).1]; exact h.zero
  node j n hj hjn := by
    have up : ∀ {i v}, ss[i]? = some v → (ss ++ [p ++ [b]])[i]? = some v := fun {i v} e => by
      rw [List.getElem?_append_left (List.getElem?_eq_some_iff.1 e).1]; exact e
    rcases Nat.lt_or_ge j ns.length with c | c
    · rw [List.getElem?_append_left c] at hjn
      obtain ⟨h1, h2, q, g, e1, e2, e3, e4⟩ := h.node j n hj hjn
      refine ⟨h1, h2, q, g, up e1, up e2, up e3, e4.more ?_⟩
      have := hl _ (List.mem_of_getElem? e3)
      rw [List.length_append, List.length_singleton] at this ⊢
      rw [List.length_append, List.length_singleton]
      omega
    · have hlt := (List.getElem?_eq_some_iff.1 hjn).1
      rw [List.length_append, List.length_singleton] at hlt
      have e : j = ns.length := by omega
      subst e
      rw [List.getElem?_append_right (Nat.le_refl _), Nat.sub_self] at hjn
      have hnn : n = ⟨b, u, fl⟩ := (Option.some.inj hjn).symm
      subst hnn
      refine ⟨h.lt hu, h.lt hf, p, f, up hu, up hf, ?_, List.mem_append_left _ hfail.1, hfail.2.1, hfail.2.2.1, fun x hx h1 h2 => ?_⟩
      · rw [h.len, List.getElem?_append_right (Nat.le_refl _), Nat.sub_self]; rfl
      · rcases List.mem_append.1 hx with hx | hx
        · exact hfail.2.2.2 x hx h1 h2
        · exact absurd (List.mem_singleton.1 hx) h2
def PreOf (ws : List (List UInt8)) (n : Nat) (v : List UInt8) : Prop := v.length ≤ n ∧ ∃ w, w ∈ ws ∧ v <+: w
/-- Up to this level all is there. -/
structure Lev (ws : List (List UInt8)) (n : Nat) (ns : List NodeP) (ss : List (List UInt8)) : Prop where
  inv : Inv ns ss
  mem : ∀ v, v ∈ ss ↔ PreOf ws n v
theorem pre_root {ws : List (List UInt8)} (h : ws ≠ []) (n : Nat) : PreOf ws n [] := by
  obtain ⟨w, hw⟩ := List.exists_mem_of_ne_nil ws h
  exact ⟨Nat.zero_le _, w, hw, List.nil_prefix⟩
theorem lev_start {ws : List (List UInt8)} (h : ws ≠ []) : Lev ws 0 [⟨0, 0, 0⟩] [[]] where
  inv := inv_start
  mem v := by
    rw [List.mem_singleton]
    constructor
    · rintro rfl; exact pre_root h 0
    · rintro ⟨h1, _⟩; exact List.eq_nil_of_length_eq_zero (by omega)
/-- The prefixes that a level brings. -/
theorem pre_succ {ws : List (List UInt8)} {n : Nat} {v : List UInt8} : PreOf ws (n + 1) v ↔ PreOf ws n v ∨ ∃ w, w ∈ ws ∧ n < w.length ∧ v = w.take (n + 1) := by
  constructor
  · rintro ⟨h1, w, hw, hp⟩
    by_cases c : v.length ≤ n
    · exact .inl ⟨c, w, hw, hp⟩
    · have hl := hp.length_le
      refine .inr ⟨w, hw, by omega, ?_⟩
      have := List.prefix_iff_eq_take.1 hp
      rw [this, show v.length = n + 1 by omega]
  · rintro (⟨h1, w, hw, hp⟩ | ⟨w, hw, hl, rfl⟩)
    · exact ⟨by omega, w, hw, hp⟩
    · exact ⟨by rw [List.length_take]; omega, w, hw, List.take_prefix _ _⟩
theorem Lev.words {ws : List (List UInt8)} {n : Nat} {ns : List NodeP} {ss : List (List UInt8)} (h : Lev ws n ns ss) (hn : ∀ w, w ∈ ws → w.length ≤ n) : ∀ k, k < ws.length → ws.getD k [] ∈ ss := fun k hk => by
  have hm : ws.getD k [] ∈ ws := by rw [List.getD_eq_getElem?_getD, List.getElem?_eq_getElem hk]; exact List.getElem_mem hk
  exact (h.mem _).2 ⟨hn _ hm, _, hm, List.prefix_refl _⟩
end Go.Proofs.YthfjmlcjkbgboaaGreatDoor
namespace Go.Proofs.YthfjmlcjkbgboaaGreatDoor
/-- Where each word is, so many bytes on. -/
structure AtOk (ws : List (List UInt8)) (n : Nat) (ss : List (List UInt8)) (at0 : List Nat) : Prop where
  len : at0.length = ws.length
  str : ∀ k, k < ws.length → ss[at0.getD k 0]? = some ((ws.getD k []).take n)
theorem at_start {ws : List (List UInt8)} : AtOk ws 0 [[]] (List.replicate ws.length 0) where
  len := by simp
  str k hk := by
    have : (List.replicate ws.length 0).getD k 0 = 0 := by rw [List.getD_eq_getElem?_getD]; simp [hk]
    rw [this, List.take_zero]; rfl
/-- The edges of a level. -/
structure EdgesOf (ws : List (List UInt8)) (n : Nat) (at0 : List Nat) (es : List (Nat × UInt8)) : Prop where
  nod : es.Nodup
  mem : ∀ e, e ∈ es ↔ ∃ k, k < ws.length ∧ n < (ws.getD k []).length ∧ e = (at0.getD k 0, (ws.getD k []).getD n 0)
def strE (ss0 : List (List UInt8)) (e : Nat × UInt8) : List UInt8 := ss0.getD e.1 [] ++ [e.2]
theorem take_succ_getD {w : List UInt8} {n : Nat} (h : n < w.length) : w.take (n + 1) = w.take n ++ [w.getD n 0] := by
  rw [List.take_succ_eq_append_getElem h, List.getD_eq_getElem?_getD, List.getElem?_eq_getElem h]; rfl
theorem edge_str {ws : List (List UInt8)} {n : Nat} {ss0 : List (List UInt8)} {at0 : List Nat} {es : List (Nat × UInt8)} (ha : AtOk ws n ss0 at0) (he : EdgesOf ws n at0 es) {e : Nat × UInt8} (h : e ∈ es) :
    ∃ k, k < ws.length ∧ n < (ws.getD k []).length ∧ strE ss0 e = (ws.getD k []).take (n + 1) ∧ ss0[e.1]? = some ((ws.getD k []).take n) ∧ ((ws.getD k []).take n).length = n := by
  obtain ⟨k, h1, h2, rfl⟩ := (he.mem e).1 h
  have hs := ha.str k h1
  refine ⟨k, h1, h2, ?_, hs, by rw [List.length_take]; omega⟩
  unfold strE
  rw [take_succ_getD h2, List.getD_eq_getElem?_getD, hs]
  rfl
theorem edge_inj {ws : List (List UInt8)} {n : Nat} {ns : List NodeP} {ss0 : List (List UInt8)} {at0 : List Nat} {es : List (Nat × UInt8)} (hi : Inv ns ss0) (ha : AtOk ws n ss0 at0) (he : EdgesOf ws n at0 es) {e e' : Nat × UInt8} (h : e ∈ es) (h' : e' ∈ es) (hs : strE ss0 e = strE ss0 e') : e = e' := by
  obtain ⟨_, _, _, _, h1, _⟩ := edge_str ha he h
  obtain ⟨_, _, _, _, h2, _⟩ := edge_str ha he h'
  obtain ⟨g1, g2⟩ := List.append_inj' (show ss0.getD e.1 [] ++ [e.2] = ss0.getD e'.1 [] ++ [e'.2] from hs) rfl
  rw [List.getD_eq_getElem?_getD, List.getD_eq_getElem?_getD, h1, h2] at g1
  have g3 : e.1 = e'.1 := hi.inj h1 (by rw [h2]; exact congrArg some g1.symm)
  have g4 : e.2 = e'.2 := by simpa using g2
  exact Prod.ext g3 g4
/-- After so many edges of a level. -/
structure Mid (ws : List (List UInt8)) (n : Nat) (ss0 : List (List UInt8)) (es : List (Nat × UInt8)) (i : Nat) (ns : List NodeP) (ss : List (List UInt8)) : Prop where
  inv : Inv ns ss
  str : ss = ss0 ++ (es.take i).map (strE ss0)
theorem Mid.up {ws : List (List UInt8)} {n : Nat} {ss0 : List (List UInt8)} {es : List (Nat × UInt8)} {i : Nat} {ns : List NodeP} {ss : List (List UInt8)} (h : Mid ws n ss0 es i ns ss) {j : Nat} {v : List UInt8} (hj : ss0[j]? = some v) : ss[j]? = some v := by
  rw [h.str, List.getElem?_append_left (List.getElem?_eq_some_iff.1 hj).1]; exact hj
/-- The next edge may come: what Inv.add asks. -/
theorem Mid.next {ws : List (List UInt8)} {n : Nat} {ns0 ns : List NodeP} {ss0 ss : List (List UInt8)} {at0 : List Nat} {es : List (Nat × UInt8)} {i : Nat} (hl : Lev ws n ns0 ss0) (ha : AtOk ws n ss0 at0) (he : EdgesOf ws n at0 es) (h : Mid ws n ss0 es i ns ss) (hi : i < es.length) :
    ∃ p, ss[es[i].1]? = some p ∧ strE ss0 es[i] = p ++ [es[i].2] ∧ p ++ [es[i].2] ∉ ss ∧ ∀ v, v ∈ ss → v.length ≤ p.length + 1 := by
  obtain ⟨k, h1, h2, h3, h4, h5⟩ := edge_str ha he (List.getElem_mem hi)
  have hst : strE ss0 es[i] = (ws.getD k []).take n ++ [es[i].2] := by unfold strE; rw [List.getD_eq_getElem?_getD, h4]; rfl
  have hlen : (strE ss0 es[i]).length = n + 1 := by rw [hst, List.length_append, h5]; rfl
  refine ⟨_, h.up h4, hst, ?_, fun v hv => ?_⟩
  · rw [← hst, h.str]
    intro hm
    rcases List.mem_append.1 hm with hm | hm
    · have := ((hl.mem _).1 hm).1
      omega
    · obtain ⟨e, he1, he2⟩ := List.mem_map.1 hm
      obtain ⟨j, hj, hje⟩ := List.getElem_of_mem he1
      rw [List.length_take] at hj
      rw [List.getElem_take] at hje
      have hjl : j < es.length := by omega
      have : es[j] = es[i] := edge_inj hl.inv ha he (List.getElem_mem hjl) (List.getElem_mem hi) (by rw [hje]; exact he2)
      have := (List.getElem_inj he.nod).1 this
      omega
  · rw [h5]
    rw [h.str] at hv
    rcases List.mem_append.1 hv with hv | hv
    · have := ((hl.mem _).1 hv).1
      omega
    · obtain ⟨e, he1, rfl⟩ := List.mem_map.1 hv
      obtain ⟨_, _, _, g1, g2, g3⟩ := edge_str ha he (List.mem_of_mem_take he1)
      unfold strE
      rw [List.getD_eq_getElem?_getD, g2]
      simp only [Option.getD_some, List.length_append, List.length_singleton]
      omega
theorem Mid.step {ws : List (List UInt8)} {n : Nat} {ns : List NodeP} {ss0 ss : List (List UInt8)} {es : List (Nat × UInt8)} {i : Nat} (h : Mid ws n ss0 es i ns ss) (hi : i < es.length) {p f : List UInt8} {fl : Nat} (hu : ss[es[i].1]? = some p) (hs : strE ss0 es[i] = p ++ [es[i].2]) (hn : p ++ [es[i].2] ∉ ss) (hl : ∀ v, v ∈ ss → v.length ≤ p.length + 1)
    (hf : ss[fl]? = some f) (hfail : f ∈ ss ∧ f <:+ p ++ [es[i].2] ∧ f ≠ p ++ [es[i].2] ∧ ∀ u, u ∈ ss → u <:+ p ++ [es[i].2] → u ≠ p ++ [es[i].2] → u <:+ f) : Mid ws n ss0 es (i + 1) (ns ++ [⟨es[i].2, es[i].1, fl⟩]) (ss ++ [p ++ [es[i].2]]) where
  inv := h.inv.add hu hf hn hl hfail
  str := by
    rw [List.take_succ_eq_append_getElem hi, List.map_append, ← List.append_assoc, ← h.str]
    rw [List.map_cons, List.map_nil, hs]
/-- The level is done. -/
theorem Mid.done {ws : List (List UInt8)} {n : Nat} {ns0 ns : List NodeP} {ss0 ss : List (List UInt8)} {at0 : List Nat} {es : List (Nat × UInt8)} (hl : Lev ws n ns0 ss0) (ha : AtOk ws n ss0 at0) (he : EdgesOf ws n at0 es) (h : Mid ws n ss0 es es.length ns ss) : Lev ws (n + 1) ns ss where
  inv := h.inv
  mem v := by
    rw [h.str, List.take_length, List.mem_append, hl.mem v, pre_succ]
    refine or_congr_right ⟨fun hm => ?_, ?_⟩
    · obtain ⟨e, h1, rfl⟩ := List.mem_map.1 hm
      obtain ⟨k, g1, g2, g3, _, _⟩ := edge_str ha he h1
      exact ⟨ws.getD k [], by rw [List.getD_eq_getElem?_getD, List.getElem?_eq_getElem g1]; exact List.getElem_mem g1, g2, g3⟩
    · rintro ⟨w, hw, h1, rfl⟩
      obtain ⟨k, hk, rfl⟩ := List.getElem_of_mem hw
      have hg : ws.getD k [] = ws[k] := by rw [List.getD_eq_getElem?_getD, List.getElem?_eq_getElem hk]; rfl
      refine List.mem_map.2 ⟨(at0.getD k 0, (ws.getD k []).getD n 0), (he.mem _).2 ⟨k, hk, by rw [hg]; exact h1, rfl⟩, ?_⟩
      unfold strE
      rw [List.getD_eq_getElem?_getD (l := ss0), ha.str k hk, ← hg, take_succ_getD (by rw [hg]; exact h1)]
      rfl
/-- A word goes on by its byte. -/
theorem Mid.go {ws : List (List UInt8)} {n : Nat} {ns : List NodeP} {ss0 ss : List (List UInt8)} {at0 : List Nat} {es : List (Nat × UInt8)} (ha : AtOk ws n ss0 at0) (he : EdgesOf ws n at0 es) (h : Mid ws n ss0 es es.length ns ss) {k : Nat} (hk : k < ws.length) (hn : n < (ws.getD k []).length) :
    ∃ j : Nat, ss[j]? = some ((ws.getD k []).take (n + 1)) ∧ ss[at0.getD k 0]? = some ((ws.getD k []).take n) := by
  have hm : (ws.getD k []).take (n + 1) ∈ ss := by
    rw [h.str, List.take_length]
    refine List.mem_append_right _ (List.mem_map.2 ⟨(at0.getD k 0, (ws.getD k []).getD n 0), (he.mem _).2 ⟨k, hk, hn, rfl⟩, ?_⟩)
    unfold strE
    rw [List.getD_eq_getElem?_getD (l := ss0), ha.str k hk, take_succ_getD hn]
    rfl
  obtain ⟨j, hj, e⟩ := List.getElem_of_mem hm
  exact ⟨j, by rw [List.getElem?_eq_getElem hj, e], h.up (ha.str k hk)⟩
structure FailAt (ss : List (List UInt8)) (f : List UInt8) (b : UInt8) (a : Nat) : Prop where
  cand : ∃ v, ss[a]? = some v ∧ Cand ss f b v
theorem failAt_start {ss : List (List UInt8)} {f : List UInt8} {b : UInt8} {a : Nat} (h : ss[a]? = some f) : FailAt ss f b a :=
  ⟨f, h, cand_of_long b ⟨List.mem_of_getElem? h, List.suffix_refl _, fun _ _ hs => hs⟩⟩
theorem FailAt.found {ns : List NodeP} {ss : List (List UInt8)} {f : List UInt8} {b : UInt8} {a j : Nat} (hi : Inv ns ss) (h : FailAt ss f b a) (hj : 0 < j ∧ ∃ n, ns[j]? = some n ∧ n.up = a ∧ n.b = b) : ∃ v, ss[j]? = some v ∧ IsLong ss (f ++ [b]) v := by
  obtain ⟨v, hv, hc⟩ := h.cand
  have := (hi.kid hv).2 hj
  exact ⟨_, this, cand_found hi.trie hc (List.mem_of_getElem? this)⟩
theorem FailAt.none {ns : List NodeP} {ss : List (List UInt8)} {f : List UInt8} {b : UInt8} (hi : Inv ns ss) (h : FailAt ss f b 0) (hn : ∀ j, ¬ (0 < j ∧ ∃ n, ns[j]? = some n ∧ n.up = 0 ∧ n.b = b)) : IsLong ss (f ++ [b]) [] := by
  obtain ⟨v, hv, hc⟩ := h.cand
  rw [hi.trie.root] at hv
  rw [← Option.some.inj hv] at hc
  refine cand_none hi.trie hc fun hm => ?_
  obtain ⟨j, hj, e⟩ := List.getElem_of_mem hm
  exact hn j ((hi.kid hi.trie.root).1 (by rw [List.getElem?_eq_getElem hj, e]; rfl))
theorem FailAt.next {ns : List NodeP} {ss : List (List UInt8)} {f : List UInt8} {b : UInt8} {a : Nat} {x : NodeP} (hi : Inv ns ss) (h : FailAt ss f b a) (h0 : 0 < a) (hx : ns[a]? = some x) (hn : ∀ j, ¬ (0 < j ∧ ∃ n, ns[j]? = some n ∧ n.up = a ∧ n.b = b)) : FailAt ss f b x.fail ∧ x.fail < a := by
  obtain ⟨v, hv, hc⟩ := h.cand
  obtain ⟨h1, g, h2, h3⟩ := hi.fail_at h0 hx hv
  refine ⟨⟨g, h2, cand_next hc (fun hm => ?_) h3⟩, h1⟩
  obtain ⟨j, hj, e⟩ := List.getElem_of_mem hm
  exact hn j ((hi.kid hv).1 (by rw [List.getElem?_eq_getElem hj, e]))
end Go.Proofs.YthfjmlcjkbgboaaGreatDoor
