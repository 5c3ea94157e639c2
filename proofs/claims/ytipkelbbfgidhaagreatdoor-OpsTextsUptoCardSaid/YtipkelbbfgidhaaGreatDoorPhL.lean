/- Plain: a tree of phrases (Aho, Corasick): nodes as strings; the longest suffix that is a node. -/
import Derived.Below
namespace Go.Proofs.YtipkelbbfgidhaaGreatDoor

/-- The strings of a tree's nodes: the first is empty, each other one is an earlier one and a byte; shorter ones come first; no two are the same. -/
structure TrieS (ss : List (List UInt8)) : Prop where
  root : ss[0]? = some []
  uniq : ss.Nodup
  pre : ∀ v b, v ++ [b] ∈ ss → v ∈ ss
  order : ∀ i j (hi : i < ss.length) (hj : j < ss.length), ss[i].length < ss[j].length → i < j
theorem TrieS.nil_mem {ss : List (List UInt8)} (h : TrieS ss) : [] ∈ ss := List.mem_of_getElem? h.root
/-- The longest suffix of a string that is a node. -/
def IsLong (ss : List (List UInt8)) (s v : List UInt8) : Prop := v ∈ ss ∧ v <:+ s ∧ ∀ u, u ∈ ss → u <:+ s → u <:+ v
/-- The longest proper one. -/
def IsFail (ss : List (List UInt8)) (s v : List UInt8) : Prop := v ∈ ss ∧ v <:+ s ∧ v ≠ s ∧ ∀ u, u ∈ ss → u <:+ s → u ≠ s → u <:+ v
theorem suffix_of_len {u v s : List UInt8} (hu : u <:+ s) (hv : v <:+ s) (h : u.length ≤ v.length) : u <:+ v := List.suffix_of_suffix_length_le hu hv h
theorem suffix_eq {u s : List UInt8} (h : u <:+ s) (hl : s.length ≤ u.length) : u = s := h.eq_of_length (Nat.le_antisymm h.length_le hl)
theorem suffix_snoc {u s : List UInt8} {b c : UInt8} : u ++ [b] <:+ s ++ [c] ↔ b = c ∧ u <:+ s := by
  constructor
  · rintro ⟨t, h⟩
    rw [← List.append_assoc] at h
    obtain ⟨h1, h2⟩ := List.append_inj' h rfl
    exact ⟨by simpa using h2, ⟨t, h1⟩⟩
  · rintro ⟨rfl, t, h⟩
    exact ⟨t, by rw [← List.append_assoc, h]⟩
theorem snoc_of {u s : List UInt8} {c : UInt8} (h : u <:+ s ++ [c]) (hu : u ≠ []) : ∃ u', u = u' ++ [c] ∧ u' <:+ s := by
  obtain ⟨u', b, rfl⟩ : ∃ u' b, u = u' ++ [b] := by
    rcases List.eq_nil_or_concat u with h0 | ⟨u', b, h1⟩
    · exact absurd h0 hu
    · exact ⟨u', b, by rw [h1, List.concat_eq_append]⟩
  obtain ⟨rfl, h2⟩ := suffix_snoc.1 h
  exact ⟨u', rfl, h2⟩
/-- One step of the machine: v is the longest node that ends s. If v with the byte is a node, it is the longest for s and the byte. -/
theorem long_step {ss : List (List UInt8)} {s v : List UInt8} {b : UInt8} (ht : TrieS ss) (h : IsLong ss s v) (hk : v ++ [b] ∈ ss) : IsLong ss (s ++ [b]) (v ++ [b]) := by
  refine ⟨hk, suffix_snoc.2 ⟨rfl, h.2.1⟩, fun u hu hs => ?_⟩
  by_cases h0 : u = []
  · rw [h0]; exact List.nil_suffix
  · obtain ⟨u', rfl, h1⟩ := snoc_of hs h0
    exact suffix_snoc.2 ⟨rfl, h.2.2 u' (ht.pre u' b hu) h1⟩
/-- Candidates at a place of the chain: whatever node ends s and goes on by b is v or ends v. -/
def Cand (ss : List (List UInt8)) (s : List UInt8) (b : UInt8) (v : List UInt8) : Prop := v ∈ ss ∧ v <:+ s ∧ ∀ u, u ∈ ss → u <:+ s → u ++ [b] ∈ ss → u <:+ v
theorem cand_of_long {ss : List (List UInt8)} {s v : List UInt8} (b : UInt8) (h : IsLong ss s v) : Cand ss s b v := ⟨h.1, h.2.1, fun u hu hs _ => h.2.2 u hu hs⟩
/-- On to the next of the chain. -/
theorem cand_next {ss : List (List UInt8)} {s v f : List UInt8} {b : UInt8} (h : Cand ss s b v) (hn : v ++ [b] ∉ ss) (hf : IsFail ss v f) : Cand ss s b f := by
  refine ⟨hf.1, hf.2.1.trans h.2.1, fun u hu hs hb => ?_⟩
  have h1 := h.2.2 u hu hs hb
  exact hf.2.2.2 u hu h1 fun e => hn (by rw [← e]; exact hb)
theorem cand_found {ss : List (List UInt8)} {s v : List UInt8} {b : UInt8} (ht : TrieS ss) (h : Cand ss s b v) (hk : v ++ [b] ∈ ss) : IsLong ss (s ++ [b]) (v ++ [b]) := by
  refine ⟨hk, suffix_snoc.2 ⟨rfl, h.2.1⟩, fun u hu hs => ?_⟩
  by_cases h0 : u = []
  · rw [h0]; exact List.nil_suffix
  · obtain ⟨u', rfl, h1⟩ := snoc_of hs h0
    exact suffix_snoc.2 ⟨rfl, h.2.2 u' (ht.pre u' b hu) h1 hu⟩
theorem cand_none {ss : List (List UInt8)} {s : List UInt8} {b : UInt8} (ht : TrieS ss) (h : Cand ss s b []) (hn : [b] ∉ ss) : IsLong ss (s ++ [b]) [] := by
  refine ⟨ht.nil_mem, List.nil_suffix, fun u hu hs => ?_⟩
  by_cases h0 : u = []
  · rw [h0]; exact List.suffix_refl _
  · obtain ⟨u', rfl, h1⟩ := snoc_of hs h0
    have := h.2.2 u' (ht.pre u' b hu) h1 hu
    rw [List.suffix_nil] at this
    rw [this] at hu
    exact absurd hu hn
/-- The longest proper suffix of a node that comes: from that of its parent. -/
theorem fail_of_long {ss : List (List UInt8)} {p f v : List UInt8} {b : UInt8} (hf : IsFail ss p f) (hv : IsLong ss (f ++ [b]) v) (ht : TrieS ss) (hnew : p ++ [b] ∉ ss) :
    v ∈ ss ∧ v <:+ p ++ [b] ∧ v ≠ p ++ [b] ∧ ∀ u, u ∈ ss → u <:+ p ++ [b] → u ≠ p ++ [b] → u <:+ v := by
  have hs : f ++ [b] <:+ p ++ [b] := suffix_snoc.2 ⟨rfl, hf.2.1⟩
  refine ⟨hv.1, hv.2.1.trans hs, fun e => hnew (by rw [← e]; exact hv.1), fun u hu h1 h2 => ?_⟩
  by_cases h0 : u = []
  · rw [h0]; exact List.nil_suffix
  · obtain ⟨u', rfl, h3⟩ := snoc_of h1 h0
    have hne : u' ≠ p := fun e => h2 (by rw [e])
    exact hv.2.2 _ hu (suffix_snoc.2 ⟨rfl, hf.2.2.2 u' (ht.pre u' b hu) h3 hne⟩)
theorem fail_root {ss : List (List UInt8)} {b : UInt8} (ht : TrieS ss) : [] ∈ ss ∧ [] <:+ [b] ∧ ([] : List UInt8) ≠ [b] ∧ ∀ u, u ∈ ss → u <:+ [b] → u ≠ [b] → u <:+ [] := by
  refine ⟨ht.nil_mem, List.nil_suffix, by simp, fun u _ h1 h2 => ?_⟩
  by_cases h0 : u = []
  · rw [h0]; exact List.suffix_refl _
  · have h3 := h1.length_le
    have h4 : 0 < u.length := List.length_pos_iff.2 h0
    exact absurd (suffix_eq h1 (by simp only [List.length_singleton] at h3 ⊢; omega)) h2
/-- A node that comes is no proper suffix of one that is not longer. -/
theorem IsFail.more {ss : List (List UInt8)} {s v x : List UInt8} (h : IsFail ss s v) (hx : s.length ≤ x.length) : IsFail (ss ++ [x]) s v :=
  ⟨List.mem_append_left _ h.1, h.2.1, h.2.2.1, fun u hu h1 h2 => by
    rcases List.mem_append.1 hu with hu | hu
    · exact h.2.2.2 u hu h1 h2
    · rw [List.mem_singleton.1 hu] at h1 h2
      exact absurd (suffix_eq h1 hx) h2⟩
theorem trie_add {ss : List (List UInt8)} (h : TrieS ss) {p : List UInt8} {b : UInt8} (hp : p ∈ ss) (hn : p ++ [b] ∉ ss) (hl : ∀ v, v ∈ ss → v.length ≤ p.length + 1) : TrieS (ss ++ [p ++ [b]]) := by
  have hlen : 0 < ss.length := List.length_pos_of_mem hp
  refine ⟨by rw [List.getElem?_append_left hlen]; exact h.root, ?_, fun v c hv => ?_, fun i j hi hj hij => ?_⟩
  · rw [List.nodup_append]
    refine ⟨h.uniq, by simp, fun a ha b' hb => ?_⟩
    rw [List.mem_singleton.1 hb]
    exact fun e => hn (by rw [← e]; exact ha)
  · rcases List.mem_append.1 hv with hv | hv
    · exact List.mem_append_left _ (h.pre v c hv)
    · have := List.mem_singleton.1 hv
      obtain ⟨e, _⟩ := List.append_inj' this rfl
      rw [e]
      exact List.mem_append_left _ hp
  · rw [List.length_append, List.length_singleton] at hi hj
    by_cases c1 : i < ss.length
    · by_cases c2 : j < ss.length
      · rw [List.getElem_append_left c1, List.getElem_append_left c2] at hij
        exact h.order i j c1 c2 hij
      · omega
    · have e : (ss ++ [p ++ [b]])[i] = p ++ [b] := by rw [List.getElem_append_right (by omega)]; simp
      rw [e] at hij
      by_cases c2 : j < ss.length
      · rw [List.getElem_append_left c2] at hij
        have := hl _ (List.getElem_mem c2)
        simp only [List.length_append, List.length_singleton] at hij
        omega
      · have e2 : (ss ++ [p ++ [b]])[j] = p ++ [b] := by rw [List.getElem_append_right (by omega)]; simp
        rw [e2] at hij
        omega
/-! The words that end at a node. -/
/-- The numbers of the words that a string ends by, in order. -/
def endsOf (ws : List (List UInt8)) (s : List UInt8) : List Nat := (List.range ws.length).filter fun k => decide (ws.getD k [] <:+ s)
theorem mem_endsOf {ws : List (List UInt8)} {s : List UInt8} {k : Nat} : k ∈ endsOf ws s ↔ k < ws.length ∧ ws.getD k [] <:+ s := by
  unfold endsOf
  rw [List.mem_filter, List.mem_range, decide_eq_true_eq]
theorem endsOf_sorted (ws : List (List UInt8)) (s : List UInt8) : (endsOf ws s).Pairwise (· < ·) := List.Pairwise.filter _ List.pairwise_lt_range
theorem sorted_ext : ∀ {l m : List Nat}, l.Pairwise (· < ·) → m.Pairwise (· < ·) → (∀ k, k ∈ l ↔ k ∈ m) → l = m
  | [], [], _, _, _ => rfl
  | [], b :: m, _, _, h => absurd ((h b).2 (by simp)) (by simp)
  | a :: l, [], _, _, h => absurd ((h a).1 (by simp)) (by simp)
  | a :: l, b :: m, h1, h2, h => by
    rw [List.pairwise_cons] at h1 h2
    have e : a = b := by
      rcases List.mem_cons.1 ((h a).1 (by simp)) with e | h3
      · exact e
      · rcases List.mem_cons.1 ((h b).2 (by simp)) with e | h4
        · exact e.symm
        · have := h2.1 a h3; have := h1.1 b h4; omega
    subst e
    refine congrArg (a :: ·) (sorted_ext h1.2 h2.2 fun k => ⟨fun hk => ?_, fun hk => ?_⟩)
    · rcases List.mem_cons.1 ((h k).1 (by simp [hk])) with e | h3
      · have := h1.1 k hk; omega
      · exact h3
    · rcases List.mem_cons.1 ((h k).2 (by simp [hk])) with e | h3
      · have := h2.1 k hk; omega
      · exact h3
/-- A string's words are those of the longest node that ends it. -/
theorem ends_long {ws ss : List (List UInt8)} {s v : List UInt8} (hw : ∀ k, k < ws.length → ws.getD k [] ∈ ss) (h : IsLong ss s v) : endsOf ws s = endsOf ws v :=
  sorted_ext (endsOf_sorted _ _) (endsOf_sorted _ _) fun k => by
    rw [mem_endsOf, mem_endsOf]
    exact ⟨fun ⟨h1, h2⟩ => ⟨h1, h.2.2 _ (hw k h1) h2⟩, fun ⟨h1, h2⟩ => ⟨h1, h2.trans h.2.1⟩⟩
/-- A node's words: itself, and those of its longest proper suffix. -/
theorem mem_ends_fail {ws ss : List (List UInt8)} {s v : List UInt8} (hw : ∀ k, k < ws.length → ws.getD k [] ∈ ss) (h : IsFail ss s v) (k : Nat) : k ∈ endsOf ws s ↔ k ∈ endsOf ws v ∨ (k < ws.length ∧ ws.getD k [] = s) := by
  rw [mem_endsOf, mem_endsOf]
  constructor
  · rintro ⟨h1, h2⟩
    by_cases e : ws.getD k [] = s
    · exact .inr ⟨h1, e⟩
    · exact .inl ⟨h1, h.2.2.2 _ (hw k h1) h2 e⟩
  · rintro (⟨h1, h2⟩ | ⟨h1, h2⟩)
    · exact ⟨h1, h2.trans h.2.1⟩
    · exact ⟨h1, by rw [h2]; exact List.suffix_refl _⟩
end Go.Proofs.YtipkelbbfgidhaaGreatDoor
