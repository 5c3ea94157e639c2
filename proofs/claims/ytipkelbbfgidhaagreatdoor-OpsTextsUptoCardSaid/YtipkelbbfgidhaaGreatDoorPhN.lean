/- Plain: the nodes of a tree of phrases beside their strings. -/
import Derived.Test.YtipkelbbfgidhaaGreatDoorPhL
namespace Go.Proofs.YtipkelbbfgidhaaGreatDoor

structure NodeP where
  b : UInt8
  up : Nat
  fail : Nat
structure Inv (ns : List NodeP) (ss : List (List UInt8)) : Prop where
  len : ns.length = ss.length
  trie : TrieS ss
  zero : ns[0]? = some ⟨0, 0, 0⟩
  node : ∀ j n, 0 < j → ns[j]? = some n → n.up < j ∧ n.fail < j ∧ ∃ p f, ss[n.up]? = some p ∧ ss[n.fail]? = some f ∧ ss[j]? = some (p ++ [n.b]) ∧ IsFail ss (p ++ [n.b]) f
theorem inv_start : Inv [⟨0, 0, 0⟩] [[]] where
  len := rfl
  trie := ⟨rfl, by simp, fun v b h => by simp at h, fun i j hi hj h => by
    have e1 : i = 0 := by simpa using hi
    have e2 : j = 0 := by simpa using hj
    subst e1; subst e2
    exact absurd h (by simp)⟩
  zero := rfl
  node j n hj h := by
    have := (List.getElem?_eq_some_iff.1 h).1
    simp only [List.length_singleton] at this
    omega
theorem Inv.lt {ns : List NodeP} {ss : List (List UInt8)} (h : Inv ns ss) {j : Nat} {v : List UInt8} (hv : ss[j]? = some v) : j < ns.length := by
  rw [h.len]; exact (List.getElem?_eq_some_iff.1 hv).1
/-- Two places of one string are one. -/
theorem Inv.inj {ns : List NodeP} {ss : List (List UInt8)} (h : Inv ns ss) {i j : Nat} {v : List UInt8} (hi : ss[i]? = some v) (hj : ss[j]? = some v) : i = j := by
  obtain ⟨h1, e1⟩ := List.getElem?_eq_some_iff.1 hi
  obtain ⟨h2, e2⟩ := List.getElem?_eq_some_iff.1 hj
  exact (List.getElem_inj h.trie.uniq).1 (e1.trans e2.symm)
theorem Inv.root {ns : List NodeP} {ss : List (List UInt8)} (h : Inv ns ss) {j : Nat} (hj : ss[j]? = some []) : j = 0 := h.inj hj h.trie.root
/-- The kid of a node by a byte. -/
theorem Inv.kid {ns : List NodeP} {ss : List (List UInt8)} (h : Inv ns ss) {u : Nat} {p : List UInt8} {b : UInt8} (hu : ss[u]? = some p) {j : Nat} : ss[j]? = some (p ++ [b]) ↔ (0 < j ∧ ∃ n, ns[j]? = some n ∧ n.up = u ∧ n.b = b) := by
  constructor
  · intro hj
    have h0 : 0 < j := by
      rcases Nat.eq_zero_or_pos j with e | e
      · subst e
        rw [h.trie.root] at hj
        have := Option.some.inj hj
        exact absurd this.symm (by simp)
      · exact e
    obtain ⟨n, hn⟩ : ∃ n, ns[j]? = some n := ⟨_, List.getElem?_eq_getElem (h.lt hj)⟩
    obtain ⟨_, _, p', f, e1, _, e3, _⟩ := h.node j n h0 hn
    rw [hj] at e3
    obtain ⟨e4, e5⟩ := List.append_inj' (Option.some.inj e3) rfl
    refine ⟨h0, n, hn, h.inj (v := p') e1 (by rw [← e4]; exact hu), ?_⟩
    simpa using e5.symm
  · rintro ⟨h0, n, hn, rfl, rfl⟩
    obtain ⟨_, _, p', f, e1, _, e3, _⟩ := h.node j n h0 hn
    rw [hu] at e1
    rw [Option.some.inj e1]
    exact e3
theorem Inv.fail_at {ns : List NodeP} {ss : List (List UInt8)} (h : Inv ns ss) {j : Nat} {n : NodeP} (h0 : 0 < j) (hn : ns[j]? = some n) {v : List UInt8} (hv : ss[j]? = some v) : n.fail < j ∧ ∃ f, ss[n.fail]? = some f ∧ IsFail ss v f := by
  obtain ⟨_, h2, p, f, _, e2, e3, e4⟩ := h.node j n h0 hn
  rw [hv] at e3
  rw [Option.some.inj e3]
  exact ⟨h2, f, e2, e4⟩
/-- A node comes. -/
theorem Inv.add {ns : List NodeP} {ss : List (List UInt8)} (h : Inv ns ss) {u fl : Nat} {b : UInt8} {p f : List UInt8} (hu : ss[u]? = some p) (hf : ss[fl]? = some f) (hn : p ++ [b] ∉ ss) (hl : ∀ v, v ∈ ss → v.length ≤ p.length + 1)
    (hfail : f ∈ ss ∧ f <:+ p ++ [b] ∧ f ≠ p ++ [b] ∧ ∀ u, u ∈ ss → u <:+ p ++ [b] → u ≠ p ++ [b] → u <:+ f) : Inv (ns ++ [⟨b, u, fl⟩]) (ss ++ [p ++ [b]]) where
  len := by rw [List.length_append, List.length_append, h.len]; rfl
  trie := trie_add h.trie (List.mem_of_getElem? hu) hn hl
  zero := by rw [List.getElem?_append_left (List.getElem?_eq_some_iff.1 h.zero).1]; exact h.zero
  node j n hj hjn := by
    have up : ∀ {i v}, ss[i]? = some v → (ss ++ [p ++ [b]])[i]? = some v := fun {i v} e => by
      rw [List.getElem?_append_left (List.getElem?_eq_some_iff.1 e).1]; exact e
    rcases Nat.lt_or_ge j ns.length with c | c
    · rw [List.getElem?_append_left c] at hjn
      obtain ⟨h1, h2, q, g, e1, e2, e3, e4⟩ := h.node j n hj hjn
      refine ⟨h1, h2, q, g, up e1, up e2, up e3, e4.more ?_⟩
      have := hl _ (List.mem_of_getElem? e3)
      rw [List.length_append, List.length_singleton] at this ⊢
      rw [List.length_append, List.length_singleton]
      omega
    · have hlt := (List.getElem?_eq_some_iff.1 hjn).1
      rw [List.length_append, List.length_singleton] at hlt
      have e : j = ns.length := by omega
      subst e
      rw [List.getElem?_append_right (Nat.le_refl _), Nat.sub_self] at hjn
      have hnn : n = ⟨b, u, fl⟩ := (Option.some.inj hjn).symm
      subst hnn
      refine ⟨h.lt hu, h.lt hf, p, f, up hu, up hf, ?_, List.mem_append_left _ hfail.1, hfail.2.1, hfail.2.2.1, fun x hx h1 h2 => ?_⟩
      · rw [h.len, List.getElem?_append_right (Nat.le_refl _), Nat.sub_self]; rfl
      · rcases List.mem_append.1 hx with hx | hx
        · exact hfail.2.2.2 x hx h1 h2
        · exact absurd (List.mem_singleton.1 hx) h2
/-! Levels: prefixes of the words. -/
def PreOf (ws : List (List UInt8)) (n : Nat) (v : List UInt8) : Prop := v.length ≤ n ∧ ∃ w, w ∈ ws ∧ v <+: w
/-- Up to this level all is there. -/
structure Lev (ws : List (List UInt8)) (n : Nat) (ns : List NodeP) (ss : List (List UInt8)) : Prop where
  inv : Inv ns ss
  mem : ∀ v, v ∈ ss ↔ PreOf ws n v
theorem pre_root {ws : List (List UInt8)} (h : ws ≠ []) (n : Nat) : PreOf ws n [] := by
  obtain ⟨w, hw⟩ := List.exists_mem_of_ne_nil ws h
  exact ⟨Nat.zero_le _, w, hw, List.nil_prefix⟩
theorem lev_start {ws : List (List UInt8)} (h : ws ≠ []) : Lev ws 0 [⟨0, 0, 0⟩] [[]] where
  inv := inv_start
  mem v := by
    rw [List.mem_singleton]
    constructor
    · rintro rfl; exact pre_root h 0
    · rintro ⟨h1, _⟩; exact List.eq_nil_of_length_eq_zero (by omega)
/-- The prefixes that a level brings. -/
theorem pre_succ {ws : List (List UInt8)} {n : Nat} {v : List UInt8} : PreOf ws (n + 1) v ↔ PreOf ws n v ∨ ∃ w, w ∈ ws ∧ n < w.length ∧ v = w.take (n + 1) := by
  constructor
  · rintro ⟨h1, w, hw, hp⟩
    by_cases c : v.length ≤ n
    · exact .inl ⟨c, w, hw, hp⟩
    · have hl := hp.length_le
      refine .inr ⟨w, hw, by omega, ?_⟩
      have := List.prefix_iff_eq_take.1 hp
      rw [this, show v.length = n + 1 by omega]
  · rintro (⟨h1, w, hw, hp⟩ | ⟨w, hw, hl, rfl⟩)
    · exact ⟨by omega, w, hw, hp⟩
    · exact ⟨by rw [List.length_take]; omega, w, hw, List.take_prefix _ _⟩
theorem Lev.words {ws : List (List UInt8)} {n : Nat} {ns : List NodeP} {ss : List (List UInt8)} (h : Lev ws n ns ss) (hn : ∀ w, w ∈ ws → w.length ≤ n) : ∀ k, k < ws.length → ws.getD k [] ∈ ss := fun k hk => by
  have hm : ws.getD k [] ∈ ws := by rw [List.getD_eq_getElem?_getD, List.getElem?_eq_getElem hk]; exact List.getElem_mem hk
  exact (h.mem _).2 ⟨hn _ hm, _, hm, List.prefix_refl _⟩
end Go.Proofs.YtipkelbbfgidhaaGreatDoor
