/- Plain: a level of a tree of phrases. -/
import Derived.Test.YtipkelbbfgidhaaGreatDoorPhN
namespace Go.Proofs.YtipkelbbfgidhaaGreatDoor

/-- Where each word is, so many bytes on. -/
structure AtOk (ws : List (List UInt8)) (n : Nat) (ss : List (List UInt8)) (at0 : List Nat) : Prop where
  len : at0.length = ws.length
  str : ∀ k, k < ws.length → ss[at0.getD k 0]? = some ((ws.getD k []).take n)
theorem at_start {ws : List (List UInt8)} : AtOk ws 0 [[]] (List.replicate ws.length 0) where
  len := by simp
  str k hk := by
    have : (List.replicate ws.length 0).getD k 0 = 0 := by rw [List.getD_eq_getElem?_getD]; simp [hk]
    rw [this, List.take_zero]; rfl
/-- The edges of a level. -/
structure EdgesOf (ws : List (List UInt8)) (n : Nat) (at0 : List Nat) (es : List (Nat × UInt8)) : Prop where
  nod : es.Nodup
  mem : ∀ e, e ∈ es ↔ ∃ k, k < ws.length ∧ n < (ws.getD k []).length ∧ e = (at0.getD k 0, (ws.getD k []).getD n 0)
def strE (ss0 : List (List UInt8)) (e : Nat × UInt8) : List UInt8 := ss0.getD e.1 [] ++ [e.2]
theorem take_succ_getD {w : List UInt8} {n : Nat} (h : n < w.length) : w.take (n + 1) = w.take n ++ [w.getD n 0] := by
  rw [List.take_succ_eq_append_getElem h, List.getD_eq_getElem?_getD, List.getElem?_eq_getElem h]; rfl
theorem edge_str {ws : List (List UInt8)} {n : Nat} {ss0 : List (List UInt8)} {at0 : List Nat} {es : List (Nat × UInt8)} (ha : AtOk ws n ss0 at0) (he : EdgesOf ws n at0 es) {e : Nat × UInt8} (h : e ∈ es) :
    ∃ k, k < ws.length ∧ n < (ws.getD k []).length ∧ strE ss0 e = (ws.getD k []).take (n + 1) ∧ ss0[e.1]? = some ((ws.getD k []).take n) ∧ ((ws.getD k []).take n).length = n := by
  obtain ⟨k, h1, h2, rfl⟩ := (he.mem e).1 h
  have hs := ha.str k h1
  refine ⟨k, h1, h2, ?_, hs, by rw [List.length_take]; omega⟩
  unfold strE
  rw [take_succ_getD h2, List.getD_eq_getElem?_getD, hs]
  rfl
theorem edge_inj {ws : List (List UInt8)} {n : Nat} {ns : List NodeP} {ss0 : List (List UInt8)} {at0 : List Nat} {es : List (Nat × UInt8)} (hi : Inv ns ss0) (ha : AtOk ws n ss0 at0) (he : EdgesOf ws n at0 es) {e e' : Nat × UInt8} (h : e ∈ es) (h' : e' ∈ es) (hs : strE ss0 e = strE ss0 e') : e = e' := by
  obtain ⟨_, _, _, _, h1, _⟩ := edge_str ha he h
  obtain ⟨_, _, _, _, h2, _⟩ := edge_str ha he h'
  obtain ⟨g1, g2⟩ := List.append_inj' (show ss0.getD e.1 [] ++ [e.2] = ss0.getD e'.1 [] ++ [e'.2] from hs) rfl
  rw [List.getD_eq_getElem?_getD, List.getD_eq_getElem?_getD, h1, h2] at g1
  have g3 : e.1 = e'.1 := hi.inj h1 (by rw [h2]; exact congrArg some g1.symm)
  have g4 : e.2 = e'.2 := by simpa using g2
  exact Prod.ext g3 g4
/-- After so many edges of a level. -/
structure Mid (ws : List (List UInt8)) (n : Nat) (ss0 : List (List UInt8)) (es : List (Nat × UInt8)) (i : Nat) (ns : List NodeP) (ss : List (List UInt8)) : Prop where
  inv : Inv ns ss
  str : ss = ss0 ++ (es.take i).map (strE ss0)
theorem Mid.up {ws : List (List UInt8)} {n : Nat} {ss0 : List (List UInt8)} {es : List (Nat × UInt8)} {i : Nat} {ns : List NodeP} {ss : List (List UInt8)} (h : Mid ws n ss0 es i ns ss) {j : Nat} {v : List UInt8} (hj : ss0[j]? = some v) : ss[j]? = some v := by
  rw [h.str, List.getElem?_append_left (List.getElem?_eq_some_iff.1 hj).1]; exact hj
/-- The next edge may come: what Inv.add asks. -/
theorem Mid.next {ws : List (List UInt8)} {n : Nat} {ns0 ns : List NodeP} {ss0 ss : List (List UInt8)} {at0 : List Nat} {es : List (Nat × UInt8)} {i : Nat} (hl : Lev ws n ns0 ss0) (ha : AtOk ws n ss0 at0) (he : EdgesOf ws n at0 es) (h : Mid ws n ss0 es i ns ss) (hi : i < es.length) :
    ∃ p, ss[es[i].1]? = some p ∧ strE ss0 es[i] = p ++ [es[i].2] ∧ p ++ [es[i].2] ∉ ss ∧ ∀ v, v ∈ ss → v.length ≤ p.length + 1 := by
  obtain ⟨k, h1, h2, h3, h4, h5⟩ := edge_str ha he (List.getElem_mem hi)
  have hst : strE ss0 es[i] = (ws.getD k []).take n ++ [es[i].2] := by unfold strE; rw [List.getD_eq_getElem?_getD, h4]; rfl
  have hlen : (strE ss0 es[i]).length = n + 1 := by rw [hst, List.length_append, h5]; rfl
  refine ⟨_, h.up h4, hst, ?_, fun v hv => ?_⟩
  · rw [← hst, h.str]
    intro hm
    rcases List.mem_append.1 hm with hm | hm
    · have := ((hl.mem _).1 hm).1
      omega
    · obtain ⟨e, he1, he2⟩ := List.mem_map.1 hm
      obtain ⟨j, hj, hje⟩ := List.getElem_of_mem he1
      rw [List.length_take] at hj
      rw [List.getElem_take] at hje
      have hjl : j < es.length := by omega
      have : es[j] = es[i] := edge_inj hl.inv ha he (List.getElem_mem hjl) (List.getElem_mem hi) (by rw [hje]; exact he2)
      have := (List.getElem_inj he.nod).1 this
      omega
  · rw [h5]
    rw [h.str] at hv
    rcases List.mem_append.1 hv with hv | hv
    · have := ((hl.mem _).1 hv).1
      omega
    · obtain ⟨e, he1, rfl⟩ := List.mem_map.1 hv
      obtain ⟨_, _, _, g1, g2, g3⟩ := edge_str ha he (List.mem_of_mem_take he1)
      unfold strE
      rw [List.getD_eq_getElem?_getD, g2]
      simp only [Option.getD_some, List.length_append, List.length_singleton]
      omega
theorem Mid.step {ws : List (List UInt8)} {n : Nat} {ns : List NodeP} {ss0 ss : List (List UInt8)} {es : List (Nat × UInt8)} {i : Nat} (h : Mid ws n ss0 es i ns ss) (hi : i < es.length) {p f : List UInt8} {fl : Nat} (hu : ss[es[i].1]? = some p) (hs : strE ss0 es[i] = p ++ [es[i].2]) (hn : p ++ [es[i].2] ∉ ss) (hl : ∀ v, v ∈ ss → v.length ≤ p.length + 1)
    (hf : ss[fl]? = some f) (hfail : f ∈ ss ∧ f <:+ p ++ [es[i].2] ∧ f ≠ p ++ [es[i].2] ∧ ∀ u, u ∈ ss → u <:+ p ++ [es[i].2] → u ≠ p ++ [es[i].2] → u <:+ f) : Mid ws n ss0 es (i + 1) (ns ++ [⟨es[i].2, es[i].1, fl⟩]) (ss ++ [p ++ [es[i].2]]) where
  inv := h.inv.add hu hf hn hl hfail
  str := by
    rw [List.take_succ_eq_append_getElem hi, List.map_append, ← List.append_assoc, ← h.str]
    rw [List.map_cons, List.map_nil, hs]
/-- The level is done. -/
theorem Mid.done {ws : List (List UInt8)} {n : Nat} {ns0 ns : List NodeP} {ss0 ss : List (List UInt8)} {at0 : List Nat} {es : List (Nat × UInt8)} (hl : Lev ws n ns0 ss0) (ha : AtOk ws n ss0 at0) (he : EdgesOf ws n at0 es) (h : Mid ws n ss0 es es.length ns ss) : Lev ws (n + 1) ns ss where
  inv := h.inv
  mem v := by
    rw [h.str, List.take_length, List.mem_append, hl.mem v, pre_succ]
    refine or_congr_right ⟨fun hm => ?_, ?_⟩
    · obtain ⟨e, h1, rfl⟩ := List.mem_map.1 hm
      obtain ⟨k, g1, g2, g3, _, _⟩ := edge_str ha he h1
      exact ⟨ws.getD k [], by rw [List.getD_eq_getElem?_getD, List.getElem?_eq_getElem g1]; exact List.getElem_mem g1, g2, g3⟩
    · rintro ⟨w, hw, h1, rfl⟩
      obtain ⟨k, hk, rfl⟩ := List.getElem_of_mem hw
      have hg : ws.getD k [] = ws[k] := by rw [List.getD_eq_getElem?_getD, List.getElem?_eq_getElem hk]; rfl
      refine List.mem_map.2 ⟨(at0.getD k 0, (ws.getD k []).getD n 0), (he.mem _).2 ⟨k, hk, by rw [hg]; exact h1, rfl⟩, ?_⟩
      unfold strE
      rw [List.getD_eq_getElem?_getD (l := ss0), ha.str k hk, ← hg, take_succ_getD (by rw [hg]; exact h1)]
      rfl
/-- A word goes on by its byte. -/
theorem Mid.go {ws : List (List UInt8)} {n : Nat} {ns : List NodeP} {ss0 ss : List (List UInt8)} {at0 : List Nat} {es : List (Nat × UInt8)} (ha : AtOk ws n ss0 at0) (he : EdgesOf ws n at0 es) (h : Mid ws n ss0 es es.length ns ss) {k : Nat} (hk : k < ws.length) (hn : n < (ws.getD k []).length) :
    ∃ j : Nat, ss[j]? = some ((ws.getD k []).take (n + 1)) ∧ ss[at0.getD k 0]? = some ((ws.getD k []).take n) := by
  have hm : (ws.getD k []).take (n + 1) ∈ ss := by
    rw [h.str, List.take_length]
    refine List.mem_append_right _ (List.mem_map.2 ⟨(at0.getD k 0, (ws.getD k []).getD n 0), (he.mem _).2 ⟨k, hk, hn, rfl⟩, ?_⟩)
    unfold strE
    rw [List.getD_eq_getElem?_getD (l := ss0), ha.str k hk, take_succ_getD hn]
    rfl
  obtain ⟨j, hj, e⟩ := List.getElem_of_mem hm
  exact ⟨j, by rw [List.getElem?_eq_getElem hj, e], h.up (ha.str k hk)⟩
/-! The failure of a node that comes, step by step. -/
structure FailAt (ss : List (List UInt8)) (f : List UInt8) (b : UInt8) (a : Nat) : Prop where
  cand : ∃ v, ss[a]? = some v ∧ Cand ss f b v
theorem failAt_start {ss : List (List UInt8)} {f : List UInt8} {b : UInt8} {a : Nat} (h : ss[a]? = some f) : FailAt ss f b a :=
  ⟨f, h, cand_of_long b ⟨List.mem_of_getElem? h, List.suffix_refl _, fun _ _ hs => hs⟩⟩
theorem FailAt.found {ns : List NodeP} {ss : List (List UInt8)} {f : List UInt8} {b : UInt8} {a j : Nat} (hi : Inv ns ss) (h : FailAt ss f b a) (hj : 0 < j ∧ ∃ n, ns[j]? = some n ∧ n.up = a ∧ n.b = b) : ∃ v, ss[j]? = some v ∧ IsLong ss (f ++ [b]) v := by
  obtain ⟨v, hv, hc⟩ := h.cand
  have := (hi.kid hv).2 hj
  exact ⟨_, this, cand_found hi.trie hc (List.mem_of_getElem? this)⟩
theorem FailAt.none {ns : List NodeP} {ss : List (List UInt8)} {f : List UInt8} {b : UInt8} (hi : Inv ns ss) (h : FailAt ss f b 0) (hn : ∀ j, ¬ (0 < j ∧ ∃ n, ns[j]? = some n ∧ n.up = 0 ∧ n.b = b)) : IsLong ss (f ++ [b]) [] := by
  obtain ⟨v, hv, hc⟩ := h.cand
  rw [hi.trie.root] at hv
  rw [← Option.some.inj hv] at hc
  refine cand_none hi.trie hc fun hm => ?_
  obtain ⟨j, hj, e⟩ := List.getElem_of_mem hm
  exact hn j ((hi.kid hi.trie.root).1 (by rw [List.getElem?_eq_getElem hj, e]; rfl))
theorem FailAt.next {ns : List NodeP} {ss : List (List UInt8)} {f : List UInt8} {b : UInt8} {a : Nat} {x : NodeP} (hi : Inv ns ss) (h : FailAt ss f b a) (h0 : 0 < a) (hx : ns[a]? = some x) (hn : ∀ j, ¬ (0 < j ∧ ∃ n, ns[j]? = some n ∧ n.up = a ∧ n.b = b)) : FailAt ss f b x.fail ∧ x.fail < a := by
  obtain ⟨v, hv, hc⟩ := h.cand
  obtain ⟨h1, g, h2, h3⟩ := hi.fail_at h0 hx hv
  refine ⟨⟨g, h2, cand_next hc (fun hm => ?_) h3⟩, h1⟩
  obtain ⟨j, hj, e⟩ := List.getElem_of_mem hm
  exact hn j ((hi.kid hv).1 (by rw [List.getElem?_eq_getElem hj, e]))
end Go.Proofs.YtipkelbbfgidhaaGreatDoor
