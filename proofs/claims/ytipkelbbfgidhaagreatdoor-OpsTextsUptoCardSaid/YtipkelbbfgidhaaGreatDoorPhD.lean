/- The words that end at each node, node by node: plain, and in memory. -/
import Derived.Test.YtipkelbbfgidhaaGreatDoorPhB
import Derived.Test.YtipkelbbfgidhaaGreatDoorPhK
namespace Go.Proofs.YtipkelbbfgidhaaGreatDoor
open Go.RowKit

theorem only_low {a w w' : World} {row : Option Nat} (h : a.grownBy w row) (hb : Below a.heap.size w w') : a.grownBy w' row :=
  ⟨hb.os.trans h.os, hb.tape.trans h.tape, hb.output.trans h.output, Nat.le_trans h.size hb.size, fun i hi hne => (hb.block i hi).trans (h.block i hi hne)⟩
/-- The words at a node ahead of the sort. -/
def accN (ws : List (List UInt8)) (e : List Nat) (ats : List Nat) (i k : Nat) : List Nat := e ++ (List.range k).filter fun j => decide (ats.getD j 0 = i ∧ 0 < i ∧ j < ws.length)
theorem accN_snoc (ws : List (List UInt8)) (e : List Nat) (ats : List Nat) (i k : Nat) (hk : k < ws.length) : accN ws e ats i (k + 1) = if ats.getD k 0 = i ∧ 0 < i then accN ws e ats i k ++ [k] else accN ws e ats i k := by
  unfold accN
  rw [List.range_succ, List.filter_append, ← List.append_assoc]
  by_cases h : ats.getD k 0 = i ∧ 0 < i
  · rw [if_pos h, List.filter_cons, if_pos (by simp only [decide_eq_true_eq]; exact ⟨h.1, h.2, hk⟩)]; rfl
  · rw [if_neg h, List.filter_cons, if_neg (by simp only [decide_eq_true_eq]; exact fun h2 => h ⟨h2.1, h2.2.1⟩), List.filter_nil, List.append_nil]
theorem ends_root {ws : List (List UInt8)} (h : ∀ w ∈ ws, w ≠ []) : endsOf ws [] = [] := by
  unfold endsOf
  rw [List.filter_eq_nil_iff]
  intro k hk
  rw [List.mem_range] at hk
  simp only [decide_eq_true_eq, List.suffix_nil]
  have : ws.getD k [] ∈ ws := by rw [List.getD_eq_getElem?_getD, List.getElem?_eq_getElem hk]; exact List.getElem_mem hk
  exact h _ this
theorem ends_node {ws ss : List (List UInt8)} {ns : List NodeP} {ats : List Nat} {n i : Nat} {x : NodeP} (hl : Lev ws n ns ss) (hw : ∀ w ∈ ws, w.length ≤ n) (ha : AtOk ws n ss ats) (h0 : 0 < i) (hx : ns[i]? = some x) :
    sortN (accN ws (endsOf ws (ss.getD x.fail [])) ats i ws.length) = endsOf ws (ss.getD i []) := by
  obtain ⟨s, hs⟩ : ∃ s, ss[i]? = some s := ⟨_, List.getElem?_eq_getElem (by rw [← hl.inv.len]; exact (List.getElem?_eq_some_iff.1 hx).1)⟩
  obtain ⟨hf, f, hf1, hf2⟩ := hl.inv.fail_at h0 hx hs
  have e1 : ss.getD i [] = s := by rw [List.getD_eq_getElem?_getD, hs]; rfl
  have e2 : ss.getD x.fail [] = f := by rw [List.getD_eq_getElem?_getD, hf1]; rfl
  rw [e1, e2]
  have hwl : ∀ k, k < ws.length → (ws.getD k []).take n = ws.getD k [] := fun k hk => by
    have : ws.getD k [] ∈ ws := by rw [List.getD_eq_getElem?_getD, List.getElem?_eq_getElem hk]; exact List.getElem_mem hk
    exact List.take_of_length_le (hw _ this)
  have hat : ∀ k, k < ws.length → (ats.getD k 0 = i ↔ ws.getD k [] = s) := fun k hk => by
    have := ha.str k hk
    rw [hwl k hk] at this
    constructor
    · intro e; rw [e, hs] at this; exact (Option.some.inj this).symm
    · intro e; rw [e] at this; exact hl.inv.inj this hs
  have hmem : ∀ k, k ∈ accN ws (endsOf ws f) ats i ws.length ↔ k ∈ endsOf ws f ∨ (k < ws.length ∧ ws.getD k [] = s) := fun k => by
    unfold accN
    rw [List.mem_append, List.mem_filter, List.mem_range, decide_eq_true_eq]
    refine or_congr_right ⟨fun ⟨h1, h2, _, _⟩ => ⟨h1, (hat k h1).1 h2⟩, fun ⟨h1, h2⟩ => ⟨h1, (hat k h1).2 h2, h0, h1⟩⟩
  have hnod : (accN ws (endsOf ws f) ats i ws.length).Nodup := by
    unfold accN
    rw [List.nodup_append]
    refine ⟨(endsOf_sorted ws f).imp fun h => Nat.ne_of_lt h, List.nodup_range.sublist List.filter_sublist, fun a h1 b h2 e => ?_⟩
    subst e
    rw [List.mem_filter, List.mem_range, decide_eq_true_eq] at h2
    have h3 := (mem_endsOf.1 h1).2
    rw [(hat a h2.1).1 h2.2.1] at h3
    exact hf2.2.2.1 (suffix_eq hf2.2.1 h3.length_le)
  refine sorted_ext (sortN_sorted hnod) (endsOf_sorted ws s) fun k => ?_
  rw [(sortN_perm _).mem_iff, hmem, mem_ends_fail (Lev.words hl hw) hf2]
/-- The nodes so far: the first i have their words. -/
structure NodesAt (ws ss : List (List UInt8)) (ns : List NodeP) (B lo g cap : Nat) (i : Nat) (ms : List NodeM) (w : World) : Prop where
  own : OwnG rowN w B (.slice (some ⟨g, 0, none⟩) ms.length cap) ms
  fst : ms.map Prod.fst = ns
  done : ∀ j m, j < i → ms[j]? = some m → EndsAt w lo m.2 (endsOf ws (ss.getD j []))
  rest : ∀ j m, i ≤ j → ms[j]? = some m → m.2 = (none, 0, 0)
theorem EndsAt.lower {w : World} {lo lo' : Nat} {s : SlT} {l : List Nat} (h : EndsAt w lo s l) (hl : lo' ≤ lo) : EndsAt w lo' s l := by
  refine ⟨h.1, fun h0 => ?_⟩
  obtain ⟨g, e, h1, h2⟩ := h.2 h0
  exact ⟨g, e, by omega, h2⟩
/-- The node at hand while its words come. -/
structure NodeNow (ms : List NodeM) (B g cap i : Nat) (w0 : World) (acc : List Nat) (s : SlT) (w : World) : Prop where
  row : OwnG rowI w w0.heap.size (slV s) acc
  own : OwnG rowN w B (.slice (some ⟨g, 0, none⟩) ms.length cap) (ms.set i ((ms.getD i (⟨0, 0, 0⟩, none, 0, 0)).1, s))
  only : w0.grownBy w (some g)
theorem NodesAt.next {ws ss : List (List UInt8)} {ns : List NodeP} {B lo g cap i : Nat} {ms : List NodeM} {w0 w w' : World} {s : SlT} {e : List Nat} (h : NodesAt ws ss ns B lo g cap i ms w0) (hi : i < ms.length) (hlo : lo ≤ w0.heap.size) (hg : g < lo)
    (ho : OwnG rowN w B (.slice (some ⟨g, 0, none⟩) ms.length cap) (ms.set i ((ms.getD i (⟨0, 0, 0⟩, none, 0, 0)).1, s))) (hw : w0.grownBy w (some g)) (he : EndsAt w' w0.heap.size s e) (hx : e = endsOf ws (ss.getD i [])) {g' : Nat} (hg' : w.grownBy w' (some g')) (hor : w0.heap.size ≤ g' ∨ w' = w) :
    NodesAt ws ss ns B lo g cap (i + 1) (ms.set i ((ms.getD i (⟨0, 0, 0⟩, none, 0, 0)).1, s)) w' ∧ w0.grownBy w' (some g) := by
  have hkeep : ∀ j, j < w0.heap.size → w'.heap[j]? = w.heap[j]? := fun j hj => by
    rcases hor with c | rfl
    · exact hg'.block j (Nat.lt_of_lt_of_le hj hw.size) (fun e => by injection e with e; omega)
    · rfl
  have hz : w.heap.size ≤ w'.heap.size := hg'.size
  have hgd : ms.getD i (⟨0, 0, 0⟩, none, 0, 0) = ms[i] := by rw [List.getD_eq_getElem?_getD, List.getElem?_eq_getElem hi]; rfl
  refine ⟨⟨?_, ?_, fun j m hj hm => ?_, fun j m hj hm => ?_⟩, ⟨hg'.os.trans hw.os, hg'.tape.trans hw.tape, hg'.output.trans hw.output, Nat.le_trans hw.size hz, fun j hj hne => (hkeep j hj).trans (hw.block j hj hne)⟩⟩
  · rw [List.length_set]
    exact ho.keep fun j e => hkeep j (by have e : g = j := Option.some.inj e; omega)
  · rw [List.map_set, h.fst, hgd]
    have : ns[i]? = some ms[i].1 := by rw [← h.fst, List.getElem?_map, List.getElem?_eq_getElem hi]; rfl
    refine List.ext_getElem? fun j => ?_
    by_cases c : i = j
    · subst c
      rw [List.getElem?_set_self (by rw [← h.fst, List.length_map]; exact hi), this]
    · rw [List.getElem?_set_ne c]
  · by_cases c : i = j
    · subst c
      rw [List.getElem?_set_self hi] at hm
      rw [← Option.some.inj hm, ← hx]
      exact he.lower hlo
    · rw [List.getElem?_set_ne c] at hm
      have h1 := h.done j m (by omega) hm
      exact h1.keep (Nat.le_trans hw.size hz) fun k hk hk2 => (hkeep k hk2).trans (hw.block k hk2 fun e => by injection e with e; omega)
  · rw [List.getElem?_set_ne (by omega)] at hm
    exact h.rest j m (by omega) hm
/-- A word more. -/
theorem NodeNow.add {ms : List NodeM} {B g cap i : Nat} {w0 w w4 : World} {acc : List Nat} {s : SlT} (h : NodeNow ms B g cap i w0 acc s w) (hi : i < ms.length) (hg : g < w0.heap.size) {k g4 c4 : Nat} (ho : OwnG rowI w4 w0.heap.size (.slice (some ⟨g4, 0, none⟩) (acc ++ [k]).length c4) (acc ++ [k])) (hb : Below w0.heap.size w w4) :
    NodeNow ms B g cap i w0 (acc ++ [k]) (some ⟨g4, 0, none⟩, acc.length + 1, c4) (w4.setCell ⟨g, i * 4 + 3, none⟩ (.slice (some ⟨g4, 0, none⟩) (acc.length + 1) c4)) := by
  have hl : (acc ++ [k]).length = acc.length + 1 := by simp
  rw [hl] at ho
  have hg4 := (ho.lt g4 rfl).1
  have h1 : OwnG rowN w4 B (.slice (some ⟨g, 0, none⟩) ms.length cap) (ms.set i ((ms.getD i (⟨0, 0, 0⟩, none, 0, 0)).1, s)) := h.own.keep fun j e => hb.block j (by have e : g = j := Option.some.inj e; omega)
  have hlen : (ms.set i ((ms.getD i (⟨0, 0, 0⟩, none, 0, 0)).1, s)).length = ms.length := List.length_set ..
  rw [← hlen] at h1
  have h2 := h1.stored i (by rw [hlen]; exact hi) 3 (by decide) (.slice (some ⟨g4, 0, none⟩) (acc.length + 1) c4) ((ms.getD i (⟨0, 0, 0⟩, none, 0, 0)).1, some ⟨g4, 0, none⟩, acc.length + 1, c4) (by rw [List.getElem_set_self]; rfl)
  refine ⟨?_, ?_, ?_⟩
  · exact ho.keep fun j e => Below.heap_setCell w4 ⟨g, i * 4 + 3, none⟩ _ j fun e2 => by injection e with e; rw [← e] at e2; have : g4 = g := e2; omega
  · have h3 := h2.1
    rw [List.set_set, hlen] at h3
    exact h3
  · exact only_setCell (only_low h.only hb) _ _
/-- The start: the words of the failure. -/
theorem NodeNow.start {ws ss : List (List UInt8)} {ns : List NodeP} {B lo g cap i : Nat} {ms : List NodeM} {w0 w4 : World} {s : SlT} {acc : List Nat} (h : NodesAt ws ss ns B lo g cap i ms w0) (hi : i < ms.length) (hg : g < w0.heap.size) (ho : OwnG rowI w4 w0.heap.size (slV s) acc) (hb : Below w0.heap.size w0 w4) :
    NodeNow ms B g cap i w0 acc s (w4.setCell ⟨g, i * 4 + 3, none⟩ (slV s)) := by
  have h1 : OwnG rowN w4 B (.slice (some ⟨g, 0, none⟩) ms.length cap) ms := h.own.keep fun j e => hb.block j (by have e : g = j := Option.some.inj e; omega)
  have hgd : ms.getD i (⟨0, 0, 0⟩, none, 0, 0) = ms[i] := by rw [List.getD_eq_getElem?_getD, List.getElem?_eq_getElem hi]; rfl
  have h2 := h1.stored i hi 3 (by decide) (slV s) ((ms.getD i (⟨0, 0, 0⟩, none, 0, 0)).1, s) (by rw [hgd]; rfl)
  refine ⟨?_, h2.1, only_setCell ⟨hb.os, hb.tape, hb.output, hb.size, fun j hj _ => hb.block j hj⟩ _ _⟩
  exact ho.keep fun j e => Below.heap_setCell w4 ⟨g, i * 4 + 3, none⟩ _ j fun e2 => by
    have := (ho.lt j e).1
    have e3 : j = g := e2
    omega
end Go.Proofs.YtipkelbbfgidhaaGreatDoor
