/- The walk of rex.ends at expressions without kids. -/
import Derived.Test.YteinbjopclblaaaRexB
import Derived.Test.YteinbjopclblaaaRexH
import Derived.Deep.QuietTactic
import Derived.BigQuiet
import Derived.Deep.RegionHeld3
import Derived.Laws.CopyOwn
import Derived.StillTailTactics
namespace Go.Proofs.Yteinbjopclblaaa
open Go.RowKit

def EndsPost (s : List UInt8) (t : Tree) (fr : List Bool) (n : Nat) (w : World) (e : Ending) (w' : World) : Prop :=
  ∃ g cap to, e = .returned (.slice (some ⟨g, 0, none⟩) n cap) ∧ BL w' w.heap.size g cap n to ∧ EndsL s t fr to ∧ Below w.heap.size w w'
def EndsC (t : Tree) : Prop := ∀ (s : ByteArray) (A : Option Addr) (c : Nat) (w : World) (bF gF cF n : Nat) (fr : List Bool), s.size ≤ 300 → n = s.size + 1 → t.set.Wf → LK w w.heap.size t.kids A → BL w bF gF cF n fr →
  Calls Try.prog 87 #[.agg #[.int .i64 t.kind, .int .u64 t.set.a, .int .u64 t.set.b, .int .u64 t.set.c, .int .u64 t.set.d, .slice A t.kids.length c], .string s, .slice (some ⟨gF, 0, none⟩) n cF] w (EndsPost s.data.toList t fr n w)

theorem box_six {W w' : World} {c0 c1 c2 c3 c4 c5 : Value} {t : TypeId} (hb : Below (W.alloc (.cells #[c0, c1, c2, c3, c4, c5] t)).heap.size (W.alloc (.cells #[c0, c1, c2, c3, c4, c5] t)) w') :
    (w'.cell? ⟨W.heap.size, 0, none⟩ = some c0 ∧ w'.cell? ⟨W.heap.size, 1, none⟩ = some c1 ∧ w'.cell? ⟨W.heap.size, 2, none⟩ = some c2 ∧ w'.cell? ⟨W.heap.size, 3, none⟩ = some c3 ∧ w'.cell? ⟨W.heap.size, 4, none⟩ = some c4 ∧ w'.cell? ⟨W.heap.size, 5, none⟩ = some c5) ∧ Below W.heap.size W w' :=
  ⟨⟨new_cell hb 0, new_cell hb 1, new_cell hb 2, new_cell hb 3, new_cell hb 4, new_cell hb 5⟩, below_new hb (Nat.le_refl _)⟩

theorem ends1 (S : Set4) : EndsC (.node 1 S []) := by
  intro s A c w bF gF cF n fr hs hn _ _ hF
  have HE : Hid (EndsL s.data.toList (.node 1 S []) fr (List.replicate n false)) := by
    have := ends_none (s := s.data.toList) (fr := fr) (S := S)
    rwa [hF.len] at this
  have hn1 : n ≤ 301 := by omega
  clear hn
  obtain ⟨a, b, c', d⟩ := S
  dsimp only [Tree.kind, Tree.set, Tree.kids, List.length_nil]
  go_enter Try.func87, Try.ntmps87
  go_wp2_with (at_make; refine wpList_make_b rfl _ _ rfl n (w.heap.size + 1) (by simp) rfl rfl (by omega) ?_; intro w1 hO hb hz; obtain ⟨⟨f0, f1, f2, f3, f4, f5⟩, hbw⟩ := box_six hb; clear hb)
  go_ret
  exact ⟨_, _, _, rfl, hO.low (by omega), HE.out, hbw⟩

set_option maxHeartbeats 800000 in
theorem ends7 (S : Set4) : EndsC (.node 7 S []) := by
  intro s A c w bF gF cF n fr hs hn _ _ hF
  have hlen : s.data.toList.length = s.size := by simp
  have HE : Hid (EndsL s.data.toList (.node 7 S []) fr ((List.replicate n false).set 0 (tt fr 0))) := by
    have := ends_begin (s := s.data.toList) (fr := fr) (S := S) (by rw [hF.len, hlen, hn])
    rwa [hF.len] at this
  have hn1 : n ≤ 301 := by omega
  have hn0 : 0 < n := by omega
  have hgF : gF < w.heap.size := hF.lt.2
  have hc0 := hF.cell hn0
  generalize tt fr 0 = q at *
  clear hn hlen
  obtain ⟨a, b, c', d⟩ := S
  dsimp only [Tree.kind, Tree.set, Tree.kids, List.length_nil]
  go_enter Try.func87, Try.ntmps87
  go_wp2_with (at_make; refine wpList_make_b rfl _ _ rfl n (w.heap.size + 1) (by simp) rfl rfl (by omega) ?_; intro w1 hO hb hz; obtain ⟨⟨f0, f1, f2, f3, f4, f5⟩, hbw⟩ := box_six hb; have hcF := (hbw.cell (p := ⟨gF, 0, none⟩) hgF).trans hc0; have hcO := hO.cell hn0; have hfO := hO.free 0; clear hb)
  go_ret
  exact ⟨_, _, _, rfl, (hO.low (by omega)).set 0 q, HE.out, hbw.setCell (by simp) _⟩

set_option maxHeartbeats 800000 in
theorem ends8 (S : Set4) : EndsC (.node 8 S []) := by
  intro s A c w bF gF cF n fr hs hn _ _ hF
  have hlen : s.data.toList.length = s.size := by simp
  have HE : Hid (EndsL s.data.toList (.node 8 S []) fr ((List.replicate n false).set s.size (tt fr s.size))) := by
    have := ends_finish (s := s.data.toList) (fr := fr) (S := S) (by rw [hF.len, hlen, hn])
    rwa [hF.len, hlen] at this
  have hn1 : n ≤ 301 := by omega
  have hn0 : s.size < n := by omega
  have hgF : gF < w.heap.size := hF.lt.2
  have hc0 := hF.cell hn0
  generalize tt fr s.size = q at *
  clear hn hlen
  obtain ⟨a, b, c', d⟩ := S
  dsimp only [Tree.kind, Tree.set, Tree.kids, List.length_nil]
  go_enter Try.func87, Try.ntmps87
  go_wp2_with (at_make; refine wpList_make_b rfl _ _ rfl n (w.heap.size + 1) (by simp) rfl rfl (by omega) ?_; intro w1 hO hb hz; obtain ⟨⟨f0, f1, f2, f3, f4, f5⟩, hbw⟩ := box_six hb; have hcF := (hbw.cell (p := ⟨gF, s.size, none⟩) hgF).trans hc0; have hcO := hO.cell hn0; have hfO := hO.free s.size; clear hb)
  go_ret
  exact ⟨_, _, _, rfl, (hO.low (by omega)).set s.size q, HE.out, hbw.setCell (by simp) _⟩

theorem BL.heap {w : World} {base g n : Nat} {l : List Bool} (h : BL w base g n n l) : w.heap[g]? = some (.cells (l.map Value.bool).toArray 4 (0, 0)) := by
  rcases h.own.2 with ⟨h0, _⟩ | ⟨g', cap', cur, h1, h2, h3, h4, h5, h6, h7⟩
  · cases h0
  · injection h1 with h1 _ h1c
    injection h1 with h1
    injection h1 with h1
    subst h1; subst h1c
    have : cur.toList = l.map Value.bool := by rw [← h7, List.take_of_length_le (by rw [Array.length_toList, h6]; exact Nat.le_refl _)]
    rw [h3, ← this]
theorem BL.of_heap {w : World} {base g n : Nat} {l : List Bool} (hl : l.length = n) (hb : base ≤ g) (hn : n ≤ maxLen) (h : w.heap[g]? = some (.cells (l.map Value.bool).toArray 4 (0, 0))) : BL w base g n n l :=
  ⟨hl, by simp [hl], .inr ⟨g, n, (l.map Value.bool).toArray, rfl, hb, h, Nat.le_refl _, hn, by simp [hl], by rw [List.take_of_length_le (by simp [hl])]⟩⟩
theorem BL.copied {w : World} {base g cap n : Nat} {l : List Bool} (h : BL w base g cap n l) (j : Nat) (v : Value) (hj : (l.map Value.bool)[j]? = some v) : w.cell? ((⟨g, 0, none⟩ : Addr).add j) = some v := by
  rw [addr_add]
  rw [List.getElem?_map] at hj
  cases hq : l[j]? with
  | none => rw [hq] at hj; cases hj
  | some q =>
    rw [hq] at hj
    injection hj with hj
    have hjl : j < n := by rw [← h.len]; exact (List.getElem?_eq_some_iff.1 hq).1
    rw [h.cell hjl, ← hj]
    unfold tt
    rw [List.getD_eq_getElem?_getD, hq]
    rfl
theorem bools_one (l : List Bool) : ∀ v ∈ l.map Value.bool, v.oneCell' = true := fun v hv => by
  obtain ⟨q, _, rfl⟩ := List.mem_map.1 hv
  rfl
theorem size_bool : (Try.prog.info? 4).map (·.size) = some 1 := by kernel_rfl
theorem splice_all {cur cs : List Value} (h : cs.length = cur.length) : splice cur 0 cs = cs := by
  unfold splice
  simp [h]

set_option maxRecDepth 100000 in
set_option maxHeartbeats 800000 in
theorem ends2 (S : Set4) : EndsC (.node 2 S []) := by
  intro s A c w bF gF cF n fr hs hn _ _ hF
  have hlen : s.data.toList.length = s.size := by simp
  have HE : Hid (EndsL s.data.toList (.node 2 S []) fr fr) := ends_empty (s := s.data.toList) (fr := fr) (S := S) (by rw [hF.len, hlen, hn])
  have hn1 : n ≤ 301 := by omega
  have hgF : gF < w.heap.size := hF.lt.2
  have hfl := Lib.hid hF.len
  clear hn hlen
  obtain ⟨a, b, c', d⟩ := S
  dsimp only [Tree.kind, Tree.set, Tree.kids, List.length_nil]
  go_enter Try.func87, Try.ntmps87
  go_wp2_with (first | (at_make; refine wpList_make_b rfl _ _ rfl n (w.heap.size + 1) (by simp) rfl rfl (by omega) ?_; intro w1 hO hb hz; obtain ⟨⟨f0, f1, f2, f3, f4, f5⟩, hbw⟩ := box_six hb; have hF1 := Lib.hid (hF.below hbw); clear hb) |
    (with_reducible refine wpList_copy_splice rfl (.tmp 19) (.tmp 20) 127 127 rfl 4 Try.underlying127 size_bool (some ⟨w.heap.size + 1, 0, none⟩) (some ⟨gF, 0, none⟩) n n n cF rfl rfl (w.heap.size + 1) 0 _ 4 hO.heap (fr.map Value.bool) (by rw [List.length_map, hfl.out]; exact (Nat.min_self n).symm) (fun _ => ⟨rfl, _, rfl, hF1.out.copied⟩) (by simp [hfl.out]) (bools_one fr) w.heap.size w hbw (Nat.le_succ _) ?_))
  intro w2 hw2 hb2
  have hB2 : BL w2 w.heap.size (w.heap.size + 1) n n fr := BL.of_heap hfl.out (Nat.le_succ _) (by unfold maxLen; omega) (by
    rw [hw2.out, splice_all (by simp [hfl.out])])
  clear hw2
  go_wp2
  go_ret
  exact ⟨_, _, _, rfl, hB2, HE.out, hb2⟩
end Go.Proofs.Yteinbjopclblaaa
