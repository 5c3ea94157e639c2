/- Part 22 of the proof: lemmas and walks that the last texts use. -/
import Derived.Test.YthfjmlcjkbgboaaGreatDoorM01
import Derived.Test.YthfjmlcjkbgboaaGreatDoorM19
import Derived.Test.YthfjmlcjkbgboaaGreatDoorM21
import Derived.Lib.AppendIntMem
namespace Go.Proofs.YthfjmlcjkbgboaaGreatDoor
open Go.RowKit
def lstS (ws : List ByteArray) : List (List UInt8) := ws.map (·.data.toList)
def nilE (n : NodeP) : NodeM := (n, none, 0, 0)
theorem map_nilE (ns : List NodeP) : (ns.map nilE).map Prod.fst = ns := by
  rw [List.map_map]; exact List.map_id ns
structure LevAt (w : World) (B gm bm ga ca : Nat) (ws : List ByteArray) (n : Nat) (g cap : Nat) (ns : List NodeP) (ss : List (List UInt8)) (l : List (EdgeK × Nat)) (ats : List Nat) : Prop where
  mkr : Mk w B gm bm ga ca g cap (ns.map nilE) l ats
  lev : Lev (lstS ws) n ns ss
  ats : AtOk (lstS ws) n ss ats
  next : NextOk ns l
  few : ns.length ≤ 400
/-- More than four hundred prefixes of the words, no two the same. -/
def Full (ws : List (List UInt8)) : Prop := ∃ ss : List (List UInt8), ss.Nodup ∧ ss.length = 401 ∧ ∀ v ∈ ss, ∃ w ∈ ws, v <+: w
theorem Mid.full {ws : List (List UInt8)} {n k : Nat} {ns0 ns : List NodeP} {ss0 ss : List (List UInt8)} {at0 : List Nat} {es : List (Nat × UInt8)} (hl : Lev ws n ns0 ss0) (ha : AtOk ws n ss0 at0) (he : EdgesOf ws n at0 es) (h : Mid ws n ss0 es k ns ss) (hk : k < es.length) (h4 : ns.length = 400) : Full ws := by
  obtain ⟨p, _, hp2, hp3, _⟩ := h.next hl ha he hk
  have hpre : ∀ e, e ∈ es → ∃ w ∈ ws, strE ss0 e <+: w := fun e h1 => by
    obtain ⟨j, h2, h3, h4, _, _⟩ := edge_str ha he h1
    exact ⟨ws.getD j [], by rw [List.getD_eq_getElem?_getD, List.getElem?_eq_getElem h2]; exact List.getElem_mem h2, by rw [h4]; exact List.take_prefix _ _⟩
  refine ⟨(p ++ [es[k].2]) :: ss, List.nodup_cons.2 ⟨hp3, h.inv.trie.uniq⟩, by rw [List.length_cons, ← h.inv.len, h4], fun v hv => ?_⟩
  rcases List.mem_cons.1 hv with rfl | hv
  · rw [← hp2]
    exact hpre _ (List.getElem_mem hk)
  · rw [h.str] at hv
    rcases List.mem_append.1 hv with hv | hv
    · exact ((hl.mem v).1 hv).2
    · obtain ⟨e, h1, rfl⟩ := List.mem_map.1 hv
      exact hpre e (List.mem_of_mem_take h1)
theorem nodup_len : ∀ (l m : List (List UInt8)), l.Nodup → (∀ x ∈ l, x ∈ m) → l.length ≤ m.length
  | [], _, _, _ => Nat.zero_le _
  | a :: l, m, h, hs => by
    rw [List.nodup_cons] at h
    have ha := hs a (by simp)
    have := nodup_len l (m.erase a) h.2 fun x hx => (List.mem_erase_of_ne (fun e => h.1 (by rw [← e]; exact hx))).2 (hs x (by simp [hx]))
    rw [List.length_erase_of_mem ha] at this
    have := List.length_pos_of_mem ha
    rw [List.length_cons]
    omega
def preL (ws : List (List UInt8)) : List (List UInt8) := ws.flatMap fun w => (List.range (w.length + 1)).map fun n => w.take n
/-- A whole tree of at most four hundred nodes tells that there are not more. -/
theorem lev_not_full {ws : List (List UInt8)} {n : Nat} {ns : List NodeP} {ss : List (List UInt8)} (hl : Lev ws n ns ss) (hw : ∀ w ∈ ws, w.length ≤ n) (h4 : ns.length ≤ 400) : ¬ Full ws := by
  rintro ⟨l, h1, h2, h3⟩
  have := nodup_len l ss h1 fun v hv => by
    obtain ⟨w, hw', hp⟩ := h3 v hv
    exact (hl.mem v).2 ⟨Nat.le_trans hp.length_le (hw w hw'), w, hw', hp⟩
  rw [h2, ← hl.inv.len] at this
  omega
theorem not_full {ws : List (List UInt8)} (h : (preL ws).length < 400) : ¬ Full ws := by
  rintro ⟨ss, h1, h2, h3⟩
  have := nodup_len ss (preL ws) h1 fun v hv => by
    obtain ⟨w, hw, hp⟩ := h3 v hv
    exact List.mem_flatMap.2 ⟨w, hw, List.mem_map.2 ⟨v.length, List.mem_range.2 (by have := hp.length_le; omega), (List.prefix_iff_eq_take.1 hp).symm⟩⟩
  omega
def LevelPost (B gm bm ga ca : Nat) (ws : List ByteArray) (n : Nat) (w : World) (e : Ending) (w' : World) : Prop :=
  Below B w w' ∧ ((e = .returned (.bool false) ∧ Full (lstS ws)) ∨ (e = .returned (.bool true) ∧ ∃ g cap ns ss l ats, LevAt w' B gm bm ga ca ws (n + 1) g cap ns ss l ats))
def Rel1 (ws : List ByteArray) (n : Nat) (ats : List Nat) (w : World) (v i : Value) (wr : World) : Prop :=
  ∃ k, k ≤ ws.length ∧ i = .int .i64 (k : Int) ∧ Below w.heap.size w wr ∧ OwnG rowE wr w.heap.size v (gath (lstS ws) n ats k)
theorem gath_len (ws : List (List UInt8)) (n : Nat) (at0 : List Nat) : ∀ k, (gath ws n at0 k).length ≤ k
  | 0 => Nat.le_refl _
  | k + 1 => by
    have := gath_len ws n at0 k
    rw [gath]
    split
    · rw [List.length_append, List.length_singleton]; omega
    · omega
theorem lst_getD {ws : List ByteArray} {k : Nat} (hk : k < ws.length) : (lstS ws).getD k [] = ws[k].data.toList := by
  rw [List.getD_eq_getElem?_getD, lstS, List.getElem?_map, List.getElem?_eq_getElem hk]; rfl
theorem gath_pass {ws : List ByteArray} {n : Nat} {ats : List Nat} {k : Nat} (hk : k < ws.length) (h : ¬ n < ws[k].size) : gath (lstS ws) n ats (k + 1) = gath (lstS ws) n ats k := by
  rw [gath, if_neg]
  rw [lst_getD hk]
  exact fun h2 => h h2.1
theorem edge_here {ws : List ByteArray} {n : Nat} {ats : List Nat} {k : Nat} (hk : k < ws.length) (ha : k < ats.length) (h : n < ws[k].size) : edgeAt (lstS ws) n ats k = (ats[k], ws[k][n]) := by
  unfold edgeAt
  rw [lst_getD hk, List.getD_eq_getElem?_getD, List.getElem?_eq_getElem ha, List.getD_eq_getElem?_getD, List.getElem?_eq_getElem (by simpa using h)]
  rfl
theorem gath_add {ws : List ByteArray} {n : Nat} {ats : List Nat} {k : Nat} (hk : k < ws.length) (ha : k < ats.length) (h : n < ws[k].size) : gath (lstS ws) n ats (k + 1) = if (ats[k], ws[k][n]) ∈ gath (lstS ws) n ats k then gath (lstS ws) n ats k else gath (lstS ws) n ats k ++ [(ats[k], ws[k][n])] := by
  rw [gath, edge_here hk ha h, lst_getD hk]
  by_cases c : (ats[k], ws[k][n]) ∈ gath (lstS ws) n ats k
  · rw [if_pos c, if_neg (fun h2 => h2.2 c)]
  · rw [if_neg c, if_pos ⟨by simpa using h, c⟩]
theorem sl_word {w : World} {B : Nat} {A : Option Addr} {n : Nat} {ws : List ByteArray} (h : Sl w B 1 A n (ws.map Value.string)) {k : Nat} (hk : k < ws.length) : ∃ b off, A = some ⟨b, off, none⟩ ∧ b < B ∧ w.cell? ⟨b, off + k, none⟩ = some (.string ws[k]) := by
  obtain ⟨b, off, e, hb, hc⟩ := h.src (by rw [List.length_map]; omega)
  exact ⟨b, off, e, hb, by rw [hc k (by rw [List.length_map]; exact hk), List.getElem_map]⟩
def Rel2 (B gm bm ga ca : Nat) (ws : List ByteArray) (n : Nat) (ats : List Nat) (w : World) (es : List (Nat × UInt8)) (ss0 : List (List UInt8)) (v i : Value) (wr : World) : Prop :=
  ∃ k g cap ns ss l, k ≤ es.length ∧ i = .int .i64 (k : Int) ∧ Below B w wr ∧ EdgesAt wr w.heap.size v es ∧ Mk wr B gm bm ga ca g cap (ns.map nilE) l ats ∧ Mid (lstS ws) n ss0 es k ns ss ∧ NextOk ns l ∧ ns.length ≤ 400
def Rel3 (B gm bm ga ca : Nat) (ws : List ByteArray) (n : Nat) (w : World) (ats0 : List Nat) (ns : List NodeP) (ss : List (List UInt8)) (l : List (EdgeK × Nat)) (g cap : Nat) (i : Value) (wr : World) : Prop :=
  ∃ k ats, k ≤ ws.length ∧ i = .int .i64 (k : Int) ∧ Below B w wr ∧ Mk wr B gm bm ga ca g cap (ns.map nilE) l ats ∧ ats.length = ws.length ∧ (∀ j, j < k → ss[ats.getD j 0]? = some (((lstS ws).getD j []).take (n + 1))) ∧ ∀ j, k ≤ j → ats.getD j 0 = ats0.getD j 0
theorem gath_small {ws : List ByteArray} {n : Nat} {ats : List Nat} {ns : List NodeP} {ss : List (List UInt8)} (hi : Inv ns ss) (ha : AtOk (lstS ws) n ss ats) (h4 : ns.length ≤ 400) : ∀ e ∈ gath (lstS ws) n ats ws.length, e.1 < 65536 := fun e he => by
  obtain ⟨k, hk, _, rfl⟩ := ((gath_ok (lstS ws) n ats ws.length).2 e).1 he
  have := hi.lt (ha.str k (by rw [lstS, List.length_map]; exact hk))
  show ats.getD k 0 < 65536
  omega
theorem Rel2.step {B gm bm ga ca : Nat} {ws : List ByteArray} {n : Nat} {ats : List Nat} {w : World} {es : List (Nat × UInt8)} {ss0 : List (List UInt8)} {v : Value} {wr W2 : World} {k g2 cap2 : Nat} {ns2 : List NodeP} {ss2 : List (List UInt8)} {l2 : List (EdgeK × Nat)} {up : Nat} {x : UInt8} {p : List UInt8}
    (hk : k < es.length) (he : es[k] = (up, x)) (hb : Below B w wr) (hbw : Below B wr W2) (hE : EdgesAt W2 w.heap.size v es) (hM : Mk W2 B gm bm ga ca g2 cap2 (ns2.map nilE) (l2 ++ [(((up : Int), x), ns2.length)]) ats) (hMid : Mid (lstS ws) n ss0 es k ns2 ss2) (hN : NextOk ns2 l2) (h4 : ns2.length ≤ 400) (h5 : ns2.length ≠ 400)
    (hp1 : ss2[up]? = some p) (hp2 : strE ss0 (up, x) = p ++ [x]) (hp3 : p ++ [x] ∉ ss2) (hp4 : ∀ v, v ∈ ss2 → v.length ≤ p.length + 1) :
    ∀ (r : Nat) (w3 w4 : World) (g4 c4 : Nat), FailIs ss2 p x r → Below W2.heap.size W2 w3 → OwnG rowN w4 B (.slice (some ⟨g4, 0, none⟩) (ns2.map nilE ++ [nilE ⟨x, up, r⟩]).length c4) (ns2.map nilE ++ [nilE ⟨x, up, r⟩]) → Below B w3 w4 → (∀ j, j < w3.heap.size → g2 ≠ j → w4.heap[j]? = w3.heap[j]?) →
      Rel2 B gm bm ga ca ws n ats w es ss0 v (.int .i64 ((k : Int) + 1)) (w4.setCell ⟨gm, 0, none⟩ (.slice (some ⟨g4, 0, none⟩) (ns2.length + 1) c4)) := by
  intro r w3 w4 g4 c4 hr hb3 hO4 hb4 hk34
  obtain ⟨f, hf1, hf2⟩ := hr
  have hM3 := hM.below hb3
  have hlen : (ns2.map nilE ++ [nilE ⟨x, up, r⟩]).length = ns2.length + 1 := by simp
  obtain ⟨g', cap', e, hM4⟩ := hM3.push hO4 (by rw [hlen]; omega) hk34
  injection e with e1 _ e2
  injection e1 with e1
  injection e1 with e1 _ _
  subst e1; subst e2
  rw [hlen] at hM4
  obtain ⟨c, fz, hkind⟩ := Lib.ownsRow_kind hM3.own g2 rfl
  have hmk := hM3.blk
  have hB2 := hM3.base
  have hl2 := hM.lt
  have hE3 : EdgesAt w3 w.heap.size v es := hE.keep fun j cs fz hj => hb3.block j (some_lt hj)
  have hE4 : EdgesAt w4 w.heap.size v es := hE3.keep fun j cs fz hj => hk34 j (some_lt hj) fun e => by
    rw [← e, hkind] at hj
    injection hj with hj
    injection hj with _ hj
    exact absurd hj (by decide)
  have hmk4 : w4.heap[gm]? = some (mkObj g2 cap2 (ns2.map nilE).length bm ga ats.length ca) := (hk34 gm (some_lt hmk) (Ne.symm hM3.ne.1)).trans hmk
  have hE5 : EdgesAt (w4.setCell ⟨gm, 0, none⟩ (.slice (some ⟨g4, 0, none⟩) (ns2.length + 1) c4)) w.heap.size v es := hE4.keep fun j cs fz hj => Below.heap_setCell w4 ⟨gm, 0, none⟩ _ j fun e => by
    rw [e] at hj
    rw [hmk4] at hj
    injection hj with hj
    unfold mkObj at hj
    injection hj with _ hj
    exact absurd hj (by decide)
  have h0 : 0 < ns2.length := (List.getElem?_eq_some_iff.1 hMid.inv.zero).1
  refine ⟨k + 1, g4, c4, ns2 ++ [⟨x, up, r⟩], ss2 ++ [p ++ [x]], _, hk, by simp, ((hb.trans hbw).trans ((hb3.mono (by omega)).trans hb4)).setCell hB2.1 _, hE5, ?_, ?_, hN.add ⟨x, up, r⟩ h0 (no_kid hMid.inv hN hp1 hp3), by rw [List.length_append, List.length_singleton]; omega⟩
  · rw [List.map_append]; exact hM4
  · have := hMid.step hk (p := p) (f := f) (fl := r) (by rw [he]; exact hp1) (by rw [he]; exact hp2) (by rw [he]; exact hp3) hp4 hf1 (by rw [he]; exact hf2)
    rw [he] at this
    exact this
theorem take_short {w : List UInt8} {n : Nat} (h : ¬ n < w.length) : w.take (n + 1) = w.take n := by
  rw [List.take_of_length_le (by omega), List.take_of_length_le (by omega)]
theorem Rel3.pass {B gm bm ga ca : Nat} {ws : List ByteArray} {n : Nat} {w : World} {ats0 : List Nat} {ns : List NodeP} {ss0 ss : List (List UInt8)} {l : List (EdgeK × Nat)} {g cap k : Nat} {ats : List Nat} {es : List (Nat × UInt8)} {wr : World}
    (ha : AtOk (lstS ws) n ss0 ats0) (hm : Mid (lstS ws) n ss0 es es.length ns ss) (hk : k < ws.length) (hs : ¬ n < ws[k].size) (hb : Below B w wr) (hM : Mk wr B gm bm ga ca g cap (ns.map nilE) l ats) (hl : ats.length = ws.length)
    (h1 : ∀ j, j < k → ss[ats.getD j 0]? = some (((lstS ws).getD j []).take (n + 1))) (h2 : ∀ j, k ≤ j → ats.getD j 0 = ats0.getD j 0) : Rel3 B gm bm ga ca ws n w ats0 ns ss l g cap (.int .i64 ((k : Int) + 1)) wr := by
  refine ⟨k + 1, ats, hk, by simp, hb, hM, hl, fun j hj => ?_, fun j hj => h2 j (by omega)⟩
  rcases Nat.lt_or_ge j k with c | c
  · exact h1 j c
  · obtain rfl : j = k := by omega
    have hkl : j < (lstS ws).length := by rw [lstS, List.length_map]; exact hk
    rw [h2 j (Nat.le_refl _), hm.up (ha.str j hkl), take_short]
    rw [lst_getD hk]; exact hs
theorem Rel3.go {B gm bm ga ca : Nat} {ws : List ByteArray} {n : Nat} {w : World} {ats0 : List Nat} {ns : List NodeP} {ss0 ss : List (List UInt8)} {l : List (EdgeK × Nat)} {g cap k : Nat} {ats : List Nat} {es : List (Nat × UInt8)} {wr : World}
    (ha : AtOk (lstS ws) n ss0 ats0) (he : EdgesOf (lstS ws) n ats0 es) (hm : Mid (lstS ws) n ss0 es es.length ns ss) (hN : NextOk ns l) (hk : k < ws.length) (hs : n < ws[k].size) (hb : Below B w wr) (hM : Mk wr B gm bm ga ca g cap (ns.map nilE) l ats) (hl : ats.length = ws.length)
    (h1 : ∀ j, j < k → ss[ats.getD j 0]? = some (((lstS ws).getD j []).take (n + 1))) (h2 : ∀ j, k ≤ j → ats.getD j 0 = ats0.getD j 0) :
    ∃ q, lookE l ((ats.getD k 0 : Int), ws[k][n]) = some q ∧ q < ns.length ∧ Rel3 B gm bm ga ca ws n w ats0 ns ss l g cap (.int .i64 ((k : Int) + 1)) (wr.setCell ⟨ga, k, none⟩ (.int .i64 (q : Int))) := by
  have hkl : k < (lstS ws).length := by rw [lstS, List.length_map]; exact hk
  have hsl : n < ((lstS ws).getD k []).length := by rw [lst_getD hk]; exact hs
  obtain ⟨q, hq1, hq2⟩ := hm.go ha he hkl hsl
  have ht := take_succ_getD hsl
  have hc : ((lstS ws).getD k []).getD n 0 = ws[k][n] := by
    rw [lst_getD hk, List.getD_eq_getElem?_getD, List.getElem?_eq_getElem (by simpa using hs)]; rfl
  rw [hc] at ht
  have hq3 := hq1
  rw [ht] at hq3
  refine ⟨q, ?_, hm.inv.lt hq1, k + 1, ats.set k q, hk, by simp, hb.setCell hM.base.2.2.1 _, hM.setAt k (by omega) q, by rw [List.length_set]; exact hl, fun j hj => ?_, fun j hj => ?_⟩
  · rw [h2 k (Nat.le_refl _)]
    exact (hN _ _ _).2 ((hm.inv.kid hq2).1 hq3)
  · by_cases e : j = k
    · subst e
      rw [List.getD_eq_getElem?_getD, List.getElem?_set_self (by omega)]
      exact hq1
    · rw [List.getD_eq_getElem?_getD, List.getElem?_set_ne (Ne.symm e), ← List.getD_eq_getElem?_getD]
      exact h1 j (by omega)
  · rw [List.getD_eq_getElem?_getD, List.getElem?_set_ne (by omega), ← List.getD_eq_getElem?_getD]
    exact h2 j (by omega)
theorem Rel3.done {B gm bm ga ca : Nat} {ws : List ByteArray} {n : Nat} {w : World} {ats0 : List Nat} {ns0 ns : List NodeP} {ss0 ss : List (List UInt8)} {l : List (EdgeK × Nat)} {g cap : Nat} {ats : List Nat} {es : List (Nat × UInt8)} {wr : World}
    (hl0 : Lev (lstS ws) n ns0 ss0) (ha : AtOk (lstS ws) n ss0 ats0) (he : EdgesOf (lstS ws) n ats0 es) (hm : Mid (lstS ws) n ss0 es es.length ns ss) (hN : NextOk ns l) (h4 : ns.length ≤ 400) (hb : Below B w wr) (hM : Mk wr B gm bm ga ca g cap (ns.map nilE) l ats) (hl : ats.length = ws.length)
    (h1 : ∀ j, j < ws.length → ss[ats.getD j 0]? = some (((lstS ws).getD j []).take (n + 1))) : LevelPost B gm bm ga ca ws n w (.returned (.bool true)) wr :=
  ⟨hb, .inr ⟨rfl, g, cap, ns, ss, l, ats, hM, hm.done hl0 ha he, ⟨by rw [lstS, List.length_map]; exact hl, fun k hk => h1 k (by rw [lstS, List.length_map] at hk; exact hk)⟩, hN, h4⟩⟩
def LevelC : Prop := ∀ (ws : List ByteArray) (n : Nat), n < 40 → ws.length ≤ 30 → 0 < ws.length → ∀ (A : Option Addr) (c B gm bm ga ca g cap : Nat) (ns : List NodeP) (ss : List (List UInt8)) (l : List (EdgeK × Nat)) (ats : List Nat) (w : World),
    Sl w B 1 A ws.length (ws.map Value.string) → LevAt w B gm bm ga ca ws n g cap ns ss l ats →
    Calls Tryz.prog 188 #[.pointer (some ⟨gm, 0, none⟩), .slice A ws.length c, .int .i64 (n : Int)] w (LevelPost B gm bm ga ca ws n w)
end Go.Proofs.YthfjmlcjkbgboaaGreatDoor
namespace Go.Proofs.YthfjmlcjkbgboaaGreatDoor
open Go.RowKit Go.Sort Go.Lib
/-- These numbers lie there, in a block at least lo. -/
def EndsAt (w : World) (lo : Nat) (s : SlT) (l : List Nat) : Prop :=
  s.2.1 = l.length ∧ (0 < l.length → ∃ g : Nat, s.1 = some ⟨g, 0, none⟩ ∧ lo ≤ g ∧ g < w.heap.size ∧ ∀ j (h : j < l.length), w.cell? ⟨g, j, none⟩ = some (.int .i64 (l[j] : Int)))
theorem EndsAt.keep {w w' : World} {lo : Nat} {s : SlT} {l : List Nat} (h : EndsAt w lo s l) (hz : w.heap.size ≤ w'.heap.size) (hk : ∀ g, lo ≤ g → g < w.heap.size → w'.heap[g]? = w.heap[g]?) : EndsAt w' lo s l := by
  refine ⟨h.1, fun h0 => ?_⟩
  obtain ⟨g, e, h1, h2, h3⟩ := h.2 h0
  refine ⟨g, e, h1, by omega, fun j hj => ?_⟩
  have := hk g h1 h2
  rw [show w'.cell? ⟨g, j, none⟩ = w.cell? ⟨g, j, none⟩ by simp only [World.cell?, this]]
  exact h3 j hj
theorem EndsAt.sl {w : World} {lo : Nat} {s : SlT} {l : List Nat} (h : EndsAt w lo s l) : Sl w w.heap.size 1 s.1 s.2.1 (l.flatMap rowI.cells) := by
  have hl := flat_len rowI.cells 1 (fun _ => rfl) l
  refine ⟨by rw [hl, h.1], fun hp => ?_⟩
  obtain ⟨g, e, h1, h2, h3⟩ := h.2 (by omega)
  refine ⟨g, 0, e, h2, fun j hj => ?_⟩
  have hj' : j < l.length := by omega
  have hf := flat_at rowI.cells 1 (fun _ => rfl) l j 0 hj' (by decide)
  rw [show j * 1 + 0 = j by omega, List.getElem?_eq_getElem hj] at hf
  rw [Nat.zero_add, h3 j hj']
  exact hf.symm
def sortN (l : List Nat) : List Nat := ((l.map fun (x : Nat) => (x : Int)).mergeSort fun x y => decide (x ≤ y)).map Int.toNat
theorem sortN_cast (l : List Nat) : ((l.map fun (x : Nat) => (x : Int)).mergeSort fun x y => decide (x ≤ y)) = (sortN l).map fun (x : Nat) => (x : Int) := by
  unfold sortN
  rw [List.map_map]
  refine (List.map_id _).symm.trans (List.map_congr_left fun x hx => ?_)
  have hx2 := (List.mergeSort_perm _ _).mem_iff.1 hx
  obtain ⟨y, _, rfl⟩ := List.mem_map.1 hx2
  simp
theorem sortN_perm (l : List Nat) : (sortN l).Perm l := by
  have := (List.mergeSort_perm (l.map fun (x : Nat) => (x : Int)) fun x y => decide (x ≤ y)).map Int.toNat
  refine this.trans ?_
  rw [List.map_map]
  have : (l.map (Int.toNat ∘ fun (x : Nat) => (x : Int))) = l := (List.map_congr_left fun x _ => by simp).trans (List.map_id l)
  rw [this]
theorem sortN_sorted {l : List Nat} (h : l.Nodup) : (sortN l).Pairwise (· < ·) := by
  have h1 : ((sortN l).map fun (x : Nat) => (x : Int)).Pairwise fun x y => decide (x ≤ y) = true := by
    rw [← sortN_cast]
    exact List.pairwise_mergeSort (fun a b c h1 h2 => by simp at h1 h2 ⊢; omega) (fun a b => by simp; omega) _
  rw [List.pairwise_map] at h1
  have h2 : (sortN l).Nodup := (sortN_perm l).nodup_iff.2 h
  have h3 := List.Pairwise.and h1 (List.nodup_iff_pairwise_ne.1 h2)
  exact h3.imp fun ⟨a, b⟩ => by simp at a; omega
theorem below_sortI (w : World) (g n : Nat) (d : Array Int) (os : Array Obj) (_ : g < w.heap.size) : w.grownBy (grow (putRow (Value.int .i64) (Sort.ahead w n) g 0 d) os) (some g) where
  os := rfl
  tape := rfl
  output := rfl
  size := by show w.heap.size ≤ ((w.heap.modify g _) ++ os).size; rw [Array.size_append, Array.size_modify]; omega
  block i hi hne := by
    show ((w.heap.modify g _) ++ os)[i]? = _
    rw [Array.getElem?_append_left (by rw [Array.size_modify]; exact hi), Array.getElem?_modify, if_neg (fun e => hne (by rw [e]))]
theorem sort_ends {w : World} {lo : Nat} {s : SlT} {l : List Nat} (h : OwnG rowI w lo (slV s) l) (hl : l.length ≤ 4096) :
    Calls Tryz.prog 190 #[slV s] w fun e w' => e = .returned (.tuple #[]) ∧ EndsAt w' lo s (sortN l) ∧ ∃ g, w.grownBy w' (some g) ∧ (lo ≤ g ∨ w' = w) := by
  have hlen : (sortN l).length = l.length := (sortN_perm l).length_eq
  rcases h.cases with ⟨h1, rfl⟩ | ⟨g, c, h1, hb, hg⟩
  · rw [h1]
    refine (Tryz.slices_Sort_int_none none 0 w).mono ?_
    rintro e w' ⟨rfl, rfl⟩
    obtain ⟨s1, s2, s3⟩ := s
    injection h1 with e1 e2 e3
    dsimp only at e1 e2 e3
    subst e1; subst e2
    exact ⟨rfl, ⟨by rw [hlen]; rfl, fun h => absurd h (by rw [hlen]; simp)⟩, lo, ⟨rfl, rfl, rfl, Nat.le_refl _, fun _ _ _ => rfl⟩, .inr rfl⟩
  · obtain ⟨s1, s2, s3⟩ := s
    injection h1 with e1 e2 e3
    dsimp only at e1 e2 e3
    subst e1; subst e2; subst e3
    have hH : Holds (Value.int .i64) w g 0 (l.map fun (x : Nat) => (x : Int)).toArray := fun j hj => by
      have hj' : j < l.length := by simpa using hj
      have := h.at j hj' 0 (by decide)
      rw [show j * rowI.size + 0 = j by simp [rowI]] at this
      rw [Nat.zero_add, getElem!_pos (l.map fun (x : Nat) => (x : Int)).toArray j hj]
      refine ⟨this.1.trans ?_, this.2⟩
      simp [rowI]
    have hc := Tryz.slices_Sort_int g 0 s3 (l.map fun (x : Nat) => (x : Int)) w hH hg (by rw [List.length_map]; omega)
    rw [List.length_map] at hc
    unfold slV
    refine hc.mono ?_
    rintro e w' ⟨rfl, n, os, rfl⟩
    rw [sortN_cast]
    have hgr := below_sortI w g n ((sortN l).map fun (x : Nat) => (x : Int)).toArray os hg
    refine ⟨rfl, ⟨hlen.symm, fun _ => ⟨g, rfl, hb, Nat.lt_of_lt_of_le hg hgr.size, fun j hj => ?_⟩⟩, g, hgr, .inl hb⟩
    have hh := holds_putRow (Value.int .i64) (Sort.ahead w n) g 0 (l.map fun (x : Nat) => (x : Int)).toArray ((sortN l).map fun (x : Nat) => (x : Int)).toArray (holds_ahead _ _ _ _ _ _ hH) (by simp [hlen])
    have hh2 := (holds_grow (Value.int .i64) _ os g 0 _ (by simpa using hg) hh j (by simpa using hj)).1
    rw [Nat.zero_add] at hh2
    rw [hh2, getElem!_pos ((sortN l).map fun (x : Nat) => (x : Int)).toArray j (by simpa using hj)]
    simp
end Go.Proofs.YthfjmlcjkbgboaaGreatDoor
namespace Go.Proofs.YthfjmlcjkbgboaaGreatDoor
open Go.RowKit
theorem ponly_low {a w w' : World} {row : Option Nat} (h : a.grownBy w row) (hb : Below a.heap.size w w') : a.grownBy w' row :=
  ⟨hb.os.trans h.os, hb.tape.trans h.tape, hb.output.trans h.output, Nat.le_trans h.size hb.size, fun i hi hne => (hb.block i hi).trans (h.block i hi hne)⟩
/-- The words at a node ahead of the sort. -/
def accN (ws : List (List UInt8)) (e : List Nat) (ats : List Nat) (i k : Nat) : List Nat := e ++ (List.range k).filter fun j => decide (ats.getD j 0 = i ∧ 0 < i ∧ j < ws.length)
theorem accN_snoc (ws : List (List UInt8)) (e : List Nat) (ats : List Nat) (i k : Nat) (hk : k < ws.length) : accN ws e ats i (k + 1) = if ats.getD k 0 = i ∧ 0 < i then accN ws e ats i k ++ [k] else accN ws e ats i k := by
  unfold accN
  rw [List.range_succ, List.filter_append, ← List.append_assoc]
  by_cases h : ats.getD k 0 = i ∧ 0 < i
  · rw [if_pos h, List.filter_cons, if_pos (by simp only [decide_eq_true_eq]; exact ⟨h.1, h.2, hk⟩)]; rfl
  · rw [if_neg h, List.filter_cons, if_neg (by simp only [decide_eq_true_eq]; exact fun h2 => h ⟨h2.1, h2.2.1⟩), List.filter_nil, List.append_nil]
theorem ends_root {ws : List (List UInt8)} (h : ∀ w ∈ ws, w ≠ []) : endsOf ws [] = [] := by
  unfold endsOf
  rw [List.filter_eq_nil_iff]
  intro k hk
  rw [List.mem_range] at hk
  simp only [decide_eq_true_eq, List.suffix_nil]
  have : ws.getD k [] ∈ ws := by rw [List.getD_eq_getElem?_getD, List.getElem?_eq_getElem hk]; exact List.getElem_mem hk
  exact h _ this
theorem ends_node {ws ss : List (List UInt8)} {ns : List NodeP} {ats : List Nat} {n i : Nat} {x : NodeP} (hl : Lev ws n ns ss) (hw : ∀ w ∈ ws, w.length ≤ n) (ha : AtOk ws n ss ats) (h0 : 0 < i) (hx : ns[i]? = some x) :
    sortN (accN ws (endsOf ws (ss.getD x.fail [])) ats i ws.length) = endsOf ws (ss.getD i []) := by
  obtain ⟨s, hs⟩ : ∃ s, ss[i]? = some s := ⟨_, List.getElem?_eq_getElem (by rw [← hl.inv.len]; exact (List.getElem?_eq_some_iff.1 hx).1)⟩
  obtain ⟨hf, f, hf1, hf2⟩ := hl.inv.fail_at h0 hx hs
  have e1 : ss.getD i [] = s := by rw [List.getD_eq_getElem?_getD, hs]; rfl
  have e2 : ss.getD x.fail [] = f := by rw [List.getD_eq_getElem?_getD, hf1]; rfl
  rw [e1, e2]
  have hwl : ∀ k, k < ws.length → (ws.getD k []).take n = ws.getD k [] := fun k hk => by
    have : ws.getD k [] ∈ ws := by rw [List.getD_eq_getElem?_getD, List.getElem?_eq_getElem hk]; exact List.getElem_mem hk
    exact List.take_of_length_le (hw _ this)
  have hat : ∀ k, k < ws.length → (ats.getD k 0 = i ↔ ws.getD k [] = s) := fun k hk => by
    have := ha.str k hk
    rw [hwl k hk] at this
    constructor
    · intro e; rw [e, hs] at this; exact (Option.some.inj this).symm
    · intro e; rw [e] at this; exact hl.inv.inj this hs
  have hmem : ∀ k, k ∈ accN ws (endsOf ws f) ats i ws.length ↔ k ∈ endsOf ws f ∨ (k < ws.length ∧ ws.getD k [] = s) := fun k => by
    unfold accN
    rw [List.mem_append, List.mem_filter, List.mem_range, decide_eq_true_eq]
    refine or_congr_right ⟨fun ⟨h1, h2, _, _⟩ => ⟨h1, (hat k h1).1 h2⟩, fun ⟨h1, h2⟩ => ⟨h1, (hat k h1).2 h2, h0, h1⟩⟩
  have hnod : (accN ws (endsOf ws f) ats i ws.length).Nodup := by
    unfold accN
    rw [List.nodup_append]
    refine ⟨(endsOf_sorted ws f).imp fun h => Nat.ne_of_lt h, List.nodup_range.sublist List.filter_sublist, fun a h1 b h2 e => ?_⟩
    subst e
    rw [List.mem_filter, List.mem_range, decide_eq_true_eq] at h2
    have h3 := (mem_endsOf.1 h1).2
    rw [(hat a h2.1).1 h2.2.1] at h3
    exact hf2.2.2.1 (suffix_eq hf2.2.1 h3.length_le)
  refine sorted_ext (sortN_sorted hnod) (endsOf_sorted ws s) fun k => ?_
  rw [(sortN_perm _).mem_iff, hmem, mem_ends_fail (Lev.words hl hw) hf2]
/-- The nodes so far: the first i have their words. -/
structure NodesAt (ws ss : List (List UInt8)) (ns : List NodeP) (B lo g cap : Nat) (i : Nat) (ms : List NodeM) (w : World) : Prop where
  own : OwnG rowN w B (.slice (some ⟨g, 0, none⟩) ms.length cap) ms
  fst : ms.map Prod.fst = ns
  done : ∀ j m, j < i → ms[j]? = some m → EndsAt w lo m.2 (endsOf ws (ss.getD j []))
  rest : ∀ j m, i ≤ j → ms[j]? = some m → m.2 = (none, 0, 0)
theorem EndsAt.lower {w : World} {lo lo' : Nat} {s : SlT} {l : List Nat} (h : EndsAt w lo s l) (hl : lo' ≤ lo) : EndsAt w lo' s l := by
  refine ⟨h.1, fun h0 => ?_⟩
  obtain ⟨g, e, h1, h2⟩ := h.2 h0
  exact ⟨g, e, by omega, h2⟩
/-- The node at hand while its words come. -/
structure NodeNow (ms : List NodeM) (B g cap i : Nat) (w0 : World) (acc : List Nat) (s : SlT) (w : World) : Prop where
  row : OwnG rowI w w0.heap.size (slV s) acc
  own : OwnG rowN w B (.slice (some ⟨g, 0, none⟩) ms.length cap) (ms.set i ((ms.getD i (⟨0, 0, 0⟩, none, 0, 0)).1, s))
  only : w0.grownBy w (some g)
theorem NodesAt.next {ws ss : List (List UInt8)} {ns : List NodeP} {B lo g cap i : Nat} {ms : List NodeM} {w0 w w' : World} {s : SlT} {e : List Nat} (h : NodesAt ws ss ns B lo g cap i ms w0) (hi : i < ms.length) (hlo : lo ≤ w0.heap.size) (hg : g < lo)
    (ho : OwnG rowN w B (.slice (some ⟨g, 0, none⟩) ms.length cap) (ms.set i ((ms.getD i (⟨0, 0, 0⟩, none, 0, 0)).1, s))) (hw : w0.grownBy w (some g)) (he : EndsAt w' w0.heap.size s e) (hx : e = endsOf ws (ss.getD i [])) {g' : Nat} (hg' : w.grownBy w' (some g')) (hor : w0.heap.size ≤ g' ∨ w' = w) :
    NodesAt ws ss ns B lo g cap (i + 1) (ms.set i ((ms.getD i (⟨0, 0, 0⟩, none, 0, 0)).1, s)) w' ∧ w0.grownBy w' (some g) := by
  have hkeep : ∀ j, j < w0.heap.size → w'.heap[j]? = w.heap[j]? := fun j hj => by
    rcases hor with c | rfl
    · exact hg'.block j (Nat.lt_of_lt_of_le hj hw.size) (fun e => by injection e with e; omega)
    · rfl
  have hz : w.heap.size ≤ w'.heap.size := hg'.size
  have hgd : ms.getD i (⟨0, 0, 0⟩, none, 0, 0) = ms[i] := by rw [List.getD_eq_getElem?_getD, List.getElem?_eq_getElem hi]; rfl
  refine ⟨⟨?_, ?_, fun j m hj hm => ?_, fun j m hj hm => ?_⟩, ⟨hg'.os.trans hw.os, hg'.tape.trans hw.tape, hg'.output.trans hw.output, Nat.le_trans hw.size hz, fun j hj hne => (hkeep j hj).trans (hw.block j hj hne)⟩⟩
  · rw [List.length_set]
    exact ho.keep fun j e => hkeep j (by have e : g = j := Option.some.inj e; omega)
  · rw [List.map_set, h.fst, hgd]
    have : ns[i]? = some ms[i].1 := by rw [← h.fst, List.getElem?_map, List.getElem?_eq_getElem hi]; rfl
    refine List.ext_getElem? fun j => ?_
    by_cases c : i = j
    · subst c
      rw [List.getElem?_set_self (by rw [← h.fst, List.length_map]; exact hi), this]
    · rw [List.getElem?_set_ne c]
  · by_cases c : i = j
    · subst c
      rw [List.getElem?_set_self hi] at hm
      rw [← Option.some.inj hm, ← hx]
      exact he.lower hlo
    · rw [List.getElem?_set_ne c] at hm
      have h1 := h.done j m (by omega) hm
      exact h1.keep (Nat.le_trans hw.size hz) fun k hk hk2 => (hkeep k hk2).trans (hw.block k hk2 fun e => by injection e with e; omega)
  · rw [List.getElem?_set_ne (by omega)] at hm
    exact h.rest j m (by omega) hm
/-- A word more. -/
theorem NodeNow.add {ms : List NodeM} {B g cap i : Nat} {w0 w w4 : World} {acc : List Nat} {s : SlT} (h : NodeNow ms B g cap i w0 acc s w) (hi : i < ms.length) (hg : g < w0.heap.size) {k g4 c4 : Nat} (ho : OwnG rowI w4 w0.heap.size (.slice (some ⟨g4, 0, none⟩) (acc ++ [k]).length c4) (acc ++ [k])) (hb : Below w0.heap.size w w4) :
    NodeNow ms B g cap i w0 (acc ++ [k]) (some ⟨g4, 0, none⟩, acc.length + 1, c4) (w4.setCell ⟨g, i * 4 + 3, none⟩ (.slice (some ⟨g4, 0, none⟩) (acc.length + 1) c4)) := by
  have hl : (acc ++ [k]).length = acc.length + 1 := by simp
  rw [hl] at ho
  have hg4 := (ho.lt g4 rfl).1
  have h1 : OwnG rowN w4 B (.slice (some ⟨g, 0, none⟩) ms.length cap) (ms.set i ((ms.getD i (⟨0, 0, 0⟩, none, 0, 0)).1, s)) := h.own.keep fun j e => hb.block j (by have e : g = j := Option.some.inj e; omega)
  have hlen : (ms.set i ((ms.getD i (⟨0, 0, 0⟩, none, 0, 0)).1, s)).length = ms.length := List.length_set ..
  rw [← hlen] at h1
  have h2 := h1.stored i (by rw [hlen]; exact hi) 3 (by decide) (.slice (some ⟨g4, 0, none⟩) (acc.length + 1) c4) ((ms.getD i (⟨0, 0, 0⟩, none, 0, 0)).1, some ⟨g4, 0, none⟩, acc.length + 1, c4) (by rw [List.getElem_set_self]; rfl)
  refine ⟨?_, ?_, ?_⟩
  · exact ho.keep fun j e => Below.heap_setCell w4 ⟨g, i * 4 + 3, none⟩ _ j fun e2 => by injection e with e; rw [← e] at e2; have : g4 = g := e2; omega
  · have h3 := h2.1
    rw [List.set_set, hlen] at h3
    exact h3
  · exact only_setCell (ponly_low h.only hb) _ _
/-- The start: the words of the failure. -/
theorem NodeNow.start {ws ss : List (List UInt8)} {ns : List NodeP} {B lo g cap i : Nat} {ms : List NodeM} {w0 w4 : World} {s : SlT} {acc : List Nat} (h : NodesAt ws ss ns B lo g cap i ms w0) (hi : i < ms.length) (hg : g < w0.heap.size) (ho : OwnG rowI w4 w0.heap.size (slV s) acc) (hb : Below w0.heap.size w0 w4) :
    NodeNow ms B g cap i w0 acc s (w4.setCell ⟨g, i * 4 + 3, none⟩ (slV s)) := by
  have h1 : OwnG rowN w4 B (.slice (some ⟨g, 0, none⟩) ms.length cap) ms := h.own.keep fun j e => hb.block j (by have e : g = j := Option.some.inj e; omega)
  have hgd : ms.getD i (⟨0, 0, 0⟩, none, 0, 0) = ms[i] := by rw [List.getD_eq_getElem?_getD, List.getElem?_eq_getElem hi]; rfl
  have h2 := h1.stored i hi 3 (by decide) (slV s) ((ms.getD i (⟨0, 0, 0⟩, none, 0, 0)).1, s) (by rw [hgd]; rfl)
  refine ⟨?_, h2.1, only_setCell ⟨hb.os, hb.tape, hb.output, hb.size, fun j hj _ => hb.block j hj⟩ _ _⟩
  exact ho.keep fun j e => Below.heap_setCell w4 ⟨g, i * 4 + 3, none⟩ _ j fun e2 => by
    have := (ho.lt j e).1
    have e3 : j = g := e2
    omega
end Go.Proofs.YthfjmlcjkbgboaaGreatDoor
