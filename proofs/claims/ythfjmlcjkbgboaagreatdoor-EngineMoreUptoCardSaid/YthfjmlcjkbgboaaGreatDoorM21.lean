/- Part 21 of the proof: lemmas and walks that the last texts use. -/
import Derived.Test.YthfjmlcjkbgboaaGreatDoorM01
import Derived.Test.YthfjmlcjkbgboaaGreatDoorM19
import Derived.Test.YthfjmlcjkbgboaaGreatDoorM20
import Derived.Shelf.SlSortCmp.WholeK
namespace Go.Proofs.YthfjmlcjkbgboaaGreatDoor
open Go.RowKit
abbrev SlT := Option Addr × Nat × Nat
def slV (s : SlT) : Value := .slice s.1 s.2.1 s.2.2
abbrev NodeM := NodeP × SlT
def cellsNd (x : NodeM) : List Value := [.int .u8 x.1.b.toNat, .int .i64 (x.1.up : Int), .int .i64 (x.1.fail : Int), slV x.2]
def rowN : RowT NodeM where
  e := 266
  t := 224
  size := 4
  bytes := 48
  z := .agg #[.int .u8 0, .int .i64 0, .int .i64 0, .slice none 0 0]
  cells := cellsNd
  hsz _ := rfl
  hpos := by decide
  under := Tryz.underlying224
  info := by kernel_rfl
  hz := rfl
  one x u hu := by
    simp only [cellsNd, List.mem_cons, List.not_mem_nil, or_false] at hu
    rcases hu with rfl | rfl | rfl | rfl <;> rfl
  hbytes := by decide
def rowE : RowT (Nat × UInt8) where
  e := 300
  t := 298
  size := 2
  bytes := 16
  z := .agg #[.int .i64 0, .int .u8 0]
  cells x := [.int .i64 (x.1 : Int), .int .u8 x.2.toNat]
  hsz _ := rfl
  hpos := by decide
  under := Tryz.underlying298
  info := by kernel_rfl
  hz := rfl
  one x u hu := by
    simp only [List.mem_cons, List.not_mem_nil, or_false] at hu
    rcases hu with rfl | rfl <;> rfl
  hbytes := by decide
def rowI : RowT Nat where
  e := 3
  t := 23
  size := 1
  bytes := 8
  z := .int .i64 0
  cells x := [.int .i64 (x : Int)]
  hsz _ := rfl
  hpos := by decide
  under := Tryz.underlying23
  info := by kernel_rfl
  hz := rfl
  one x u hu := by
    rw [List.mem_singleton] at hu
    rw [hu]; rfl
  hbytes := by decide
theorem blk_set {w : World} {g : Nat} {cs : Array Value} {t : TypeId} {fz : Nat × Nat} (h : w.heap[g]? = some (.cells cs t fz)) (j : Nat) (v : Value) : (w.setCell ⟨g, j, none⟩ v).heap[g]? = some (.cells (cs.setIfInBounds j v) t fz) := by
  simp [World.setCell, Array.getElem?_modify, h]
theorem some_lt {w : World} {g : Nat} {o : Obj} (h : w.heap[g]? = some o) : g < w.heap.size := (Array.getElem?_eq_some_iff.1 h).1
/-- A row is in no block of another kind. -/
theorem OwnG.apart {α : Type} {R : RowT α} {w : World} {base g : Nat} {v : Value} {l : List α} (h : OwnG R w base v l) {o : Obj} (hg : w.heap[g]? = some o) (hne : ∀ cs fz, o ≠ .cells cs R.e fz) : v.ownBlock ≠ some g := by
  intro he
  obtain ⟨c, f, hc⟩ := Lib.ownsRow_kind h g he
  rw [hg] at hc
  injection hc with hc
  exact hne _ _ hc
def mkObj (g cap n bm ga na ca : Nat) : Obj := .cells #[.slice (some ⟨g, 0, none⟩) n cap, .map (some bm), .slice (some ⟨ga, 0, none⟩) na ca] 269
/-- The maker at a block: its nodes, its map, where the words are. -/
structure Mk (w : World) (B gm bm ga ca g cap : Nat) (ms : List NodeM) (l : List (EdgeK × Nat)) (ats : List Nat) : Prop where
  blk : w.heap[gm]? = some (mkObj g cap ms.length bm ga ats.length ca)
  own : OwnG rowN w B (.slice (some ⟨g, 0, none⟩) ms.length cap) ms
  aown : OwnG rowI w B (.slice (some ⟨ga, 0, none⟩) ats.length ca) ats
  map : MpAt w bm l
  low : B ≤ gm ∧ B ≤ bm
section
variable {w : World} {B gm bm ga ca g cap : Nat} {ms : List NodeM} {l : List (EdgeK × Nat)} {ats : List Nat}
theorem Mk.lt (h : Mk w B gm bm ga ca g cap ms l ats) : gm < w.heap.size ∧ g < w.heap.size ∧ ga < w.heap.size ∧ bm < w.heap.size := by
  obtain ⟨es, ck, hb, _⟩ := h.map
  exact ⟨some_lt h.blk, (h.own.lt g rfl).2, (h.aown.lt ga rfl).2, some_lt hb⟩
theorem Mk.base (h : Mk w B gm bm ga ca g cap ms l ats) : B ≤ gm ∧ B ≤ g ∧ B ≤ ga ∧ B ≤ bm := ⟨h.low.1, (h.own.lt g rfl).1, (h.aown.lt ga rfl).1, h.low.2⟩
theorem Mk.ne (h : Mk w B gm bm ga ca g cap ms l ats) : gm ≠ g ∧ gm ≠ ga ∧ gm ≠ bm ∧ g ≠ ga ∧ g ≠ bm ∧ ga ≠ bm := by
  obtain ⟨es, ck, hb, _⟩ := h.map
  have h1 := h.own.apart h.blk fun cs fz e => by unfold mkObj at e; injection e with _ e; exact absurd e (by decide)
  have h2 := h.aown.apart h.blk fun cs fz e => by unfold mkObj at e; injection e with _ e; exact absurd e (by decide)
  have h3 := h.own.apart hb fun cs fz e => by cases e
  have h4 := h.aown.apart hb fun cs fz e => by cases e
  obtain ⟨c, f, hc⟩ := Lib.ownsRow_kind h.own g rfl
  have h5 := h.aown.apart hc fun cs fz e => by injection e with _ e; exact absurd e (by decide)
  refine ⟨fun e => h1 (by rw [e]; rfl), fun e => h2 (by rw [e]; rfl), fun e => ?_, fun e => h5 (by rw [e]; rfl), fun e => h3 (by rw [e]; rfl), fun e => h4 (by rw [e]; rfl)⟩
  have := h.blk
  rw [e, hb] at this
  injection this with this
  unfold mkObj at this
  cases this
theorem Mk.cells (h : Mk w B gm bm ga ca g cap ms l ats) : w.cell? ⟨gm, 0, none⟩ = some (.slice (some ⟨g, 0, none⟩) ms.length cap) ∧ w.cell? ⟨gm, 1, none⟩ = some (.map (some bm)) ∧ w.cell? ⟨gm, 2, none⟩ = some (.slice (some ⟨ga, 0, none⟩) ats.length ca) ∧ w.frozen? ⟨gm, 0, none⟩ = false := by
  have hb := h.blk
  unfold mkObj at hb
  exact ⟨cell_of_row w gm 0 _ _ _ hb, cell_of_row w gm 1 _ _ _ hb, cell_of_row w gm 2 _ _ _ hb, by simp [World.frozen?, hb]⟩
theorem Mk.at (h : Mk w B gm bm ga ca g cap ms l ats) (k : Nat) (hk : k < ats.length) : w.cell? ⟨ga, k, none⟩ = some (.int .i64 (ats[k] : Int)) ∧ w.frozen? ⟨ga, k, none⟩ = false := by
  have := h.aown.at k hk 0 (by decide)
  rw [show k * rowI.size + 0 = k by simp [rowI]] at this
  exact this
theorem Mk.fail (h : Mk w B gm bm ga ca g cap ms l ats) (j : Nat) (n : NodeP) (e : (ms.map Prod.fst)[j]? = some n) : w.cell? ⟨g, j * 4 + 2, none⟩ = some (.int .i64 (n.fail : Int)) := by
  have hj : j < ms.length := by have := (List.getElem?_eq_some_iff.1 e).1; simpa using this
  have := (h.own.at j hj 2 (by decide)).1
  refine this.trans ?_
  rw [List.getElem?_map, List.getElem?_eq_getElem hj] at e
  have e := Option.some.inj e
  rw [← e]; rfl
theorem Mk.toF (h : Mk w B gm bm ga ca g cap ms l ats) : MkF w gm g bm cap (ms.map Prod.fst) l where
  nodes := by rw [List.length_map]; exact h.cells.1
  next := h.cells.2.1
  fail := h.fail
  map := h.map
  lt := ⟨h.lt.1, h.lt.2.1⟩
theorem MpAt.keep {w w' : World} {b : Nat} {l : List (EdgeK × Nat)} (h : MpAt w b l) (hk : w'.heap[b]? = w.heap[b]?) : MpAt w' b l := by
  obtain ⟨es, ck, hb, he⟩ := h
  exact ⟨es, ck, hk.trans hb, he⟩
theorem Mk.below (h : Mk w B gm bm ga ca g cap ms l ats) {w' : World} (hb : Below w.heap.size w w') : Mk w' B gm bm ga ca g cap ms l ats where
  blk := (hb.block gm h.lt.1).trans h.blk
  own := h.own.below hb
  aown := h.aown.below hb
  map := h.map.keep (hb.block bm h.lt.2.2.2)
  low := h.low
/-- The map changed. -/
theorem Mk.put (h : Mk w B gm bm ga ca g cap ms l ats) {o : Obj} {l' : List (EdgeK × Nat)} (hm : MpAt (ChangeMaps.setBlock w bm o) bm l') : Mk (ChangeMaps.setBlock w bm o) B gm bm ga ca g cap ms l' ats := by
  obtain ⟨n1, n2, n3, n4, n5, n6⟩ := h.ne
  have hk : ∀ j, bm ≠ j → (ChangeMaps.setBlock w bm o).heap[j]? = w.heap[j]? := fun j hj => by
    simp [ChangeMaps.setBlock, Array.getElem?_setIfInBounds_ne hj]
  exact { blk := (hk gm (Ne.symm n3)).trans h.blk, own := h.own.keep fun k e => hk k fun e2 => n5 (by injection e with e; rw [e2]; exact e), aown := h.aown.keep fun k e => hk k fun e2 => n6 (by injection e with e; rw [e2]; exact e), map := hm, low := h.low }
/-- The nodes changed, and are set anew. -/
theorem Mk.push (h : Mk w B gm bm ga ca g cap ms l ats) {w' : World} {v' : Value} {ms' : List NodeM} (ho : OwnG rowN w' B v' ms') (h0 : 0 < ms'.length) (hk : ∀ j, j < w.heap.size → g ≠ j → w'.heap[j]? = w.heap[j]?) :
    ∃ g' cap', v' = .slice (some ⟨g', 0, none⟩) ms'.length cap' ∧ Mk (w'.setCell ⟨gm, 0, none⟩ v') B gm bm ga ca g' cap' ms' l ats := by
  obtain ⟨n1, n2, n3, n4, n5, n6⟩ := h.ne
  obtain ⟨l1, l2, l3, l4⟩ := h.lt
  obtain ⟨g', cap', rfl, _, _⟩ := ho.head h0
  have hb' : w'.heap[gm]? = some (mkObj g cap ms.length bm ga ats.length ca) := (hk gm l1 (Ne.symm n1)).trans h.blk
  have hne : g' ≠ gm := fun e => ho.apart hb' (fun cs fz e => by unfold mkObj at e; injection e with _ e; exact absurd e (by decide)) (by rw [e]; rfl)
  have hs : ∀ j, gm ≠ j → (w'.setCell ⟨gm, 0, none⟩ (.slice (some ⟨g', 0, none⟩) ms'.length cap')).heap[j]? = w'.heap[j]? := fun j hj => Below.heap_setCell w' ⟨gm, 0, none⟩ _ j (Ne.symm hj)
  refine ⟨g', cap', rfl, ⟨?_, ho.keep fun k e => hs k fun e2 => hne (by injection e with e; rw [e2]; exact e), h.aown.keep fun k e => ?_, h.map.keep ?_, h.low⟩⟩
  · unfold mkObj at hb'
    have := blk_set hb' 0 (.slice (some ⟨g', 0, none⟩) ms'.length cap')
    exact this
  · injection e with e
    subst e
    exact (hs _ n2).trans (hk _ l3 n4)
  · exact (hs _ n3).trans (hk _ l4 n5)
/-- Where a word is, set. -/
theorem Mk.setAt (h : Mk w B gm bm ga ca g cap ms l ats) (k : Nat) (hk : k < ats.length) (x : Nat) : Mk (w.setCell ⟨ga, k, none⟩ (.int .i64 (x : Int))) B gm bm ga ca g cap ms l (ats.set k x) := by
  obtain ⟨n1, n2, n3, n4, n5, n6⟩ := h.ne
  have hs : ∀ j, ga ≠ j → (w.setCell ⟨ga, k, none⟩ (.int .i64 (x : Int))).heap[j]? = w.heap[j]? := fun j hj => Below.heap_setCell w ⟨ga, k, none⟩ _ j (Ne.symm hj)
  refine ⟨by rw [List.length_set]; exact (hs gm (Ne.symm n2)).trans h.blk, h.own.keep fun j e => hs j fun e2 => n4 (by injection e with e; rw [e2]; exact e), ?_, h.map.keep (hs bm n6), h.low⟩
  have := (h.aown.stored k hk 0 (by decide) (.int .i64 (x : Int)) x rfl).1
  rw [show k * rowI.size + 0 = k by simp [rowI]] at this
  rw [List.length_set]
  exact this
end
theorem below_setBlock (w : World) (B b : Nat) (o : Obj) (hB : B ≤ b) : Below B w (ChangeMaps.setBlock w b o) where
  os := rfl
  tape := rfl
  output := rfl
  size := by simp [ChangeMaps.setBlock]
  block j hj := by simp [ChangeMaps.setBlock, Array.getElem?_setIfInBounds_ne (show b ≠ j by omega)]
theorem edge_has {base : Nat} {v : Value} {l : List (Nat × UInt8)} {W : World} (h : OwnG rowE W base v l) (hl : l.length ≤ 4096) (e : Nat × UInt8) :
    Calls Tryz.prog 230 #[v, .agg #[.int .i64 (e.1 : Int), .int .u8 e.2.toNat]] W fun r w' => r = .returned (.bool (decide (e ∈ l))) ∧ Below W.heap.size W w' := by
  rcases h.cases with ⟨rfl, rfl⟩ | ⟨g, c, rfl, _, _⟩
  · have := edge_in_nil ((e.1 : Int), e.2) W
    unfold keyV at this
    simpa using this
  · have := edge_in g 0 l.length c (l.map fun x => ((x.1 : Int), x.2)) ((e.1 : Int), e.2) W (by simp) (by omega) fun j hj i v hi => by
      have hj' : j < l.length := by simpa using hj
      have hi2 : i < 2 := (List.getElem?_eq_some_iff.1 hi).1
      have := (h.at j hj' i hi2).1
      rw [Nat.zero_add]
      refine this.trans (Eq.trans ?_ hi)
      rw [getElem!_pos _ j hj, List.getElem_map]
      rfl
    unfold keyV at this
    rw [show (((l.map fun x => ((x.1 : Int), x.2)).take l.length).any fun y => decide ((((e.1 : Int), e.2) : EdgeK) = y)) = decide (e ∈ l) from ?_] at this
    · exact this
    · rw [List.take_of_length_le (by simp), List.any_map]
      by_cases hm : e ∈ l
      · rw [decide_eq_true hm, List.any_eq_true]
        exact ⟨e, hm, by simp⟩
      · rw [decide_eq_false hm, List.any_eq_false]
        intro y hy
        simp only [Function.comp_apply, decide_eq_true_eq]
        intro he
        injection he with e1 e2
        exact hm (by rw [show e = y from Prod.ext (by omega) e2]; exact hy)
end Go.Proofs.YthfjmlcjkbgboaaGreatDoor
namespace Go.Proofs.YthfjmlcjkbgboaaGreatDoor
theorem lookE_snoc : ∀ (l : List (EdgeK × Nat)) (p : EdgeK × Nat) (k : EdgeK), lookE (l ++ [p]) k = (lookE l k).or (if k = p.1 then some p.2 else none)
  | [], p, k => by simp [lookE]
  | q :: l, p, k => by
    rw [List.cons_append, lookE, lookE]
    by_cases h : k = q.1
    · rw [if_pos h, if_pos h]; rfl
    · rw [if_neg h, if_neg h]; exact lookE_snoc l p k
theorem NextOk.start : NextOk [⟨0, 0, 0⟩] [] := fun a b j => by
  constructor
  · intro h; cases h
  · rintro ⟨h0, n, h1, _⟩
    have : j < 1 := (List.getElem?_eq_some_iff.1 h1).1
    omega
theorem NextOk.add {ns : List NodeP} {l : List (EdgeK × Nat)} (h : NextOk ns l) (x : NodeP) (h0 : 0 < ns.length) (hn : lookE l ((x.up : Int), x.b) = none) : NextOk (ns ++ [x]) (l ++ [(((x.up : Int), x.b), ns.length)]) := fun a b j => by
  rw [lookE_snoc]
  have hx := h a b
  by_cases e : ((a : Int), b) = ((x.up : Int), x.b)
  · obtain ⟨e1, rfl⟩ := Prod.mk.inj e
    obtain rfl : a = x.up := by omega
    rw [hn, if_pos rfl]
    constructor
    · intro hj
      obtain rfl : ns.length = j := by simpa using hj
      exact ⟨h0, x, by simp, rfl, rfl⟩
    · rintro ⟨hj, n, h1, h2, h3⟩
      by_cases hlt : j < ns.length
      · rw [List.getElem?_append_left hlt] at h1
        have := (hx j).2 ⟨hj, n, h1, h2, h3⟩
        rw [hn] at this
        cases this
      · have := (List.getElem?_eq_some_iff.1 h1).1
        rw [List.length_append, List.length_singleton] at this
        obtain rfl : j = ns.length := by omega
        rfl
  · rw [if_neg e, Option.or_none, hx j]
    constructor
    · rintro ⟨hj, n, h1, h2⟩
      have hlt := (List.getElem?_eq_some_iff.1 h1).1
      exact ⟨hj, n, by rw [List.getElem?_append_left hlt]; exact h1, h2⟩
    · rintro ⟨hj, n, h1, h2, h3⟩
      by_cases hlt : j < ns.length
      · rw [List.getElem?_append_left hlt] at h1
        exact ⟨hj, n, h1, h2, h3⟩
      · have := (List.getElem?_eq_some_iff.1 h1).1
        rw [List.length_append, List.length_singleton] at this
        obtain rfl : j = ns.length := by omega
        simp at h1
        subst h1; subst h2; subst h3
        exact absurd rfl e
end Go.Proofs.YthfjmlcjkbgboaaGreatDoor
namespace Go.Proofs.YthfjmlcjkbgboaaGreatDoor
open Go.RowKit
theorem put_kept (W : World) (b j : Nat) (o : Obj) (h : b ≠ j) : (ChangeMaps.setBlock W b o).heap[j]? = W.heap[j]? := by
  simp [ChangeMaps.setBlock, Array.getElem?_setIfInBounds_ne h]
theorem cell_heap {w w' : World} {g : Nat} (h : w'.heap[g]? = w.heap[g]?) (i : Nat) : w'.cell? ⟨g, i, none⟩ = w.cell? ⟨g, i, none⟩ := by simp only [World.cell?, h]
theorem free_heap {w w' : World} {g : Nat} (h : w'.heap[g]? = w.heap[g]?) (i : Nat) : w'.frozen? ⟨g, i, none⟩ = w.frozen? ⟨g, i, none⟩ := by simp only [World.frozen?, h]
theorem MkF.drew {w : World} {gm g bm cap : Nat} {ns : List NodeP} {l : List (EdgeK × Nat)} (h : MkF w gm g bm cap ns l) : MkF w.drew gm g bm cap ns l := ⟨h.nodes, h.next, h.fail, h.map, h.lt⟩
def FailIs (ss : List (List UInt8)) (p : List UInt8) (b : UInt8) (r : Nat) : Prop :=
  ∃ f, ss[r]? = some f ∧ f ∈ ss ∧ f <:+ p ++ [b] ∧ f ≠ p ++ [b] ∧ ∀ u, u ∈ ss → u <:+ p ++ [b] → u ≠ p ++ [b] → u <:+ f
theorem no_kid {ns : List NodeP} {ss : List (List UInt8)} (hi : Inv ns ss) {l : List (EdgeK × Nat)} (hl : NextOk ns l) {up : Nat} {b : UInt8} {p : List UInt8} (hu : ss[up]? = some p) (hnew : p ++ [b] ∉ ss) : lookE l ((up : Int), b) = none := by
  cases h : lookE l ((up : Int), b) with
  | none => rfl
  | some j => exact absurd (List.mem_of_getElem? ((hi.kid hu).2 ((hl up b j).1 h))) hnew
theorem pfail_any {ns : List NodeP} {ss : List (List UInt8)} (hi : Inv ns ss) {l : List (EdgeK × Nat)} (hl : NextOk ns l) (hb : ns.length ≤ 400) {up : Nat} {b : UInt8} {p : List UInt8} (hu : ss[up]? = some p) (hnew : p ++ [b] ∉ ss) (x : Nat)
    {gm g bm cap : Nat} {w : World} (M : MkF w gm g bm cap ns (l ++ [(((up : Int), b), x)])) :
    Calls Tryz.prog 233 #[.pointer (some ⟨gm, 0, none⟩), .agg #[.int .i64 (up : Int), .int .u8 b.toNat]] w fun e w' => (∃ r : Nat, e = .returned (.int .i64 (r : Int)) ∧ FailIs ss p b r) ∧ Below w.heap.size w w' := by
  by_cases h0 : up = 0
  · subst h0
    refine (fail_root_calls gm b w).mono ?_
    rintro e w' ⟨rfl, h⟩
    rw [hi.trie.root] at hu
    obtain rfl := Option.some.inj hu
    exact ⟨⟨0, rfl, [], hi.trie.root, fail_root hi.trie⟩, h⟩
  · obtain ⟨n0, hn0⟩ : ∃ n, ns[up]? = some n := ⟨_, List.getElem?_eq_getElem (hi.lt hu)⟩
    obtain ⟨h1, f, h2, h3⟩ := hi.fail_at (by omega) hn0 hu
    refine (fail_calls ns ss hi _ gm g bm cap up (fun a c j ha => ?_) b n0 f hn0 h0 (failAt_start h2) h1 (by omega) w M).mono ?_
    · rw [lookE_snoc, if_neg (fun e => by injection e with e _; omega), Option.or_none]
      exact hl a c j
    · rintro e w' ⟨⟨r, rfl, v, hv, hlong⟩, hbw⟩
      exact ⟨⟨r, rfl, v, hv, fail_of_long h3 hlong hi.trie hnew⟩, hbw⟩
/-- These edges lie there, in a block at least base. -/
def EdgesAt (w : World) (base : Nat) (v : Value) (l : List (Nat × UInt8)) : Prop :=
  ∃ A c, v = .slice A l.length c ∧ (0 < l.length → ∃ (g : Nat) (cs : Array Value) (fz : Nat × Nat), A = some ⟨g, 0, none⟩ ∧ base ≤ g ∧ w.heap[g]? = some (.cells cs 300 fz) ∧ ∀ j (h : j < l.length), cs[j * 2]? = some (.int .i64 (l[j].1 : Int)) ∧ cs[j * 2 + 1]? = some (.int .u8 l[j].2.toNat))
theorem EdgesAt.at {w : World} {base : Nat} {v : Value} {l : List (Nat × UInt8)} (h : EdgesAt w base v l) (k : Nat) (hk : k < l.length) :
    ∃ g cs fz c, v = .slice (some ⟨g, 0, none⟩) l.length c ∧ base ≤ g ∧ w.heap[g]? = some (.cells cs 300 fz) ∧ w.cell? ⟨g, k * 2, none⟩ = some (.int .i64 (l[k].1 : Int)) ∧ w.cell? ⟨g, k * 2 + 1, none⟩ = some (.int .u8 l[k].2.toNat) := by
  obtain ⟨A, c, rfl, h⟩ := h
  obtain ⟨g, cs, fz, rfl, h1, h2, h3⟩ := h (by omega)
  exact ⟨g, cs, fz, c, rfl, h1, h2, (cell_of_row w g (k * 2) _ _ _ h2).trans (h3 k hk).1, (cell_of_row w g (k * 2 + 1) _ _ _ h2).trans (h3 k hk).2⟩
theorem EdgesAt.keep {w w' : World} {base : Nat} {v : Value} {l : List (Nat × UInt8)} (h : EdgesAt w base v l) (hk : ∀ (g : Nat) cs fz, w.heap[g]? = some (.cells cs 300 fz) → w'.heap[g]? = w.heap[g]?) : EdgesAt w' base v l := by
  obtain ⟨A, c, rfl, h⟩ := h
  refine ⟨A, c, rfl, fun h0 => ?_⟩
  obtain ⟨g, cs, fz, e, h1, h2, h3⟩ := h h0
  exact ⟨g, cs, fz, e, h1, (hk g cs fz h2).trans h2, h3⟩
end Go.Proofs.YthfjmlcjkbgboaaGreatDoor
namespace Go.Proofs.YthfjmlcjkbgboaaGreatDoor
open Go.RowKit Go.Shelf Go.Lib Go.Sort
theorem edge_sort (blk off cap : Nat) (d : Array EdgeS) (w : World) (hH : HoldsK encS 2 w blk off d) (hblk : blk < w.heap.size) (hsz : d.size < 4611686018427387904) :
    Calls Tryz.prog 231 #[.slice (some ⟨blk, off, none⟩) d.size cap, .func (.func 232) #[] #[]] w fun e w' =>
      e = .returned (.tuple #[]) ∧ ∃ d' n os, PermIn 0 d.size d d' ∧ SortedIn (ltOf cmpS) 0 d.size d' ∧ w' = sortWorldK encS 2 w blk off n d' os :=
  AnyQ.slices_SortFunc edgeSort_lays 2 Tryz.isAgg300 Tryz.sizeOf300 encS (fun _ => rfl) (fun x v hv => by simp [encS] at hv; rcases hv with rfl | rfl <;> rfl) cmpS swoS 232 #[] blk off cap d w
    (enters_of Tryz.func232 (by kernel_rfl) rfl) (fun _ _ _ _ x y => cmp_calls x y _) hH hblk hsz
theorem perm_all {d d' : Array EdgeS} (h : PermIn 0 d.size d d') : d'.toList.Perm d.toList := by
  obtain ⟨h1, _, h2⟩ := h
  have e1 : d'.extract 0 d.size = d' := by rw [← h1]; simp
  have e2 : d.extract 0 d.size = d := by simp
  rwa [e1, e2] at h2
end Go.Proofs.YthfjmlcjkbgboaaGreatDoor
namespace Go.Proofs.YthfjmlcjkbgboaaGreatDoor
open Go.RowKit
theorem ins_nil (f : Value) (w : World) : Calls Tryz.prog 286 #[.slice none 0 0, .int .i64 0, .int .i64 0, f] w fun e w' => e = .returned (.tuple #[]) ∧ w' = w := by
  go_enter Tryz.func286, Tryz.ntmps286
  go_wp2_with fail
  refine wp_loop_rounds 1 ?_
  rw [rounds_succ]
  go_wp2_with fail
  go_end0
  exact ⟨rfl, rfl⟩
theorem pdq_nil (f : Value) (m : Int) (w : World) : Calls Tryz.prog 257 #[.slice none 0 0, .int .i64 0, .int .i64 0, .int .i64 m, f] w fun e w' => e = .returned (.tuple #[]) ∧ w' = w := by
  have hi := fun W => ins_nil f W
  go_enter Tryz.func257, Tryz.ntmps257
  go_wp2_with fail
  refine wp_loop_rounds 1 ?_
  rw [rounds_succ]
  go_wp2_with (go_at_call 286; refine (hi _).mono ?_; rintro e w' ⟨rfl, rfl⟩)
  (try simp only [Exit.inBlock, Exit.then]); refine bodyPost_ret (results_none rfl _ _ _) rfl ?_
  exact ⟨rfl, rfl⟩
theorem sort_nil (f : Value) (w : World) : Calls Tryz.prog 231 #[.slice none 0 0, f] w fun e w' => e = .returned (.tuple #[]) ∧ w' = w := by
  have hp := fun m W => pdq_nil f m W
  have hl := fun W => Tryz.bits_Len 0 W (by omega) (by omega)
  go_enter Tryz.func231, Tryz.ntmps231
  go_wp2_with (first | (go_at_call 235; refine (hl _).mono ?_; rintro e w' ⟨rfl, rfl⟩) | (go_at_call 257; refine (hp _ _).mono ?_; rintro e w' ⟨rfl, rfl⟩))
  go_end0
  exact ⟨rfl, rfl⟩
end Go.Proofs.YthfjmlcjkbgboaaGreatDoor
namespace Go.Proofs.YthfjmlcjkbgboaaGreatDoor
open Go.RowKit Go.Sort Go.Shelf Go.Lib
theorem below_sort (B : Nat) (w : World) (blk off n : Nat) (d : Array EdgeS) (os : Array Obj) (hB : B ≤ blk) (hw : B ≤ w.heap.size) : Below B w (sortWorldK encS 2 w blk off n d os) := by
  unfold sortWorldK putRowK
  have h1 : Below B w (putRow id (Sort.ahead w n) blk off (flatK encS 2 d)) := ⟨rfl, rfl, rfl, by simp, fun j hj => by
    unfold putRow mapBlock
    show ((w.heap.modify blk _))[j]? = _
    rw [Array.getElem?_modify, if_neg (by omega)]⟩
  exact h1.trans (below_grow B _ (by simpa using hw) 0 os)
def toS (e : Nat × UInt8) : EdgeS := (⟨e.1 % 65536, Nat.mod_lt _ (by decide)⟩, e.2)
def ofS (e : EdgeS) : Nat × UInt8 := (e.1.val, e.2)
theorem of_to {l : List (Nat × UInt8)} (h : ∀ e ∈ l, e.1 < 65536) : (l.map toS).map ofS = l := by
  rw [List.map_map]
  refine (List.map_congr_left fun e he => ?_).trans (List.map_id l)
  have := h e he
  exact Prod.ext (Nat.mod_eq_of_lt this) rfl
theorem kind_sort {W : World} {g n : Nat} {d : Array EdgeS} {os : Array Obj} {cs : Array Value} {t : TypeId} {fz : Nat × Nat} (h : W.heap[g]? = some (.cells cs t fz)) : ∃ cs', (sortWorldK encS 2 W g 0 n d os).heap[g]? = some (.cells cs' t fz) := by
  have hlt : g < W.heap.size := (Array.getElem?_eq_some_iff.1 h).1
  refine ⟨putCells id 0 (flatK encS 2 d) cs, ?_⟩
  unfold sortWorldK putRowK putRow mapBlock grow
  show ((W.heap.modify g _) ++ os)[g]? = _
  rw [Array.getElem?_append_left (by simpa using hlt), Array.getElem?_modify, if_pos rfl, h]
  rfl
theorem holds_at {w : World} {g : Nat} {d : Array EdgeS} (h : HoldsK encS 2 w g 0 d) (j : Nat) (hj : j < d.size) : w.cell? ⟨g, j * 2, none⟩ = some (.int .i64 (d[j].1.val : Int)) ∧ w.cell? ⟨g, j * 2 + 1, none⟩ = some (.int .u8 d[j].2.toNat) := by
  have h0 := (h.cell hj (show 0 < 2 by decide)).1
  have h1 := (h.cell hj (show 1 < 2 by decide)).1
  rw [getElem!_pos d j hj] at h0 h1
  rw [show 0 + j * 2 + 0 = j * 2 by omega] at h0
  rw [show 0 + j * 2 + 1 = j * 2 + 1 by omega] at h1
  exact ⟨h0, h1⟩
theorem own_holds {W : World} {base g c : Nat} {l : List (Nat × UInt8)} (h : OwnG rowE W base (.slice (some ⟨g, 0, none⟩) l.length c) l) (hs : ∀ e ∈ l, e.1 < 65536) : HoldsK encS 2 W g 0 (l.map toS).toArray := by
  intro t ht
  rw [size_flatK] at ht
  have hk : t / 2 < l.length := by simp at ht; omega
  have hm : t % 2 < 2 := Nat.mod_lt _ (by decide)
  obtain ⟨h1, h2⟩ := h.at (t / 2) hk (t % 2) hm
  have e : t / 2 * rowE.size + t % 2 = t := by show t / 2 * 2 + t % 2 = t; omega
  rw [e] at h1 h2
  rw [Nat.zero_add]
  refine ⟨h1.trans ?_, h2⟩
  have hd : (l.map toS).toArray[t / 2]! = toS l[t / 2] := by rw [getElem!_pos _ _ (by simpa using hk)]; simp
  rw [get_flatK _ _ _ _ ht, hd]
  have hlt := hs _ (List.getElem_mem hk)
  rcases Nat.mod_two_eq_zero_or_one t with e0 | e0
  · rw [e0]
    show some (Value.int .i64 (l[t / 2].1 : Int)) = some (Value.int .i64 ((l[t / 2].1 % 65536 : Nat) : Int))
    rw [Nat.mod_eq_of_lt hlt]
  · rw [e0]; rfl
theorem sort_row {base : Nat} {v : Value} {l : List (Nat × UInt8)} {W : World} (h : OwnG rowE W base v l) (hbase : base ≤ W.heap.size) (hs : ∀ e ∈ l, e.1 < 65536) (hl : l.length ≤ 4096) :
    Calls Tryz.prog 231 #[v, .func (.func 232) #[] #[]] W fun e w' =>
      e = .returned (.tuple #[]) ∧ Below base W w' ∧ ∃ l', l'.Perm l ∧ EdgesAt w' base v l' := by
  rcases h.cases with ⟨rfl, rfl⟩ | ⟨g, c, rfl, hbg, hg⟩
  · refine (sort_nil _ W).mono ?_
    rintro e w' ⟨rfl, rfl⟩
    exact ⟨rfl, Below.refl _ _, [], List.Perm.refl _, none, 0, rfl, fun h => absurd h (by simp)⟩
  · have hh := own_holds h hs
    have hz : (l.map toS).toArray.size = l.length := by simp
    have hc := edge_sort g 0 c (l.map toS).toArray W hh hg (by rw [hz]; omega)
    rw [hz] at hc
    refine hc.mono ?_
    rintro e w' ⟨rfl, d', n, os, hp, _, rfl⟩
    have hp2 : d'.toList.Perm (l.map toS) := by
      have := perm_all (d := (l.map toS).toArray) (d' := d') (by rw [hz]; exact hp)
      simpa using this
    have hz' : d'.size = l.length := by have := hp2.length_eq; simpa using this
    obtain ⟨cs, fz, hcs⟩ := Lib.ownsRow_kind h g rfl
    obtain ⟨cs', hcs'⟩ := kind_sort (n := n) (d := d') (os := os) hcs
    have hh' : HoldsK encS 2 (sortWorldK encS 2 W g 0 n d' os) g 0 d' := holdsK_sortWorldK_c _ _ _ _ _ _ _ _ _ hh hg (by rw [hz', hz])
    refine ⟨rfl, below_sort base W g 0 n d' os hbg hbase, d'.toList.map ofS, ?_, some ⟨g, 0, none⟩, c, by simp [hz'], fun _ => ⟨g, cs', fz, rfl, hbg, hcs', fun j hj => ?_⟩⟩
    · have := hp2.map ofS
      rwa [of_to hs] at this
    · have hj' : j < d'.size := by simpa using hj
      obtain ⟨h1, h2⟩ := holds_at hh' j hj'
      rw [cell_of_row _ g _ _ _ _ hcs'] at h1 h2
      rw [h1, h2]
      simp [ofS]
end Go.Proofs.YthfjmlcjkbgboaaGreatDoor
namespace Go.Proofs.YthfjmlcjkbgboaaGreatDoor
def edgeAt (ws : List (List UInt8)) (n : Nat) (at0 : List Nat) (k : Nat) : Nat × UInt8 := (at0.getD k 0, (ws.getD k []).getD n 0)
def gath (ws : List (List UInt8)) (n : Nat) (at0 : List Nat) : Nat → List (Nat × UInt8)
  | 0 => []
  | k + 1 => if n < (ws.getD k []).length ∧ edgeAt ws n at0 k ∉ gath ws n at0 k then gath ws n at0 k ++ [edgeAt ws n at0 k] else gath ws n at0 k
theorem gath_ok (ws : List (List UInt8)) (n : Nat) (at0 : List Nat) : ∀ m, (gath ws n at0 m).Nodup ∧ ∀ e, e ∈ gath ws n at0 m ↔ ∃ k, k < m ∧ n < (ws.getD k []).length ∧ e = edgeAt ws n at0 k
  | 0 => ⟨by simp [gath], fun e => by simp [gath]⟩
  | m + 1 => by
    obtain ⟨h1, h2⟩ := gath_ok ws n at0 m
    have hm : ∀ e, (∃ k, k < m + 1 ∧ n < (ws.getD k []).length ∧ e = edgeAt ws n at0 k) ↔ (e ∈ gath ws n at0 m ∨ n < (ws.getD m []).length ∧ e = edgeAt ws n at0 m) := fun e => by
      rw [h2]
      constructor
      · rintro ⟨k, hk, h3, h4⟩
        by_cases hkm : k = m
        · subst hkm; exact .inr ⟨h3, h4⟩
        · exact .inl ⟨k, by omega, h3, h4⟩
      · rintro (⟨k, hk, h3, h4⟩ | ⟨h3, h4⟩)
        · exact ⟨k, by omega, h3, h4⟩
        · exact ⟨m, by omega, h3, h4⟩
    rw [gath]
    split
    case isTrue h =>
      refine ⟨List.nodup_append.2 ⟨h1, by simp, fun a ha b hb e => ?_⟩, fun e => ?_⟩
      · rw [List.mem_singleton] at hb
        subst hb; subst e
        exact h.2 ha
      · rw [List.mem_append, List.mem_singleton, hm]
        exact ⟨fun h3 => h3.imp id fun h4 => ⟨h.1, h4⟩, fun h3 => h3.imp id fun h4 => h4.2⟩
    case isFalse h =>
      refine ⟨h1, fun e => ?_⟩
      rw [hm]
      constructor
      · exact .inl
      · rintro (h3 | ⟨h3, rfl⟩)
        · exact h3
        · exact Classical.byContradiction fun h4 => h ⟨h3, h4⟩
theorem gath_edges (ws : List (List UInt8)) (n : Nat) (at0 : List Nat) : EdgesOf ws n at0 (gath ws n at0 ws.length) :=
  ⟨(gath_ok ws n at0 ws.length).1, (gath_ok ws n at0 ws.length).2⟩
theorem EdgesOf.perm {ws : List (List UInt8)} {n : Nat} {at0 : List Nat} {es es' : List (Nat × UInt8)} (h : EdgesOf ws n at0 es) (hp : es'.Perm es) : EdgesOf ws n at0 es' :=
  ⟨hp.nodup_iff.2 h.nod, fun e => (hp.mem_iff).trans (h.mem e)⟩
end Go.Proofs.YthfjmlcjkbgboaaGreatDoor
