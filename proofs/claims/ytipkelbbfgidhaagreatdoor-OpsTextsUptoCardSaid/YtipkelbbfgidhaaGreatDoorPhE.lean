/- The maker of a tree of phrases in memory. -/
import Derived.Test.YtipkelbbfgidhaaGreatDoorPhR
import Derived.Test.YtipkelbbfgidhaaGreatDoorPhF
namespace Go.Proofs.YtipkelbbfgidhaaGreatDoor
open Go.RowKit

abbrev SlT := Option Addr × Nat × Nat
def slV (s : SlT) : Value := .slice s.1 s.2.1 s.2.2
abbrev NodeM := NodeP × SlT
def cellsN (x : NodeM) : List Value := [.int .u8 x.1.b.toNat, .int .i64 (x.1.up : Int), .int .i64 (x.1.fail : Int), slV x.2]
def rowN : RowT NodeM where
  e := 91
  t := 49
  size := 4
  bytes := 48
  z := .agg #[.int .u8 0, .int .i64 0, .int .i64 0, .slice none 0 0]
  cells := cellsN
  hsz _ := rfl
  hpos := by decide
  under := Tryz.underlying49
  info := by kernel_rfl
  hz := rfl
  one x u hu := by
    simp only [cellsN, List.mem_cons, List.not_mem_nil, or_false] at hu
    rcases hu with rfl | rfl | rfl | rfl <;> rfl
  hbytes := by decide
def rowE : RowT (Nat × UInt8) where
  e := 122
  t := 120
  size := 2
  bytes := 16
  z := .agg #[.int .i64 0, .int .u8 0]
  cells x := [.int .i64 (x.1 : Int), .int .u8 x.2.toNat]
  hsz _ := rfl
  hpos := by decide
  under := Tryz.underlying120
  info := by kernel_rfl
  hz := rfl
  one x u hu := by
    simp only [List.mem_cons, List.not_mem_nil, or_false] at hu
    rcases hu with rfl | rfl <;> rfl
  hbytes := by decide
def rowI : RowT Nat where
  e := 3
  t := 89
  size := 1
  bytes := 8
  z := .int .i64 0
  cells x := [.int .i64 (x : Int)]
  hsz _ := rfl
  hpos := by decide
  under := Tryz.underlying89
  info := by kernel_rfl
  hz := rfl
  one x u hu := by
    rw [List.mem_singleton] at hu
    rw [hu]; rfl
  hbytes := by decide
theorem blk_set {w : World} {g : Nat} {cs : Array Value} {t : TypeId} {fz : Nat × Nat} (h : w.heap[g]? = some (.cells cs t fz)) (j : Nat) (v : Value) : (w.setCell ⟨g, j, none⟩ v).heap[g]? = some (.cells (cs.setIfInBounds j v) t fz) := by
  simp [World.setCell, Array.getElem?_modify, h]
theorem some_lt {w : World} {g : Nat} {o : Obj} (h : w.heap[g]? = some o) : g < w.heap.size := (Array.getElem?_eq_some_iff.1 h).1
/-- A row is in no block of another kind. -/
theorem OwnG.apart {α : Type} {R : RowT α} {w : World} {base g : Nat} {v : Value} {l : List α} (h : OwnG R w base v l) {o : Obj} (hg : w.heap[g]? = some o) (hne : ∀ cs fz, o ≠ .cells cs R.e fz) : v.ownBlock ≠ some g := by
  intro he
  obtain ⟨c, f, hc⟩ := Lib.ownsRow_kind h g he
  rw [hg] at hc
  injection hc with hc
  exact hne _ _ hc
def mkObj (g cap n bm ga na ca : Nat) : Obj := .cells #[.slice (some ⟨g, 0, none⟩) n cap, .map (some bm), .slice (some ⟨ga, 0, none⟩) na ca] 94
/-- The maker at a block: its nodes, its map, where the words are. -/
structure Mk (w : World) (B gm bm ga ca g cap : Nat) (ms : List NodeM) (l : List (EdgeK × Nat)) (ats : List Nat) : Prop where
  blk : w.heap[gm]? = some (mkObj g cap ms.length bm ga ats.length ca)
  own : OwnG rowN w B (.slice (some ⟨g, 0, none⟩) ms.length cap) ms
  aown : OwnG rowI w B (.slice (some ⟨ga, 0, none⟩) ats.length ca) ats
  map : MpAt w bm l
  low : B ≤ gm ∧ B ≤ bm
section
variable {w : World} {B gm bm ga ca g cap : Nat} {ms : List NodeM} {l : List (EdgeK × Nat)} {ats : List Nat}
theorem Mk.lt (h : Mk w B gm bm ga ca g cap ms l ats) : gm < w.heap.size ∧ g < w.heap.size ∧ ga < w.heap.size ∧ bm < w.heap.size := by
  obtain ⟨es, ck, hb, _⟩ := h.map
  exact ⟨some_lt h.blk, (h.own.lt g rfl).2, (h.aown.lt ga rfl).2, some_lt hb⟩
theorem Mk.base (h : Mk w B gm bm ga ca g cap ms l ats) : B ≤ gm ∧ B ≤ g ∧ B ≤ ga ∧ B ≤ bm := ⟨h.low.1, (h.own.lt g rfl).1, (h.aown.lt ga rfl).1, h.low.2⟩
theorem Mk.ne (h : Mk w B gm bm ga ca g cap ms l ats) : gm ≠ g ∧ gm ≠ ga ∧ gm ≠ bm ∧ g ≠ ga ∧ g ≠ bm ∧ ga ≠ bm := by
  obtain ⟨es, ck, hb, _⟩ := h.map
  have h1 := h.own.apart h.blk fun cs fz e => by unfold mkObj at e; injection e with _ e; exact absurd e (by decide)
  have h2 := h.aown.apart h.blk fun cs fz e => by unfold mkObj at e; injection e with _ e; exact absurd e (by decide)
  have h3 := h.own.apart hb fun cs fz e => by cases e
  have h4 := h.aown.apart hb fun cs fz e => by cases e
  obtain ⟨c, f, hc⟩ := Lib.ownsRow_kind h.own g rfl
  have h5 := h.aown.apart hc fun cs fz e => by injection e with _ e; exact absurd e (by decide)
  refine ⟨fun e => h1 (by rw [e]; rfl), fun e => h2 (by rw [e]; rfl), fun e => ?_, fun e => h5 (by rw [e]; rfl), fun e => h3 (by rw [e]; rfl), fun e => h4 (by rw [e]; rfl)⟩
  have := h.blk
  rw [e, hb] at this
  injection this with this
  unfold mkObj at this
  cases this
theorem Mk.cells (h : Mk w B gm bm ga ca g cap ms l ats) : w.cell? ⟨gm, 0, none⟩ = some (.slice (some ⟨g, 0, none⟩) ms.length cap) ∧ w.cell? ⟨gm, 1, none⟩ = some (.map (some bm)) ∧ w.cell? ⟨gm, 2, none⟩ = some (.slice (some ⟨ga, 0, none⟩) ats.length ca) ∧ w.frozen? ⟨gm, 0, none⟩ = false := by
  have hb := h.blk
  unfold mkObj at hb
  exact ⟨cell_of_row w gm 0 _ _ _ hb, cell_of_row w gm 1 _ _ _ hb, cell_of_row w gm 2 _ _ _ hb, by simp [World.frozen?, hb]⟩
theorem Mk.at (h : Mk w B gm bm ga ca g cap ms l ats) (k : Nat) (hk : k < ats.length) : w.cell? ⟨ga, k, none⟩ = some (.int .i64 (ats[k] : Int)) ∧ w.frozen? ⟨ga, k, none⟩ = false := by
  have := h.aown.at k hk 0 (by decide)
  rw [show k * rowI.size + 0 = k by simp [rowI]] at this
  exact this
theorem Mk.fail (h : Mk w B gm bm ga ca g cap ms l ats) (j : Nat) (n : NodeP) (e : (ms.map Prod.fst)[j]? = some n) : w.cell? ⟨g, j * 4 + 2, none⟩ = some (.int .i64 (n.fail : Int)) := by
  have hj : j < ms.length := by have := (List.getElem?_eq_some_iff.1 e).1; simpa using this
  have := (h.own.at j hj 2 (by decide)).1
  refine this.trans ?_
  rw [List.getElem?_map, List.getElem?_eq_getElem hj] at e
  have e := Option.some.inj e
  rw [← e]; rfl
theorem Mk.toF (h : Mk w B gm bm ga ca g cap ms l ats) : MkF w gm g bm cap (ms.map Prod.fst) l where
  nodes := by rw [List.length_map]; exact h.cells.1
  next := h.cells.2.1
  fail := h.fail
  map := h.map
  lt := ⟨h.lt.1, h.lt.2.1⟩
theorem MpAt.keep {w w' : World} {b : Nat} {l : List (EdgeK × Nat)} (h : MpAt w b l) (hk : w'.heap[b]? = w.heap[b]?) : MpAt w' b l := by
  obtain ⟨es, ck, hb, he⟩ := h
  exact ⟨es, ck, hk.trans hb, he⟩
theorem Mk.below (h : Mk w B gm bm ga ca g cap ms l ats) {w' : World} (hb : Below w.heap.size w w') : Mk w' B gm bm ga ca g cap ms l ats where
  blk := (hb.block gm h.lt.1).trans h.blk
  own := h.own.below hb
  aown := h.aown.below hb
  map := h.map.keep (hb.block bm h.lt.2.2.2)
  low := h.low
/-- The map changed. -/
theorem Mk.put (h : Mk w B gm bm ga ca g cap ms l ats) {o : Obj} {l' : List (EdgeK × Nat)} (hm : MpAt (ChangeMaps.setBlock w bm o) bm l') : Mk (ChangeMaps.setBlock w bm o) B gm bm ga ca g cap ms l' ats := by
  obtain ⟨n1, n2, n3, n4, n5, n6⟩ := h.ne
  have hk : ∀ j, bm ≠ j → (ChangeMaps.setBlock w bm o).heap[j]? = w.heap[j]? := fun j hj => by
    simp [ChangeMaps.setBlock, Array.getElem?_setIfInBounds_ne hj]
  exact { blk := (hk gm (Ne.symm n3)).trans h.blk, own := h.own.keep fun k e => hk k fun e2 => n5 (by injection e with e; rw [e2]; exact e), aown := h.aown.keep fun k e => hk k fun e2 => n6 (by injection e with e; rw [e2]; exact e), map := hm, low := h.low }
/-- The nodes changed, and are set anew. -/
theorem Mk.push (h : Mk w B gm bm ga ca g cap ms l ats) {w' : World} {v' : Value} {ms' : List NodeM} (ho : OwnG rowN w' B v' ms') (h0 : 0 < ms'.length) (hk : ∀ j, j < w.heap.size → g ≠ j → w'.heap[j]? = w.heap[j]?) :
    ∃ g' cap', v' = .slice (some ⟨g', 0, none⟩) ms'.length cap' ∧ Mk (w'.setCell ⟨gm, 0, none⟩ v') B gm bm ga ca g' cap' ms' l ats := by
  obtain ⟨n1, n2, n3, n4, n5, n6⟩ := h.ne
  obtain ⟨l1, l2, l3, l4⟩ := h.lt
  obtain ⟨g', cap', rfl, _, _⟩ := ho.head h0
  have hb' : w'.heap[gm]? = some (mkObj g cap ms.length bm ga ats.length ca) := (hk gm l1 (Ne.symm n1)).trans h.blk
  have hne : g' ≠ gm := fun e => ho.apart hb' (fun cs fz e => by unfold mkObj at e; injection e with _ e; exact absurd e (by decide)) (by rw [e]; rfl)
  have hs : ∀ j, gm ≠ j → (w'.setCell ⟨gm, 0, none⟩ (.slice (some ⟨g', 0, none⟩) ms'.length cap')).heap[j]? = w'.heap[j]? := fun j hj => Below.heap_setCell w' ⟨gm, 0, none⟩ _ j (Ne.symm hj)
  refine ⟨g', cap', rfl, ⟨?_, ho.keep fun k e => hs k fun e2 => hne (by injection e with e; rw [e2]; exact e), h.aown.keep fun k e => ?_, h.map.keep ?_, h.low⟩⟩
  · unfold mkObj at hb'
    have := blk_set hb' 0 (.slice (some ⟨g', 0, none⟩) ms'.length cap')
    exact this
  · injection e with e
    subst e
    exact (hs _ n2).trans (hk _ l3 n4)
  · exact (hs _ n3).trans (hk _ l4 n5)
/-- Where a word is, set. -/
theorem Mk.setAt (h : Mk w B gm bm ga ca g cap ms l ats) (k : Nat) (hk : k < ats.length) (x : Nat) : Mk (w.setCell ⟨ga, k, none⟩ (.int .i64 (x : Int))) B gm bm ga ca g cap ms l (ats.set k x) := by
  obtain ⟨n1, n2, n3, n4, n5, n6⟩ := h.ne
  have hs : ∀ j, ga ≠ j → (w.setCell ⟨ga, k, none⟩ (.int .i64 (x : Int))).heap[j]? = w.heap[j]? := fun j hj => Below.heap_setCell w ⟨ga, k, none⟩ _ j (Ne.symm hj)
  refine ⟨by rw [List.length_set]; exact (hs gm (Ne.symm n2)).trans h.blk, h.own.keep fun j e => hs j fun e2 => n4 (by injection e with e; rw [e2]; exact e), ?_, h.map.keep (hs bm n6), h.low⟩
  have := (h.aown.stored k hk 0 (by decide) (.int .i64 (x : Int)) x rfl).1
  rw [show k * rowI.size + 0 = k by simp [rowI]] at this
  rw [List.length_set]
  exact this
end
theorem below_setBlock (w : World) (B b : Nat) (o : Obj) (hB : B ≤ b) : Below B w (ChangeMaps.setBlock w b o) where
  os := rfl
  tape := rfl
  output := rfl
  size := by simp [ChangeMaps.setBlock]
  block j hj := by simp [ChangeMaps.setBlock, Array.getElem?_setIfInBounds_ne (show b ≠ j by omega)]
theorem edge_has {base : Nat} {v : Value} {l : List (Nat × UInt8)} {W : World} (h : OwnG rowE W base v l) (hl : l.length ≤ 4096) (e : Nat × UInt8) :
    Calls Tryz.prog 72 #[v, .agg #[.int .i64 (e.1 : Int), .int .u8 e.2.toNat]] W fun r w' => r = .returned (.bool (decide (e ∈ l))) ∧ Below W.heap.size W w' := by
  rcases h.cases with ⟨rfl, rfl⟩ | ⟨g, c, rfl, _, _⟩
  · have := edge_in_nil ((e.1 : Int), e.2) W
    unfold keyV at this
    simpa using this
  · have := edge_in g 0 l.length c (l.map fun x => ((x.1 : Int), x.2)) ((e.1 : Int), e.2) W (by simp) (by omega) fun j hj i v hi => by
      have hj' : j < l.length := by simpa using hj
      have hi2 : i < 2 := (List.getElem?_eq_some_iff.1 hi).1
      have := (h.at j hj' i hi2).1
      rw [Nat.zero_add]
      refine this.trans (Eq.trans ?_ hi)
      rw [getElem!_pos _ j hj, List.getElem_map]
      rfl
    unfold keyV at this
    rw [show (((l.map fun x => ((x.1 : Int), x.2)).take l.length).any fun y => decide ((((e.1 : Int), e.2) : EdgeK) = y)) = decide (e ∈ l) from ?_] at this
    · exact this
    · rw [List.take_of_length_le (by simp), List.any_map]
      by_cases hm : e ∈ l
      · rw [decide_eq_true hm, List.any_eq_true]
        exact ⟨e, hm, by simp⟩
      · rw [decide_eq_false hm, List.any_eq_false]
        intro y hy
        simp only [Function.comp_apply, decide_eq_true_eq]
        intro he
        injection he with e1 e2
        exact hm (by rw [show e = y from Prod.ext (by omega) e2]; exact hy)
end Go.Proofs.YtipkelbbfgidhaaGreatDoor
