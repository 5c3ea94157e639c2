/- Part 7 of the proof: lemmas and walks that the last texts use. -/
import Derived.Test.YthfjmlcjkbgboaaGreatDoorM04
import Derived.Test.YthfjmlcjkbgboaaGreatDoorM06
import Derived.Deep.CutRange
import Derived.BigRegion
import Derived.IntWalk
import Derived.Deep.RegionHeld3
import Derived.Deep.QuietTactic
import Derived.BigQuiet
namespace Go.Proofs.YthfjmlcjkbgboaaGreatDoor
open Go.RowKit
/-- The best so far, in its cells. -/
def BestB (w : World) (g : Nat) (f tq : Nat) (found : Bool) : Prop := w.heap[g]? = some (.cells #[.int .i64 (f : Int), .int .i64 (tq : Int), .bool found] 313 (0, 0))
/-- A round's begin: the place is t. -/
structure RunR (P : List Ins) (s : ByteArray) (pv : Value) (w : World) (t : Nat) (wr : World) (gt gF : Nat) (vl : Value) (F : Nat → Nat) (ls : List Nat) (found : Bool) (f tq : Nat) : Prop where
  thm : ThM wr gt pv s gF P.length vl F ls
  thr : Thr P s.data.toList t F ls
  clt : CompLt P s.data.toList t F found f
  max : ∀ m, F m ≤ t
  best : BestI P s.data.toList (P.length - 1) (fun j => j < t) found f tq
  cells : BestB wr (w.heap.size + 1) f tq found
  res : BestB wr w.heap.size 0 0 false
  prg : OwnP wr 0 pv P
  low : w.heap.size + 1 < gt ∧ w.heap.size + 1 < gF ∧ ∀ g, vl.ownBlock = some g → w.heap.size + 1 < g
  below : Below w.heap.size w wr
theorem BestB.setAll {w : World} {g a b f tq : Nat} {c found : Bool} (h : BestB w g a b c) : BestB (((w.setCell ⟨g, 0, none⟩ (.int .i64 (f : Int))).setCell ⟨g, 1, none⟩ (.int .i64 (tq : Int))).setCell ⟨g, 2, none⟩ (.bool found)) g f tq found :=
  heap_setCell_same _ g 2 _ _ _ (heap_setCell_same _ g 1 _ _ _ (heap_setCell_same w g 0 _ _ _ h))
theorem BestB.three {w : World} {g f tq : Nat} {found : Bool} (h : BestB w g f tq found) : (w.cell? ⟨g, 0, none⟩ = some (.int .i64 (f : Int)) ∧ w.cell? ⟨g, 1, none⟩ = some (.int .i64 (tq : Int)) ∧ w.cell? ⟨g, 2, none⟩ = some (.bool found)) ∧ w.frozen? ⟨g, 0, none⟩ = false ∧ w.frozen? ⟨g, 1, none⟩ = false ∧ w.frozen? ⟨g, 2, none⟩ = false :=
  ⟨⟨cell_of_row w g 0 _ _ _ h, cell_of_row w g 1 _ _ _ h, cell_of_row w g 2 _ _ _ h⟩, frozen_of_row w g 0 _ _ h, frozen_of_row w g 1 _ _ h, frozen_of_row w g 2 _ _ h⟩
/-- All that is come tq lies in the program. -/
theorem Path.lt {P : List Ins} {s : List UInt8} (hok : OkP P) {N j L n i : Nat} (h : Path P s N j L n i) : n < P.length → N < P.length := by
  have at_ : ∀ m x, P[m]? = some x → ∃ h : m < P.length, P[m] = x := fun m x h => List.getElem?_eq_some_iff.1 h
  induction h with
  | here => exact fun h => h
  | eps _ n m i he _ ih =>
    intro hn
    refine ih ?_
    cases he with
    | one x h1 h2 => obtain ⟨h3, h4⟩ := at_ _ _ h1; have := hok n h3; rw [h4] at this; omega
    | two x h1 h2 => obtain ⟨h3, h4⟩ := at_ _ _ h1; have := hok n h3; rw [h4] at this; omega
    | jump x h1 h2 => obtain ⟨h3, h4⟩ := at_ _ _ h1; have := hok n h3; rw [h4] at this; omega
    | begin x h1 h2 => obtain ⟨h3, h4⟩ := at_ _ _ h1; have := hok n h3; rw [h4] at this; omega
    | finish x h1 h2 => obtain ⟨h3, h4⟩ := at_ _ _ h1; have := hok n h3; rw [h4] at this; omega
  | byte _ n i hb _ ih =>
    intro hn
    refine ih ?_
    obtain ⟨x, c, h1, h2, _⟩ := hb
    obtain ⟨h3, h4⟩ := at_ _ _ h1
    have := hok n h3; rw [h4] at this; omega
theorem Thr.lt {P : List Ins} {s : List UInt8} (hok : OkP P) (h0 : 0 < P.length) {t : Nat} {F : Nat → Nat} {ls : List Nat} (h : Thr P s t F ls) {n : Nat} (hn : F n ≠ 0) : n < P.length := by
  obtain ⟨k, _, L, hp⟩ := h.real n hn
  exact hp.lt hok h0
/-- Behind the new thread. -/
structure MidR (P : List Ins) (s : ByteArray) (pv : Value) (w : World) (t : Nat) (wx : World) (gt gF : Nat) (vl : Value) (G : Nat → Nat) (lg : List Nat) (found : Bool) (f tq : Nat) : Prop where
  thm : ThM wx gt pv s gF P.length vl G lg
  thr : Thr P s.data.toList t G lg
  cmp : Comp P s.data.toList t G found f
  max : ∀ m, G m ≤ t + 1
  best : BestI P s.data.toList (P.length - 1) (fun j => j < t) found f tq
  cells : BestB wx (w.heap.size + 1) f tq found
  res : BestB wx w.heap.size 0 0 false
  prg : OwnP wx 0 pv P
  low : w.heap.size + 1 < gt ∧ w.heap.size + 1 < gF ∧ ∀ g, vl.ownBlock = some g → w.heap.size + 1 < g
  below : Below w.heap.size w wx
section
variable {P : List Ins} {s : ByteArray} {pv : Value} {w : World} {t : Nat}
theorem RunR.kept {wr : World} {gt gF : Nat} {vl : Value} {F : Nat → Nat} {ls : List Nat} {f tq : Nat} (h : RunR P s pv w t wr gt gF vl F ls true f tq) : MidR P s pv w t wr gt gF vl F ls true f tq :=
  ⟨h.thm, h.thr, mid_found h.clt h.best, fun m => Nat.le_succ_of_le (h.max m), h.best, h.cells, h.res, h.prg, h.low, h.below⟩
theorem RunR.added {wr w2 : World} {gt gF : Nat} {vl vl' : Value} {F G : Nat → Nat} {ls lg : List Nat} {f tq : Nat} (h : RunR P s pv w t wr gt gF vl F ls false f tq) (hT : ThM w2 gt pv s gF P.length vl' G lg)
    (hA : AddPost P s.data.toList t 0 t F ls G lg) (hP : OwnP w2 0 pv P) (hK : Kept wr w2 gt gF vl vl') : MidR P s pv w t w2 gt gF vl' G lg false f tq := by
  obtain ⟨h1, h2, h3⟩ := mid_added h.clt h.thr h.max hA
  obtain ⟨l1, l2, l3⟩ := h.low
  have hz : w.heap.size + 1 < wr.heap.size := heap_lt h.cells
  have keep : ∀ k, k < w.heap.size + 1 + 1 → w2.heap[k]? = wr.heap[k]? := fun k hk => hK.blocks k (by omega) (by omega) (by omega) fun e => by have := l3 k e; omega
  refine ⟨hT, h2, h1, h3, h.best, (keep _ (by omega)).trans h.cells, (keep _ (by omega)).trans h.res, hP, ⟨l1, l2, fun g hg => ?_⟩, ?_⟩
  · rcases hK.own g hg with e | e
    · exact l3 g e
    · omega
  · exact h.below.trans ⟨hK.below.os, hK.below.tape, hK.below.output, hK.below.size, fun k hk => keep k (by omega)⟩
/-- In the midst of a round: q threads were looked at. -/
structure InRT (P : List Ins) (s : ByteArray) (pv : Value) (w : World) (t : Nat) (wx : World) (G : Nat → Nat) (lg : List Nat) (found : Bool) (f : Nat) (q : Nat) (wr : World) (gt gF : Nat) (vl : Value) (H : Nat → Nat) (lh : List Nat) (found1 : Bool) (f1 to1 : Nat) : Prop where
  thm : ThM wr gt pv s gF P.length vl H lh
  thr : Thr P s.data.toList (t + 1) H lh
  far : wx.heap.size ≤ gt ∧ wx.heap.size ≤ gF ∧ ∀ g, vl.ownBlock = some g → wx.heap.size ≤ g
  keep : ∀ k, k < wx.heap.size → k ≠ w.heap.size + 1 → wr.heap[k]? = wx.heap[k]?
  below : Below w.heap.size w wr
  size : wx.heap.size ≤ wr.heap.size
  cells : BestB wr (w.heap.size + 1) f1 to1 found1
  max : ∀ m, H m ≤ t + 1
  sort : ∀ r n, lg[r]? = some n → q ≤ r → ∀ m, H m ≤ G n
  done : ∀ r n, lg[r]? = some n → r < q → ByteAt P s.data.toList t n → (found1 = true → G n ≤ f1 + 1) → H (n + 1) ≠ 0 ∧ H (n + 1) ≤ G n
  old : found = true → found1 = true ∧ f1 ≤ f
  best : (BestI P s.data.toList (P.length - 1) (fun j => j < t) found1 f1 to1 ∧ ∀ r n, lg[r]? = some n → r < q → n = P.length - 1 → found1 = true ∧ f1 + 1 < G n) ∨
    (BestI P s.data.toList (P.length - 1) (fun j => j < t + 1) true f1 t ∧ found1 = true ∧ to1 = t ∧ G (P.length - 1) = f1 + 1)
section
variable {wx : World} {gt gF : Nat} {vl : Value} {G : Nat → Nat} {lg : List Nat} {found : Bool} {f tq : Nat}
theorem MidR.start (h : MidR P s pv w t wx gt gF vl G lg found f tq) {wz : World} {gt2 gF2 : Nat} (hT : ThM wz gt2 pv s gF2 P.length (.slice none 0 0) (fun _ => 0) []) (hB : Below wx.heap.size wx wz) (h1 : wx.heap.size ≤ gt2) (h2 : wx.heap.size ≤ gF2) :
    InRT P s pv w t wx G lg found f 0 wz gt2 gF2 (.slice none 0 0) (fun _ => 0) [] found f tq :=
  ⟨hT, Thr.zero _, ⟨h1, h2, fun g hg => by cases hg⟩, fun k hk _ => hB.block k hk, h.below.trans (hB.mono h.below.size), hB.size, (hB.block _ (heap_lt h.cells)).trans h.cells, fun _ => Nat.zero_le _, fun _ _ _ _ _ => Nat.zero_le _, fun r n _ hr => absurd hr (by omega), fun e => ⟨e, Nat.le_refl _⟩, .inl ⟨h.best, fun r n _ hr => absurd hr (by omega)⟩⟩
section
variable {wr : World} {q gt2 gF2 : Nat} {vl2 : Value} {H : Nat → Nat} {lh : List Nat} {found1 : Bool} {f1 to1 : Nat}
theorem InRT.now (h : InRT P s pv w t wx G lg found f q wr gt2 gF2 vl2 H lh found1 f1 to1) (hM : MidR P s pv w t wx gt gF vl G lg found f tq) : ThM wr gt pv s gF P.length vl G lg := by
  obtain ⟨l1, l2, l3⟩ := hM.low
  have hgt : gt < wx.heap.size := by obtain ⟨_, hb⟩ := hM.thm.blk; exact heap_lt hb
  have hgF : gF < wx.heap.size := heap_lt hM.thm.frm
  exact hM.thm.keep (h.keep _ hgt (by omega)) (h.keep _ hgF (by omega)) fun g hg => h.keep _ (hM.thm.lst.lt g hg) (by have := l3 g hg; omega)
theorem InRT.prg (h : InRT P s pv w t wx G lg found f q wr gt2 gF2 vl2 H lh found1 f1 to1) (hM : MidR P s pv w t wx gt gF vl G lg found f tq) (hP : OwnP w 0 pv P) : OwnP wr 0 pv P :=
  hM.prg.keep fun g hg => h.keep g (World.ownsRow.lt hM.prg g hg).2 (by have := (World.ownsRow.lt hP g hg).2; omega)
theorem InRT.stop (h : InRT P s pv w t wx G lg found f lg.length wr gt2 gF2 vl2 H lh found1 f1 to1) (hM : MidR P s pv w t wx gt gF vl G lg found f tq) (hP : OwnP w 0 pv P) : RunR P s pv w (t + 1) wr gt2 gF2 vl2 H lh found1 f1 to1 := by
  have hz : w.heap.size + 1 < wx.heap.size := heap_lt hM.cells
  have mem : ∀ n, G n ≠ 0 → ∃ r, r < lg.length ∧ lg[r]? = some n := fun n hn => by
    obtain ⟨r, hr, e⟩ := List.getElem_of_mem ((hM.thr.mem n).2 hn)
    exact ⟨r, hr, by rw [← e]; exact List.getElem?_eq_getElem hr⟩
  obtain ⟨a1, a2, a3⟩ := h.far
  refine ⟨h.thm, h.thr, next_comp hM.cmp h.old h.thr fun n hn hb hf => ?_, h.max, ?_, h.cells, (h.keep _ (by omega) (by omega)).trans hM.res, h.prg hM hP, ⟨by omega, by omega, fun g hg => by have := a3 g hg; omega⟩, h.below⟩
  · obtain ⟨r, hr, e⟩ := mem n hn
    exact h.done r n e hr hb hf
  · rcases h.best with ⟨h1, h2⟩ | ⟨h1, h2, h3, h4⟩
    · exact best_pass h1 hM.cmp h.old fun hn => by
        obtain ⟨r, hr, e⟩ := mem _ hn
        exact h2 r _ e hr rfl
    · rw [h2, h3]; exact h1
/-- A thread that brings nothing. -/
theorem InRT.pass (h : InRT P s pv w t wx G lg found f q wr gt2 gF2 vl2 H lh found1 f1 to1) (hz : w.heap.size + 1 < wx.heap.size) {n : Nat} (hq : lg[q]? = some n) {wr' : World} (hB : Below wr.heap.size wr wr')
    (hb : ByteAt P s.data.toList t n → found1 = true ∧ f1 + 1 < G n) (hN : n = P.length - 1 → found1 = true ∧ f1 + 1 < G n) : InRT P s pv w t wx G lg found f (q + 1) wr' gt2 gF2 vl2 H lh found1 f1 to1 := by
  have hs := h.size
  have hgt : gt2 < wr.heap.size := by obtain ⟨_, hb⟩ := h.thm.blk; exact heap_lt hb
  have hgF : gF2 < wr.heap.size := heap_lt h.thm.frm
  refine ⟨h.thm.keep (hB.block _ hgt) (hB.block _ hgF) fun g hg => hB.block _ (h.thm.lst.lt g hg), h.thr, h.far, fun k hk e => (hB.block k (by omega)).trans (h.keep k hk e), h.below.trans (hB.mono h.below.size), Nat.le_trans h.size hB.size, (hB.block _ (by omega)).trans h.cells, h.max, fun r n' e hr => h.sort r n' e (by omega), fun r n' e hr hb' hf => ?_, h.old, ?_⟩
  · by_cases c : r < q
    · exact h.done r n' e c hb' hf
    · obtain rfl : r = q := by omega
      rw [hq] at e; injection e with e; subst e
      obtain ⟨e1, e2⟩ := hb hb'
      have := hf e1
      omega
  · rcases h.best with ⟨h1, h2⟩ | h1
    · refine .inl ⟨h1, fun r n' e hr en => ?_⟩
      by_cases c : r < q
      · exact h2 r n' e c en
      · obtain rfl : r = q := by omega
        rw [hq] at e; injection e with e; subst e
        exact hN en
    · exact .inr h1
/-- The match. -/
theorem InRT.take (h : InRT P s pv w t wx G lg found f q wr gt2 gF2 vl2 H lh found1 f1 to1) (hM : MidR P s pv w t wx gt gF vl G lg found f tq) {n k : Nat} (hq : lg[q]? = some n) {wr' : World} (hk : ∀ j, j < wr.heap.size → j ≠ w.heap.size + 1 → wr'.heap[j]? = wr.heap[j]?) (hB : Below w.heap.size wr wr')
    (hbe : BestB wr' (w.heap.size + 1) k t true) (hn : n = P.length - 1) (hG : G n = k + 1) (hc : found1 = true → k ≤ f1) (hb : ¬ ByteAt P s.data.toList t n) : InRT P s pv w t wx G lg found f (q + 1) wr' gt2 gF2 vl2 H lh true k t := by
  have hs := h.size
  have hz : w.heap.size + 1 < wx.heap.size := heap_lt hM.cells
  obtain ⟨a1, a2, a3⟩ := h.far
  have hgt : gt2 < wr.heap.size := by obtain ⟨_, hb⟩ := h.thm.blk; exact heap_lt hb
  have hgF : gF2 < wr.heap.size := heap_lt h.thm.frm
  refine ⟨h.thm.keep (hk _ hgt (by omega)) (hk _ hgF (by omega)) fun g hg => hk _ (h.thm.lst.lt g hg) (by have := a3 g hg; omega), h.thr, h.far, fun j hj e => (hk j (by omega) e).trans (h.keep j hj e), h.below.trans hB, Nat.le_trans h.size hB.size, hbe, h.max, fun r n' e hr => h.sort r n' e (by omega), fun r n' e hr hb' hf => ?_, fun e => ⟨rfl, ?_⟩, .inr ⟨?_, rfl, rfl, by rw [← hn]; exact hG⟩⟩
  · by_cases c : r < q
    · refine h.done r n' e c hb' fun e1 => ?_
      have := hf rfl
      have := hc e1
      omega
    · obtain rfl : r = q := by omega
      rw [hq] at e; injection e with e; subst e
      exact absurd hb' hb
  · have := h.old e
    have := hc this.1
    omega
  · rcases h.best with ⟨h1, h2⟩ | ⟨h1, h2, h3, h4⟩
    · obtain ⟨k', e1, e2⟩ := hM.thr.real n (by omega)
      obtain rfl : k' = k := by omega
      subst hn
      exact best_take h1 e2 hG hM.cmp h.old hc
    · rw [hn] at hG
      have e : k = f1 := by omega
      rw [e]; exact h1
/-- A byte goes on. -/
theorem InRT.push (h : InRT P s pv w t wx G lg found f q wr gt2 gF2 vl2 H lh found1 f1 to1) (hM : MidR P s pv w t wx gt gF vl G lg found f tq) {n k : Nat} (hq : lg[q]? = some n) (hb : ByteAt P s.data.toList t n) (hN : n ≠ P.length - 1) (hG : G n = k + 1)
    {w4 w5 : World} (hB : Below wr.heap.size wr w4) {vl3 : Value} {H' : Nat → Nat} {lh' : List Nat} (hT : ThM w5 gt2 pv s gF2 P.length vl3 H' lh') (hA : AddPost P s.data.toList (t + 1) (n + 1) k H lh H' lh') (hK : Kept w4 w5 gt2 gF2 vl2 vl3) :
    InRT P s pv w t wx G lg found f (q + 1) w5 gt2 gF2 vl3 H' lh' found1 f1 to1 := by
  have hs := h.size
  have hz : w.heap.size + 1 < wx.heap.size := heap_lt hM.cells
  obtain ⟨a1, a2, a3⟩ := h.far
  have hs4 := hB.size
  have keep : ∀ j, j < wx.heap.size → w5.heap[j]? = wr.heap[j]? := fun j hj => (hK.blocks j (by omega) (by omega) (by omega) fun e => by have := a3 j e; omega).trans (hB.block j (by omega))
  have hmax : ∀ m, H m ≤ k + 1 := fun m => by rw [← hG]; exact h.sort q n hq (Nat.le_refl _) m
  obtain ⟨k', e1, e2⟩ := hM.thr.real n (by omega)
  obtain rfl : k' = k := by omega
  have hle := hM.max n
  have hle2 := hA.le hmax
  have hwz := h.below.size
  refine ⟨hT, hA.thr h.thr hmax (e2.byte hb), ⟨a1, a2, fun g hg => ?_⟩, fun j hj e => (keep j hj).trans (h.keep j hj e), ?_, by have := hK.below.size; omega, (keep _ hz).trans h.cells, fun m => by have := hle2 m; omega, fun r n' e hr m => ?_, fun r n' e hr hb' hf => ?_, h.old, ?_⟩
  · rcases hK.own g hg with e | e
    · exact a3 g e
    · omega
  · exact h.below.trans ⟨hK.below.os.trans hB.os, hK.below.tape.trans hB.tape, hK.below.output.trans hB.output, Nat.le_trans hB.size hK.below.size, fun j hj => keep j (by omega)⟩
  · have h1 : G n ≤ G n' := by
      obtain ⟨c1, c2⟩ := List.getElem?_eq_some_iff.1 hq
      obtain ⟨c3, c4⟩ := List.getElem?_eq_some_iff.1 e
      have := List.pairwise_iff_getElem.1 hM.thr.sorted q r c1 c3 (by omega)
      rw [c2, c4] at this
      exact this
    have := hle2 m
    omega
  · by_cases c : r < q
    · have h1 := h.done r n' e c hb' hf
      rw [hA.keep _ h1.1]; exact h1
    · obtain rfl : r = q := by omega
      rw [hq] at e; injection e with e; subst e
      exact ⟨hA.at_, by have := hle2 (n + 1); omega⟩
  · rcases h.best with ⟨h1, h2⟩ | h1
    · refine .inl ⟨h1, fun r n' e hr en => ?_⟩
      by_cases c : r < q
      · exact h2 r n' e c en
      · obtain rfl : r = q := by omega
        rw [hq] at e; injection e with e; subst e
        exact absurd en hN
    · exact .inr h1
end
end
end
end Go.Proofs.YthfjmlcjkbgboaaGreatDoor
namespace Go.Proofs.YthfjmlcjkbgboaaGreatDoor
open Go.RowKit
theorem take_world {wc : World} {g f1 tu1 : Nat} {found1 : Bool} (h : BestB wc g f1 tu1 found1) (k t : Nat) (o : Obj) :
    BestB ((((wc.setCell ⟨g, 0, none⟩ (.int .i64 (k : Int))).setCell ⟨g, 1, none⟩ (.int .i64 (t : Int))).setCell ⟨g, 2, none⟩ (.bool true)).alloc o).drew g k t true ∧
    (∀ j, j < wc.heap.size → j ≠ g → ((((wc.setCell ⟨g, 0, none⟩ (.int .i64 (k : Int))).setCell ⟨g, 1, none⟩ (.int .i64 (t : Int))).setCell ⟨g, 2, none⟩ (.bool true)).alloc o).drew.heap[j]? = wc.heap[j]?) ∧
    ∀ B, B ≤ g → B ≤ wc.heap.size → Below B wc ((((wc.setCell ⟨g, 0, none⟩ (.int .i64 (k : Int))).setCell ⟨g, 1, none⟩ (.int .i64 (t : Int))).setCell ⟨g, 2, none⟩ (.bool true)).alloc o).drew := by
  have hz := heap_lt h
  have h1 : BestB _ g k t true := h.setAll
  have h2 : ∀ j, j ≠ g → (((wc.setCell ⟨g, 0, none⟩ (.int .i64 (k : Int))).setCell ⟨g, 1, none⟩ (.int .i64 (t : Int))).setCell ⟨g, 2, none⟩ (.bool true)).heap[j]? = wc.heap[j]? := fun j hj =>
    (Below.heap_setCell _ ⟨g, 2, none⟩ _ j hj).trans ((Below.heap_setCell _ ⟨g, 1, none⟩ _ j hj).trans (Below.heap_setCell _ ⟨g, 0, none⟩ _ j hj))
  have h3 : ∀ B, B ≤ g → Below B wc (((wc.setCell ⟨g, 0, none⟩ (.int .i64 (k : Int))).setCell ⟨g, 1, none⟩ (.int .i64 (t : Int))).setCell ⟨g, 2, none⟩ (.bool true)) := fun B hB => (((Below.refl _ _).setCell (p := ⟨g, 0, none⟩) hB _).setCell (p := ⟨g, 1, none⟩) hB _).setCell (p := ⟨g, 2, none⟩) hB _
  have hz2 : (((wc.setCell ⟨g, 0, none⟩ (.int .i64 (k : Int))).setCell ⟨g, 1, none⟩ (.int .i64 (t : Int))).setCell ⟨g, 2, none⟩ (.bool true)).heap.size = wc.heap.size := by simp
  generalize (((wc.setCell ⟨g, 0, none⟩ (.int .i64 (k : Int))).setCell ⟨g, 1, none⟩ (.int .i64 (t : Int))).setCell ⟨g, 2, none⟩ (.bool true)) = W at *
  exact ⟨(Below.heap_alloc W o g (by omega)).trans h1, fun j hj hne => (Below.heap_alloc W o j (by omega)).trans (h2 j hne), fun B h4 h5 => ((h3 B h4).alloc (by omega) o).drew⟩
theorem InRT.call {P : List Ins} {s : ByteArray} {pv : Value} {w : World} {t : Nat} {wx : World} {gt gF : Nat} {vl : Value} {G : Nat → Nat} {lg : List Nat} {found : Bool} {f tu : Nat} {wr : World} {q gt2 gF2 : Nat} {vl2 : Value} {H : Nat → Nat} {lh : List Nat} {found1 : Bool} {f1 tu1 : Nat}
    (h : InRT P s pv w t wx G lg found f q wr gt2 gF2 vl2 H lh found1 f1 tu1) (hM : MidR P s pv w t wx gt gF vl G lg found f tu) (hP : OwnP w 0 pv P) (hok : OkP P) (h4 : P.length ≤ 400) {n k : Nat} (hn : n + 1 < P.length) (hk : k ≤ 8192) {w4 : World} (hB : Below wr.heap.size wr w4) :
    Calls Tryz.prog 276 #[.pointer (some ⟨gt2, 0, none⟩), .int .i64 ((n : Int) + 1), .int .i64 ((t : Int) + 1), .int .i64 (k : Int)] w4 (AddW P s (t + 1) (n + 1) k H lh gt2 gF2 pv vl2 w4) := by
  have hgt : gt2 < wr.heap.size := by obtain ⟨_, hb⟩ := h.thm.blk; exact heap_lt hb
  have hgF : gF2 < wr.heap.size := heap_lt h.thm.frm
  have hp := h.prg hM hP
  have hz := hB.size
  exact add_any P hok h4 s (t + 1) (n + 1) k hn hk H lh gt2 gF2 pv vl2 w4 (h.thm.keep (hB.block _ hgt) (hB.block _ hgF) fun g hg => hB.block _ (h.thm.lst.lt g hg)) (hp.keep fun g hg => hB.block g (World.ownsRow.lt hp g hg).2) (by omega) (by omega)
end Go.Proofs.YthfjmlcjkbgboaaGreatDoor
namespace Go.Proofs.YthfjmlcjkbgboaaGreatDoor
open Go.RowKit
section
variable {ops : Array Oper} {rest : List Oper} {o : Oper} {a : Act} {Q : Exit → Act → World → Prop} {w : World}
end
def isT : Option Value → Bool
  | some (.bool b) => b
  | _ => false
def cntF (w : World) (g n : Nat) : Nat := (List.range n).countP fun j => !isT (w.cell? ⟨g, j, none⟩)
theorem BL.count {w : World} {base g cap n : Nat} {o : List Bool} (h : BL w base g cap n o) : cntF w g n = falN o n := by
  unfold cntF falN
  refine List.countP_congr fun j hj => ?_
  rw [h.cell (List.mem_range.1 hj)]
  simp [isT]
end Go.Proofs.YthfjmlcjkbgboaaGreatDoor
namespace Go.Proofs.YthfjmlcjkbgboaaGreatDoor
open Go.RowKit
mutual
theorem chk_rng : ∀ (t : Tree) (deep n : Int), n ≤ 80 → n ≤ (chk t deep n).1 ∧ (chk t deep n).1 ≤ 81 ∧ ((chk t deep n).2 = 0 → (chk t deep n).1 ≤ 80)
  | .node k s ts, deep, n, h => by
    rw [chk]
    by_cases c1 : 80 < n + 1
    · rw [if_pos c1]; exact ⟨by show n ≤ n + 1; omega, by show n + 1 ≤ 81; omega, fun e => absurd (show (2 : Int) = 0 from e) (by decide)⟩
    · rw [if_neg c1]
      by_cases c2 : 20 < deep
      · rw [if_pos c2]; exact ⟨by show n ≤ n + 1; omega, by show n + 1 ≤ 81; omega, fun e => absurd (show (11 : Int) = 0 from e) (by decide)⟩
      · rw [if_neg c2]
        by_cases c3 : badT k s ts.length = true
        · rw [if_pos c3]; exact ⟨by show n ≤ n + 1; omega, by show n + 1 ≤ 81; omega, fun e => absurd (show (1 : Int) = 0 from e) (by decide)⟩
        · rw [if_neg c3]
          have := chkL_rng ts (deep + 1) (n + 1) (by omega)
          exact ⟨by omega, this.2⟩
theorem chkL_rng : ∀ (ts : List Tree) (deep n : Int), n ≤ 80 → n ≤ (chkL ts deep n).1 ∧ (chkL ts deep n).1 ≤ 81 ∧ ((chkL ts deep n).2 = 0 → (chkL ts deep n).1 ≤ 80)
  | [], deep, n, h => by rw [chkL]; exact ⟨Int.le_refl _, by show n ≤ 81; omega, fun _ => h⟩
  | t :: ts, deep, n, h => by
    rw [chkL]
    have h1 := chk_rng t deep n h
    by_cases c : (chk t deep n).2 ≠ 0
    · rw [if_pos c]; exact h1
    · rw [if_neg c]
      have h2 := chkL_rng ts deep _ (h1.2.2 (Classical.not_not.1 c))
      exact ⟨by omega, h2.2⟩
end
theorem chkL_step (ts : List Tree) (i : Nat) (h : i < ts.length) (deep n : Int) : chkL (ts.drop i) deep n = if (chk ts[i] deep n).2 ≠ 0 then chk ts[i] deep n else chkL (ts.drop (i + 1)) deep (chk ts[i] deep n).1 := by
  rw [List.drop_eq_getElem_cons h, chkL]
theorem chk_node (k : Int) (s : Set4) (ts : List Tree) (deep n : Int) : chk (.node k s ts) deep n =
    if 80 < n + 1 then (n + 1, 2) else if 20 < deep then (n + 1, 11) else if badT k s ts.length = true then (n + 1, 1) else chkL ts (deep + 1) (n + 1) := by rw [chk]
/-- A counter that is known whole. -/
def Cnt (w : World) (g : Nat) (n : Int) : Prop := w.heap[g]? = some (.cells #[.int .i64 n] 3 (0, 0))
theorem Cnt.cell {w : World} {g : Nat} {n : Int} (h : Cnt w g n) : w.cell? ⟨g, 0, none⟩ = some (.int .i64 n) := cell_of_row w g 0 _ _ (0, 0) h
theorem Cnt.free {w : World} {g : Nat} {n : Int} (h : Cnt w g n) : w.frozen? ⟨g, 0, none⟩ = false := by unfold Cnt at h; simp [World.frozen?, h]
theorem Cnt.lt {w : World} {g : Nat} {n : Int} (h : Cnt w g n) : g < w.heap.size := by
  rcases Nat.lt_or_ge g w.heap.size with hlt | hge
  · exact hlt
  · unfold Cnt at h; rw [Array.getElem?_eq_none hge] at h; cases h
theorem Cnt.set {w : World} {g : Nat} {n : Int} (h : Cnt w g n) (m : Int) : Cnt (w.setCell ⟨g, 0, none⟩ (.int .i64 m)) g m := by unfold Cnt at h ⊢; simp [World.setCell, Array.getElem?_modify, h]
theorem Cnt.alloc {w : World} {g : Nat} {n : Int} (h : Cnt w g n) (o : Obj) : Cnt (w.alloc o) g n := (Below.heap_alloc w o g h.lt).trans h
theorem Cnt.drewN {w : World} {g : Nat} {n : Int} (h : Cnt w g n) (q : Nat) : Cnt (w.drewN q) g n := h
theorem only_alloc {a w : World} {row : Option Nat} (h : a.grownBy w row) (o : Obj) : a.grownBy (w.alloc o) row :=
  only_below h ((Below.refl _ _).alloc (Nat.le_refl _) o)
theorem LT.only {w w' : World} {g : Nat} {t : Tree} {cs : List Value} (h : LT w g t cs) (hb : w.grownBy w' (some g)) (hg : g < w.heap.size) : LT w' g t cs :=
  LT.keep (Nat.le_refl _) (fun b o hp => World.cell?_of_block (hb.block b (by omega) (fun e => by injection e with e; omega))) t cs h
theorem LK.only {w w' : World} {g : Nat} {ts : List Tree} {A : Option Addr} (h : LK w g ts A) (hb : w.grownBy w' (some g)) (hg : g < w.heap.size) : LK w' g ts A :=
  LK.keep (Nat.le_refl _) (fun b o hp => World.cell?_of_block (hb.block b (by omega) (fun e => by injection e with e; omega))) ts A h
def CheckPost (g : Nat) (r : Int × Int) (w : World) (e : Ending) (w' : World) : Prop := e = .returned (.int .i64 r.2) ∧ Cnt w' g r.1 ∧ w.grownBy w' (some g)
def CheckC (t : Tree) : Prop := ∀ (cs : List Value) (w : World) (g : Nat) (deep n : Int), LT w g t cs → Cnt w g n → 0 ≤ n → n ≤ 80 → 1 ≤ deep → deep ≤ 21 →
  Calls Tryz.prog 228 #[.agg cs.toArray, .int .i64 deep, .pointer (some ⟨g, 0, none⟩)] w (CheckPost g (chk t deep n) w)
def CkRel (g : Nat) (w W0 : World) (ts : List Tree) (deep n : Int) (i : Value) (wr : World) : Prop :=
  ∃ (k : Nat) (m : Int), k ≤ ts.length ∧ i = .int .i64 k ∧ 0 ≤ m ∧ m ≤ 80 ∧ Hid (chkL (ts.drop k) deep m = chkL ts deep n) ∧ Cnt wr g m ∧ W0.grownBy wr (some g) ∧ w.grownBy wr (some g)
set_option maxRecDepth 100000 in
set_option maxHeartbeats 1600000 in
theorem check_node (k : Int) (s : Set4) (ts : List Tree) (ih : ∀ i (h : i < ts.length), CheckC ts[i]) : CheckC (.node k s ts) := by
  intro cs w g deep n hlt hg h0 h1 d0 d1
  rw [LT] at hlt
  obtain ⟨A, c, rfl, hs, hk⟩ := hlt
  have IH := Lib.hid ih
  have HR := Lib.hid (chk_node k s ts deep n)
  have hc0 := hg.cell
  have hf0 := hg.free
  have hgl := hg.lt
  have hse : ∀ W, _ := fun W => run_set_eql s Set4.zero W
  unfold setV Set4.zero at hse
  dsimp only at hse
  obtain ⟨sa, sb, sc, sd⟩ := s
  unfold cellsX
  dsimp only at hse ⊢
  have HC := Lib.hid hg
  have hn1 : n + 1 ≤ 9223372036854775807 := by omega
  clear ih hg
  have hend : ∀ m : Int, Cnt ((w.setCell ⟨g, 0, none⟩ (.int .i64 m)).alloc (.cells #[.int .i64 k, .int .u64 sa, .int .u64 sb, .int .u64 sc, .int .u64 sd, .slice A ts.length c] 217)) g m ∧ w.grownBy ((w.setCell ⟨g, 0, none⟩ (.int .i64 m)).alloc (.cells #[.int .i64 k, .int .u64 sa, .int .u64 sb, .int .u64 sc, .int .u64 sd, .slice A ts.length c] 217)) (some g) := fun m =>
    ⟨(HC.out.set m).alloc _, only_alloc (only_setCell (World.grownBy.refl _ _) 0 _) _⟩
  have HEND := Lib.hid hend
  clear hend
  by_cases c1 : 80 < n + 1
  · have HR1 := Lib.hid (HR.out.trans (if_pos c1))
    clear hse
    go_enter Tryz.func228, Tryz.ntmps228
    go_wp2_with fail
    go_ret
    exact ⟨by rw [HR1.out]; rfl, by rw [HR1.out]; exact HEND.out _⟩
  · by_cases c2 : 20 < deep
    · have HR1 := Lib.hid ((HR.out.trans (if_neg c1)).trans (if_pos c2))
      clear hse
      go_enter Tryz.func228, Tryz.ntmps228
      go_wp2_with fail
      go_ret
      exact ⟨by rw [HR1.out]; rfl, by rw [HR1.out]; exact HEND.out _⟩
    · have HR0 := Lib.hid ((HR.out.trans (if_neg c1)).trans (if_neg c2))
      go_enter Tryz.func228, Tryz.ntmps228
      go_wp2_with fail
      have hn80 : n + 1 ≤ 80 := by omega
      have hd20 : deep ≤ 20 := by omega
      clear hc0 hf0 hn1 c1 c2
      cases q1 : (kidsI k != (ts.length : Int)) with
      | true =>
        have HR1 : Hid (chk (.node k ⟨sa, sb, sc, sd⟩ ts) deep n = (n + 1, 1)) := HR0.out.trans (if_pos (by unfold badT; rw [q1]; rfl))
        clear hse
        go_quiet ((go_at_call 255; exact Calls.quiet_of_same (kids_any _ _)))
        go_wp2_with fail
        go_ret
        have he := HEND.out (n + 1)
        exact ⟨by rw [HR1.out]; rfl, by rw [HR1.out]; exact ⟨he.1.drewN nq, only_drewN he.2 nq⟩⟩
      | false =>
        cases q2 : (k == 3) == sameB ⟨sa, sb, sc, sd⟩ ⟨0, 0, 0, 0⟩ with
        | true =>
          have HR1 : Hid (chk (.node k ⟨sa, sb, sc, sd⟩ ts) deep n = (n + 1, 1)) := HR0.out.trans (if_pos (by have : ((k == 3) == decide ((⟨sa, sb, sc, sd⟩ : Set4) = Set4.zero)) = true := q2; unfold badT; rw [q1, this]; rfl))
          go_quiet ((go_at_call 255; exact Calls.quiet_of_same (kids_any _ _)))
          go_wp2_with fail
          go_ret
          have he := HEND.out (n + 1)
          exact ⟨by rw [HR1.out]; rfl, by rw [HR1.out]; exact ⟨he.1.drewN nq, only_drewN he.2 nq⟩⟩
        | false =>
          have HR1 : Hid (chk (.node k ⟨sa, sb, sc, sd⟩ ts) deep n = chkL ts (deep + 1) (n + 1)) := HR0.out.trans (if_neg (by have : ((k == 3) == decide ((⟨sa, sb, sc, sd⟩ : Set4) = Set4.zero)) = false := q2; unfold badT; rw [q1, this]; decide))
          have hlen : Hid (kidsI k = ts.length) := by simpa [Hid] using q1
          go_quiet ((go_at_call 255; exact Calls.quiet_of_same (kids_any _ _)))
          go_wp2_with fail
          have hts : ts.length ≤ 2 := by
            have := hlen.out
            have : kidsI k ≤ 2 := by unfold kidsI; split <;> (try split) <;> (try split) <;> omega
            omega
          have he := HEND.out (n + 1)
          have hW : ∃ W : World, W = ((w.setCell ⟨g, 0, none⟩ (.int .i64 (n + 1))).alloc (.cells #[.int .i64 k, .int .u64 sa, .int .u64 sb, .int .u64 sc, .int .u64 sd, .slice A ts.length c] 217)).drewN nq := ⟨_, rfl⟩
          obtain ⟨W, hW⟩ := hW
          have e1 : Cnt W g (n + 1) := by rw [hW]; exact he.1.drewN nq
          have e2 : w.grownBy W (some g) := by rw [hW]; exact only_drewN he.2 nq
          rw [← hW]
          clear he hW hse q1 q2 HEND HC
          go_loopw [44] (fun i wr => CkRel g w W ts (deep + 1) (n + 1) i wr) (fun i _ => ts.length - (intOf i).toNat)
          case atStart => exact ⟨0, n + 1, Nat.zero_le _, rfl, by omega, hn80, rfl, e1, World.grownBy.refl _ _, e2⟩
          case round =>
            obtain ⟨j, m, hj, rfl, hm0, hm1, HM, hcn, hbW, hbw⟩ := hrel
            by_cases hlt : j < ts.length
            · have hk2 := hk.only hbw hgl
              obtain ⟨b, off, cs2, rfl, hbB, hca, hl2⟩ := hk2.at j hlt
              have IHj := IH.out j hlt
              have HST := Lib.hid (chkL_step ts j hlt (deep + 1) m)
              have hrng := chk_rng ts[j] (deep + 1) m hm1
              generalize ts[j] = t2 at *
              obtain ⟨A2, c2, hcs2, hl3⟩ := hl2.parts
              have ⟨y0, y1, y2, y3, y4, y5⟩ := (hcs2 ▸ hca : CellsAt wr b (off + j * 6) (cellsX t2.kind t2.set A2 t2.kids.length c2)).six
              have hzr : w.heap.size ≤ wr.heap.size := hbw.size
              have hq1 : b < wr.heap.size := by omega
              have hq2 : g < wr.heap.size := by omega
              have HQ : Hid (∀ W, Calls Tryz.prog 228 #[.agg #[.int .i64 t2.kind, .int .u64 t2.set.a, .int .u64 t2.set.b, .int .u64 t2.set.c, .int .u64 t2.set.d, .slice A2 t2.kids.length c2], .int .i64 (deep + 1), .pointer (some ⟨g, 0, none⟩)] (wr.alloc W) (CheckPost g (chk t2 (deep + 1) m) (wr.alloc W))) := fun W =>
                IHj _ (wr.alloc W) g (deep + 1) m ((hcs2 ▸ hl2 : LT wr g t2 (cellsX t2.kind t2.set A2 t2.kids.length c2)).keep (Nat.le_refl _) (fun bb o hp => ((Below.refl wr.heap.size wr).alloc (Nat.le_refl _) W).cell (p := ⟨bb, o, none⟩) (by show bb < wr.heap.size; omega))) (hcn.alloc W) hm0 hm1 (by omega) (by omega)
              have hd1 : deep + 1 ≤ 9223372036854775807 := by omega
              clear IHj hl2 hca hcs2 hl3
              cases hr : chk t2 (deep + 1) m with
              | mk rn re =>
                rw [hr] at hrng HQ HST
                have hst := HST.out
                dsimp only at hrng hst
                clear HST
                by_cases hre : re = 0
                · subst hre
                  rw [if_neg (by simp)] at hst
                  have HST := Lib.hid hst
                  have hr80 := hrng.2.2 rfl
                  have hr81 := hrng.1
                  clear hr hst hrng
                  go_wp2_with fail
                  refine (HQ.out _).mono ?_
                  rintro e w2 ⟨rfl, hcn2, hb2⟩
                  clear y0 y1 y2 y3 y4 y5
                  go_wp2_with fail
                  go_roundw
                  case rel => exact ⟨j + 1, rn, by omega, by go_num, by omega, hr80, HST.out.symm.trans HM.out, hcn2, only_trans (only_alloc hbW _) hb2, only_trans (only_alloc hbw _) hb2⟩
                  case measure => simp [intOf] <;> omega
                · rw [if_pos hre] at hst
                  have HST := Lib.hid hst
                  have qe : (re != 0) = true := bne_iff_ne.2 hre
                  clear hr hre hst
                  go_wp2_with fail
                  refine (HQ.out _).mono ?_
                  rintro e w2 ⟨rfl, hcn2, hb2⟩
                  clear y0 y1 y2 y3 y4 y5
                  go_wp2_with fail
                  go_ret
                  have HF := HR1.out.trans (HM.out.symm.trans HST.out)
                  exact ⟨by rw [HF]; rfl, by rw [HF]; exact ⟨hcn2, only_trans (only_alloc hbw _) hb2⟩⟩
            · obtain rfl : j = ts.length := by omega
              have HM2 : Hid (chkL ts (deep + 1) (n + 1) = (m, 0)) := by
                unfold Hid
                rw [← HM.out, List.drop_length, chkL]
              go_wp2_with fail
              go_ret
              exact ⟨by rw [HR1.out, HM2.out]; rfl, by rw [HR1.out, HM2.out]; exact ⟨hcn, hbw⟩⟩
theorem check_any (t : Tree) : CheckC t :=
  match t with
  | .node k s ts => check_node k s ts fun i h => check_any ts[i]
termination_by SizeOf.sizeOf t
decreasing_by
  have := List.sizeOf_lt_of_mem (List.getElem_mem h)
  simp only [Tree.node.sizeOf_spec]
  omega
def checkT (t : Tree) : Int := (chk t 1 0).2
set_option maxRecDepth 100000 in
theorem Check_any2 (t : Tree) (cs : List Value) (w : World) (h : LT w w.heap.size t cs) :
    Calls Tryz.prog 184 #[.agg cs.toArray] w fun e w' => e = .returned (.int .i64 (checkT t)) ∧ Below w.heap.size w w' := by
  obtain ⟨A2, c2, rfl, _⟩ := h.parts
  have HC : Hid (∀ (o : Obj), Calls Tryz.prog 228 #[.agg #[.int .i64 t.kind, .int .u64 t.set.a, .int .u64 t.set.b, .int .u64 t.set.c, .int .u64 t.set.d, .slice A2 t.kids.length c2], .int .i64 1, .pointer (some ⟨w.heap.size + 1, 0, none⟩)] ((w.alloc o).alloc (.cells #[.int .i64 0] 3)) (CheckPost (w.heap.size + 1) (chk t 1 0) ((w.alloc o).alloc (.cells #[.int .i64 0] 3)))) := fun o =>
    check_any t _ _ (w.heap.size + 1) 1 0 (h.keep (Nat.le_succ _) (fun b o' hp => (((Below.refl w.heap.size w).alloc (Nat.le_refl _) o).alloc (by simp) _).cell (p := ⟨b, o', none⟩) hp)) (by have := heap_alloc_new (w.alloc o) (.cells #[.int .i64 0] 3); simpa [Cnt] using this) (by decide) (by decide) (by decide) (by decide)
  clear h
  unfold cellsX
  go_enter Tryz.func184, Tryz.ntmps184
  go_wp2_with fail
  refine (HC.out _).mono ?_
  rintro e w2 ⟨rfl, _, hb2⟩
  go_wp2_with fail
  go_ret
  have hbx : ∀ o o', Below w.heap.size w ((w.alloc o).alloc o') := fun o o' => ((Below.refl _ _).alloc (Nat.le_refl _) o).alloc (by simp) o'
  exact ⟨rfl, (hbx _ _).trans ⟨hb2.os, hb2.tape, hb2.output, hb2.size, fun i hi => hb2.block i (by simp; omega) (fun e => by injection e with e; omega)⟩⟩
end Go.Proofs.YthfjmlcjkbgboaaGreatDoor
