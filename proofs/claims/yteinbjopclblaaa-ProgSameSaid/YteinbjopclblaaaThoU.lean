/- A round of prog.run: what holds in the midst of it. -/
import Derived.Test.YteinbjopclblaaaThoS
namespace Go.Proofs.Yteinbjopclblaaa
open Go.RowKit

/-- The best so far, in its cells. -/
def BestB (w : World) (g : Nat) (f to : Nat) (found : Bool) : Prop := w.heap[g]? = some (.cells #[.int .i64 (f : Int), .int .i64 (to : Int), .bool found] 132 (0, 0))
/-- A round's begin: the place is t. -/
structure RunR (P : List Ins) (s : ByteArray) (pv : Value) (w : World) (t : Nat) (wr : World) (gt gF : Nat) (vl : Value) (F : Nat → Nat) (ls : List Nat) (found : Bool) (f to : Nat) : Prop where
  thm : ThM wr gt pv s gF P.length vl F ls
  thr : Thr P s.data.toList t F ls
  clt : CompLt P s.data.toList t F found f
  max : ∀ m, F m ≤ t
  best : BestI P s.data.toList (P.length - 1) (fun j => j < t) found f to
  cells : BestB wr (w.heap.size + 1) f to found
  res : BestB wr w.heap.size 0 0 false
  prg : OwnP wr 0 pv P
  low : w.heap.size + 1 < gt ∧ w.heap.size + 1 < gF ∧ ∀ g, vl.ownBlock = some g → w.heap.size + 1 < g
  below : Below w.heap.size w wr
def RunRel (P : List Ins) (s : ByteArray) (pv : Value) (w : World) (vn vt : Value) (wr : World) : Prop :=
  ∃ t gt gF vl F ls found f to, vt = .int .i64 ((t : Nat) : Int) ∧ t ≤ s.size + 1 ∧ vn = .pointer (some ⟨gt, 0, none⟩) ∧ RunR P s pv w t wr gt gF vl F ls found f to
theorem BestB.setAll {w : World} {g a b f to : Nat} {c found : Bool} (h : BestB w g a b c) : BestB (((w.setCell ⟨g, 0, none⟩ (.int .i64 (f : Int))).setCell ⟨g, 1, none⟩ (.int .i64 (to : Int))).setCell ⟨g, 2, none⟩ (.bool found)) g f to found :=
  heap_setCell_same _ g 2 _ _ _ (heap_setCell_same _ g 1 _ _ _ (heap_setCell_same w g 0 _ _ _ h))
def RunPost (P : List Ins) (s : ByteArray) (w : World) (e : Ending) (w' : World) : Prop :=
  ∃ found f to, e = .returned (.agg #[.int .i64 ((f : Nat) : Int), .int .i64 ((to : Nat) : Int), .bool found]) ∧ BestI P s.data.toList (P.length - 1) (fun j => j < s.size + 1) found f to ∧ Below w.heap.size w w'
theorem BestB.three {w : World} {g f to : Nat} {found : Bool} (h : BestB w g f to found) : (w.cell? ⟨g, 0, none⟩ = some (.int .i64 (f : Int)) ∧ w.cell? ⟨g, 1, none⟩ = some (.int .i64 (to : Int)) ∧ w.cell? ⟨g, 2, none⟩ = some (.bool found)) ∧ w.frozen? ⟨g, 0, none⟩ = false ∧ w.frozen? ⟨g, 1, none⟩ = false ∧ w.frozen? ⟨g, 2, none⟩ = false :=
  ⟨⟨cell_of_row w g 0 _ _ _ h, cell_of_row w g 1 _ _ _ h, cell_of_row w g 2 _ _ _ h⟩, frozen_of_row w g 0 _ _ h, frozen_of_row w g 1 _ _ h, frozen_of_row w g 2 _ _ h⟩

/-- All that is come to lies in the program. -/
theorem Path.lt {P : List Ins} {s : List UInt8} (hok : OkP P) {N j L n i : Nat} (h : Path P s N j L n i) : n < P.length → N < P.length := by
  have at_ : ∀ m x, P[m]? = some x → ∃ h : m < P.length, P[m] = x := fun m x h => List.getElem?_eq_some_iff.1 h
  induction h with
  | here => exact fun h => h
  | eps _ n m i he _ ih =>
    intro hn
    refine ih ?_
    cases he with
    | one x h1 h2 => obtain ⟨h3, h4⟩ := at_ _ _ h1; have := hok n h3; rw [h4] at this; omega
    | two x h1 h2 => obtain ⟨h3, h4⟩ := at_ _ _ h1; have := hok n h3; rw [h4] at this; omega
    | jump x h1 h2 => obtain ⟨h3, h4⟩ := at_ _ _ h1; have := hok n h3; rw [h4] at this; omega
    | begin x h1 h2 => obtain ⟨h3, h4⟩ := at_ _ _ h1; have := hok n h3; rw [h4] at this; omega
    | finish x h1 h2 => obtain ⟨h3, h4⟩ := at_ _ _ h1; have := hok n h3; rw [h4] at this; omega
  | byte _ n i hb _ ih =>
    intro hn
    refine ih ?_
    obtain ⟨x, c, h1, h2, _⟩ := hb
    obtain ⟨h3, h4⟩ := at_ _ _ h1
    have := hok n h3; rw [h4] at this; omega
theorem Thr.lt {P : List Ins} {s : List UInt8} (hok : OkP P) (h0 : 0 < P.length) {t : Nat} {F : Nat → Nat} {ls : List Nat} (h : Thr P s t F ls) {n : Nat} (hn : F n ≠ 0) : n < P.length := by
  obtain ⟨k, _, L, hp⟩ := h.real n hn
  exact hp.lt hok h0

/-- Behind the new thread. -/
structure MidR (P : List Ins) (s : ByteArray) (pv : Value) (w : World) (t : Nat) (wx : World) (gt gF : Nat) (vl : Value) (G : Nat → Nat) (lg : List Nat) (found : Bool) (f to : Nat) : Prop where
  thm : ThM wx gt pv s gF P.length vl G lg
  thr : Thr P s.data.toList t G lg
  cmp : Comp P s.data.toList t G found f
  max : ∀ m, G m ≤ t + 1
  best : BestI P s.data.toList (P.length - 1) (fun j => j < t) found f to
  cells : BestB wx (w.heap.size + 1) f to found
  res : BestB wx w.heap.size 0 0 false
  prg : OwnP wx 0 pv P
  low : w.heap.size + 1 < gt ∧ w.heap.size + 1 < gF ∧ ∀ g, vl.ownBlock = some g → w.heap.size + 1 < g
  below : Below w.heap.size w wx
section
variable {P : List Ins} {s : ByteArray} {pv : Value} {w : World} {t : Nat}
theorem RunR.kept {wr : World} {gt gF : Nat} {vl : Value} {F : Nat → Nat} {ls : List Nat} {f to : Nat} (h : RunR P s pv w t wr gt gF vl F ls true f to) : MidR P s pv w t wr gt gF vl F ls true f to :=
  ⟨h.thm, h.thr, mid_found h.clt h.best, fun m => Nat.le_succ_of_le (h.max m), h.best, h.cells, h.res, h.prg, h.low, h.below⟩
theorem RunR.added {wr w2 : World} {gt gF : Nat} {vl vl' : Value} {F G : Nat → Nat} {ls lg : List Nat} {f to : Nat} (h : RunR P s pv w t wr gt gF vl F ls false f to) (hT : ThM w2 gt pv s gF P.length vl' G lg)
    (hA : AddPost P s.data.toList t 0 t F ls G lg) (hP : OwnP w2 0 pv P) (hK : Kept wr w2 gt gF vl vl') : MidR P s pv w t w2 gt gF vl' G lg false f to := by
  obtain ⟨h1, h2, h3⟩ := mid_added h.clt h.thr h.max hA
  obtain ⟨l1, l2, l3⟩ := h.low
  have hz : w.heap.size + 1 < wr.heap.size := heap_lt h.cells
  have keep : ∀ k, k < w.heap.size + 1 + 1 → w2.heap[k]? = wr.heap[k]? := fun k hk => hK.blocks k (by omega) (by omega) (by omega) fun e => by have := l3 k e; omega
  refine ⟨hT, h2, h1, h3, h.best, (keep _ (by omega)).trans h.cells, (keep _ (by omega)).trans h.res, hP, ⟨l1, l2, fun g hg => ?_⟩, ?_⟩
  · rcases hK.own g hg with e | e
    · exact l3 g e
    · omega
  · exact h.below.trans ⟨hK.below.os, hK.below.tape, hK.below.output, hK.below.size, fun k hk => keep k (by omega)⟩

/-- In the midst of a round: q threads were looked at. -/
structure InR (P : List Ins) (s : ByteArray) (pv : Value) (w : World) (t : Nat) (wx : World) (G : Nat → Nat) (lg : List Nat) (found : Bool) (f : Nat) (q : Nat) (wr : World) (gt gF : Nat) (vl : Value) (H : Nat → Nat) (lh : List Nat) (found1 : Bool) (f1 to1 : Nat) : Prop where
  thm : ThM wr gt pv s gF P.length vl H lh
  thr : Thr P s.data.toList (t + 1) H lh
  far : wx.heap.size ≤ gt ∧ wx.heap.size ≤ gF ∧ ∀ g, vl.ownBlock = some g → wx.heap.size ≤ g
  keep : ∀ k, k < wx.heap.size → k ≠ w.heap.size + 1 → wr.heap[k]? = wx.heap[k]?
  below : Below w.heap.size w wr
  size : wx.heap.size ≤ wr.heap.size
  cells : BestB wr (w.heap.size + 1) f1 to1 found1
  max : ∀ m, H m ≤ t + 1
  sort : ∀ r n, lg[r]? = some n → q ≤ r → ∀ m, H m ≤ G n
  done : ∀ r n, lg[r]? = some n → r < q → ByteAt P s.data.toList t n → (found1 = true → G n ≤ f1 + 1) → H (n + 1) ≠ 0 ∧ H (n + 1) ≤ G n
  old : found = true → found1 = true ∧ f1 ≤ f
  best : (BestI P s.data.toList (P.length - 1) (fun j => j < t) found1 f1 to1 ∧ ∀ r n, lg[r]? = some n → r < q → n = P.length - 1 → found1 = true ∧ f1 + 1 < G n) ∨
    (BestI P s.data.toList (P.length - 1) (fun j => j < t + 1) true f1 t ∧ found1 = true ∧ to1 = t ∧ G (P.length - 1) = f1 + 1)
section
variable {wx : World} {gt gF : Nat} {vl : Value} {G : Nat → Nat} {lg : List Nat} {found : Bool} {f to : Nat}
theorem MidR.start (h : MidR P s pv w t wx gt gF vl G lg found f to) {wz : World} {gt2 gF2 : Nat} (hT : ThM wz gt2 pv s gF2 P.length (.slice none 0 0) (fun _ => 0) []) (hB : Below wx.heap.size wx wz) (h1 : wx.heap.size ≤ gt2) (h2 : wx.heap.size ≤ gF2) :
    InR P s pv w t wx G lg found f 0 wz gt2 gF2 (.slice none 0 0) (fun _ => 0) [] found f to :=
  ⟨hT, Thr.zero _, ⟨h1, h2, fun g hg => by cases hg⟩, fun k hk _ => hB.block k hk, h.below.trans (hB.mono h.below.size), hB.size, (hB.block _ (heap_lt h.cells)).trans h.cells, fun _ => Nat.zero_le _, fun _ _ _ _ _ => Nat.zero_le _, fun r n _ hr => absurd hr (by omega), fun e => ⟨e, Nat.le_refl _⟩, .inl ⟨h.best, fun r n _ hr => absurd hr (by omega)⟩⟩
section
variable {wr : World} {q gt2 gF2 : Nat} {vl2 : Value} {H : Nat → Nat} {lh : List Nat} {found1 : Bool} {f1 to1 : Nat}
theorem InR.now (h : InR P s pv w t wx G lg found f q wr gt2 gF2 vl2 H lh found1 f1 to1) (hM : MidR P s pv w t wx gt gF vl G lg found f to) : ThM wr gt pv s gF P.length vl G lg := by
  obtain ⟨l1, l2, l3⟩ := hM.low
  have hgt : gt < wx.heap.size := by obtain ⟨_, hb⟩ := hM.thm.blk; exact heap_lt hb
  have hgF : gF < wx.heap.size := heap_lt hM.thm.frm
  exact hM.thm.keep (h.keep _ hgt (by omega)) (h.keep _ hgF (by omega)) fun g hg => h.keep _ (hM.thm.lst.lt g hg) (by have := l3 g hg; omega)
theorem InR.prg (h : InR P s pv w t wx G lg found f q wr gt2 gF2 vl2 H lh found1 f1 to1) (hM : MidR P s pv w t wx gt gF vl G lg found f to) (hP : OwnP w 0 pv P) : OwnP wr 0 pv P :=
  hM.prg.keep fun g hg => h.keep g (World.ownsRow.lt hM.prg g hg).2 (by have := (World.ownsRow.lt hP g hg).2; omega)
theorem InR.stop (h : InR P s pv w t wx G lg found f lg.length wr gt2 gF2 vl2 H lh found1 f1 to1) (hM : MidR P s pv w t wx gt gF vl G lg found f to) (hP : OwnP w 0 pv P) : RunR P s pv w (t + 1) wr gt2 gF2 vl2 H lh found1 f1 to1 := by
  have hz : w.heap.size + 1 < wx.heap.size := heap_lt hM.cells
  have mem : ∀ n, G n ≠ 0 → ∃ r, r < lg.length ∧ lg[r]? = some n := fun n hn => by
    obtain ⟨r, hr, e⟩ := List.getElem_of_mem ((hM.thr.mem n).2 hn)
    exact ⟨r, hr, by rw [← e]; exact List.getElem?_eq_getElem hr⟩
  obtain ⟨a1, a2, a3⟩ := h.far
  refine ⟨h.thm, h.thr, next_comp hM.cmp h.old h.thr fun n hn hb hf => ?_, h.max, ?_, h.cells, (h.keep _ (by omega) (by omega)).trans hM.res, h.prg hM hP, ⟨by omega, by omega, fun g hg => by have := a3 g hg; omega⟩, h.below⟩
  · obtain ⟨r, hr, e⟩ := mem n hn
    exact h.done r n e hr hb hf
  · rcases h.best with ⟨h1, h2⟩ | ⟨h1, h2, h3, h4⟩
    · exact best_pass h1 hM.cmp h.old fun hn => by
        obtain ⟨r, hr, e⟩ := mem _ hn
        exact h2 r _ e hr rfl
    · rw [h2, h3]; exact h1
/-- A thread that brings nothing. -/
theorem InR.pass (h : InR P s pv w t wx G lg found f q wr gt2 gF2 vl2 H lh found1 f1 to1) (hz : w.heap.size + 1 < wx.heap.size) {n : Nat} (hq : lg[q]? = some n) {wr' : World} (hB : Below wr.heap.size wr wr')
    (hb : ByteAt P s.data.toList t n → found1 = true ∧ f1 + 1 < G n) (hN : n = P.length - 1 → found1 = true ∧ f1 + 1 < G n) : InR P s pv w t wx G lg found f (q + 1) wr' gt2 gF2 vl2 H lh found1 f1 to1 := by
  have hs := h.size
  have hgt : gt2 < wr.heap.size := by obtain ⟨_, hb⟩ := h.thm.blk; exact heap_lt hb
  have hgF : gF2 < wr.heap.size := heap_lt h.thm.frm
  refine ⟨h.thm.keep (hB.block _ hgt) (hB.block _ hgF) fun g hg => hB.block _ (h.thm.lst.lt g hg), h.thr, h.far, fun k hk e => (hB.block k (by omega)).trans (h.keep k hk e), h.below.trans (hB.mono h.below.size), Nat.le_trans h.size hB.size, (hB.block _ (by omega)).trans h.cells, h.max, fun r n' e hr => h.sort r n' e (by omega), fun r n' e hr hb' hf => ?_, h.old, ?_⟩
  · by_cases c : r < q
    · exact h.done r n' e c hb' hf
    · obtain rfl : r = q := by omega
      rw [hq] at e; injection e with e; subst e
      obtain ⟨e1, e2⟩ := hb hb'
      have := hf e1
      omega
  · rcases h.best with ⟨h1, h2⟩ | h1
    · refine .inl ⟨h1, fun r n' e hr en => ?_⟩
      by_cases c : r < q
      · exact h2 r n' e c en
      · obtain rfl : r = q := by omega
        rw [hq] at e; injection e with e; subst e
        exact hN en
    · exact .inr h1
/-- The match. -/
theorem InR.take (h : InR P s pv w t wx G lg found f q wr gt2 gF2 vl2 H lh found1 f1 to1) (hM : MidR P s pv w t wx gt gF vl G lg found f to) {n k : Nat} (hq : lg[q]? = some n) {wr' : World} (hk : ∀ j, j < wr.heap.size → j ≠ w.heap.size + 1 → wr'.heap[j]? = wr.heap[j]?) (hB : Below w.heap.size wr wr')
    (hbe : BestB wr' (w.heap.size + 1) k t true) (hn : n = P.length - 1) (hG : G n = k + 1) (hc : found1 = true → k ≤ f1) (hb : ¬ ByteAt P s.data.toList t n) : InR P s pv w t wx G lg found f (q + 1) wr' gt2 gF2 vl2 H lh true k t := by
  have hs := h.size
  have hz : w.heap.size + 1 < wx.heap.size := heap_lt hM.cells
  obtain ⟨a1, a2, a3⟩ := h.far
  have hgt : gt2 < wr.heap.size := by obtain ⟨_, hb⟩ := h.thm.blk; exact heap_lt hb
  have hgF : gF2 < wr.heap.size := heap_lt h.thm.frm
  refine ⟨h.thm.keep (hk _ hgt (by omega)) (hk _ hgF (by omega)) fun g hg => hk _ (h.thm.lst.lt g hg) (by have := a3 g hg; omega), h.thr, h.far, fun j hj e => (hk j (by omega) e).trans (h.keep j hj e), h.below.trans hB, Nat.le_trans h.size hB.size, hbe, h.max, fun r n' e hr => h.sort r n' e (by omega), fun r n' e hr hb' hf => ?_, fun e => ⟨rfl, ?_⟩, .inr ⟨?_, rfl, rfl, by rw [← hn]; exact hG⟩⟩
  · by_cases c : r < q
    · refine h.done r n' e c hb' fun e1 => ?_
      have := hf rfl
      have := hc e1
      omega
    · obtain rfl : r = q := by omega
      rw [hq] at e; injection e with e; subst e
      exact absurd hb' hb
  · have := h.old e
    have := hc this.1
    omega
  · rcases h.best with ⟨h1, h2⟩ | ⟨h1, h2, h3, h4⟩
    · obtain ⟨k', e1, e2⟩ := hM.thr.real n (by omega)
      obtain rfl : k' = k := by omega
      subst hn
      exact best_take h1 e2 hG hM.cmp h.old hc
    · rw [hn] at hG
      have e : k = f1 := by omega
      rw [e]; exact h1
/-- A byte goes on. -/
theorem InR.push (h : InR P s pv w t wx G lg found f q wr gt2 gF2 vl2 H lh found1 f1 to1) (hM : MidR P s pv w t wx gt gF vl G lg found f to) {n k : Nat} (hq : lg[q]? = some n) (hb : ByteAt P s.data.toList t n) (hN : n ≠ P.length - 1) (hG : G n = k + 1)
    {w4 w5 : World} (hB : Below wr.heap.size wr w4) {vl3 : Value} {H' : Nat → Nat} {lh' : List Nat} (hT : ThM w5 gt2 pv s gF2 P.length vl3 H' lh') (hA : AddPost P s.data.toList (t + 1) (n + 1) k H lh H' lh') (hK : Kept w4 w5 gt2 gF2 vl2 vl3) :
    InR P s pv w t wx G lg found f (q + 1) w5 gt2 gF2 vl3 H' lh' found1 f1 to1 := by
  have hs := h.size
  have hz : w.heap.size + 1 < wx.heap.size := heap_lt hM.cells
  obtain ⟨a1, a2, a3⟩ := h.far
  have hs4 := hB.size
  have keep : ∀ j, j < wx.heap.size → w5.heap[j]? = wr.heap[j]? := fun j hj => (hK.blocks j (by omega) (by omega) (by omega) fun e => by have := a3 j e; omega).trans (hB.block j (by omega))
  have hmax : ∀ m, H m ≤ k + 1 := fun m => by rw [← hG]; exact h.sort q n hq (Nat.le_refl _) m
  obtain ⟨k', e1, e2⟩ := hM.thr.real n (by omega)
  obtain rfl : k' = k := by omega
  have hle := hM.max n
  have hle2 := hA.le hmax
  have hwz := h.below.size
  refine ⟨hT, hA.thr h.thr hmax (e2.byte hb), ⟨a1, a2, fun g hg => ?_⟩, fun j hj e => (keep j hj).trans (h.keep j hj e), ?_, by have := hK.below.size; omega, (keep _ hz).trans h.cells, fun m => by have := hle2 m; omega, fun r n' e hr m => ?_, fun r n' e hr hb' hf => ?_, h.old, ?_⟩
  · rcases hK.own g hg with e | e
    · exact a3 g e
    · omega
  · exact h.below.trans ⟨hK.below.os.trans hB.os, hK.below.tape.trans hB.tape, hK.below.output.trans hB.output, Nat.le_trans hB.size hK.below.size, fun j hj => keep j (by omega)⟩
  · have h1 : G n ≤ G n' := by
      obtain ⟨c1, c2⟩ := List.getElem?_eq_some_iff.1 hq
      obtain ⟨c3, c4⟩ := List.getElem?_eq_some_iff.1 e
      have := List.pairwise_iff_getElem.1 hM.thr.sorted q r c1 c3 (by omega)
      rw [c2, c4] at this
      exact this
    have := hle2 m
    omega
  · by_cases c : r < q
    · have h1 := h.done r n' e c hb' hf
      rw [hA.keep _ h1.1]; exact h1
    · obtain rfl : r = q := by omega
      rw [hq] at e; injection e with e; subst e
      exact ⟨hA.at_, by have := hle2 (n + 1); omega⟩
  · rcases h.best with ⟨h1, h2⟩ | h1
    · refine .inl ⟨h1, fun r n' e hr en => ?_⟩
      by_cases c : r < q
      · exact h2 r n' e c en
      · obtain rfl : r = q := by omega
        rw [hq] at e; injection e with e; subst e
        exact absurd en hN
    · exact .inr h1
end
end
end
end Go.Proofs.Yteinbjopclblaaa
