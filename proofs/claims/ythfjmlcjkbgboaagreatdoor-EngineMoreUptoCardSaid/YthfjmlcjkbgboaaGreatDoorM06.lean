/- Part 6 of the proof: lemmas and walks that the last texts use. -/
import Derived.Test.YthfjmlcjkbgboaaGreatDoorM05
namespace Go.Proofs.YthfjmlcjkbgboaaGreatDoor
open Go.RowKit
theorem OwnNT.alloc {w : World} {v : Value} {l : List Nat} (h : OwnNT w v l) (o : Obj) : OwnNT (w.alloc o) v l := h.keep fun g hg => Below.heap_alloc _ _ _ (h.lt g hg)
theorem eps_iff {P : List Ins} {s : List UInt8} {i k : Nat} {x : Ins} (h : P[k]? = some x) (m : Nat) : Eps P s i k m ↔ (x.kind = 2 ∧ (m = x.a.toNat ∨ m = x.b.toNat)) ∨ (x.kind = 3 ∧ m = x.a.toNat) ∨ (x.kind = 4 ∧ i = 0 ∧ m = k + 1) ∨ (x.kind = 5 ∧ i = s.length ∧ m = k + 1) := by
  constructor
  · intro he
    cases he with
    | one y h1 h2 => rw [h] at h1; injection h1 with h1; subst h1; exact .inl ⟨h2, .inl rfl⟩
    | two y h1 h2 => rw [h] at h1; injection h1 with h1; subst h1; exact .inl ⟨h2, .inr rfl⟩
    | jump y h1 h2 => rw [h] at h1; injection h1 with h1; subst h1; exact .inr (.inl ⟨h2, rfl⟩)
    | begin y h1 h2 h3 => rw [h] at h1; injection h1 with h1; subst h1; exact .inr (.inr (.inl ⟨h2, h3, rfl⟩))
    | finish y h1 h2 h3 => rw [h] at h1; injection h1 with h1; subst h1; exact .inr (.inr (.inr ⟨h2, h3, rfl⟩))
  · rintro (⟨h2, rfl | rfl⟩ | ⟨h2, rfl⟩ | ⟨h2, h3, rfl⟩ | ⟨h2, h3, rfl⟩)
    · exact .one _ _ h h2
    · exact .two _ _ h h2
    · exact .jump _ _ h h2
    · exact .begin _ _ h h2 h3
    · exact .finish _ _ h h2 h3
theorem OwnNT.cap {w : World} {g n c : Nat} {l : List Nat} (h : OwnNT w (.slice (some ⟨g, 0, none⟩) n c) l) : l.length ≤ c := by
  rcases h.2 with ⟨h1, _⟩ | ⟨g', cap, cur, h1, _, _, h4, _⟩
  · cases h1
  · injection h1 with _ _ h1
    rw [h1]; exact h4
theorem OwnP.keep {w w' : World} {v : Value} {l : List Ins} (h : OwnP w 0 v l) (hk : ∀ g, v.ownBlock = some g → w'.heap[g]? = w.heap[g]?) : OwnP w' 0 v l := by
  refine ⟨h.1, ?_⟩
  rcases h.2 with h0 | ⟨g, cap, cur, h1, h2, h3, h4⟩
  · exact .inl h0
  · exact .inr ⟨g, cap, cur, h1, h2, (hk g (by rw [h1]; rfl)).trans h3, h4⟩
/-- What a call of add has kept. -/
structure Kept (w wr : World) (gt gF : Nat) (vl vl' : Value) : Prop where
  blocks : ∀ k, k < w.heap.size → k ≠ gt → k ≠ gF → vl.ownBlock ≠ some k → wr.heap[k]? = w.heap[k]?
  own : ∀ g, vl'.ownBlock = some g → vl.ownBlock = some g ∨ w.heap.size ≤ g
  below : Below 0 w wr
theorem Kept.refl (w : World) (gt gF : Nat) (vl : Value) : Kept w w gt gF vl vl := ⟨fun _ _ _ _ _ => rfl, fun _ h => .inl h, Below.refl _ _⟩
structure AddR (P : List Ins) (s : ByteArray) (i n f : Nat) (F : Nat → Nat) (ls : List Nat) (gt gF : Nat) (pv vl : Value) (w : World) (vt : Value) (wr : World) (todo : List Nat) (G : Nat → Nat) (lg : List Nat) (vl' : Value) : Prop where
  stk : OwnNT wr vt todo
  thr : ThM wr gt pv s gF P.length vl' G lg
  dfs : DfsI P s.data.toList i n f F ls G lg todo
  small : ∀ k ∈ todo, k < P.length
  len : todo.length + unmet P.length G ≤ 1 + P.length
  prg : OwnP wr 0 pv P
  new : ∀ g, vt.ownBlock = some g → w.heap.size ≤ g ∧ vl'.ownBlock ≠ some g
  kept : Kept w wr gt gF vl vl'
/-- The world behind the mark and the list's append. -/
structure AddA (P : List Ins) (s : ByteArray) (gt gF : Nat) (pv vl : Value) (w : World) (gq cq : Nat) (W3 : World) (td : List Nat) (G : Nat → Nat) (lg : List Nat) (v3 : Value) : Prop where
  stk : OwnNT W3 (.slice (some ⟨gq, 0, none⟩) td.length cq) td
  thr : ThM W3 gt pv s gF P.length v3 G lg
  prg : OwnP W3 0 pv P
  new : w.heap.size ≤ gq ∧ v3.ownBlock ≠ some gq
  kept : Kept w W3 gt gF vl v3
theorem AddR.after {P : List Ins} {s : ByteArray} {i n f : Nat} {F : Nat → Nat} {ls : List Nat} {gt gF : Nat} {pv vl : Value} {w wr : World} {gq cq k : Nat} {td : List Nat} {G : Nat → Nat} {lg : List Nat} {vl' : Value}
    (h : AddR P s i n f F ls gt gF pv vl w (.slice (some ⟨gq, 0, none⟩) (td ++ [k]).length cq) wr (td ++ [k]) G lg vl') (c : G k = 0) (hk : k < P.length) (hgt : gt < w.heap.size) (hgF : gF < w.heap.size) {u : Value} (hu : u = .int .i64 ((f + 1 : Nat) : Int))
    {W2 : World} {g cap : Nat} (h1 : OwnNT W2 (.slice (some ⟨g, 0, none⟩) (lg ++ [k]).length cap) (lg ++ [k])) (h2 : ∀ j, j < (wr.setCell ⟨gF, k, none⟩ u).heap.size → vl'.ownBlock ≠ some j → W2.heap[j]? = (wr.setCell ⟨gF, k, none⟩ u).heap[j]?)
    (h3 : vl'.ownBlock = some g ∨ (wr.setCell ⟨gF, k, none⟩ u).heap.size ≤ g) (h6 : Below 0 (wr.setCell ⟨gF, k, none⟩ u) W2) :
    AddA P s gt gF pv vl w gq cq (W2.setCell ⟨gt, 3, none⟩ (.slice (some ⟨g, 0, none⟩) (lg ++ [k]).length cap)) td (upd G k (f + 1)) (lg ++ [k]) (.slice (some ⟨g, 0, none⟩) (lg ++ [k]).length cap) := by
  subst hu
  have hz : (wr.setCell ⟨gF, k, none⟩ (.int .i64 ((f + 1 : Nat) : Int))).heap.size = wr.heap.size := by simp
  rw [hz] at h2 h3
  have hsz := h.kept.below.size
  obtain ⟨n1, n2⟩ := h.thr.ne
  have hq := h.new gq rfl
  have hgq := h.stk.lt gq rfl
  have hqF : gq ≠ gF := by omega
  have hqt : gq ≠ gt := by omega
  have hgF' : g ≠ gF := fun e => by
    rcases h3 with h3 | h3
    · exact h.thr.far (by rw [h3, e])
    · omega
  have hgt' : g ≠ gt := fun e => by
    rcases h3 with h3 | h3
    · exact n2 (by rw [h3, e])
    · omega
  have hgq' : g ≠ gq := fun e => by
    rcases h3 with h3 | h3
    · exact hq.2 (by rw [h3, e])
    · omega
  have b1 : ∀ j, j ≠ gF → (wr.setCell ⟨gF, k, none⟩ (.int .i64 ((f + 1 : Nat) : Int))).heap[j]? = wr.heap[j]? := fun j hj => Below.heap_setCell wr ⟨gF, k, none⟩ _ j hj
  have b3 : ∀ j, j ≠ gt → (W2.setCell ⟨gt, 3, none⟩ (.slice (some ⟨g, 0, none⟩) (lg ++ [k]).length cap)).heap[j]? = W2.heap[j]? := fun j hj => Below.heap_setCell W2 ⟨gt, 3, none⟩ _ j hj
  have all : ∀ j, j < wr.heap.size → j ≠ gF → j ≠ gt → vl'.ownBlock ≠ some j → (W2.setCell ⟨gt, 3, none⟩ (.slice (some ⟨g, 0, none⟩) (lg ++ [k]).length cap)).heap[j]? = wr.heap[j]? := fun j hj e1 e2 e3 => ((b3 j e2).trans (h2 j hj e3)).trans (b1 j e1)
  have hpF : ∀ j, pv.ownBlock = some j → j < wr.heap.size ∧ j ≠ gF ∧ j ≠ gt ∧ vl'.ownBlock ≠ some j := fun j hj => by
    refine ⟨(World.ownsRow.lt h.prg j hj).2, ?_, ?_, ?_⟩
    · intro e; subst e; exact absurd hj (own_apart h.prg h.thr.frm (by decide))
    · intro e; subst e; obtain ⟨cF, hb⟩ := h.thr.blk; exact absurd hj (own_apart h.prg hb (by decide))
    · intro e
      rcases h.thr.lst.2 with ⟨e1, _⟩ | ⟨g1, _, _, e1, _, e3, _⟩
      · rw [e1] at e; cases e
      · rw [e1] at e
        injection e with e
        have e : g1 = j := e
        subst e
        exact absurd hj (own_apart h.prg e3 (by decide))
  refine ⟨?_, ⟨?_, ?_, ?_, ?_, ?_⟩, ?_, ⟨hq.1, fun e => hgq' (by injection e)⟩, ⟨?_, ?_, ?_⟩⟩
  · exact h.stk.pop.keep fun j hj => by
      have e : gq = j := by injection hj
      subst e
      exact all gq hgq hqF hqt hq.2
  · exact (h.thr.blk.keep ((h2 gt (by omega) n2).trans (b1 gt n1))).set _
  · exact ((h.thr.frm.set k (f + 1)).keep (h2 gF (by omega) h.thr.far)).keep (b3 gF fun e => n1 e.symm)
  · exact h1.keep fun j hj => b3 j fun e => by
      have e2 : g = j := by injection hj
      exact hgt' (e2.trans e)
  · intro e; exact hgF' (by injection e)
  · have e := h.thr.len
    have e2 := unmet_upd (v := f + 1) hk c (by omega)
    rw [List.length_append, List.length_singleton]
    omega
  · exact h.prg.keep fun j hj => by
      obtain ⟨a1, a2, a3, a4⟩ := hpF j hj
      exact all j a1 a2 a3 a4
  · intro j hj e1 e2 e3
    have e4 : vl'.ownBlock ≠ some j := fun e => by
      rcases h.kept.own j e with e5 | e5
      · exact e3 e5
      · omega
    exact (all j (by omega) e2 e1 e4).trans (h.kept.blocks j hj e1 e2 e3)
  · intro j hj
    have e : g = j := by injection hj
    subst e
    rcases h3 with h3 | h3
    · exact h.kept.own g h3
    · right; omega
  · exact ((h.kept.below.setCell (Nat.zero_le _) _).trans h6).setCell (Nat.zero_le _) _
def AddRel (P : List Ins) (s : ByteArray) (i n f : Nat) (F : Nat → Nat) (ls : List Nat) (gt gF : Nat) (pv vl : Value) (w : World) (vt : Value) (wr : World) : Prop :=
  ∃ todo G lg vl', AddR P s i n f F ls gt gF pv vl w vt wr todo G lg vl'
def AddW (P : List Ins) (s : ByteArray) (i n f : Nat) (F : Nat → Nat) (ls : List Nat) (gt gF : Nat) (pv vl : Value) (w : World) (e : Ending) (w' : World) : Prop :=
  ∃ G lg vl', e = .returned (.tuple #[]) ∧ ThM w' gt pv s gF P.length vl' G lg ∧ AddPost P s.data.toList i n f F ls G lg ∧ OwnP w' 0 pv P ∧ Kept w w' gt gF vl vl'
theorem AddR.next {P : List Ins} {s : ByteArray} {i n f : Nat} {F : Nat → Nat} {ls : List Nat} {gt gF : Nat} {pv vl : Value} {w wr : World} {gq cq k : Nat} {td : List Nat} {G : Nat → Nat} {lg : List Nat} {vl' : Value}
    (h : AddR P s i n f F ls gt gF pv vl w (.slice (some ⟨gq, 0, none⟩) (td ++ [k]).length cq) wr (td ++ [k]) G lg vl') (c : G k = 0) (hk : k < P.length)
    {W3 : World} {v3 : Value} (hA : AddA P s gt gF pv vl w gq cq W3 td (upd G k (f + 1)) (lg ++ [k]) v3) (hgF : gF < w.heap.size) (hgt : gt < w.heap.size) {W5 : World} {vt5 : Value} {succ : List Nat} (h5 : OwnNT W5 vt5 (td ++ succ))
    (hk5 : ∀ j, j < W3.heap.size → j ≠ gq → W5.heap[j]? = W3.heap[j]?) (hv5 : ∀ g, vt5.ownBlock = some g → g = gq ∨ W3.heap.size ≤ g) (hb5 : Below 0 W3 W5) (hs : ∀ m, m ∈ succ ↔ Eps P s.data.toList i k m) (hsm : ∀ m ∈ succ, m < P.length) (hs2 : succ.length ≤ 2) :
    AddRel P s i n f F ls gt gF pv vl w vt5 W5 ∧ lenV vt5 + 2 * unmetW W5 gF < lenV (.slice (some ⟨gq, 0, none⟩) (td.length + 1) cq) + 2 * unmetW wr gF := by
  have hu := unmet_upd (v := f + 1) hk c (by omega)
  have hz := hA.kept.below.size
  have hn := hA.new
  obtain ⟨n1, n2⟩ := hA.thr.ne
  have hl := h.len
  rw [List.length_append, List.length_singleton] at hl
  have kF := hk5 gF (by omega) (by omega)
  have kT := hk5 gt (by omega) (by omega)
  have hT5 : FromN W5 gF P.length (upd G k (f + 1)) := hA.thr.frm.keep kF
  refine ⟨⟨td ++ succ, upd G k (f + 1), lg ++ [k], v3, h5, ⟨hA.thr.blk.keep kT, hT5, hA.thr.lst.keep fun j hj => hk5 j (hA.thr.lst.lt j hj) fun e => hn.2 (e ▸ hj), hA.thr.far, hA.thr.len⟩, h.dfs.mark c hs, fun m hm => ?_, ?_, hA.prg.keep fun j hj => hk5 j (World.ownsRow.lt hA.prg j hj).2 fun e => ?_, fun g hg => ?_, ⟨fun j h1 h2 h3 h4 => ?_, hA.kept.own, hA.kept.below.trans hb5⟩⟩, ?_⟩
  · rcases List.mem_append.1 hm with h1 | h1
    · exact h.small m (by simp [h1])
    · exact hsm m h1
  · rw [List.length_append]; omega
  · subst e
    rcases hA.stk.2 with ⟨e1, _⟩ | ⟨g1, _, _, e1, _, e3, _⟩
    · cases e1
    · injection e1 with e1
      injection e1 with e1
      injection e1 with e1
      subst e1
      exact absurd hj (own_apart hA.prg e3 (by decide))
  · rcases hv5 g hg with e | e
    · subst e; exact hn
    · exact ⟨by omega, fun e2 => by have := hA.thr.lst.lt g e2; omega⟩
  · exact (hk5 j (by omega) (by omega)).trans (hA.kept.blocks j h1 h2 h3 h4)
  · rw [hT5.unmet, h.thr.frm.unmet]
    obtain ⟨A5, c5, e5⟩ := h5.form
    rw [e5]
    simp only [lenV, List.length_append]
    omega
set_option maxRecDepth 100000 in
set_option maxHeartbeats 1600000 in
theorem add_any (P : List Ins) (hok : OkP P) (h4 : P.length ≤ 400) (s : ByteArray) (i n f : Nat) (hn : n < P.length) (hf : f ≤ 8192) (F : Nat → Nat) (ls : List Nat) (gt gF : Nat) (pv vl : Value) (w : World)
    (hT : ThM w gt pv s gF P.length vl F ls) (hP : OwnP w 0 pv P) (hgF : gF < w.heap.size) (hgt : gt < w.heap.size) :
    Calls Tryz.prog 276 #[.pointer (some ⟨gt, 0, none⟩), .int .i64 (n : Int), .int .i64 (i : Int), .int .i64 (f : Int)] w (AddW P s i n f F ls gt gF pv vl w) := by
  have HOK := Lib.hid hok
  obtain ⟨gp, cp, rfl, hgp⟩ := OwnP.head hP (by omega)
  go_enter Tryz.func276, Tryz.ntmps276
  go_wp2_with fail
  go_loopw [8] (fun v wr => AddRel P s i n f F ls gt gF (.slice (some ⟨gp, 0, none⟩) P.length cp) vl w v wr) (fun v wr => lenV v + 2 * unmetW wr gF)
  case atStart =>
    have hne : ∀ o, ∀ k, k < w.heap.size → (w.alloc o).heap[k]? = w.heap[k]? := fun o k hk => Below.heap_alloc _ _ _ hk
    refine ⟨[n], F, ls, vl, OwnNT.one w n, ⟨hT.blk.keep (hne _ _ hgt), hT.frm.keep (hne _ _ hgF), hT.lst.keep fun g hg => hne _ _ (hT.lst.lt g hg), hT.far, hT.len⟩, DfsI.start _ _ _ _ _, fun k hk => by rw [List.mem_singleton.1 hk]; exact hn, ?_, hP.keep fun g hg => hne _ _ (World.ownsRow.lt hP g hg).2, fun g hg => ?_, ⟨fun k hk _ _ _ => hne _ _ hk, fun g hg => .inl hg, (Below.refl _ _).alloc (Nat.zero_le _) _⟩⟩
    · have := unmet_le P.length F; simp; omega
    · have e : w.heap.size = g := by simpa [Value.ownBlock] using hg
      subst e
      exact ⟨Nat.le_refl _, fun h => absurd (hT.lst.lt _ h) (by omega)⟩
  case round =>
    obtain ⟨todo, G, lg, vl', hR⟩ := hrel
    rcases List.eq_nil_or_concat todo with rfl | ⟨td, k, rfl⟩
    · obtain ⟨A1, c1, rfl⟩ := hR.stk.form
      dsimp only [List.length_nil]
      go_wp2_with fail
      exact bodyPost_end (v := .tuple #[]) (by simp [results, Tryz.results276, go_sem]) rfl ⟨G, lg, vl', rfl, hR.thr, hR.dfs.stop, hR.prg, hR.kept⟩
    · rw [List.concat_eq_append] at hR
      obtain ⟨gq, cq, rfl, hgq⟩ := hR.stk.head (by simp)
      have hk : k < P.length := hR.small k (by simp)
      have hcap := hR.stk.cap
      have htop := hR.stk.cell td.length (by simp)
      have hpop := hR.stk.pop
      have hnew := hR.new gq rfl
      obtain ⟨t0, t1, ⟨cF, t2⟩, t3, t4⟩ := hR.thr.blk.cells
      obtain ⟨q0, q1⟩ := hR.thr.frm.cell k hk
      have hln : td.length + unmet P.length G ≤ P.length := by have := hR.len; simp at this; omega
      rw [List.length_append, List.length_singleton] at hcap ⊢
      rw [List.getElem_append_right (Nat.le_refl _)] at htop
      simp only [Nat.sub_self, List.getElem_cons_zero] at htop
      have j1 : IntKind.i64.wrap (((td.length + 1 : Nat) : Int) - 1) = ((td.length : Nat) : Int) := by rw [IntWalk.i64_in _ (by omega)]; omega
      have j2 : (0 : Int) < ((td.length + 1 : Nat) : Int) := by omega
      have j3 : ((td.length : Nat) : Int) < ((td.length + 1 : Nat) : Int) := by omega
      have j4 : ((k : Nat) : Int) < (P.length : Int) := by omega
      have j5 : td.length ≤ cq := by omega
      have HRR := Lib.hid hR
      clear hR hcap
      by_cases c : G k = 0
      · rw [c] at q0
        have q0 : wr.cell? ⟨gF, k, none⟩ = some (.int .i64 0) := q0
        have i6 : IntKind.i64.wrap ((f : Int) + 1) = (f : Int) + 1 := IntWalk.i64_in _ (by omega)
        have hx := HOK.out k hk
        have HPK : Hid (P[k]? = some P[k]) := Lib.hid (List.getElem?_eq_getElem hk)
        have HSP : Hid (∀ W, OwnP W 0 (.slice (some ⟨gp, 0, none⟩) P.length cp) P → Ins7 W gp (k * 7) P[k]) := fun W h => ⟨(h.spot k hk 0 (by decide)).1, (h.spot k hk 1 (by decide)).1, (h.spot k hk 2 (by decide)).1, (h.spot k hk 3 (by decide)).1, (h.spot k hk 4 (by decide)).1, (h.spot k hk 5 (by decide)).1, (h.spot k hk 6 (by decide)).1⟩
        generalize P[k] = x at hx HPK HSP
        obtain ⟨kd, xa, xb, ⟨sa, sb, sc, sd⟩⟩ := x
        have hB1 : ThB (wr.setCell ⟨gF, k, none⟩ (.int .i64 ((f : Int) + 1))) gt (.slice (some ⟨gp, 0, none⟩) P.length cp) s gF P.length vl' := HRR.out.thr.blk.keep (Below.heap_setCell wr ⟨gF, k, none⟩ _ gt HRR.out.thr.ne.1)
        obtain ⟨m0, m1, ⟨cF1, m2⟩, m3, m4⟩ := hB1.cells
        have hL1 : OwnNT (wr.setCell ⟨gF, k, none⟩ (.int .i64 ((f : Int) + 1))) vl' lg := HRR.out.thr.lst.keep fun g hg => Below.heap_setCell wr ⟨gF, k, none⟩ _ g fun e => HRR.out.thr.far (by rw [hg]; exact congrArg some e)
        have hll : lg.length ≤ 400 := by have := HRR.out.thr.len; omega
        dsimp only at hx
        rcases hx with ⟨rfl, ⟨a0, a1⟩, b0, b1⟩ | ⟨rfl, a0, a1⟩ | ⟨rfl | rfl | rfl, hi⟩ | rfl
        · obtain ⟨na, rfl⟩ := Int.eq_ofNat_of_zero_le a0
          obtain ⟨nb, rfl⟩ := Int.eq_ofNat_of_zero_le b0
          go_wp2_with (at_builtin; first | (refine wpList_append_nt rfl (.tmp 47) (.tmp 49) rfl vl' lg rfl hL1 _ [k] rfl wr.heap.size (by simp) 1 rfl (by simp) (by simp; omega) ?_; intro g3 cap3 W2 h1 h2 h3 h4 h5 h6; have hA := HRR.out.after c hk hgt hgF (u := .int .i64 ((f : Int) + 1)) rfl h1 h2 h3 h6; rw [show (lg ++ [k]).length = lg.length + 1 from List.length_append] at hA; have ⟨_, _, _, p3, p4⟩ := (hB1.keep (h2 gt (by simp; have := HRR.out.kept.below.size; omega) HRR.out.thr.ne.2)).cells; have ⟨o0, o1, ⟨_, o2⟩, o3, _⟩ := hA.thr.blk.cells; have ⟨x0, x1, x2, x3, x4, x5, x6⟩ := HSP.out _ hA.prg; have hgt3 : gt < W2.heap.size := (by simp at h5; have := HRR.out.kept.below.size; omega)) | (refine wpList_append_nt rfl (.tmp 64) (.tmp 69) rfl (.slice (some ⟨gq, 0, none⟩) td.length cq) td rfl (hA.stk.alloc _) _ [nb, na] rfl (W2.heap.size + 1) (by simp) 2 rfl (by simp) (by simp; omega) ?_; intro g5 cap5 W5 e1 e2 e3 e4 e5 e6; rw [show (td ++ [nb, na]).length = td.length + 2 from List.length_append] at e1))
          exact HRR.out.next c hk hA hgF hgt e1 (fun j hj hne => (e2 j (by simp at hj ⊢; omega) (fun e => hne (by injection e with e; exact e.symm))).trans (Below.heap_alloc _ _ _ hj)) (fun g hg => by
            have e7 : g5 = g := by injection hg
            subst e7
            rcases e3 with e3 | e3
            · left; injection e3 with e3; exact e3.symm
            · right; simp at e3 ⊢; omega) (((Below.refl _ _).alloc (Nat.zero_le _) _).trans e6) (fun m => by rw [eps_iff HPK.out]; simp [or_comm]) (fun m hm => by simp at hm; omega) (by simp)
        · obtain ⟨na, rfl⟩ := Int.eq_ofNat_of_zero_le a0
          go_wp2_with (at_builtin; first | (refine wpList_append_nt rfl (.tmp 47) (.tmp 49) rfl vl' lg rfl hL1 _ [k] rfl wr.heap.size (by simp) 1 rfl (by simp) (by simp; omega) ?_; intro g3 cap3 W2 h1 h2 h3 h4 h5 h6; have hA := HRR.out.after c hk hgt hgF (u := .int .i64 ((f : Int) + 1)) rfl h1 h2 h3 h6; rw [show (lg ++ [k]).length = lg.length + 1 from List.length_append] at hA; have ⟨_, _, _, p3, p4⟩ := (hB1.keep (h2 gt (by simp; have := HRR.out.kept.below.size; omega) HRR.out.thr.ne.2)).cells; have ⟨o0, o1, ⟨_, o2⟩, o3, _⟩ := hA.thr.blk.cells; have ⟨x0, x1, x2, x3, x4, x5, x6⟩ := HSP.out _ hA.prg; have hgt3 : gt < W2.heap.size := (by simp at h5; have := HRR.out.kept.below.size; omega)) | (refine wpList_append_nt rfl (.tmp 75) (.tmp 78) rfl (.slice (some ⟨gq, 0, none⟩) td.length cq) td rfl (hA.stk.alloc _) _ [na] rfl (W2.heap.size + 1) (by simp) 1 rfl (by simp) (by simp; omega) ?_; intro g5 cap5 W5 e1 e2 e3 e4 e5 e6; rw [show (td ++ [na]).length = td.length + 1 from List.length_append] at e1))
          exact HRR.out.next c hk hA hgF hgt e1 (fun j hj hne => (e2 j (by simp at hj ⊢; omega) (fun e => hne (by injection e with e; exact e.symm))).trans (Below.heap_alloc _ _ _ hj)) (fun g hg => by
            have e7 : g5 = g := by injection hg
            subst e7
            rcases e3 with e3 | e3
            · left; injection e3 with e3; exact e3.symm
            · right; simp at e3 ⊢; omega) (((Below.refl _ _).alloc (Nat.zero_le _) _).trans e6) (fun m => by rw [eps_iff HPK.out]; simp) (fun m hm => by simp at hm; omega) (by simp)
        · go_wp2_with (at_builtin; refine wpList_append_nt rfl (.tmp 47) (.tmp 49) rfl vl' lg rfl hL1 _ [k] rfl wr.heap.size (by simp) 1 rfl (by simp) (by simp; omega) ?_; intro g3 cap3 W2 h1 h2 h3 h4 h5 h6; have hA := HRR.out.after c hk hgt hgF (u := .int .i64 ((f : Int) + 1)) rfl h1 h2 h3 h6; rw [show (lg ++ [k]).length = lg.length + 1 from List.length_append] at hA; have ⟨_, _, _, p3, p4⟩ := (hB1.keep (h2 gt (by simp; have := HRR.out.kept.below.size; omega) HRR.out.thr.ne.2)).cells; have ⟨o0, o1, ⟨_, o2⟩, o3, _⟩ := hA.thr.blk.cells; have ⟨x0, x1, x2, x3, x4, x5, x6⟩ := HSP.out _ hA.prg; have hgt3 : gt < W2.heap.size := (by simp at h5; have := HRR.out.kept.below.size; omega))
          exact HRR.out.next c hk hA hgF hgt (vt5 := .slice (some ⟨gq, 0, none⟩) td.length cq) (succ := []) (by rw [List.append_nil]; exact hA.stk.alloc _) (fun j hj _ => Below.heap_alloc _ _ _ hj) (fun g hg => .inl (by injection hg with hg; exact hg.symm)) ((Below.refl _ _).alloc (Nat.zero_le _) _) (fun m => by rw [eps_iff HPK.out]; simp) (by simp) (by simp)
        · have i7 : IntKind.i64.wrap ((k : Int) + 1) = (k : Int) + 1 := IntWalk.i64_in _ (by omega)
          by_cases ci : i = 0
          · have ci2 : ((i : Int) == 0) = true := by rw [ci]; rfl
            have CI := Lib.hid ci
            clear ci
            go_wp2_with (at_builtin; first | (refine wpList_append_nt rfl (.tmp 47) (.tmp 49) rfl vl' lg rfl hL1 _ [k] rfl wr.heap.size (by simp) 1 rfl (by simp) (by simp; omega) ?_; intro g3 cap3 W2 h1 h2 h3 h4 h5 h6; have hA := HRR.out.after c hk hgt hgF (u := .int .i64 ((f : Int) + 1)) rfl h1 h2 h3 h6; rw [show (lg ++ [k]).length = lg.length + 1 from List.length_append] at hA; have ⟨_, _, _, p3, p4⟩ := (hB1.keep (h2 gt (by simp; have := HRR.out.kept.below.size; omega) HRR.out.thr.ne.2)).cells; have ⟨o0, o1, ⟨_, o2⟩, o3, _⟩ := hA.thr.blk.cells; have ⟨x0, x1, x2, x3, x4, x5, x6⟩ := HSP.out _ hA.prg; have hgt3 : gt < W2.heap.size := (by simp at h5; have := HRR.out.kept.below.size; omega)) | (refine wpList_append_nt rfl (.tmp 100) (.tmp 103) rfl (.slice (some ⟨gq, 0, none⟩) td.length cq) td rfl (hA.stk.alloc _) _ [k + 1] rfl (W2.heap.size + 1) (by simp) 1 rfl (by simp) (by simp; omega) ?_; intro g5 cap5 W5 e1 e2 e3 e4 e5 e6; rw [show (td ++ [k + 1]).length = td.length + 1 from List.length_append] at e1))
            exact HRR.out.next c hk hA hgF hgt e1 (fun j hj hne => (e2 j (by simp at hj ⊢; omega) (fun e => hne (by injection e with e; exact e.symm))).trans (Below.heap_alloc _ _ _ hj)) (fun g hg => by
              have e7 : g5 = g := by injection hg
              subst e7
              rcases e3 with e3 | e3
              · left; injection e3 with e3; exact e3.symm
              · right; simp at e3 ⊢; omega) (((Below.refl _ _).alloc (Nat.zero_le _) _).trans e6) (fun m => by rw [eps_iff HPK.out]; simp [CI.out]) (fun m hm => by simp at hm; omega) (by simp)
          · have ci2 : ((i : Int) == 0) = false := beq_eq_false_iff_ne.2 (by omega)
            have CI := Lib.hid ci
            clear ci
            go_wp2_with (at_builtin; refine wpList_append_nt rfl (.tmp 47) (.tmp 49) rfl vl' lg rfl hL1 _ [k] rfl wr.heap.size (by simp) 1 rfl (by simp) (by simp; omega) ?_; intro g3 cap3 W2 h1 h2 h3 h4 h5 h6; have hA := HRR.out.after c hk hgt hgF (u := .int .i64 ((f : Int) + 1)) rfl h1 h2 h3 h6; rw [show (lg ++ [k]).length = lg.length + 1 from List.length_append] at hA; have ⟨_, _, _, p3, p4⟩ := (hB1.keep (h2 gt (by simp; have := HRR.out.kept.below.size; omega) HRR.out.thr.ne.2)).cells; have ⟨o0, o1, ⟨_, o2⟩, o3, _⟩ := hA.thr.blk.cells; have ⟨x0, x1, x2, x3, x4, x5, x6⟩ := HSP.out _ hA.prg; have hgt3 : gt < W2.heap.size := (by simp at h5; have := HRR.out.kept.below.size; omega))
            exact HRR.out.next c hk hA hgF hgt (vt5 := .slice (some ⟨gq, 0, none⟩) td.length cq) (succ := []) (by rw [List.append_nil]; exact hA.stk.alloc _) (fun j hj _ => Below.heap_alloc _ _ _ hj) (fun g hg => .inl (by injection hg with hg; exact hg.symm)) ((Below.refl _ _).alloc (Nat.zero_le _) _) (fun m => by rw [eps_iff HPK.out]; simp [CI.out]) (by simp) (by simp)
        · have i7 : IntKind.i64.wrap ((k : Int) + 1) = (k : Int) + 1 := IntWalk.i64_in _ (by omega)
          have hsl : s.data.toList.length = s.size := by simp
          have HSL := Lib.hid hsl
          clear hsl
          by_cases ci : i = s.size
          · have ci2 : ((i : Int) == (s.size : Int)) = true := by rw [ci]; simp
            have CI := Lib.hid ci
            clear ci
            go_wp2_with (at_builtin; first | (refine wpList_append_nt rfl (.tmp 47) (.tmp 49) rfl vl' lg rfl hL1 _ [k] rfl wr.heap.size (by simp) 1 rfl (by simp) (by simp; omega) ?_; intro g3 cap3 W2 h1 h2 h3 h4 h5 h6; have hA := HRR.out.after c hk hgt hgF (u := .int .i64 ((f : Int) + 1)) rfl h1 h2 h3 h6; rw [show (lg ++ [k]).length = lg.length + 1 from List.length_append] at hA; have ⟨_, _, _, p3, p4⟩ := (hB1.keep (h2 gt (by simp; have := HRR.out.kept.below.size; omega) HRR.out.thr.ne.2)).cells; have ⟨o0, o1, ⟨_, o2⟩, o3, _⟩ := hA.thr.blk.cells; have ⟨x0, x1, x2, x3, x4, x5, x6⟩ := HSP.out _ hA.prg; have hgt3 : gt < W2.heap.size := (by simp at h5; have := HRR.out.kept.below.size; omega)) | (refine wpList_append_nt rfl (.tmp 100) (.tmp 103) rfl (.slice (some ⟨gq, 0, none⟩) td.length cq) td rfl (hA.stk.alloc _) _ [k + 1] rfl (W2.heap.size + 1) (by simp) 1 rfl (by simp) (by simp; omega) ?_; intro g5 cap5 W5 e1 e2 e3 e4 e5 e6; rw [show (td ++ [k + 1]).length = td.length + 1 from List.length_append] at e1))
            exact HRR.out.next c hk hA hgF hgt e1 (fun j hj hne => (e2 j (by simp at hj ⊢; omega) (fun e => hne (by injection e with e; exact e.symm))).trans (Below.heap_alloc _ _ _ hj)) (fun g hg => by
              have e7 : g5 = g := by injection hg
              subst e7
              rcases e3 with e3 | e3
              · left; injection e3 with e3; exact e3.symm
              · right; simp at e3 ⊢; omega) (((Below.refl _ _).alloc (Nat.zero_le _) _).trans e6) (fun m => by rw [eps_iff HPK.out, HSL.out]; simp [CI.out]) (fun m hm => by simp at hm; omega) (by simp)
          · have ci2 : ((i : Int) == (s.size : Int)) = false := beq_eq_false_iff_ne.2 (by omega)
            have CI := Lib.hid ci
            clear ci
            go_wp2_with (at_builtin; refine wpList_append_nt rfl (.tmp 47) (.tmp 49) rfl vl' lg rfl hL1 _ [k] rfl wr.heap.size (by simp) 1 rfl (by simp) (by simp; omega) ?_; intro g3 cap3 W2 h1 h2 h3 h4 h5 h6; have hA := HRR.out.after c hk hgt hgF (u := .int .i64 ((f : Int) + 1)) rfl h1 h2 h3 h6; rw [show (lg ++ [k]).length = lg.length + 1 from List.length_append] at hA; have ⟨_, _, _, p3, p4⟩ := (hB1.keep (h2 gt (by simp; have := HRR.out.kept.below.size; omega) HRR.out.thr.ne.2)).cells; have ⟨o0, o1, ⟨_, o2⟩, o3, _⟩ := hA.thr.blk.cells; have ⟨x0, x1, x2, x3, x4, x5, x6⟩ := HSP.out _ hA.prg; have hgt3 : gt < W2.heap.size := (by simp at h5; have := HRR.out.kept.below.size; omega))
            exact HRR.out.next c hk hA hgF hgt (vt5 := .slice (some ⟨gq, 0, none⟩) td.length cq) (succ := []) (by rw [List.append_nil]; exact hA.stk.alloc _) (fun j hj _ => Below.heap_alloc _ _ _ hj) (fun g hg => .inl (by injection hg with hg; exact hg.symm)) ((Below.refl _ _).alloc (Nat.zero_le _) _) (fun m => by rw [eps_iff HPK.out, HSL.out]; simp [CI.out]) (by simp) (by simp)
        · go_wp2_with (at_builtin; refine wpList_append_nt rfl (.tmp 47) (.tmp 49) rfl vl' lg rfl hL1 _ [k] rfl wr.heap.size (by simp) 1 rfl (by simp) (by simp; omega) ?_; intro g3 cap3 W2 h1 h2 h3 h4 h5 h6; have hA := HRR.out.after c hk hgt hgF (u := .int .i64 ((f : Int) + 1)) rfl h1 h2 h3 h6; rw [show (lg ++ [k]).length = lg.length + 1 from List.length_append] at hA; have ⟨_, _, _, p3, p4⟩ := (hB1.keep (h2 gt (by simp; have := HRR.out.kept.below.size; omega) HRR.out.thr.ne.2)).cells; have ⟨o0, o1, ⟨_, o2⟩, o3, _⟩ := hA.thr.blk.cells; have ⟨x0, x1, x2, x3, x4, x5, x6⟩ := HSP.out _ hA.prg; have hgt3 : gt < W2.heap.size := (by simp at h5; have := HRR.out.kept.below.size; omega))
          exact HRR.out.next c hk hA hgF hgt (vt5 := .slice (some ⟨gq, 0, none⟩) td.length cq) (succ := []) (by rw [List.append_nil]; exact hA.stk.alloc _) (fun j hj _ => Below.heap_alloc _ _ _ hj) (fun g hg => .inl (by injection hg with hg; exact hg.symm)) ((Below.refl _ _).alloc (Nat.zero_le _) _) (fun m => by rw [eps_iff HPK.out]; simp) (by simp) (by simp)
      · have c1 : decide ((0 : Int) < ((G k : Nat) : Int)) = true := by simp; omega
        go_wp2_with fail
        have hR := HRR.out
        exact ⟨⟨td, G, lg, vl', hpop, hR.thr, hR.dfs.skip c, fun m hm => hR.small m (by simp [hm]), by omega, hR.prg, hR.new, hR.kept⟩, by simp [lenV]⟩
end Go.Proofs.YthfjmlcjkbgboaaGreatDoor
namespace Go.Proofs.YthfjmlcjkbgboaaGreatDoor
open Go.RowKit
theorem FromN.zero (w : World) (n : Nat) : FromN (w.alloc (.cells (List.replicate n (Value.int .i64 0)).toArray 3)) w.heap.size n (fun _ => 0) := by
  unfold FromN
  rw [heap_alloc_new]
  congr 3
  apply List.ext_getElem (by simp)
  intro i h1 h2
  simp [natV]
theorem ThM.fresh {w : World} {gt : Nat} {pv : Value} {s : ByteArray} {gF n : Nat} (hb : ThB w gt pv s gF n (.slice none 0 0)) (hf : FromN w gF n (fun _ => 0)) : ThM w gt pv s gF n (.slice none 0 0) (fun _ => 0) [] :=
  ⟨hb, hf, OwnNT.nil w, by simp [Value.ownBlock], by have := unmet_le n (fun _ => 0); simpa using this⟩
theorem ThM.keep {w w' : World} {gt : Nat} {pv : Value} {s : ByteArray} {gF n : Nat} {vl : Value} {G : Nat → Nat} {lg : List Nat} (h : ThM w gt pv s gF n vl G lg) (h1 : w'.heap[gt]? = w.heap[gt]?) (h2 : w'.heap[gF]? = w.heap[gF]?) (h3 : ∀ g, vl.ownBlock = some g → w'.heap[g]? = w.heap[g]?) : ThM w' gt pv s gF n vl G lg :=
  ⟨h.blk.keep h1, h.frm.keep h2, h.lst.keep h3, h.far, h.len⟩
theorem FromN.made {w : World} {g n : Nat} (h : w.ownsRow w.heap.size 3 1 (.slice (some ⟨g, 0, none⟩) n n) n (List.replicate n (Value.int .i64 0)) ∨ w.ownsRow 0 3 1 (.slice (some ⟨g, 0, none⟩) n n) n (List.replicate n (Value.int .i64 0))) : FromN w g n (fun _ => 0) := by
  have key : ∀ base, w.ownsRow base 3 1 (.slice (some ⟨g, 0, none⟩) n n) n (List.replicate n (Value.int .i64 0)) → FromN w g n (fun _ => 0) := fun base h => by
    rcases h.2 with ⟨h1, _⟩ | ⟨g', cap, cur, h1, _, h3, _, _, h5, h6⟩
    · cases h1
    · injection h1 with h1 _ h2
      injection h1 with h1
      injection h1 with h1
      subst h1; subst h2
      unfold FromN
      rw [h3]
      have e : cur.toList = (List.range n).map fun _ => natV 0 := by
        rw [Nat.mul_one] at h5 h6
        rw [List.take_of_length_le (by rw [Array.length_toList]; omega)] at h6
        rw [h6]
        apply List.ext_getElem (by simp)
        intro i a b
        simp [natV]
      rw [← e]
  exact h.elim (key _) (key _)
section
variable {ops : Array Oper} {rest : List Oper} {o : Oper} {a : Act} {Q : Exit → Act → World → Prop} {w : World}
theorem wpList_make_n (hgd : o.guard = none) (x y : Operand) (hop : o.op = .makeSlice 23 x y) (n g : Nat) (hg : w.heap.size = g) (hx : a.eval x = .int .i64 (n : Int)) (hy : a.eval y = .int .i64 (n : Int)) (hn : n ≤ 1048576)
    (hK : ∀ w', FromN w' g n (fun _ => 0) → Below w.heap.size w w' → g < w'.heap.size → wpList Tryz.prog ops Q rest (a.put o.dst (.slice (some ⟨g, 0, none⟩) n n)) w') :
    wpList Tryz.prog ops Q (o :: rest) a w := by
  subst hg
  obtain ⟨i0, hi, hz0, hz1, hz2⟩ := info_parts info_intN
  refine wpList_make_full w hgd x y 23 hop 0 3 i0 (.int .i64 0) 1 Tryz.underlying23 hi hz0 hz1 .i64 .i64 _ _ n hx hy rfl rfl (by rw [hz2]; omega) (by unfold maxLen; omega) (Nat.zero_le _) fun w' h1 h2 => ?_
  rw [Nat.mul_one] at h1
  have e : (madeCells (Value.int .i64 0).cells n).toList = List.replicate n (Value.int .i64 0) := toList_madeCells_one (.int .i64 0) n
  rw [e] at h1
  have hF := FromN.made (.inr h1)
  exact hK w' hF (below_none h2) (heap_lt hF)
end
/-- The place behind the new thread. -/
theorem mid_added {P : List Ins} {sl : List UInt8} {t f : Nat} {F : Nat → Nat} {ls : List Nat} {G : Nat → Nat} {lg : List Nat} (hc : CompLt P sl t F false f) (hF : Thr P sl t F ls) (hm : ∀ m, F m ≤ t) (hA : AddPost P sl t 0 t F ls G lg) :
    Comp P sl t G false f ∧ Thr P sl t G lg ∧ ∀ m, G m ≤ t + 1 :=
  have h1 : ∀ m, F m ≤ t + 1 := fun m => Nat.le_succ_of_le (hm m)
  ⟨comp_added hc hF h1 hA, hA.thr hF h1 (R.start t), hA.le h1⟩
/-- No new thread once a span is found. -/
theorem mid_found {P : List Ins} {sl : List UInt8} {t f tq N : Nat} {F : Nat → Nat} (hc : CompLt P sl t F true f) (hb : BestI P sl N (fun j => j < t) true f tq) : Comp P sl t F true f :=
  comp_found hc (by
    obtain ⟨h1, h2, _⟩ := hb.1 rfl
    have h3 := h1.le
    have h4 : tq < t := h2
    omega)
end Go.Proofs.YthfjmlcjkbgboaaGreatDoor
