/- Plain: what the reader reads as trees. -/
import Derived.Test.YtnjjchbgnmjkjaaRdp
import Derived.Test.YtnjjchbgnmjkjaaRds
namespace Go.Proofs.Ytnjjchbgnmjkjaa
open Go.RowKit

/-! Rounds until none is left. -/
def iterI {α : Type} (step : α → Option α) : Nat → α → α
  | 0, x => x
  | n + 1, x => match step x with
    | none => x
    | some y => iterI step n y
def fixI {α : Type} (step : α → Option α) (m : α → Nat) (x : α) : α := iterI step (m x) x
structure Falls {α : Type} (I : α → Prop) (step : α → Option α) (m : α → Nat) : Prop where
  keep : ∀ x y, I x → step x = some y → I y
  less : ∀ x y, I x → step x = some y → m y < m x
theorem iterI_fuel {α : Type} {I : α → Prop} {step : α → Option α} {m : α → Nat} (h : Falls I step m) : ∀ (n k : Nat) (x : α), I x → m x ≤ n → m x ≤ k → iterI step n x = iterI step k x
  | 0, 0, _, _, _, _ => rfl
  | 0, k + 1, x, hx, h1, _ => by
    rw [iterI, iterI]
    cases hs : step x with
    | none => rfl
    | some y => exact absurd (h.less x y hx hs) (by omega)
  | n + 1, 0, x, hx, _, h2 => by
    rw [iterI, iterI]
    cases hs : step x with
    | none => rfl
    | some y => exact absurd (h.less x y hx hs) (by omega)
  | n + 1, k + 1, x, hx, h1, h2 => by
    rw [iterI, iterI]
    cases hs : step x with
    | none => rfl
    | some y =>
      have := h.less x y hx hs
      exact iterI_fuel h n k y (h.keep x y hx hs) (by omega) (by omega)
theorem fixI_eq {α : Type} {I : α → Prop} {step : α → Option α} {m : α → Nat} (h : Falls I step m) {x : α} (hx : I x) : fixI step m x = match step x with | none => x | some y => fixI step m y := by
  unfold fixI
  cases hs : step x with
  | none =>
    cases m x with
    | zero => rfl
    | succ k => rw [iterI, hs]
  | some y =>
    have h1 := h.less x y hx hs
    obtain ⟨k, hk⟩ : ∃ k, m x = k + 1 := ⟨m x - 1, by omega⟩
    rw [hk, iterI, hs]
    exact iterI_fuel h k (m y) y (h.keep x y hx hs) (by omega) (Nat.le_refl _)
theorem fixI_none {α : Type} {I : α → Prop} {step : α → Option α} {m : α → Nat} (h : Falls I step m) {x : α} (hx : I x) (hs : step x = none) : fixI step m x = x := by rw [fixI_eq h hx, hs]
theorem fixI_some {α : Type} {I : α → Prop} {step : α → Option α} {m : α → Nat} (h : Falls I step m) {x y : α} (hx : I x) (hs : step x = some y) : fixI step m x = fixI step m y := by rw [fixI_eq h hx, hs]
theorem iterI_keeps {α : Type} {Q : α → Prop} {step : α → Option α} (h : ∀ x y, Q x → step x = some y → Q y) : ∀ (n : Nat) (x : α), Q x → Q (iterI step n x)
  | 0, _, hx => hx
  | n + 1, x, hx => by
    rw [iterI]
    cases hs : step x with
    | none => exact hx
    | some y => exact iterI_keeps h n y (h x y hx hs)
theorem fixI_keeps {α : Type} {Q : α → Prop} {step : α → Option α} {m : α → Nat} (h : ∀ x y, Q x → step x = some y → Q y) {x : α} (hx : Q x) : Q (fixI step m x) := iterI_keeps h _ _ hx

abbrev TR := Tree × RS
def emT : Tree := .node 2 .zero []
def kT (k : Int) : Tree := .node k .zero []
def byT (f : Nat → Bool) : Tree := .node 3 (setF f) []
def onR (r : RS) : RS := { r with pos := r.pos + 1 }
def againT (t : Tree) : Tree := if sizeT t 0 ≤ 80 then t else emT
def stT (t : Tree) : Tree := .node 6 .zero [t]
def jnT (t u : Tree) : Tree := .node 4 .zero [t, u]
def orT (t u : Tree) : Tree := .node 5 .zero [t, u]
def leftT (s : List UInt8) (x : TR) : Nat := leftC s x.2
def lessF : Nat → Bool := rgF 10 10

def closeR (s : List UInt8) (T : TR) : TR :=
  (T.1, if (takeR s { T.2 with op := T.2.op - 1 } 41).1 = true then (takeR s { T.2 with op := T.2.op - 1 } 41).2 else failR { T.2 with op := T.2.op - 1 } 3)
def baseR (s : List UInt8) (r : RS) : TR :=
  match (groupR s r).1 with
  | some f => (byT f, (groupR s r).2)
  | none => (byT (rgF (charR s r).1.toNat (charR s r).1.toNat), (charR s r).2)
def atomR (s : List UInt8) (A : RS → TR) (r : RS) : TR :=
  if nextR s r = 40 then (if r.op = 20 then (kT 0, failR r 11) else closeR s (A { r with pos := r.pos + 1, op := r.op + 1 }))
  else if nextR s r = 46 then (byT (fun x => !(rgF 10 10 x)), onR r)
  else if nextR s r = 94 then (kT 7, onR r)
  else if nextR s r = 36 then (kT 8, onR r)
  else if nextR s r = 91 then (byT (classR s (onR r)).1, (classR s (onR r)).2)
  else baseR s r
def pieceS (s : List UInt8) (x : TR) : Option TR :=
  if nextR s x.2 = 42 then some (stT x.1, onR x.2)
  else if nextR s x.2 = 63 then some (orT x.1 emT, onR x.2)
  else if nextR s x.2 = 43 then some (jnT x.1 (stT (againT x.1)), onR x.2)
  else none
def pieceR (s : List UInt8) (A : RS → TR) (r : RS) : TR := fixI (pieceS s) (leftT s) (atomR s A r)
def rowS (s : List UInt8) (P : RS → TR) (x : TR) : Option TR := if endsR s x.2 = true then none else some (jnT x.1 (P x.2).1, (P x.2).2)
def rowR (s : List UInt8) (P : RS → TR) (r : RS) : TR := if endsR s r = true then (emT, r) else fixI (rowS s P) (leftT s) (P r)
def altS (s : List UInt8) (R : RS → TR) (x : TR) : Option TR := if nextR s x.2 = 124 then some (orT x.1 (R (onR x.2)).1, (R (onR x.2)).2) else none
def altR (s : List UInt8) (R : RS → TR) (r : RS) : TR := fixI (altS s R) (leftT s) (R r)
/-- With so many brackets that may be opened, and one more. -/
def altD (s : List UInt8) : Nat → RS → TR
  | 0, r => (kT 0, r)
  | d + 1, r => altR s (rowR s (pieceR s (altD s d))) r
def pieceD (s : List UInt8) (d : Nat) : RS → TR := pieceR s (altD s d)
def rowD (s : List UInt8) (d : Nat) : RS → TR := rowR s (pieceD s d)
theorem altD_succ (s : List UInt8) (d : Nat) (r : RS) : altD s (d + 1) r = altR s (rowD s d) r := rfl

mutual
/-- No node is of the kind that matches nothing. -/
def NoN : Tree → Prop
  | .node k _ ts => k ≠ 1 ∧ NoNK ts
def NoNK : List Tree → Prop
  | [] => True
  | t :: ts => NoN t ∧ NoNK ts
end
structure GoodT (s : List UInt8) (r : RS) (T : TR) : Prop where
  step : Step s r T.2
  few : FewT T.1
  non : NoN T.1
def GoodF (s : List UInt8) (A : RS → TR) : Prop := ∀ r : RS, r.pos ≤ s.length → GoodT s r (A r)
def ProgF (s : List UInt8) (A : RS → TR) : Prop := ∀ r : RS, r.pos ≤ s.length → r.pos < (A r).2.pos ∨ (A r).2.e ≠ 0
theorem few_leaf (k : Int) (S : Set4) : FewT (.node k S []) := by rw [FewT, FewK]; exact ⟨by simp, trivial⟩
theorem non_leaf {k : Int} (S : Set4) (h : k ≠ 1) : NoN (.node k S []) := by rw [NoN, NoNK]; exact ⟨h, trivial⟩
theorem few_one {k : Int} {S : Set4} {t : Tree} (h : FewT t) : FewT (.node k S [t]) := by rw [FewT, FewK, FewK]; exact ⟨by simp, h, trivial⟩
theorem non_one {k : Int} {S : Set4} {t : Tree} (hk : k ≠ 1) (h : NoN t) : NoN (.node k S [t]) := by rw [NoN, NoNK, NoNK]; exact ⟨hk, h, trivial⟩
theorem few_two {k : Int} {S : Set4} {t u : Tree} (h : FewT t) (h2 : FewT u) : FewT (.node k S [t, u]) := by rw [FewT, FewK, FewK, FewK]; exact ⟨by simp, h, h2, trivial⟩
theorem non_two {k : Int} {S : Set4} {t u : Tree} (hk : k ≠ 1) (h : NoN t) (h2 : NoN u) : NoN (.node k S [t, u]) := by rw [NoN, NoNK, NoNK, NoNK]; exact ⟨hk, h, h2, trivial⟩
theorem few_again {t : Tree} (h : FewT t) : FewT (againT t) := by unfold againT; split; exact h; exact few_leaf _ _
theorem non_again {t : Tree} (h : NoN t) : NoN (againT t) := by unfold againT; split; exact h; exact non_leaf _ (by decide)
theorem on_step {s : List UInt8} {r : RS} {b : Int} (h : nextR s r = b) (hb : 0 ≤ b) : Step s r (onR r) ∧ r.pos < (onR r).pos ∧ r.e = 0 := by
  obtain ⟨h1, h2⟩ := nextR_pos h hb
  exact ⟨step_on h1, Nat.lt_succ_self _, h2⟩
theorem ends_e {s : List UInt8} {r : RS} (h : endsR s r = false) : r.e = 0 := by
  by_cases he : r.e = 0
  · exact he
  · have : nextR s r = -1 := by unfold nextR; rw [if_neg he]
    unfold endsR at h
    rw [this] at h
    exact absurd h (by decide)
theorem good_close {s : List UInt8} {r : RS} {T : TR} (hn : nextR s r = 40) (h : GoodT s { r with pos := r.pos + 1, op := r.op + 1 } T) : GoodT s r (closeR s T) ∧ (r.pos < (closeR s T).2.pos ∨ (closeR s T).2.e ≠ 0) := by
  obtain ⟨hp, he⟩ := nextR_pos hn (by decide)
  have hs := h.step
  have hop : T.2.op - 1 = r.op := by have : T.2.op = r.op + 1 := hs.op; omega
  have hle : r.pos + 1 ≤ T.2.pos := hs.le
  have h1 : Step s r { T.2 with op := T.2.op - 1 } := ⟨hs.inn, by show r.pos ≤ T.2.pos; omega, hop, fun e => absurd he e⟩
  have h2 := (take_step h1.inn (b := 41) (by decide)).1
  have h3 : Step s r (closeR s T).2 ∧ r.pos < (closeR s T).2.pos := by
    unfold closeR
    dsimp only
    split
    · exact ⟨h1.trans h2, Nat.lt_of_lt_of_le (show r.pos < T.2.pos by omega) h2.le⟩
    · exact ⟨h1.trans (step_fail h1.inn 3 (by decide)), by rw [(failR_facts _ 3 (by decide)).1]; show r.pos < T.2.pos; omega⟩
  exact ⟨⟨h3.1, h.few, h.non⟩, .inl h3.2⟩
theorem good_base {s : List UInt8} {r : RS} (h : r.pos ≤ s.length) : GoodT s r (baseR s r) ∧ (r.pos < (baseR s r).2.pos ∨ (baseR s r).2.e ≠ 0) := by
  obtain ⟨g1, g2, g3⟩ := group_step h
  obtain ⟨c1, c2, c3⟩ := char_step h
  unfold baseR
  cases hg : (groupR s r).1 with
  | some f => exact ⟨⟨g1, few_leaf _ _, non_leaf _ (by decide)⟩, .inl (g3 f hg).1⟩
  | none => exact ⟨⟨c1, few_leaf _ _, non_leaf _ (by decide)⟩, c2⟩
theorem good_atom {s : List UInt8} {A : RS → TR} (hA : GoodF s A) {r : RS} (h : r.pos ≤ s.length) : GoodT s r (atomR s A r) ∧ (r.pos < (atomR s A r).2.pos ∨ (atomR s A r).2.e ≠ 0) := by
  unfold atomR
  by_cases h1 : nextR s r = 40
  · rw [if_pos h1]
    by_cases h2 : r.op = 20
    · rw [if_pos h2]
      exact ⟨⟨step_fail h 11 (by decide), few_leaf _ _, non_leaf _ (by decide)⟩, .inr (failR_facts r 11 (by decide)).2.2⟩
    · rw [if_neg h2]
      exact good_close h1 (hA _ (nextR_pos h1 (by decide)).1)
  rw [if_neg h1]
  have leaf : ∀ (b k : Int) (S : Set4), 0 ≤ b → k ≠ 1 → nextR s r = b → GoodT s r (.node k S [], onR r) ∧ (r.pos < (onR r).pos ∨ (onR r).e ≠ 0) := fun b k S hb hk hn =>
    ⟨⟨(on_step hn hb).1, few_leaf _ _, non_leaf _ hk⟩, .inl (on_step hn hb).2.1⟩
  by_cases h2 : nextR s r = 46
  · rw [if_pos h2]; exact leaf 46 _ _ (by decide) (by decide) h2
  rw [if_neg h2]
  by_cases h3 : nextR s r = 94
  · rw [if_pos h3]; exact leaf 94 _ _ (by decide) (by decide) h3
  rw [if_neg h3]
  by_cases h4 : nextR s r = 36
  · rw [if_pos h4]; exact leaf 36 _ _ (by decide) (by decide) h4
  rw [if_neg h4]
  by_cases h5 : nextR s r = 91
  · rw [if_pos h5]
    obtain ⟨o1, o2, _⟩ := on_step h5 (by decide)
    have c := class_step o1.inn
    exact ⟨⟨o1.trans c, few_leaf _ _, non_leaf _ (by decide)⟩, .inl (Nat.lt_of_lt_of_le o2 c.le)⟩
  · rw [if_neg h5]; exact good_base h
theorem left_on {s : List UInt8} {r : RS} {b : Int} (h : nextR s r = b) (hb : 0 ≤ b) : leftC s (onR r) < leftC s r := by
  obtain ⟨h1, h2⟩ := nextR_pos h hb
  unfold leftC
  rw [if_pos h2, if_pos (show (onR r).e = 0 from h2)]
  show s.length - (r.pos + 1) + 1 < _
  omega
theorem left_mono {s : List UInt8} {a b : RS} (h : Step s a b) : leftC s b ≤ leftC s a := by
  have h1 := h.le
  have h2 := h.inn
  unfold leftC
  by_cases ha : a.e = 0
  · rw [if_pos ha]
    by_cases hb : b.e = 0
    · rw [if_pos hb]; omega
    · rw [if_neg hb]; omega
  · rw [if_neg ha, if_neg (h.keep ha)]; exact Nat.le_refl _
theorem left_prog {s : List UInt8} {a b : RS} (h : Step s a b) (ha : a.e = 0) (hp : a.pos < b.pos ∨ b.e ≠ 0) : leftC s b < leftC s a := by
  have h2 := h.inn
  unfold leftC
  rw [if_pos ha]
  by_cases hb : b.e = 0
  · rw [if_pos hb]
    rcases hp with hp | hp
    · omega
    · exact absurd hb hp
  · rw [if_neg hb]; omega
def InR (s : List UInt8) (x : TR) : Prop := x.2.pos ≤ s.length
theorem pieceS_cases {s : List UInt8} {x y : TR} (h : pieceS s x = some y) : ∃ b, 0 ≤ b ∧ nextR s x.2 = b ∧ y.2 = onR x.2 ∧ (FewT x.1 → FewT y.1) ∧ (NoN x.1 → NoN y.1) := by
  unfold pieceS at h
  by_cases h1 : nextR s x.2 = 42
  · rw [if_pos h1] at h
    obtain rfl := Option.some.inj h
    exact ⟨42, by decide, h1, rfl, few_one, non_one (by decide)⟩
  rw [if_neg h1] at h
  by_cases h2 : nextR s x.2 = 63
  · rw [if_pos h2] at h
    obtain rfl := Option.some.inj h
    exact ⟨63, by decide, h2, rfl, fun q => few_two q (few_leaf _ _), fun q => non_two (by decide) q (non_leaf _ (by decide))⟩
  rw [if_neg h2] at h
  by_cases h3 : nextR s x.2 = 43
  · rw [if_pos h3] at h
    obtain rfl := Option.some.inj h
    exact ⟨43, by decide, h3, rfl, fun q => few_two q (few_one (few_again q)), fun q => non_two (by decide) q (non_one (by decide) (non_again q))⟩
  · rw [if_neg h3] at h; cases h
theorem pieceS_falls (s : List UInt8) : Falls (InR s) (pieceS s) (leftT s) where
  keep x y hx h := by
    obtain ⟨b, hb, hn, hy, _⟩ := pieceS_cases h
    unfold InR
    rw [hy]
    exact (on_step hn hb).1.inn
  less x y hx h := by
    obtain ⟨b, hb, hn, hy, _⟩ := pieceS_cases h
    unfold leftT
    rw [hy]
    exact left_on hn hb
theorem good_pieceS {s : List UInt8} {r : RS} {x y : TR} (g : GoodT s r x) (h : pieceS s x = some y) : GoodT s r y ∧ x.2.pos < y.2.pos := by
  obtain ⟨b, hb, hn, hy, h1, h2⟩ := pieceS_cases h
  obtain ⟨o1, o2, _⟩ := on_step hn hb
  refine ⟨⟨?_, h1 g.few, h2 g.non⟩, by rw [hy]; exact o2⟩
  rw [hy]
  exact g.step.trans o1
theorem good_piece {s : List UInt8} {A : RS → TR} (hA : GoodF s A) {r : RS} (h : r.pos ≤ s.length) : GoodT s r (pieceR s A r) ∧ (r.pos < (pieceR s A r).2.pos ∨ (pieceR s A r).2.e ≠ 0) := by
  have g := good_atom hA h
  unfold pieceR
  refine fixI_keeps (Q := fun T => GoodT s r T ∧ (r.pos < T.2.pos ∨ T.2.e ≠ 0)) (fun x y hx hs => ?_) g
  obtain ⟨g1, g2⟩ := good_pieceS hx.1 hs
  exact ⟨g1, .inl (Nat.lt_of_le_of_lt hx.1.step.le g2)⟩
def PieceF (s : List UInt8) (P : RS → TR) : Prop := ∀ r : RS, r.pos ≤ s.length → GoodT s r (P r) ∧ (r.pos < (P r).2.pos ∨ (P r).2.e ≠ 0)
theorem rowS_some {s : List UInt8} {P : RS → TR} {x y : TR} (h : rowS s P x = some y) : endsR s x.2 = false ∧ y = (jnT x.1 (P x.2).1, (P x.2).2) := by
  unfold rowS at h
  cases he : endsR s x.2 with
  | true => rw [he, if_pos rfl] at h; cases h
  | false => rw [he, if_neg (by decide)] at h; exact ⟨rfl, (Option.some.inj h).symm⟩
theorem rowS_falls {s : List UInt8} {P : RS → TR} (hP : PieceF s P) : Falls (InR s) (rowS s P) (leftT s) where
  keep x y hx h := by
    obtain ⟨_, rfl⟩ := rowS_some h
    exact (hP x.2 hx).1.step.inn
  less x y hx h := by
    obtain ⟨he, rfl⟩ := rowS_some h
    exact left_prog (hP x.2 hx).1.step (ends_e he) (hP x.2 hx).2
theorem good_row {s : List UInt8} {P : RS → TR} (hP : PieceF s P) : GoodF s (rowR s P) := by
  intro r h
  unfold rowR
  cases he : endsR s r with
  | true => rw [if_pos rfl]; exact ⟨Step.refl h, few_leaf _ _, non_leaf _ (by decide)⟩
  | false =>
    rw [if_neg (by decide)]
    refine fixI_keeps (Q := GoodT s r) (fun x y hx hs => ?_) (hP r h).1
    obtain ⟨_, rfl⟩ := rowS_some hs
    have := (hP x.2 hx.step.inn).1
    exact ⟨hx.step.trans this.step, few_two hx.few this.few, non_two (by decide) hx.non this.non⟩
theorem altS_some {s : List UInt8} {R : RS → TR} {x y : TR} (h : altS s R x = some y) : nextR s x.2 = 124 ∧ y = (orT x.1 (R (onR x.2)).1, (R (onR x.2)).2) := by
  unfold altS at h
  by_cases he : nextR s x.2 = 124
  · rw [if_pos he] at h; exact ⟨he, (Option.some.inj h).symm⟩
  · rw [if_neg he] at h; cases h
theorem altS_falls {s : List UInt8} {R : RS → TR} (hR : GoodF s R) : Falls (InR s) (altS s R) (leftT s) where
  keep x y hx h := by
    obtain ⟨hn, rfl⟩ := altS_some h
    exact (hR _ (on_step hn (by decide)).1.inn).step.inn
  less x y hx h := by
    obtain ⟨hn, rfl⟩ := altS_some h
    have o := on_step hn (by decide)
    exact Nat.lt_of_le_of_lt (left_mono (hR _ o.1.inn).step) (left_on hn (by decide))
theorem good_alt {s : List UInt8} {R : RS → TR} (hR : GoodF s R) : GoodF s (altR s R) := by
  intro r h
  unfold altR
  refine fixI_keeps (Q := GoodT s r) (fun x y hx hs => ?_) (hR r h)
  obtain ⟨hn, rfl⟩ := altS_some hs
  have o := on_step hn (by decide)
  have := hR _ o.1.inn
  exact ⟨hx.step.trans (o.1.trans this.step), few_two hx.few this.few, non_two (by decide) hx.non this.non⟩
theorem good_altD (s : List UInt8) : ∀ d, GoodF s (altD s d)
  | 0 => fun r h => ⟨Step.refl h, few_leaf _ _, non_leaf _ (by decide)⟩
  | d + 1 => good_alt (good_row fun r h => good_piece (good_altD s d) h)
theorem good_pieceD (s : List UInt8) (d : Nat) : PieceF s (pieceD s d) := fun _ h => good_piece (good_altD s d) h
theorem good_rowD (s : List UInt8) (d : Nat) : GoodF s (rowD s d) := good_row (good_pieceD s d)
end Go.Proofs.Ytnjjchbgnmjkjaa
