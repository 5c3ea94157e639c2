/- Plain: each right tree's text is read back. -/
import Derived.Test.YtnjjchbgnmjkjaaRqn
import Derived.Test.YtnjjchbgnmjkjaaRpy
import Derived.Test.YtnjjchbgnmjkjaaRqk
namespace Go.Proofs.Ytnjjchbgnmjkjaa
section
open Go.RowKit
mutual
def hT : Tree → Nat
  | .node _ _ ts => 1 + hL ts
def hL : List Tree → Nat
  | [] => 0
  | t :: ts => max (hT t) (hL ts)
end
mutual
theorem chk_deep : ∀ (t : Tree) (deep n : Int), (chk t deep n).2 = 0 → deep + hT t ≤ 21
  | .node k s ts, deep, n, h => by
    rw [chk] at h
    rw [hT]
    by_cases c1 : 80 < n + 1
    · rw [if_pos c1] at h; exact absurd (show (2 : Int) = 0 from h) (by decide)
    rw [if_neg c1] at h
    by_cases c2 : 20 < deep
    · rw [if_pos c2] at h; exact absurd (show (11 : Int) = 0 from h) (by decide)
    rw [if_neg c2] at h
    by_cases c3 : badT k s ts.length = true
    · rw [if_pos c3] at h; exact absurd (show (1 : Int) = 0 from h) (by decide)
    rw [if_neg c3] at h
    have := chkL_deep ts (deep + 1) _ h (by omega)
    omega
theorem chkL_deep : ∀ (ts : List Tree) (deep n : Int), (chkL ts deep n).2 = 0 → deep ≤ 21 → deep + hL ts ≤ 21
  | [], deep, _, _, hd => by rw [hL]; omega
  | t :: ts, deep, n, h, hd => by
    rw [chkL] at h
    rw [hL]
    by_cases c : (chk t deep n).2 ≠ 0
    · rw [if_pos c] at h; exact absurd h c
    · rw [if_neg c] at h
      have h1 := chk_deep t deep n (by omega)
      have h2 := chkL_deep ts deep _ h hd
      omega
end
def HeadOk (T : List UInt8) : Prop := ∃ c T', T = c :: T' ∧ c ≠ 124 ∧ c ≠ 41 ∧ c ≠ 42 ∧ c ≠ 43 ∧ c ≠ 63
theorem HeadOk.app {A B : List UInt8} (h : HeadOk A) : HeadOk (A ++ B) := by
  obtain ⟨c, T, rfl, h⟩ := h
  exact ⟨c, T ++ B, rfl, h⟩
theorem head_br (l : List UInt8) : HeadOk ([40] ++ l) := ⟨40, l, rfl, by decide, by decide, by decide, by decide, by decide⟩
theorem bytes_head {f : Nat → Bool} (hS : setF f ≠ .zero) : HeadOk (bytesP f) := by
  have hcn : (itemsL f 0).2 = cnt f 256 0 := items_cnt f 257 0 (by omega) (by omega)
  unfold bytesP
  by_cases h1 : (itemsL f 0).2 = 1
  · rw [if_pos h1]
    obtain ⟨x, _, x2, _, x4⟩ := items_one1 f 257 0 (by omega) (by omega) h1
    rw [x4]
    obtain ⟨c, T, hc, hb, _⟩ := charP_head x2
    exact ⟨c, T, hc, fun e => hb (by rw [e]; decide), fun e => hb (by rw [e]; decide), fun e => hb (by rw [e]; decide), fun e => hb (by rw [e]; decide), fun e => hb (by rw [e]; decide)⟩
  rw [if_neg h1]
  split
  · exact ⟨46, [], rfl, by decide, by decide, by decide, by decide, by decide⟩
  · split
    · exact ⟨91, _, rfl, by decide, by decide, by decide, by decide, by decide⟩
    · exact ⟨91, _, rfl, by decide, by decide, by decide, by decide, by decide⟩
section
variable {s : List UInt8}
def NoPost (s : List UInt8) (p : Nat) : Prop := s[p]? ≠ some 42 ∧ s[p]? ≠ some 63 ∧ s[p]? ≠ some 43
def RowEnd (s : List UInt8) (p : Nat) : Prop := s[p]? = none ∨ s[p]? = some 124 ∨ s[p]? = some 41
def AltEnd (s : List UInt8) (p : Nat) : Prop := s[p]? = none ∨ s[p]? = some 41
theorem RowEnd.post {p : Nat} (h : RowEnd s p) : NoPost s p := by
  rcases h with h | h | h <;> (unfold NoPost; rw [h]; exact ⟨by simp, by simp, by simp⟩)
theorem AltEnd.row {p : Nat} (h : AltEnd s p) : RowEnd s p := h.imp_right .inr
theorem head_post {p : Nat} {T : List UInt8} (h : At s p T) (hh : HeadOk T) : NoPost s p := by
  obtain ⟨c, T', rfl, h1, h2, h3, h4, h5⟩ := hh
  unfold NoPost
  rw [h.head]
  exact ⟨fun e => h3 (Option.some.inj e), fun e => h5 (Option.some.inj e), fun e => h4 (Option.some.inj e)⟩
theorem nextR_err {r : RS} (h : r.e ≠ 0) : nextR s r = -1 := by unfold nextR; rw [if_neg h]
theorem nextR_not {r : RS} {c : UInt8} (h : s[r.pos]? ≠ some c) : nextR s r ≠ (c.toNat : Int) := by
  unfold nextR
  split
  · cases hc : s[r.pos]? with
    | none => dsimp only; omega
    | some d => dsimp only; rw [hc] at h; exact toNat_ne fun e => h (by rw [e])
  · omega
theorem piece_stop {x : TR} (h : NoPost s x.2.pos ∨ x.2.e ≠ 0) : pieceS s x = none := by
  unfold pieceS
  rcases h with ⟨h1, h2, h3⟩ | h
  · have n1 : nextR s x.2 ≠ 42 := nextR_not h1
    have n2 : nextR s x.2 ≠ 63 := nextR_not h2
    have n3 : nextR s x.2 ≠ 43 := nextR_not h3
    rw [if_neg n1, if_neg n2, if_neg n3]
  · rw [nextR_err h, if_neg (by decide), if_neg (by decide), if_neg (by decide)]
theorem ends_stop {r : RS} (h : RowEnd s r.pos ∨ r.e ≠ 0) : endsR s r = true := by
  by_cases he : r.e = 0
  · rcases h with h | h
    · unfold endsR nextR
      rw [if_pos he]
      rcases h with h | h | h <;> (rw [h]; rfl)
    · exact absurd he h
  · unfold endsR; rw [nextR_err he]; rfl
theorem ends_go {r : RS} {T : List UInt8} (he : r.e = 0) (h : At s r.pos T) (hh : HeadOk T) : endsR s r = false := by
  obtain ⟨c, T', rfl, h1, h2, _⟩ := hh
  unfold endsR
  rw [nextR_at he h.head]
  have n1 : (c.toNat : Int) ≠ 124 := toNat_ne h1
  have n2 : (c.toNat : Int) ≠ 41 := toNat_ne h2
  rw [decide_eq_false n1, decide_eq_false n2, decide_eq_false (by omega)]
  rfl
theorem row_stop {P : RS → TR} {x : TR} (h : RowEnd s x.2.pos ∨ x.2.e ≠ 0) : rowS s P x = none := by unfold rowS; rw [if_pos (ends_stop h)]
theorem alt_stop {R : RS → TR} {x : TR} (h : AltEnd s x.2.pos ∨ x.2.e ≠ 0) : altS s R x = none := by
  unfold altS
  have n : nextR s x.2 ≠ 124 := by
    rcases h with h | h
    · refine nextR_not (c := 124) ?_
      rcases h with h | h <;> (rw [h]; simp)
    · rw [nextR_err h]; decide
  rw [if_neg n]
/-- What is read: the tree itself, or, if it has a node that matches nothing, an error of syntax. -/
def Res (t : Tree) (r' : RS) (T : TR) : Prop := (NoN t → T = (t, r')) ∧ (¬ NoN t → T.2.e = 3)
theorem piece_of {A : RS → TR} (hA : GoodF s A) {r r' : RS} {t : Tree} (hp : r.pos ≤ s.length) (h : Res t r' (atomR s A r)) (hn : NoPost s r'.pos) : Res t r' (pieceR s A r) := by
  have g := (good_atom hA hp).1.step.inn
  refine ⟨fun h1 => ?_, fun h1 => ?_⟩
  · unfold pieceR
    rw [fixI_none (pieceS_falls s) g (piece_stop (.inl (by rw [h.1 h1]; exact hn))), h.1 h1]
  · unfold pieceR
    rw [fixI_none (pieceS_falls s) g (piece_stop (.inr (by rw [h.2 h1]; decide)))]
    exact h.2 h1
theorem row_of {d : Nat} {r r' : RS} {t : Tree} (hp : r.pos ≤ s.length) (h : Res t r' (pieceD s d r)) (he : endsR s r = false) (hn : RowEnd s r'.pos) : Res t r' (rowD s d r) := by
  have g := (good_pieceD s d r hp).1.step.inn
  have e : rowD s d r = fixI (rowS s (pieceD s d)) (leftT s) (pieceD s d r) := by unfold rowD rowR; rw [he]; rfl
  refine ⟨fun h1 => ?_, fun h1 => ?_⟩
  · rw [e, fixI_none (rowS_falls (good_pieceD s d)) g (row_stop (.inl (by rw [h.1 h1]; exact hn))), h.1 h1]
  · rw [e, fixI_none (rowS_falls (good_pieceD s d)) g (row_stop (.inr (by rw [h.2 h1]; decide)))]
    exact h.2 h1
structure Back (s : List UInt8) (t : Tree) : Prop where
  p0 : (t.kind = 1 ∨ t.kind = 3 ∨ t.kind = 7 ∨ t.kind = 8) → ∀ (A : RS → TR) (r : RS), r.e = 0 → r.pos ≤ s.length → At s r.pos (showT t) → Res t (adv r (showT t).length) (atomR s A r)
  p1 : (t.kind ≠ 2 ∧ t.kind ≠ 4 ∧ t.kind ≠ 5) → ∀ (d : Nat) (r : RS), r.e = 0 → r.pos ≤ s.length → r.op + d = 20 → hT t ≤ d + 1 → At s r.pos (showT t) → NoPost s (r.pos + (showT t).length) → Res t (adv r (showT t).length) (pieceD s d r)
  p2 : (t.kind ≠ 2 ∧ t.kind ≠ 5) → ∀ (d : Nat) (r : RS), r.e = 0 → r.pos ≤ s.length → r.op + d = 20 → hT t ≤ d + 1 → At s r.pos (showT t) → NoPost s (r.pos + (showT t).length) →
    (NoN t → fixI (rowS s (pieceD s d)) (leftT s) (pieceD s d r) = fixI (rowS s (pieceD s d)) (leftT s) (t, adv r (showT t).length)) ∧ (¬ NoN t → (fixI (rowS s (pieceD s d)) (leftT s) (pieceD s d r)).2.e = 3)
  p3 : ∀ (d : Nat) (r : RS), r.e = 0 → r.pos ≤ s.length → r.op + d = 20 → hT t ≤ d + 1 → At s r.pos (showT t) → RowEnd s (r.pos + (showT t).length) →
    (NoN t → altR s (rowD s d) r = fixI (altS s (rowD s d)) (leftT s) (t, adv r (showT t).length)) ∧ (¬ NoN t → (altR s (rowD s d) r).2.e = 3)
  head : (t.kind ≠ 2 ∧ t.kind ≠ 5) → HeadOk (showT t)
/-- In brackets. -/
theorem Back.wrap {t : Tree} (b : Back s t) {d : Nat} {r : RS} (he : r.e = 0) (hp : r.pos ≤ s.length) (hop : r.op + d = 20) (hh : hT t ≤ d) (h : At s r.pos ([40] ++ showT t ++ [41])) :
    Res t (adv r ((showT t).length + 2)) (atomR s (altD s d) r) := by
  have h1 : 1 ≤ hT t := by cases t; rw [hT]; omega
  obtain ⟨d', rfl⟩ : ∃ d', d = d' + 1 := ⟨d - 1, by omega⟩
  rw [List.append_assoc] at h
  have hn : nextR s r = 40 := nextR_at he h.left.head
  have hpl := (nextR_pos hn (by decide)).1
  have hr := h.right
  have ha := hr.left
  have hc := hr.right.head
  obtain ⟨q, hq⟩ : ∃ q : RS, q = { r with pos := r.pos + 1, op := r.op + 1 } := ⟨_, rfl⟩
  have q1 : q.e = 0 := by rw [hq]; exact he
  have q2 : q.pos = r.pos + 1 := by rw [hq]
  have q3 : q.op = r.op + 1 := by rw [hq]
  have hat : atomR s (altD s (d' + 1)) r = closeR s (altR s (rowD s d') q) := by
    unfold atomR
    rw [if_pos hn, if_neg (by omega), altD_succ, hq]
  have hc2 : s[q.pos + (showT t).length]? = some 41 := by rw [q2]; exact hc
  obtain ⟨g1, g2⟩ := b.p3 d' q q1 (by omega) (by omega) hh (by rw [q2]; exact ha) (.inr (.inr hc2))
  refine ⟨fun hN => ?_, fun hN => ?_⟩
  · have hlen : q.pos + (showT t).length ≤ s.length := (At.le (p := q.pos) (by rw [q2]; exact ha) (by omega))
    rw [hat, g1 hN, fixI_none (x := (t, adv q (showT t).length)) (altS_falls (good_rowD s d')) hlen (alt_stop (x := (t, adv q (showT t).length)) (.inl (.inr hc2)))]
    have hx : ({ (adv q (showT t).length) with op := (adv q (showT t).length).op - 1 } : RS) = adv r (1 + (showT t).length) := by
      rw [hq]; unfold adv; dsimp only; congr 1; omega
    have htk : takeR s (adv r (1 + (showT t).length)) 41 = (true, adv (adv r (1 + (showT t).length)) 1) := take_yes (c := 41) he (by
      show s[r.pos + (1 + (showT t).length)]? = _; rw [← Nat.add_assoc]; exact hc)
    unfold closeR
    rw [hx, htk, if_pos rfl, adv_adv]
    rw [show 1 + (showT t).length + 1 = (showT t).length + 2 by omega]
  · have h3 := g2 hN
    rw [hat]
    generalize altR s (rowD s d') q = T at *
    have hno : takeR s { T.2 with op := T.2.op - 1 } 41 = (false, { T.2 with op := T.2.op - 1 }) := by
      unfold takeR
      rw [nextR_err (by show T.2.e ≠ 0; rw [h3]; decide), if_neg (by decide)]
    unfold closeR
    rw [hno, if_neg (fun h => by cases h)]
    unfold failR
    rw [if_neg (by show ¬ T.2.e = 0; rw [h3]; decide)]
    exact h3
theorem br_pos {ks : List Int} {a : Int × List UInt8} (h : ks.contains a.1 = true) : brP ks a = [40] ++ a.2 ++ [41] := by unfold brP; rw [if_pos h]
theorem br_neg {ks : List Int} {a : Int × List UInt8} (h : ¬ ks.contains a.1 = true) : brP ks a = a.2 := by unfold brP; rw [if_neg h]
theorem br_len {ks : List Int} {a : Int × List UInt8} (h : ks.contains a.1 = true) : (brP ks a).length = a.2.length + 2 := by rw [br_pos h]; simp only [List.length_append, List.length_cons, List.length_nil]; omega
theorem Back.brHead {t : Tree} (b : Back s t) (ks : List Int) (h2 : ks.contains 2 = true) (h5 : ks.contains 5 = true) : HeadOk (brP ks (t.kind, showT t)) := by
  by_cases h : ks.contains t.kind = true
  · rw [br_pos (a := (t.kind, showT t)) h, List.append_assoc]; exact head_br _
  · rw [br_neg (a := (t.kind, showT t)) h]
    exact b.head ⟨fun e => h (by rw [e]; exact h2), fun e => h (by rw [e]; exact h5)⟩
/-- A piece that may stand in brackets. -/
theorem Back.piece {t : Tree} (b : Back s t) (ks : List Int) (h2 : ks.contains 2 = true) (h4 : ks.contains 4 = true) (h5 : ks.contains 5 = true) {d : Nat} {r : RS} (he : r.e = 0) (hp : r.pos ≤ s.length) (hop : r.op + d = 20) (hh : hT t ≤ d)
    (h : At s r.pos (brP ks (t.kind, showT t))) (hn : NoPost s (r.pos + (brP ks (t.kind, showT t)).length)) : Res t (adv r (brP ks (t.kind, showT t)).length) (pieceD s d r) := by
  by_cases hk : ks.contains t.kind = true
  · have hl := br_len (a := (t.kind, showT t)) hk
    rw [hl] at hn ⊢
    rw [br_pos (a := (t.kind, showT t)) hk] at h
    exact piece_of (good_altD s d) hp (b.wrap he hp hop hh h) hn
  · rw [br_neg (a := (t.kind, showT t)) hk] at h hn ⊢
    exact b.p1 ⟨fun e => hk (by rw [e]; exact h2), fun e => hk (by rw [e]; exact h4), fun e => hk (by rw [e]; exact h5)⟩ d r he hp hop (by omega) h hn
end
end

section
open Go.RowKit
theorem non_iff1 {k : Int} {S : Set4} {a : Tree} (hk : k ≠ 1) : NoN (.node k S [a]) ↔ NoN a := by
  rw [NoN, NoNK, NoNK]; exact ⟨fun h => h.2.1, fun h => ⟨hk, h, trivial⟩⟩
theorem non_iff2 {k : Int} {S : Set4} {a b : Tree} (hk : k ≠ 1) : NoN (.node k S [a, b]) ↔ NoN a ∧ NoN b := by
  rw [NoN, NoNK, NoNK, NoNK]; exact ⟨fun h => ⟨h.2.1, h.2.2.1⟩, fun h => ⟨hk, h.1, h.2, trivial⟩⟩
theorem set_zero {k : Int} {S : Set4} {n : Nat} (h : badT k S n = false) (hk : k ≠ 3) : S = .zero := by
  unfold badT at h
  rw [Bool.or_eq_false_iff] at h
  have h2 := h.2
  rw [beq_eq_false_iff_ne.2 hk] at h2
  by_cases e : S = .zero
  · exact e
  · rw [decide_eq_false e] at h2; cases h2
theorem set_some {S : Set4} {n : Nat} (h : badT 3 S n = false) : S ≠ .zero := fun e => by
  unfold badT at h
  rw [Bool.or_eq_false_iff] at h
  have h2 := h.2
  rw [decide_eq_true e] at h2
  cases h2
section
variable {s : List UInt8}
/-- From what a piece reads to what a row reads, and on. -/
theorem p2_of {t : Tree} (h1 : ∀ (d : Nat) (r : RS), r.e = 0 → r.pos ≤ s.length → r.op + d = 20 → hT t ≤ d + 1 → At s r.pos (showT t) → NoPost s (r.pos + (showT t).length) → Res t (adv r (showT t).length) (pieceD s d r))
    (d : Nat) (r : RS) (he : r.e = 0) (hp : r.pos ≤ s.length) (hop : r.op + d = 20) (hh : hT t ≤ d + 1) (h : At s r.pos (showT t)) (hn : NoPost s (r.pos + (showT t).length)) :
    (NoN t → fixI (rowS s (pieceD s d)) (leftT s) (pieceD s d r) = fixI (rowS s (pieceD s d)) (leftT s) (t, adv r (showT t).length)) ∧ (¬ NoN t → (fixI (rowS s (pieceD s d)) (leftT s) (pieceD s d r)).2.e = 3) := by
  have g := (good_pieceD s d r hp).1.step.inn
  have hr := h1 d r he hp hop hh h hn
  refine ⟨fun hN => by rw [hr.1 hN], fun hN => ?_⟩
  rw [fixI_none (rowS_falls (good_pieceD s d)) g (row_stop (.inr (by rw [hr.2 hN]; decide)))]
  exact hr.2 hN
theorem row_from {t : Tree} (hd : HeadOk (showT t)) (h2 : ∀ (d : Nat) (r : RS), r.e = 0 → r.pos ≤ s.length → r.op + d = 20 → hT t ≤ d + 1 → At s r.pos (showT t) → NoPost s (r.pos + (showT t).length) →
    (NoN t → fixI (rowS s (pieceD s d)) (leftT s) (pieceD s d r) = fixI (rowS s (pieceD s d)) (leftT s) (t, adv r (showT t).length)) ∧ (¬ NoN t → (fixI (rowS s (pieceD s d)) (leftT s) (pieceD s d r)).2.e = 3))
    (d : Nat) (r : RS) (he : r.e = 0) (hp : r.pos ≤ s.length) (hop : r.op + d = 20) (hh : hT t ≤ d + 1) (h : At s r.pos (showT t)) (hn : RowEnd s (r.pos + (showT t).length)) : Res t (adv r (showT t).length) (rowD s d r) := by
  obtain ⟨g1, g2⟩ := h2 d r he hp hop hh h hn.post
  have e : rowD s d r = fixI (rowS s (pieceD s d)) (leftT s) (pieceD s d r) := by unfold rowD rowR; rw [ends_go he h hd]; rfl
  refine ⟨fun hN => ?_, fun hN => by rw [e]; exact g2 hN⟩
  rw [e, g1 hN, fixI_none (x := (t, adv r (showT t).length)) (rowS_falls (good_pieceD s d)) (h.le hp) (row_stop (x := (t, adv r (showT t).length)) (.inl hn))]
theorem p3_of {t : Tree} (h1 : ∀ (d : Nat) (r : RS), r.e = 0 → r.pos ≤ s.length → r.op + d = 20 → hT t ≤ d + 1 → At s r.pos (showT t) → RowEnd s (r.pos + (showT t).length) → Res t (adv r (showT t).length) (rowD s d r))
    (d : Nat) (r : RS) (he : r.e = 0) (hp : r.pos ≤ s.length) (hop : r.op + d = 20) (hh : hT t ≤ d + 1) (h : At s r.pos (showT t)) (hn : RowEnd s (r.pos + (showT t).length)) :
    (NoN t → altR s (rowD s d) r = fixI (altS s (rowD s d)) (leftT s) (t, adv r (showT t).length)) ∧ (¬ NoN t → (altR s (rowD s d) r).2.e = 3) := by
  have g := (good_rowD s d r hp).step.inn
  have hr := h1 d r he hp hop hh h hn
  unfold altR
  refine ⟨fun hN => by rw [hr.1 hN], fun hN => ?_⟩
  rw [fixI_none (altS_falls (good_rowD s d)) g (alt_stop (.inr (by rw [hr.2 hN]; decide)))]
  exact hr.2 hN
/-- From the atom of a kind that needs no brackets. -/
theorem back_leaf {t : Tree} (hk : t.kind = 1 ∨ t.kind = 3 ∨ t.kind = 7 ∨ t.kind = 8) (hd : HeadOk (showT t))
    (h0 : ∀ (A : RS → TR) (r : RS), r.e = 0 → r.pos ≤ s.length → At s r.pos (showT t) → Res t (adv r (showT t).length) (atomR s A r)) : Back s t := by
  have p1 : ∀ (d : Nat) (r : RS), r.e = 0 → r.pos ≤ s.length → r.op + d = 20 → hT t ≤ d + 1 → At s r.pos (showT t) → NoPost s (r.pos + (showT t).length) → Res t (adv r (showT t).length) (pieceD s d r) := fun d r he hp _ _ h hn =>
    piece_of (good_altD s d) hp (h0 _ r he hp h) hn
  exact ⟨fun _ => h0, fun _ => p1, fun _ => p2_of p1, p3_of (row_from hd (p2_of p1)), fun _ => hd⟩
theorem back_sign {k : Int} {c : UInt8} {S : Set4} (hk : k = 7 ∧ c = 94 ∨ k = 8 ∧ c = 36) (hS : S = .zero) : Back s (.node k S []) := by
  have hsh : showT (.node k S []) = [c] := by rw [showT]; rcases hk with ⟨rfl, rfl⟩ | ⟨rfl, rfl⟩ <;> rfl
  have hN : NoN (.node k S []) := non_leaf _ (by omega)
  refine back_leaf (by show k = 1 ∨ k = 3 ∨ k = 7 ∨ k = 8; omega) ?_ fun A r he hp h => ?_
  · rw [hsh]
    rcases hk with ⟨_, rfl⟩ | ⟨_, rfl⟩
    · exact ⟨94, [], rfl, by decide, by decide, by decide, by decide, by decide⟩
    · exact ⟨36, [], rfl, by decide, by decide, by decide, by decide, by decide⟩
  · rw [hsh] at h ⊢
    refine ⟨fun _ => ?_, fun h => absurd hN h⟩
    have hn := nextR_at he h.head
    subst hS
    unfold atomR
    rw [hn]
    rcases hk with ⟨rfl, rfl⟩ | ⟨rfl, rfl⟩
    · rw [if_neg (by decide), if_neg (by decide), if_pos (by decide)]; rfl
    · rw [if_neg (by decide), if_neg (by decide), if_neg (by decide), if_pos (by decide)]; rfl
theorem back_byte {S : Set4} (hw : S.Wf) (hS : S ≠ .zero) : Back s (.node 3 S []) := by
  have hsh : showT (.node 3 S []) = bytesP (memF S) := by rw [showT]; rfl
  have hm := set_mem hw
  refine back_leaf (.inr (.inl rfl)) ?_ fun A r he hp h => ?_
  · rw [hsh]; exact bytes_head (by rw [hm]; exact hS)
  · rw [hsh] at h ⊢
    refine ⟨fun _ => ?_, fun h => absurd (non_leaf _ (by decide)) h⟩
    rw [bytes_back he hp (by rw [hm]; exact hS) h]
    unfold byT
    rw [hm]
theorem none_text : noneP = [91] ++ ([94] ++ (charP 0 ++ ([45] ++ (charP 255 ++ [93])))) := by decide +kernel
theorem full_zero : setF (fun x => !(rgF 0 255 x)) = .zero := by
  rw [← setF_none]
  refine setF_congr fun x hx => ?_
  unfold rgF
  rw [decide_eq_true (Nat.zero_le x), decide_eq_true (show x ≤ 255 by omega)]; rfl
theorem back_none {S : Set4} : Back s (.node 1 S []) := by
  have hsh : showT (.node 1 S []) = noneP := by rw [showT]; rfl
  have hN : ¬ NoN (.node 1 S []) := by rw [NoN]; exact fun h => h.1 rfl
  refine back_leaf (.inl rfl) ?_ fun A r he hp h => ?_
  · rw [hsh]; exact ⟨91, _, rfl, by decide, by decide, by decide, by decide, by decide⟩
  · refine ⟨fun h => absurd h hN, fun _ => ?_⟩
    rw [hsh, none_text] at h
    rw [class_at he h.left]
    have h1 := h.right
    have htk : takeR s (adv r 1) 94 = (true, adv (adv r 1) 1) := take_yes (c := 94) he h1.left.head
    have h2 := h1.right
    obtain ⟨q, hq⟩ : ∃ q, adv (adv r 1) 1 = q := ⟨_, rfl⟩
    have hqe : q.e = 0 := by rw [← hq]; exact he
    have hqp : q.pos ≤ s.length := by rw [← hq]; exact h1.left.le (h.left.le hp)
    have h3 : At s q.pos (charP 0 ++ ([45] ++ (charP 255 ++ [93]))) := by rw [← hq]; exact h2
    rw [hq] at htk
    have hr := round_rng hqe (show 0 ≤ 255 by omega) (show 255 < 256 by omega) h3
    have hl := loop_one (first := true) (F := fun _ => false) hqp hqe (not_93 hqe (show 0 < 256 by omega) h3) hr
    have h93 : s[(adv q ((charP 0).length + 1 + (charP 255).length)).pos]? = some 93 := by
      have := h3.right.right.right.head
      show s[q.pos + ((charP 0).length + 1 + (charP 255).length)]? = _
      rw [← this]; congr 1
    have hp3 : (adv q ((charP 0).length + 1 + (charP 255).length)).pos ≤ s.length := Nat.le_of_lt (List.getElem?_eq_some_iff.1 h93).1
    have hl2 : loopL s (adv q ((charP 0).length + 1 + (charP 255).length)) false (fun x => false || rgF 0 255 x) = (fun x => false || rgF 0 255 x, adv q ((charP 0).length + 1 + (charP 255).length)) := by
      rw [loop_eq hp3, if_neg (fun h => by rcases h.2 with h | h; cases h; exact h (nextR_at (r := adv q ((charP 0).length + 1 + (charP 255).length)) (c := 93) hqe h93))]
    have hcf : classF s (adv r 1) = fun x => !(false || rgF 0 255 x) := by unfold classF; rw [htk, hl, hl2]; rfl
    have hz : setF (classF s (adv r 1)) = .zero := by rw [hcf, ← full_zero]; exact setF_congr fun x _ => by simp
    have hce : classE s (adv r 1) = failR (adv q ((charP 0).length + 1 + (charP 255).length)) 3 := by unfold classE; rw [if_pos hz, htk, hl, hl2]
    have hfe : (failR (adv q ((charP 0).length + 1 + (charP 255).length)) 3).e = 3 := by unfold failR; rw [if_pos (show (adv q ((charP 0).length + 1 + (charP 255).length)).e = 0 from hqe)]
    show ((takeR s (classE s (adv r 1)) 93).2).e = 3
    rw [hce]
    unfold takeR
    rw [nextR_err (by rw [hfe]; decide), if_neg (by decide)]
    exact hfe
theorem back_empty {S : Set4} (hS : S = .zero) : Back s (.node 2 S []) := by
  subst hS
  have hsh : showT (.node 2 .zero []) = [] := by rw [showT]; rfl
  refine ⟨fun h => absurd h (show ¬ ((2 : Int) = 1 ∨ (2 : Int) = 3 ∨ (2 : Int) = 7 ∨ (2 : Int) = 8) by decide), fun h => absurd rfl h.1, fun h => absurd rfl h.1, p3_of fun d r he hp _ _ _ hn => ?_, fun h => absurd rfl h.1⟩
  rw [hsh] at hn ⊢
  refine ⟨fun _ => ?_, fun h => absurd (non_leaf _ (by decide)) h⟩
  unfold rowD rowR
  rw [ends_stop (.inl hn)]
  rfl
theorem back_star {a : Tree} {S : Set4} (hS : S = .zero) (ba : Back s a) (hka : a.kind = 1 ∨ a.kind = 2 ∨ a.kind = 3 ∨ a.kind = 4 ∨ a.kind = 5 ∨ a.kind = 6 ∨ a.kind = 7 ∨ a.kind = 8) : Back s (.node 6 S [a]) := by
  subst hS
  have hsh : showT (.node 6 .zero [a]) = brP [2, 4, 5, 6] (a.kind, showT a) ++ [42] := by rw [showT, showL, showL]; rfl
  have hd : HeadOk (showT (.node 6 .zero [a])) := by rw [hsh]; exact (ba.brHead [2, 4, 5, 6] rfl rfl).app
  have hN : NoN (.node 6 .zero [a]) ↔ NoN a := non_iff1 (by decide)
  have hh6 : hT (.node 6 .zero [a]) = 1 + hT a := by rw [hT, hL, hL]; omega
  have p1 : ∀ (d : Nat) (r : RS), r.e = 0 → r.pos ≤ s.length → r.op + d = 20 → hT (.node 6 .zero [a]) ≤ d + 1 → At s r.pos (showT (.node 6 .zero [a])) → NoPost s (r.pos + (showT (.node 6 .zero [a])).length) → Res (.node 6 .zero [a]) (adv r (showT (.node 6 .zero [a])).length) (pieceD s d r) := fun d r he hp hop hh h hn => by
    rw [hsh] at h hn ⊢
    have ha : Res a (adv r (brP [2, 4, 5, 6] (a.kind, showT a)).length) (atomR s (altD s d) r) := by
      have hl := h.left
      by_cases hk : ([2, 4, 5, 6] : List Int).contains a.kind = true
      · rw [br_len (a := (a.kind, showT a)) hk]
        rw [br_pos (a := (a.kind, showT a)) hk] at hl
        exact ba.wrap he hp hop (by omega) hl
      · rw [br_neg (a := (a.kind, showT a)) hk] at hl ⊢
        have : a.kind = 1 ∨ a.kind = 3 ∨ a.kind = 7 ∨ a.kind = 8 := by
          rcases hka with e | e | e | e | e | e | e | e
          · exact .inl e
          · exact absurd (by rw [e]; rfl) hk
          · exact .inr (.inl e)
          · exact absurd (by rw [e]; rfl) hk
          · exact absurd (by rw [e]; rfl) hk
          · exact absurd (by rw [e]; rfl) hk
          · exact .inr (.inr (.inl e))
          · exact .inr (.inr (.inr e))
        exact ba.p0 this _ r he hp hl
    have g := (good_atom (good_altD s d) hp).1.step.inn
    refine ⟨fun h1 => ?_, fun h1 => ?_⟩
    · have e1 := ha.1 (hN.1 h1)
      have hst : pieceS s (a, adv r (brP [2, 4, 5, 6] (a.kind, showT a)).length) = some (stT a, adv r (brP [2, 4, 5, 6] (a.kind, showT a) ++ [42]).length) := by
        have hnx : nextR s (adv r (brP [2, 4, 5, 6] (a.kind, showT a)).length) = 42 := nextR_at (r := adv r (brP [2, 4, 5, 6] (a.kind, showT a)).length) (c := 42) he h.right.head
        unfold pieceS
        rw [if_pos hnx]
        rw [List.length_append, List.length_singleton, ← adv_adv]
        rfl
      unfold pieceD pieceR
      rw [e1]
      rw [e1] at g
      have hin : InR s (stT a, adv r (brP [2, 4, 5, 6] (a.kind, showT a) ++ [42]).length) := h.le hp
      have hnone : pieceS s (stT a, adv r (brP [2, 4, 5, 6] (a.kind, showT a) ++ [42]).length) = none := piece_stop (.inl hn)
      rw [fixI_some (pieceS_falls s) g hst, fixI_none (pieceS_falls s) hin hnone]
      rfl
    · have e1 := ha.2 (fun h2 => h1 (hN.2 h2))
      unfold pieceD pieceR
      rw [fixI_none (pieceS_falls s) g (piece_stop (.inr (by rw [e1]; decide)))]
      exact e1
  exact ⟨fun h => absurd h (show ¬ ((6 : Int) = 1 ∨ (6 : Int) = 3 ∨ (6 : Int) = 7 ∨ (6 : Int) = 8) by decide), fun _ => p1, fun _ => p2_of p1, p3_of (row_from hd (p2_of p1)), fun _ => hd⟩
theorem back_cat {a b : Tree} {S : Set4} (hS : S = .zero) (ba : Back s a) (bb : Back s b) : Back s (.node 4 S [a, b]) := by
  subst hS
  have hsh : showT (.node 4 .zero [a, b]) = brP [2, 5] (a.kind, showT a) ++ brP [2, 5, 4] (b.kind, showT b) := by rw [showT, showL, showL, showL]; rfl
  have hda := ba.brHead [2, 5] rfl rfl
  have hdb := bb.brHead [2, 5, 4] rfl rfl
  have hd : HeadOk (showT (.node 4 .zero [a, b])) := by rw [hsh]; exact hda.app
  have hN : NoN (.node 4 .zero [a, b]) ↔ NoN a ∧ NoN b := non_iff2 (by decide)
  have hh4 : hT (.node 4 .zero [a, b]) = 1 + max (hT a) (hT b) := by rw [hT, hL, hL, hL]; omega
  have p2 : ∀ (d : Nat) (r : RS), r.e = 0 → r.pos ≤ s.length → r.op + d = 20 → hT (.node 4 .zero [a, b]) ≤ d + 1 → At s r.pos (showT (.node 4 .zero [a, b])) → NoPost s (r.pos + (showT (.node 4 .zero [a, b])).length) →
      (NoN (.node 4 .zero [a, b]) → fixI (rowS s (pieceD s d)) (leftT s) (pieceD s d r) = fixI (rowS s (pieceD s d)) (leftT s) (.node 4 .zero [a, b], adv r (showT (.node 4 .zero [a, b])).length)) ∧ (¬ NoN (.node 4 .zero [a, b]) → (fixI (rowS s (pieceD s d)) (leftT s) (pieceD s d r)).2.e = 3) := fun d r he hp hop hh h hn => by
    rw [hsh] at h hn ⊢
    obtain ⟨la, hla⟩ : ∃ la, (brP [2, 5] (a.kind, showT a)).length = la := ⟨_, rfl⟩
    have hl := h.left
    have hr := h.right
    rw [hla] at hr
    have hnp : NoPost s (r.pos + la) := head_post hr hdb
    -- the left part
    have hA : (NoN a → fixI (rowS s (pieceD s d)) (leftT s) (pieceD s d r) = fixI (rowS s (pieceD s d)) (leftT s) (a, adv r la)) ∧ (¬ NoN a → (fixI (rowS s (pieceD s d)) (leftT s) (pieceD s d r)).2.e = 3) := by
      by_cases hk : ([2, 5] : List Int).contains a.kind = true
      · rw [br_pos (a := (a.kind, showT a)) hk] at hl
        rw [br_len (a := (a.kind, showT a)) hk] at hla
        have hw := piece_of (good_altD s d) hp (ba.wrap he hp hop (by omega) hl) (show NoPost s (r.pos + ((showT a).length + 2)) by rw [show (showT a).length + 2 = la from hla]; exact hnp)
        rw [show (showT a).length + 2 = la from hla] at hw
        have g := (good_pieceD s d r hp).1.step.inn
        refine ⟨fun h1 => by rw [show pieceD s d r = _ from hw.1 h1], fun h1 => ?_⟩
        have e3 : (pieceD s d r).2.e = 3 := hw.2 h1
        rw [fixI_none (rowS_falls (good_pieceD s d)) g (row_stop (.inr (by rw [e3]; decide)))]
        exact e3
      · rw [br_neg (a := (a.kind, showT a)) hk] at hl hla
        have := ba.p2 ⟨fun e => hk (by rw [e]; rfl), fun e => hk (by rw [e]; rfl)⟩ d r he hp hop (by omega) hl (by rw [show (showT a).length = la from hla]; exact hnp)
        rw [show (showT a).length = la from hla] at this
        exact this
    have hpa : r.pos + la ≤ s.length := by rw [← hla]; exact h.left.le hp
    have hB := bb.piece [2, 5, 4] rfl rfl rfl (d := d) (r := adv r la) he hpa hop (by omega) hr (by
      rw [List.length_append, hla, ← Nat.add_assoc] at hn; exact hn)
    rw [adv_adv, ← hla, ← List.length_append] at hB
    have hst : ∀ T, pieceD s d (adv r la) = T → rowS s (pieceD s d) (a, adv r la) = some (jnT a T.1, T.2) := fun T hT => by
      unfold rowS
      rw [show endsR s (a, adv r la).2 = false from ends_go (r := adv r la) he hr hdb, if_neg (by decide)]
      show some (jnT a (pieceD s d (adv r la)).1, (pieceD s d (adv r la)).2) = _
      rw [hT]
    refine ⟨fun h1 => ?_, fun h1 => ?_⟩
    · obtain ⟨n1, n2⟩ := hN.1 h1
      have e5 : pieceD s d (adv r la) = (b, adv r (brP [2, 5] (a.kind, showT a) ++ brP [2, 5, 4] (b.kind, showT b)).length) := by rw [← hla]; exact hB.1 n2
      rw [hA.1 n1, fixI_some (x := (a, adv r la)) (rowS_falls (good_pieceD s d)) hpa (hst _ e5)]
      rfl
    · by_cases n1 : NoN a
      · have n2 : ¬ NoN b := fun n2 => h1 (hN.2 ⟨n1, n2⟩)
        have e3 : (pieceD s d (adv r la)).2.e = 3 := by rw [← hla]; exact hB.2 n2
        have g := (good_pieceD s d (adv r la) hpa).1.step.inn
        rw [hA.1 n1, fixI_some (x := (a, adv r la)) (rowS_falls (good_pieceD s d)) hpa (hst _ rfl), fixI_none (x := (jnT a (pieceD s d (adv r la)).1, (pieceD s d (adv r la)).2)) (rowS_falls (good_pieceD s d)) g (row_stop (.inr (by show (pieceD s d (adv r la)).2.e ≠ 0; rw [e3]; decide)))]
        exact e3
      · exact hA.2 n1
  exact ⟨fun h => absurd h (show ¬ ((4 : Int) = 1 ∨ (4 : Int) = 3 ∨ (4 : Int) = 7 ∨ (4 : Int) = 8) by decide), fun h => absurd rfl h.2.1, fun _ => p2, p3_of (row_from hd p2), fun _ => hd⟩
theorem back_alt {a b : Tree} {S : Set4} (hS : S = .zero) (ba : Back s a) (bb : Back s b) (hb2 : b.kind = 2 → b = emT) : Back s (.node 5 S [a, b]) := by
  subst hS
  have hsh : showT (.node 5 .zero [a, b]) = showT a ++ [124] ++ brP [5] (b.kind, showT b) := by rw [showT, showL, showL, showL]; rfl
  have hN : NoN (.node 5 .zero [a, b]) ↔ NoN a ∧ NoN b := non_iff2 (by decide)
  have hh5 : hT (.node 5 .zero [a, b]) = 1 + max (hT a) (hT b) := by rw [hT, hL, hL, hL]; omega
  refine ⟨fun h => absurd h (show ¬ ((5 : Int) = 1 ∨ (5 : Int) = 3 ∨ (5 : Int) = 7 ∨ (5 : Int) = 8) by decide), fun h => absurd rfl h.2.2, fun h => absurd rfl h.2, fun d r he hp hop hh h hn => ?_, fun h => absurd rfl h.2⟩
  rw [hsh] at h hn ⊢
  rw [List.append_assoc] at h
  obtain ⟨la, hla⟩ : ∃ la, (showT a).length = la := ⟨_, rfl⟩
  have hl := h.left
  have h124 : s[r.pos + la]? = some 124 := by rw [← hla]; exact h.right.left.head
  obtain ⟨g1, g2⟩ := ba.p3 d r he hp hop (by omega) hl (by rw [hla]; exact .inr (.inl h124))
  rw [hla] at g1
  have hpa : r.pos + la ≤ s.length := by rw [← hla]; exact hl.le hp
  have hrb : At s (adv r (la + 1)).pos (brP [5] (b.kind, showT b)) := by
    have := h.right.right
    rw [hla] at this
    show At s (r.pos + (la + 1)) _
    rw [← Nat.add_assoc]; exact this
  have hpb : (adv r (la + 1)).pos ≤ s.length := by have := (List.getElem?_eq_some_iff.1 h124).1; show r.pos + (la + 1) ≤ _; omega
  have hlen : (showT a ++ [124] ++ brP [5] (b.kind, showT b)).length = la + 1 + (brP [5] (b.kind, showT b)).length := by rw [List.length_append, List.length_append, hla]; rfl
  rw [hlen] at hn ⊢
  have hnb : RowEnd s ((adv r (la + 1)).pos + (brP [5] (b.kind, showT b)).length) := by
    show RowEnd s (r.pos + (la + 1) + _)
    rw [Nat.add_assoc]; exact hn
  have hB : Res b (adv r (la + 1 + (brP [5] (b.kind, showT b)).length)) (rowD s d (adv r (la + 1))) := by
    rw [← adv_adv]
    by_cases hk : ([5] : List Int).contains b.kind = true
    · have hl5 := br_len (a := (b.kind, showT b)) hk
      have hrb2 := hrb
      rw [br_pos (a := (b.kind, showT b)) hk] at hrb2
      rw [hl5] at hnb ⊢
      have hw := piece_of (good_altD s d) hpb (bb.wrap he hpb hop (by omega) hrb2) hnb.post
      exact row_of hpb hw (ends_go he hrb2 (by rw [List.append_assoc]; exact head_br _)) hnb
    · rw [br_neg (a := (b.kind, showT b)) hk] at hrb hnb ⊢
      have h5 : b.kind ≠ 5 := fun e => hk (by rw [e]; rfl)
      by_cases h2 : b.kind = 2
      · have hbe := hb2 h2
        have hse : showT b = [] := by rw [hbe]; unfold emT; rw [showT]; rfl
        dsimp only at hnb ⊢
        rw [hse] at hnb ⊢
        refine ⟨fun _ => ?_, fun h => absurd (by rw [hbe]; exact non_leaf _ (by decide)) h⟩
        unfold rowD rowR
        rw [ends_stop (.inl hnb), if_pos rfl, hbe]
        rfl
      · exact row_from (bb.head ⟨h2, h5⟩) (bb.p2 ⟨h2, h5⟩) d _ he hpb hop (by omega) hrb hnb
  have hst : ∀ T, rowD s d (adv r (la + 1)) = T → altS s (rowD s d) (a, adv r la) = some (orT a T.1, T.2) := fun T hT => by
    have hnx : nextR s (adv r la) = 124 := nextR_at (r := adv r la) (c := 124) he h124
    have hon : onR (adv r la) = adv r (la + 1) := rfl
    unfold altS
    rw [if_pos hnx]
    show some (orT a (rowD s d (onR (adv r la))).1, (rowD s d (onR (adv r la))).2) = _
    rw [hon, hT]
  refine ⟨fun h1 => ?_, fun h1 => ?_⟩
  · obtain ⟨n1, n2⟩ := hN.1 h1
    rw [g1 n1, fixI_some (x := (a, adv r la)) (altS_falls (good_rowD s d)) hpa (hst _ (hB.1 n2))]
    rfl
  · by_cases n1 : NoN a
    · have n2 : ¬ NoN b := fun n2 => h1 (hN.2 ⟨n1, n2⟩)
      have e3 := hB.2 n2
      have g := (good_rowD s d (adv r (la + 1)) hpb).step.inn
      rw [g1 n1, fixI_some (x := (a, adv r la)) (altS_falls (good_rowD s d)) hpa (hst _ rfl), fixI_none (x := (orT a (rowD s d (adv r (la + 1))).1, (rowD s d (adv r (la + 1))).2)) (altS_falls (good_rowD s d)) g (alt_stop (.inr (by show (rowD s d (adv r (la + 1))).2.e ≠ 0; rw [e3]; decide)))]
      exact e3
    · exact g2 n1
end
theorem fine_kind {t : Tree} (h : Fine t) : t.kind = 1 ∨ t.kind = 2 ∨ t.kind = 3 ∨ t.kind = 4 ∨ t.kind = 5 ∨ t.kind = 6 ∨ t.kind = 7 ∨ t.kind = 8 := by
  cases t with
  | node k S ts =>
    rw [Fine] at h
    show k = 1 ∨ k = 2 ∨ k = 3 ∨ k = 4 ∨ k = 5 ∨ k = 6 ∨ k = 7 ∨ k = 8
    rcases fine_cases h.1 with ⟨h1, _⟩ | ⟨h1, _⟩ | ⟨h1, _⟩ <;> omega
theorem fine_empty {t : Tree} (h : Fine t) (h2 : t.kind = 2) : t = emT := by
  cases t with
  | node k S ts =>
    have hk : k = 2 := h2
    subst hk
    rw [Fine] at h
    rcases fine_cases h.1 with ⟨_, h1⟩ | ⟨h1, _⟩ | ⟨h1, _⟩
    · rw [List.eq_nil_of_length_eq_zero h1, set_zero h.1 (by decide)]; rfl
    · omega
    · omega
theorem back_any (s : List UInt8) : ∀ (t : Tree), Fine t → WfT t → Back s t
  | .node k S ts, hf, hw => by
    have hf2 := hf
    rw [Fine] at hf2
    rw [WfT] at hw
    obtain ⟨hb, hfl⟩ := hf2
    rcases fine_cases hb with ⟨h1, h2⟩ | ⟨h1, h2⟩ | ⟨h1, h2⟩
    · have hts := List.eq_nil_of_length_eq_zero h2
      subst hts
      rcases h1 with rfl | rfl | rfl | rfl | rfl
      · exact back_none
      · exact back_empty (set_zero hb (by decide))
      · exact back_byte hw.1 (set_some hb)
      · exact back_sign (.inl ⟨rfl, rfl⟩) (set_zero hb (by decide))
      · exact back_sign (.inr ⟨rfl, rfl⟩) (set_zero hb (by decide))
    · obtain ⟨a, rfl⟩ := len_one h2
      subst h1
      rw [FineL, FineL] at hfl
      have hwl := hw.2
      rw [WfL, WfL] at hwl
      exact back_star (set_zero hb (by decide)) (back_any s a hfl.1 hwl.1) (fine_kind hfl.1)
    · obtain ⟨a, b, rfl⟩ := len_two h2
      rw [FineL, FineL, FineL] at hfl
      have hwl := hw.2
      rw [WfL, WfL, WfL] at hwl
      rcases h1 with rfl | rfl
      · exact back_cat (set_zero hb (by decide)) (back_any s a hfl.1 hwl.1) (back_any s b hfl.2.1 hwl.2.1)
      · exact back_alt (set_zero hb (by decide)) (back_any s a hfl.1 hwl.1) (back_any s b hfl.2.1 hwl.2.1) (fine_empty hfl.2.1)
end
end Go.Proofs.Ytnjjchbgnmjkjaa
