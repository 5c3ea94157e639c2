/- One request, plainly: what is read at a text's front; more text behind changes nothing; a beginning asks for more. -/
import Derived.Test.YtchoenfclfafiaaDoorHedP
import Derived.Test.YtchoenfclfafiaaDoorFrmL
import Derived.Test.YtchoenfclfafiaaDoorFOf
import Derived.Lib.IndexMore
namespace Go.Proofs.YtchoenfclfafiaaDoor
open Go.RowKit

theorem chunks_ne : ∀ (f : Nat) {l : List UInt8} {room : Int} {e : Int}, chunksR f l room = .inl e → e ≠ 0
  | 0, l, room, e, h => by unfold chunksR at h; cases h; decide
  | f + 1, l, room, e, h => by
    unfold chunksR at h
    split at h
    · rename_i h1; cases h; exact h1
    · split at h
      · cases h
      · cases hr : chunksR f (l.drop (chunkR l room).c) (room - (chunkR l room).n) with
        | inl e' => rw [hr] at h; cases h; exact chunks_ne f hr
        | inr p => rw [hr] at h; cases h
theorem decGo_range : ∀ (l : List UInt8) (v w : Int), 0 ≤ v → numGo 10 l v = some w → 0 ≤ w ∧ w < (v + 1) * 10 ^ l.length
  | [], v, w, hv, h => by
    unfold numGo at h
    have e : v = w := Option.some.inj h
    subst e
    rw [List.length_nil, Int.pow_zero]
    omega
  | b :: l, v, w, hv, h => by
    unfold numGo at h
    split at h
    · cases h
    · rename_i hd
      have := decGo_range l _ w (by omega) h
      refine ⟨this.1, ?_⟩
      rw [List.length_cons, Int.pow_succ']
      have hp : (0 : Int) < 10 ^ l.length := Int.pow_pos (by decide)
      have h2 : (v * 10 + digitI b + 1) * 10 ^ l.length ≤ ((v + 1) * 10) * 10 ^ l.length := Int.mul_le_mul_of_nonneg_right (by omega) (Int.le_of_lt hp)
      rw [← Int.mul_assoc]
      omega
theorem decV_range {l : List UInt8} {n : Int} (h : numL 10 9 l = some n) : 0 ≤ n ∧ n < 1000000000 := by
  unfold numL at h
  split at h
  · cases h
  · rename_i hl
    obtain ⟨h1, h2⟩ := decGo_range l 0 n (Int.le_refl _) h
    refine ⟨h1, ?_⟩
    have h3 : (10 : Nat) ^ l.length ≤ 10 ^ 9 := Nat.pow_le_pow_right (by decide) (by omega)
    have h4 : (10 : Int) ^ l.length = ((10 ^ l.length : Nat) : Int) := by simp
    rw [h4] at h2
    omega
/-- The body: its bytes, and how many were read. -/
def bodyR (r : Int × Int × Int) (l : List UInt8) (most : Int) : Told :=
  if r.2.2 ≠ 0 then .inl r.2.2 else if r.1 = 1 then .inr ([], 0) else if r.1 = 3 then chunksL l (max most 0)
  else if most < r.2.1 then .inl 6 else if (l.length : Int) < r.2.1 then .inl 7 else .inr (l.take r.2.1.toNat, r.2.1.toNat)
def framed (h : HeadV) : Int × Int × Int := ofL (getL h.fs clen) (getL h.fs tenc)
structure ReqV where
  h : HeadV
  b : List UInt8
def cutAt (l : List UInt8) (H : Int) : List UInt8 := l.take (min (l.length : Int) H).toNat
def oneR (l : List UInt8) (H B : Int) : Except Int (ReqV × Nat) :=
  if Lib.index (cutAt l H) endL < 0 then (if H ≤ (l.length : Int) then .error 5 else .error 7)
  else match parseH (l.take ((Lib.index (cutAt l H) endL).toNat + 4)) with
    | .error e => .error e
    | .ok h => match bodyR (framed h) (l.drop ((Lib.index (cutAt l H) endL).toNat + 4)) B with
      | .inl e => .error e
      | .inr (t, k) => .ok (⟨h, t⟩, (Lib.index (cutAt l H) endL).toNat + 4 + k)
def boundsB (H B A : Int) : Bool := decide (30 ≤ H) && decide (H ≤ 4096) && (decide (0 ≤ B) && decide (B ≤ 4096)) && (decide (1 ≤ A) && decide (A ≤ 40))

theorem ofL_cases (S C : List ByteArray) : (ofL S C).2.2 = 4 ∨ ((ofL S C).2.2 = 0 ∧ ((ofL S C).1 = 1 ∨ (ofL S C).1 = 3 ∨ ((ofL S C).1 = 2 ∧ 0 ≤ (ofL S C).2.1 ∧ (ofL S C).2.1 < 1000000000))) := by
  match S, C with
  | [], [] => exact .inr ⟨rfl, .inl rfl⟩
  | [], [c] =>
    rw [of_one]
    split
    · exact .inr ⟨rfl, .inr (.inl rfl)⟩
    · exact .inl rfl
  | [], _ :: _ :: _ => exact .inl rfl
  | _ :: _, _ :: _ => exact .inl rfl
  | s :: S, [] =>
    rw [of_len]
    cases hn : numL 10 9 s.data.toList with
    | none => exact .inl rfl
    | some n =>
      dsimp only
      split
      · exact .inl rfl
      · refine .inr ⟨rfl, .inr (.inr ⟨rfl, ?_⟩)⟩
        exact decV_range hn
theorem body_ne {r : Int × Int × Int} {l : List UInt8} {B e : Int} (h : bodyR r l B = .inl e) : e ≠ 0 := by
  unfold bodyR at h
  split at h
  · cases h; assumption
  · split at h
    · cases h
    · split at h
      · exact chunks_ne _ h
      · split at h
        · cases h; decide
        · split at h
          · cases h; decide
          · cases h
theorem one_ne {l : List UInt8} {H B e : Int} (h : oneR l H B = .error e) : e ≠ 0 := by
  unfold oneR at h
  split at h
  · split at h <;> cases h <;> decide
  · split at h
    · rename_i e' he
      cases h
      rcases parse_err he with h | h <;> rw [h] <;> decide
    · split at h
      · rename_i e' he
        cases h
        exact body_ne he
      · cases h
theorem body_more {r : Int × Int × Int} {l x : List UInt8} {B : Int} {t : List UInt8} {k : Nat} (h : bodyR r l B = .inr (t, k)) : bodyR r (l ++ x) B = .inr (t, k) := by
  unfold bodyR at h ⊢
  by_cases c1 : r.2.2 ≠ 0
  · rw [if_pos c1] at h; cases h
  · rw [if_neg c1] at h ⊢
    by_cases c2 : r.1 = 1
    · rw [if_pos c2] at h ⊢; exact h
    · rw [if_neg c2] at h ⊢
      by_cases c3 : r.1 = 3
      · rw [if_pos c3] at h ⊢; exact chunksL_more_text _ _ _ _ _ h
      · rw [if_neg c3] at h ⊢
        by_cases c4 : B < r.2.1
        · rw [if_pos c4] at h; cases h
        · rw [if_neg c4] at h ⊢
          by_cases c5 : (l.length : Int) < r.2.1
          · rw [if_pos c5] at h; cases h
          · rw [if_neg c5] at h
            rw [if_neg (by rw [List.length_append]; omega), List.take_append_of_le_length (by omega)]
            exact h
theorem body_cut {r : Int × Int × Int} {l : List UInt8} {B : Int} {t : List UInt8} {k j : Nat} (h : bodyR r l B = .inr (t, k)) (hj : j < k) : bodyR r (l.take j) B = .inl 7 := by
  unfold bodyR at h ⊢
  by_cases c1 : r.2.2 ≠ 0
  · rw [if_pos c1] at h; cases h
  · rw [if_neg c1] at h ⊢
    by_cases c2 : r.1 = 1
    · rw [if_pos c2] at h; cases h; omega
    · rw [if_neg c2] at h ⊢
      by_cases c3 : r.1 = 3
      · rw [if_pos c3] at h ⊢; exact chunksL_cut _ _ _ _ _ h hj
      · rw [if_neg c3] at h ⊢
        by_cases c4 : B < r.2.1
        · rw [if_pos c4] at h; cases h
        · rw [if_neg c4] at h ⊢
          by_cases c5 : (l.length : Int) < r.2.1
          · rw [if_pos c5] at h; cases h
          · rw [if_neg c5] at h
            injection h with h
            injection h with h1 h2
            rw [if_pos (by rw [List.length_take]; omega)]
theorem body_len {r : Int × Int × Int} {l : List UInt8} {B : Int} {t : List UInt8} {k : Nat} (hB : 0 ≤ B) (h : bodyR r l B = .inr (t, k)) : (t.length : Int) ≤ B ∧ k ≤ l.length := by
  unfold bodyR at h
  by_cases c1 : r.2.2 ≠ 0
  · rw [if_pos c1] at h; cases h
  · rw [if_neg c1] at h
    by_cases c2 : r.1 = 1
    · rw [if_pos c2] at h; cases h; exact ⟨by simpa using hB, Nat.zero_le _⟩
    · rw [if_neg c2] at h
      by_cases c3 : r.1 = 3
      · rw [if_pos c3] at h
        have := chunksL_range _ _ _ _ h
        omega
      · rw [if_neg c3] at h
        by_cases c4 : B < r.2.1
        · rw [if_pos c4] at h; cases h
        · rw [if_neg c4] at h
          by_cases c5 : (l.length : Int) < r.2.1
          · rw [if_pos c5] at h; cases h
          · rw [if_neg c5] at h
            injection h with h
            injection h with h1 h2
            rw [← h1, ← h2, List.length_take]
            omega
theorem ofL_pos (S C : List ByteArray) : 0 ≤ (ofL S C).2.1 := by
  match S, C with
  | [], [] => exact Int.le_refl _
  | [], [c] => rw [of_one]; split <;> exact Int.le_refl _
  | [], _ :: _ :: _ => exact Int.le_refl _
  | _ :: _, _ :: _ => exact Int.le_refl _
  | s :: S, [] =>
    rw [of_len]
    cases hn : numL 10 9 s.data.toList with
    | none => exact Int.le_refl _
    | some n =>
      dsimp only
      split
      · exact Int.le_refl _
      · exact (decV_range hn).1

/-! The end of a head. -/
theorem occ_take {l : List UInt8} {n i : Nat} (h : Lib.occAt (l.take n) endL i = true) : Lib.occAt l endL i = true ∧ i + 4 ≤ n ∧ i + 4 ≤ l.length := by
  unfold Lib.occAt at h ⊢
  rw [List.isPrefixOf_iff_prefix] at h ⊢
  have hlen := h.length_le
  rw [List.length_drop, List.length_take] at hlen
  have h4 : endL.length = 4 := rfl
  refine ⟨?_, by omega, by omega⟩
  rw [List.drop_take] at h
  exact h.trans (List.take_prefix _ _)
theorem occ_in {l : List UInt8} {n i : Nat} (h : Lib.occAt l endL i = true) (hn : i + 4 ≤ n) : Lib.occAt (l.take n) endL i = true := by
  unfold Lib.occAt at h ⊢
  rw [List.isPrefixOf_iff_prefix] at h ⊢
  rw [List.drop_take]
  obtain ⟨r, hr⟩ := h
  rw [← hr]
  have h4 : endL.length = 4 := rfl
  rw [List.take_append]
  exact ⟨r.take (n - i - endL.length), by rw [List.take_of_length_le (l := endL) (by omega)]⟩
/-- Where the first one stands. -/
def FirstEnd (l : List UInt8) (i : Nat) : Prop := Lib.occAt l endL i = true ∧ ∀ j, j < i → Lib.occAt l endL j = false
theorem index_pos {l : List UInt8} {i : Nat} (h : Lib.index l endL = (i : Int)) : FirstEnd l i := by
  rcases Lib.index_spec l endL with ⟨h1, _⟩ | ⟨k, h1, _, h3, h4⟩
  · rw [h1] at h; omega
  · have : k = i := by omega
    subst this
    exact ⟨h3, h4⟩
theorem index_first {l : List UInt8} {i : Nat} (h : FirstEnd l i) : Lib.index l endL = (i : Int) := by
  rcases Lib.index_spec l endL with ⟨_, h2⟩ | ⟨k, h1, hk, h3, h4⟩
  · have hi : i ≤ l.length := by
      have := h.1
      unfold Lib.occAt at this
      rw [List.isPrefixOf_iff_prefix] at this
      have hl := this.length_le
      rw [List.length_drop] at hl
      have : endL.length = 4 := rfl
      omega
    have := h.1
    rw [h2 i hi] at this
    cases this
  · rcases Nat.lt_trichotomy k i with hlt | he | hgt
    · have := h.2 k hlt; rw [h3] at this; cases this
    · rw [h1, he]
    · have := h4 i hgt; rw [h.1] at this; cases this
theorem index_no {l : List UInt8} (h : ∀ i, Lib.occAt l endL i = false) : Lib.index l endL < 0 := by
  rcases Lib.index_spec l endL with ⟨h1, _⟩ | ⟨k, _, _, h3, _⟩
  · omega
  · rw [h k] at h3; cases h3
theorem first_take {l : List UInt8} {n i : Nat} (h : FirstEnd (l.take n) i) : FirstEnd l i ∧ i + 4 ≤ n ∧ i + 4 ≤ l.length := by
  obtain ⟨h1, h2, h3⟩ := occ_take h.1
  refine ⟨⟨h1, fun j hj => ?_⟩, h2, h3⟩
  cases hq : Lib.occAt l endL j with
  | false => rfl
  | true => have := occ_in hq (by omega : j + 4 ≤ n); rw [h.2 j hj] at this; cases this
theorem first_in {l : List UInt8} {n i : Nat} (h : FirstEnd l i) (hn : i + 4 ≤ n) : FirstEnd (l.take n) i := by
  refine ⟨occ_in h.1 hn, fun j hj => ?_⟩
  cases hq : Lib.occAt (l.take n) endL j with
  | false => rfl
  | true => have := (occ_take hq).1; rw [h.2 j hj] at this; cases this
/-- The head's end in a text: what a reading that goes on says. -/
structure HeadEnd (l : List UInt8) (H : Int) (i : Nat) : Prop where
  first : FirstEnd l i
  fits : ((i + 4 : Nat) : Int) ≤ H
  len : i + 4 ≤ l.length
theorem headEnd_iff {l : List UInt8} {H : Int} {i : Nat} (hH : 0 ≤ H) : Lib.index (cutAt l H) endL = (i : Int) ↔ HeadEnd l H i := by
  unfold cutAt
  constructor
  · intro h
    obtain ⟨h1, h2, h3⟩ := first_take (index_pos h)
    exact ⟨h1, by omega, h3⟩
  · intro h
    have := h.fits
    have := h.len
    exact index_first (first_in h.first (by omega))
theorem one_at {l : List UInt8} {H B : Int} {i : Nat} (hH : 0 ≤ H) (h : HeadEnd l H i) : oneR l H B = match parseH (l.take (i + 4)) with
    | .error e => .error e
    | .ok h => match bodyR (framed h) (l.drop (i + 4)) B with
      | .inl e => .error e
      | .inr (t, k) => .ok (⟨h, t⟩, i + 4 + k) := by
  unfold oneR
  rw [(headEnd_iff hH).2 h, if_neg (by omega), Int.toNat_natCast]
theorem one_ok {l : List UInt8} {H B : Int} {q : ReqV} {n : Nat} (hH : 0 ≤ H) (h : oneR l H B = .ok (q, n)) :
    ∃ i k, HeadEnd l H i ∧ parseH (l.take (i + 4)) = .ok q.h ∧ bodyR (framed q.h) (l.drop (i + 4)) B = .inr (q.b, k) ∧ n = i + 4 + k := by
  have h0 := h
  unfold oneR at h
  split at h
  · split at h <;> cases h
  · rename_i hx
    obtain ⟨i, hi⟩ : ∃ i : Nat, Lib.index (cutAt l H) endL = (i : Int) := ⟨(Lib.index (cutAt l H) endL).toNat, by omega⟩
    have he := (headEnd_iff hH).1 hi
    rw [one_at hH he] at h0
    split at h0
    · cases h0
    · rename_i g hg
      split at h0
      · cases h0
      · rename_i t k hb
        cases h0
        exact ⟨i, k, he, hg, hb, rfl⟩
/-- More text behind changes nothing. -/
theorem one_more {l x : List UInt8} {H B : Int} {q : ReqV} {n : Nat} (hH : 0 ≤ H) (h : oneR l H B = .ok (q, n)) : oneR (l ++ x) H B = .ok (q, n) := by
  obtain ⟨i, k, he, hp, hb, rfl⟩ := one_ok hH h
  have hlen := he.len
  have hoc : ∀ j, j + 4 ≤ l.length → Lib.occAt (l ++ x) endL j = Lib.occAt l endL j := fun j hj => by
    unfold Lib.occAt
    rw [List.drop_append_of_le_length (by omega), Bool.eq_iff_iff, List.isPrefixOf_iff_prefix, List.isPrefixOf_iff_prefix]
    constructor
    · intro hp
      exact List.prefix_of_prefix_length_le hp (List.prefix_append _ _) (by rw [List.length_drop]; show 4 ≤ _; omega)
    · intro hp; exact hp.trans (List.prefix_append _ _)
  have he2 : HeadEnd (l ++ x) H i := ⟨⟨by rw [hoc i hlen]; exact he.first.1, fun j hj => by rw [hoc j (by omega)]; exact he.first.2 j hj⟩, he.fits, by rw [List.length_append]; omega⟩
  rw [one_at hH he2, List.take_append_of_le_length hlen, hp]
  dsimp only
  rw [List.drop_append_of_le_length hlen, body_more (r := framed q.h) hb]
/-- A beginning asks for more. -/
theorem one_cut {l : List UInt8} {H B : Int} {q : ReqV} {n j : Nat} (hH : 0 ≤ H) (h : oneR l H B = .ok (q, n)) (hj : j < n) : oneR (l.take j) H B = .error 7 := by
  obtain ⟨i, k, he, hp, hb, rfl⟩ := one_ok hH h
  have hlen := he.len
  have hfit := he.fits
  by_cases hji : j < i + 4
  · have hno : Lib.index (cutAt (l.take j) H) endL < 0 := by
      refine index_no fun p => ?_
      unfold cutAt
      cases hq : Lib.occAt ((l.take j).take (min ((l.take j).length : Int) H).toNat) endL p with
      | false => rfl
      | true =>
        have h1 := (occ_take hq).1
        obtain ⟨h2, h3, _⟩ := occ_take h1
        have := he.first.2 p (by omega)
        rw [h2] at this; cases this
    unfold oneR
    rw [if_pos hno, if_neg (by rw [List.length_take]; omega)]
  · have he2 : HeadEnd (l.take j) H i := ⟨first_in he.first (by omega), he.fits, by rw [List.length_take]; omega⟩
    rw [one_at hH he2, List.take_take, Nat.min_eq_left (by omega), hp]
    dsimp only
    rw [List.drop_take, body_cut (r := framed q.h) hb (by omega)]
theorem one_len {l : List UInt8} {H B : Int} {q : ReqV} {n : Nat} (hH : 0 ≤ H) (hB : 0 ≤ B) (h : oneR l H B = .ok (q, n)) : (q.b.length : Int) ≤ B ∧ 1 ≤ n ∧ n ≤ l.length := by
  obtain ⟨i, k, he, hp, hb, rfl⟩ := one_ok hH h
  have h1 := body_len hB hb
  rw [List.length_drop] at h1
  have := he.len
  exact ⟨h1.1, by omega, by omega⟩
end Go.Proofs.YtchoenfclfafiaaDoor
