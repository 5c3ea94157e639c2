/- Requests fed piece by piece: plainly. -/
import Derived.Test.YtchoenfclfafiaaDoorOneL
namespace Go.Proofs.YtchoenfclfafiaaDoor
open Go.RowKit

theorem line_more {l x : List UInt8} (h : (lineR l).1 ≠ 7) : lineR (l ++ x) = lineR l := by
  match l, h with
  | [], h => exact absurd rfl h
  | [a], h =>
    by_cases ha : a = 13
    · subst ha; exact absurd rfl h
    · show lineR (a :: x) = lineR [a]
      simp [lineR, ha]
  | a :: b :: r, _ => rfl
theorem dig_more : ∀ (f : Nat) (l x : List UInt8), (digN f l < l.length ∨ digN f l = f) → digN f (l ++ x) = digN f l
  | 0, _, _, _ => rfl
  | f + 1, [], x, h => by
    rcases h with h | h
    · exact absurd h (by simp [digN])
    · exact absurd h (by simp [digN])
  | f + 1, b :: r, x, h => by
    rw [List.cons_append]
    unfold digN at h ⊢
    by_cases hb : 0 ≤ digitI b
    · rw [if_pos hb] at h
      rw [if_pos hb, if_pos hb, dig_more f r x (by rw [List.length_cons] at h; omega)]
    · rw [if_neg hb, if_neg hb]
theorem size_more {l x : List UInt8} (h : (sizeR l).e ≠ 7) : sizeR (l ++ x) = sizeR l := by
  obtain ⟨d1, d2, _⟩ := dig_le 7 l
  unfold sizeR at h ⊢
  by_cases h0 : digN 7 l = 0
  · rw [if_pos h0] at h
    have hl : l.length ≠ 0 := fun e => by rw [if_pos e] at h; exact h rfl
    have e := dig_more 7 l x (.inl (by omega))
    rw [e, if_pos h0, if_pos h0, if_neg hl, if_neg (by rw [List.length_append]; omega)]
  · rw [if_neg h0] at h
    dsimp only at h
    have hlt : digN 7 l < l.length := by
      rcases Nat.lt_or_ge (digN 7 l) l.length with h1 | h1
      · exact h1
      · rw [List.drop_of_length_le h1] at h
        exact absurd rfl h
    have e := dig_more 7 l x (.inl hlt)
    rw [e, if_neg h0, if_neg h0, List.take_append_of_le_length (by omega), List.drop_append_of_le_length (by omega), line_more h]
theorem size_c2 {l : List UInt8} (h : (sizeR l).e = 0) : (sizeR l).c ≤ l.length := by
  obtain ⟨ds, r, ho⟩ := size_ok h
  have e := size_eval ds r ho.dig ho.lo ho.hi
  rw [← ho.e] at e
  rw [e, ho.e]
  simp
theorem size_n2 {l : List UInt8} (h : (sizeR l).e = 0) : 0 ≤ (sizeR l).n := by
  obtain ⟨ds, r, ho⟩ := size_ok h
  have e := size_eval ds r ho.dig ho.lo ho.hi
  rw [← ho.e] at e
  rw [e]
  exact (hexV_range ds).1
theorem chunk_more {l x : List UInt8} {room : Int} (h : (chunkR l room).e ≠ 7) : chunkR (l ++ x) room = chunkR l room := by
  unfold chunkR at h
  by_cases h0 : (sizeR l).e ≠ 0
  · rw [if_pos h0] at h
    have e := size_more (x := x) h
    unfold chunkR
    rw [e, if_pos h0, if_pos h0]
  · rw [if_neg h0] at h
    have hs : (sizeR l).e = 0 := by simpa using h0
    have e := size_more (l := l) (x := x) (by rw [hs]; decide)
    have hc := size_c2 hs
    have hn := size_n2 hs
    unfold chunkR
    rw [e, if_neg h0, if_neg h0]
    by_cases h1 : room < (sizeR l).n
    · rw [if_pos h1, if_pos h1]
    · rw [if_neg h1] at h
      rw [if_neg h1, if_neg h1]
      by_cases h2 : (l.length : Int) - (sizeR l).c < (sizeR l).n
      · rw [if_pos h2] at h; exact absurd rfl h
      · rw [if_neg h2] at h
        dsimp only at h
        rw [if_neg (by rw [List.length_append]; omega), if_neg h2, List.drop_append_of_le_length (by omega), line_more h, List.drop_append_of_le_length hc, List.take_append_of_le_length (by rw [List.length_drop]; omega)]
theorem chunks_more_err : ∀ (f f' : Nat) {l x : List UInt8} {room e : Int}, f ≤ f' → chunksR f l room = .inl e → e ≠ 7 → chunksR f' (l ++ x) room = .inl e
  | 0, _, l, x, room, e, _, h, he => by unfold chunksR at h; cases h; exact absurd rfl he
  | f + 1, 0, l, x, room, e, hf, _, _ => by omega
  | f + 1, f' + 1, l, x, room, e, hf, h, he => by
    unfold chunksR at h ⊢
    by_cases h1 : (chunkR l room).e ≠ 0
    · rw [if_pos h1] at h
      have h2 : (chunkR l room).e = e := Sum.inl.inj h
      rw [chunk_more (by rw [h2]; exact he), if_pos h1, h2]
    · rw [if_neg h1] at h
      have h7 : (chunkR l room).e ≠ 7 := by
        have : (chunkR l room).e = 0 := by simpa using h1
        rw [this]; decide
      rw [chunk_more h7, if_neg h1]
      by_cases h3 : (chunkR l room).n = 0
      · rw [if_pos h3] at h; cases h
      · rw [if_neg h3] at h ⊢
        cases hr : chunksR f (l.drop (chunkR l room).c) (room - (chunkR l room).n) with
        | inr p => rw [hr] at h; cases h
        | inl e' =>
          rw [hr] at h
          have e1 : e' = e := Sum.inl.inj h
          subst e1
          have hc : (chunkR l room).c ≤ l.length := (chunk_c (l := l) (room := room) (by simpa using h1)).1
          rw [List.drop_append_of_le_length hc, chunks_more_err f f' (by omega) hr he]
          rfl
theorem chunksL_err {l x : List UInt8} {room e : Int} (h : chunksL l room = .inl e) (he : e ≠ 7) : chunksL (l ++ x) room = .inl e := by
  unfold chunksL at h ⊢
  exact chunks_more_err _ _ (by rw [List.length_append]; omega) h he
theorem body_err {r : Int × Int × Int} {l x : List UInt8} {B e : Int} (h : bodyR r l B = .inl e) (he : e ≠ 7) : bodyR r (l ++ x) B = .inl e := by
  unfold bodyR at h ⊢
  by_cases c1 : r.2.2 ≠ 0
  · rw [if_pos c1] at h ⊢; exact h
  · rw [if_neg c1] at h ⊢
    by_cases c2 : r.1 = 1
    · rw [if_pos c2] at h; cases h
    · rw [if_neg c2] at h ⊢
      by_cases c3 : r.1 = 3
      · rw [if_pos c3] at h ⊢; exact chunksL_err h he
      · rw [if_neg c3] at h ⊢
        by_cases c4 : B < r.2.1
        · rw [if_pos c4] at h ⊢; exact h
        · rw [if_neg c4] at h ⊢
          by_cases c5 : (l.length : Int) < r.2.1
          · rw [if_pos c5] at h; cases h; exact absurd rfl he
          · rw [if_neg c5] at h; cases h
theorem one_err {l x : List UInt8} {H B e : Int} (hH : 0 ≤ H) (h : oneR l H B = .error e) (he : e ≠ 7) : oneR (l ++ x) H B = .error e := by
  by_cases hi : Lib.index (cutAt l H) endL < 0
  · have h' := h
    unfold oneR at h'
    rw [if_pos hi] at h'
    by_cases hl : H ≤ (l.length : Int)
    · rw [if_pos hl] at h'
      have ec : cutAt (l ++ x) H = cutAt l H := by
        unfold cutAt
        rw [List.length_append]
        have e1 : (min (((l.length + x.length : Nat) : Int)) H).toNat = H.toNat := by rw [Int.min_eq_right (by omega)]
        have e2 : (min ((l.length : Int)) H).toNat = H.toNat := by rw [Int.min_eq_right (by omega)]
        rw [e1, e2, List.take_append_of_le_length (by omega)]
      unfold oneR
      rw [ec, if_pos hi, if_pos (by rw [List.length_append]; omega)]
      exact h'
    · rw [if_neg hl] at h'
      cases h'
      exact absurd rfl he
  · obtain ⟨i, hi2⟩ : ∃ i : Nat, Lib.index (cutAt l H) endL = (i : Int) := ⟨(Lib.index (cutAt l H) endL).toNat, by omega⟩
    have hE := (headEnd_iff hH).1 hi2
    have hlen := hE.len
    have hoc : ∀ j, j + 4 ≤ l.length → Lib.occAt (l ++ x) endL j = Lib.occAt l endL j := fun j hj => by
      unfold Lib.occAt
      rw [List.drop_append_of_le_length (by omega), Bool.eq_iff_iff, List.isPrefixOf_iff_prefix, List.isPrefixOf_iff_prefix]
      constructor
      · intro hp
        exact List.prefix_of_prefix_length_le hp (List.prefix_append _ _) (by rw [List.length_drop]; show 4 ≤ _; omega)
      · intro hp; exact hp.trans (List.prefix_append _ _)
    have he2 : HeadEnd (l ++ x) H i := ⟨⟨by rw [hoc i hlen]; exact hE.first.1, fun j hj => by rw [hoc j (by omega)]; exact hE.first.2 j hj⟩, hE.fits, by rw [List.length_append]; omega⟩
    rw [one_at hH hE] at h
    rw [one_at hH he2, List.take_append_of_le_length hlen, List.drop_append_of_le_length hlen]
    cases hp : parseH (l.take (i + 4)) with
    | error e' => rw [hp] at h; exact h
    | ok g =>
      rw [hp] at h
      dsimp only at h ⊢
      cases hb : bodyR (framed g) (l.drop (i + 4)) B with
      | inl e' =>
        rw [hb] at h
        have e1 : e' = e := by injection h
        subst e1
        rw [body_err hb he]
      | inr p => rw [hb] at h; cases h
/-! What errors there are. -/
def ErrIn (e : Int) : Prop := e = 4 ∨ e = 5 ∨ e = 6 ∨ e = 7
theorem line_in (l : List UInt8) : (lineR l).1 = 0 ∨ ErrIn (lineR l).1 := by
  unfold lineR ErrIn
  split
  · simp
  · split
    · split
      · simp
      · split <;> simp
    · simp
theorem size_in (l : List UInt8) : (sizeR l).e = 0 ∨ ErrIn (sizeR l).e := by
  unfold sizeR
  split
  · dsimp only
    split
    · exact .inr (.inr (.inr (.inr rfl)))
    · exact .inr (.inl rfl)
  · exact line_in _
theorem chunk_in (l : List UInt8) (room : Int) : (chunkR l room).e = 0 ∨ ErrIn (chunkR l room).e := by
  unfold chunkR
  split
  · exact size_in l
  · split
    · exact .inr (.inr (.inr (.inl rfl)))
    · split
      · exact .inr (.inr (.inr (.inr rfl)))
      · exact line_in _
theorem chunks_in : ∀ (f : Nat) {l : List UInt8} {room e : Int}, chunksR f l room = .inl e → ErrIn e
  | 0, l, room, e, h => by unfold chunksR at h; cases h; exact .inr (.inr (.inr rfl))
  | f + 1, l, room, e, h => by
    unfold chunksR at h
    split at h
    · rename_i h1
      cases h
      exact (chunk_in l room).elim (fun x => absurd x h1) id
    · split at h
      · cases h
      · cases hr : chunksR f (l.drop (chunkR l room).c) (room - (chunkR l room).n) with
        | inl e' => rw [hr] at h; cases h; exact chunks_in f hr
        | inr p => rw [hr] at h; cases h
theorem body_in {h0 : HeadV} {l : List UInt8} {B e : Int} (h : bodyR (framed h0) l B = .inl e) : ErrIn e := by
  have hf : (framed h0).2.2 = 4 ∨ _ := ofL_cases (getL h0.fs clen) (getL h0.fs tenc)
  unfold bodyR at h
  split at h
  · rename_i h1
    cases h
    rcases hf with h2 | h2
    · exact .inl h2
    · exact absurd h2.1 h1
  · split at h
    · cases h
    · split at h
      · exact chunks_in _ h
      · split at h
        · cases h; exact .inr (.inr (.inl rfl))
        · split at h
          · cases h; exact .inr (.inr (.inr rfl))
          · cases h
theorem one_in {l : List UInt8} {H B e : Int} (h : oneR l H B = .error e) : ErrIn e := by
  unfold oneR at h
  split at h
  · split at h
    · cases h; exact .inr (.inl rfl)
    · cases h; exact .inr (.inr (.inr rfl))
  · split at h
    · rename_i e' he
      cases h
      rcases parse_err he with h | h <;> rw [h]
      · exact .inl rfl
      · exact .inr (.inl rfl)
    · split at h
      · rename_i e' he
        cases h
        exact body_in he
      · cases h
/-! Feeding. -/
structure FedR where
  qs : List ReqV
  e : Int
  rest : List UInt8
def feedR : Nat → List UInt8 → Int → Int → FedR
  | 0, l, _, _ => ⟨[], 0, l⟩
  | f + 1, l, H, B => match oneR l H B with
    | .error e => if e = 7 then ⟨[], 0, l⟩ else ⟨[], e, []⟩
    | .ok (q, n) => ⟨q :: (feedR f (l.drop n) H B).qs, (feedR f (l.drop n) H B).e, (feedR f (l.drop n) H B).rest⟩
def feedL (l : List UInt8) (H B : Int) : FedR := feedR (l.length + 1) l H B
theorem feed_fuel : ∀ (f g : Nat) (l : List UInt8) (H B : Int), 0 ≤ H → 0 ≤ B → l.length < f → l.length < g → feedR f l H B = feedR g l H B
  | 0, _, l, H, B, _, _, h, _ => by omega
  | _, 0, l, H, B, _, _, _, h => by omega
  | f + 1, g + 1, l, H, B, hH, hB, h1, h2 => by
    unfold feedR
    cases ho : oneR l H B with
    | error e => rfl
    | ok p =>
      obtain ⟨q, n⟩ := p
      obtain ⟨_, hn1, hn2⟩ := one_len hH hB ho
      dsimp only
      rw [feed_fuel f g (l.drop n) H B hH hB (by rw [List.length_drop]; omega) (by rw [List.length_drop]; omega)]
theorem feed_more {l : List UInt8} {H B : Int} (h : oneR l H B = .error 7) : feedL l H B = ⟨[], 0, l⟩ := by
  unfold feedL feedR
  rw [h]
  rfl
theorem feed_err {l : List UInt8} {H B e : Int} (h : oneR l H B = .error e) (he : e ≠ 7) : feedL l H B = ⟨[], e, []⟩ := by
  unfold feedL feedR
  rw [h]
  dsimp only
  rw [if_neg he]
theorem feed_ok {l : List UInt8} {H B : Int} {q : ReqV} {n : Nat} (hH : 0 ≤ H) (hB : 0 ≤ B) (h : oneR l H B = .ok (q, n)) : feedL l H B = ⟨q :: (feedL (l.drop n) H B).qs, (feedL (l.drop n) H B).e, (feedL (l.drop n) H B).rest⟩ := by
  obtain ⟨_, hn1, hn2⟩ := one_len hH hB h
  have e : feedL l H B = ⟨q :: (feedR l.length (l.drop n) H B).qs, (feedR l.length (l.drop n) H B).e, (feedR l.length (l.drop n) H B).rest⟩ := by
    unfold feedL
    rw [feedR, h]
  rw [e, feed_fuel l.length ((l.drop n).length + 1) (l.drop n) H B hH hB (by rw [List.length_drop]; omega) (by omega)]
  rfl
theorem feed_in : ∀ (k : Nat) (l : List UInt8) (H B : Int), 0 ≤ H → 0 ≤ B → l.length ≤ k → (feedL l H B).e = 0 ∨ ((feedL l H B).e ≠ 7 ∧ ErrIn (feedL l H B).e ∧ (feedL l H B).rest = []) := by
  intro k
  induction k with
  | zero =>
    intro l H B hH hB hk
    cases ho : oneR l H B with
    | error e =>
      by_cases h7 : e = 7
      · subst h7; rw [feed_more ho]; exact .inl rfl
      · rw [feed_err ho h7]; exact .inr ⟨h7, one_in ho, rfl⟩
    | ok p =>
      obtain ⟨q, n⟩ := p
      obtain ⟨_, hn1, hn2⟩ := one_len hH hB ho
      omega
  | succ k ih =>
    intro l H B hH hB hk
    cases ho : oneR l H B with
    | error e =>
      by_cases h7 : e = 7
      · subst h7; rw [feed_more ho]; exact .inl rfl
      · rw [feed_err ho h7]; exact .inr ⟨h7, one_in ho, rfl⟩
    | ok p =>
      obtain ⟨q, n⟩ := p
      obtain ⟨_, hn1, hn2⟩ := one_len hH hB ho
      rw [feed_ok hH hB ho]
      exact ih (l.drop n) H B hH hB (by rw [List.length_drop]; omega)
theorem feed_append (H B : Int) (hH : 0 ≤ H) (hB : 0 ≤ B) : ∀ (k : Nat) (a b : List UInt8), a.length ≤ k →
    feedL (a ++ b) H B = if (feedL a H B).e = 0 then ⟨(feedL a H B).qs ++ (feedL ((feedL a H B).rest ++ b) H B).qs, (feedL ((feedL a H B).rest ++ b) H B).e, (feedL ((feedL a H B).rest ++ b) H B).rest⟩
      else feedL a H B := by
  intro k
  induction k with
  | zero =>
    intro a b hk
    cases ho : oneR a H B with
    | error e =>
      by_cases h7 : e = 7
      · subst h7; rw [feed_more ho, if_pos rfl]; rfl
      · rw [feed_err ho h7, if_neg (one_ne ho), feed_err (one_err hH ho h7) h7]
    | ok p =>
      obtain ⟨q, n⟩ := p
      obtain ⟨_, hn1, hn2⟩ := one_len hH hB ho
      omega
  | succ k ih =>
    intro a b hk
    cases ho : oneR a H B with
    | error e =>
      by_cases h7 : e = 7
      · subst h7; rw [feed_more ho, if_pos rfl]; rfl
      · rw [feed_err ho h7, if_neg (one_ne ho), feed_err (one_err hH ho h7) h7]
    | ok p =>
      obtain ⟨q, n⟩ := p
      obtain ⟨_, hn1, hn2⟩ := one_len hH hB ho
      rw [feed_ok hH hB ho, feed_ok hH hB (one_more (x := b) hH ho), List.drop_append_of_le_length hn2, ih (a.drop n) b (by rw [List.length_drop]; omega)]
      dsimp only
      split <;> rfl
theorem feed_len (H B : Int) (hH : 0 ≤ H) (hB : 0 ≤ B) : ∀ (k : Nat) (l : List UInt8), l.length ≤ k → (feedL l H B).qs.length ≤ l.length ∧ (feedL l H B).rest.length ≤ l.length := by
  intro k
  induction k with
  | zero =>
    intro l hk
    cases ho : oneR l H B with
    | error e =>
      by_cases h7 : e = 7
      · subst h7; rw [feed_more ho]; exact ⟨Nat.zero_le _, Nat.le_refl _⟩
      · rw [feed_err ho h7]; exact ⟨Nat.zero_le _, Nat.zero_le _⟩
    | ok p =>
      obtain ⟨q, n⟩ := p
      obtain ⟨_, hn1, hn2⟩ := one_len hH hB ho
      omega
  | succ k ih =>
    intro l hk
    cases ho : oneR l H B with
    | error e =>
      by_cases h7 : e = 7
      · subst h7; rw [feed_more ho]; exact ⟨Nat.zero_le _, Nat.le_refl _⟩
      · rw [feed_err ho h7]; exact ⟨Nat.zero_le _, Nat.zero_le _⟩
    | ok p =>
      obtain ⟨q, n⟩ := p
      obtain ⟨_, hn1, hn2⟩ := one_len hH hB ho
      rw [feed_ok hH hB ho]
      have := ih (l.drop n) (by rw [List.length_drop]; omega)
      rw [List.length_drop] at this
      dsimp only
      rw [List.length_cons]
      omega
end Go.Proofs.YtchoenfclfafiaaDoor
