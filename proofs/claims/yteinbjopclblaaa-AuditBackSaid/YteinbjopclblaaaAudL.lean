/- Records of what was done: how they are written and read, in plain lists. -/
import Derived.Test.YteinbjopclblaaaBase
namespace Go.Proofs.Yteinbjopclblaaa
open Go.RowKit

structure Rec where
  conn : Int
  out : Int
  by_ : Int
  score : Int
  matched : List Int
  target : List UInt8

def wiB (n lo hi : Int) : Bool := decide (lo ≤ n) && decide (n ≤ hi)
def idsB (l : List Int) : Bool := l.all fun n => wiB n 1 9999
def fieldsB (r : Rec) : Bool := wiB r.conn 0 255 && (r.out == 0 || wiB r.out 400 599) && wiB r.by_ 0 9999 && wiB r.score 0 1000000
def checkR (r : Rec) : Int := if 40 < r.matched.length ∨ 1000 < r.target.length then 2 else if fieldsB r = false ∨ idsB r.matched = false then 1 else 0
def byteN (n : Int) : UInt8 := UInt8.ofNat (n % 256).toNat
def fourL (n : Int) : List UInt8 := [byteN (n / 16777216), byteN (n / 65536), byteN (n / 256), byteN n]
def encL (r : Rec) : List UInt8 := 82 :: (fourL r.conn ++ fourL r.out ++ fourL r.by_ ++ fourL r.score ++ fourL r.matched.length ++ r.matched.flatMap fourL ++ fourL r.target.length ++ r.target)

/-! Reading. -/
def be4 (l : List UInt8) : Int := l.foldl (fun n b => n * 256 + (b.toNat : Int)) 0
/-- Four bytes at a place: the number, the place behind it, what went wrong. -/
def fourR (l : List UInt8) (st : Nat × Int) (most : Int) : Int × Nat × Int :=
  if st.2 ≠ 0 then (0, st.1, st.2)
  else if (l.length : Int) - st.1 < 4 then (0, st.1, 7)
  else if most < be4 ((l.drop st.1).take 4) then (0, st.1 + 4, 4)
  else (be4 ((l.drop st.1).take 4), st.1 + 4, 0)
def far : Int := 4294967296
def idsR (l : List UInt8) : Nat → Nat × Int → List Int × Nat × Int
  | 0, st => ([], st)
  | k + 1, st => (((fourR l st far).1 :: (idsR l k (fourR l st far).2).1), (idsR l k (fourR l st far).2).2)
abbrev Read := Int ⊕ (Rec × Nat)
def endR (l : List UInt8) (c o b s : Int) (m : List Int) (n : Int) (st : Nat × Int) : Read :=
  if st.2 ≠ 0 then .inl st.2
  else if (l.length : Int) - st.1 < n then .inl 7
  else if checkR ⟨c, o, b, s, m, (l.drop st.1).take n.toNat⟩ ≠ 0 then .inl (checkR ⟨c, o, b, s, m, (l.drop st.1).take n.toNat⟩)
  else .inr (⟨c, o, b, s, m, (l.drop st.1).take n.toNat⟩, st.1 + n.toNat)
def tailR (l : List UInt8) (c o b s : Int) (m : List Int) (st : Nat × Int) : Read := endR l c o b s m (fourR l st 1000).1 (fourR l st 1000).2
def listR (l : List UInt8) (c o b s k : Int) (st : Nat × Int) : Read := tailR l c o b s (idsR l k.toNat st).1 (idsR l k.toNat st).2
def cntR (l : List UInt8) (c o b s : Int) (st : Nat × Int) : Read := listR l c o b s (fourR l st 40).1 (fourR l st 40).2
def r4 (l : List UInt8) (c o b : Int) (st : Nat × Int) : Read := cntR l c o b (fourR l st far).1 (fourR l st far).2
def r3 (l : List UInt8) (c o : Int) (st : Nat × Int) : Read := r4 l c o (fourR l st far).1 (fourR l st far).2
def r2 (l : List UInt8) (c : Int) (st : Nat × Int) : Read := r3 l c (fourR l st far).1 (fourR l st far).2
def r1 (l : List UInt8) (st : Nat × Int) : Read := r2 l (fourR l st far).1 (fourR l st far).2
def decL (l : List UInt8) : Read := match l with
  | [] => .inl 7
  | b :: _ => if b ≠ 82 then .inl 4 else r1 l (1, 0)

/-! Bytes and numbers. -/
theorem byteN_toNat (n : Int) : ((byteN n).toNat : Int) = n % 256 := by
  unfold byteN
  have h0 : 0 ≤ n % 256 := Int.emod_nonneg _ (by decide)
  have h1 : n % 256 < 256 := Int.emod_lt_of_pos _ (by decide)
  rw [UInt8.toNat_ofNat']
  omega
theorem fourL_len (n : Int) : (fourL n).length = 4 := rfl
theorem be4_four (n : Int) (h0 : 0 ≤ n) (h1 : n < 4294967296) : be4 (fourL n) = n := by
  unfold be4 fourL
  simp only [List.foldl_cons, List.foldl_nil, byteN_toNat]
  omega
theorem be4_eval (a b c d : UInt8) : be4 [a, b, c, d] = ((((a.toNat : Int)) * 256 + (b.toNat : Int)) * 256 + (c.toNat : Int)) * 256 + (d.toNat : Int) := by
  unfold be4
  simp only [List.foldl_cons, List.foldl_nil]
  omega
theorem byte_eq {a b : UInt8} (h : (a.toNat : Int) = (b.toNat : Int)) : a = b := UInt8.toNat_inj.1 (by omega)
theorem four_be (l : List UInt8) (h : l.length = 4) : fourL (be4 l) = l ∧ 0 ≤ be4 l ∧ be4 l < 4294967296 := by
  match l, h with
  | [a, b, c, d], _ =>
    have ha := a.toNat_lt
    have hb := b.toNat_lt
    have hc := c.toNat_lt
    have hd := d.toNat_lt
    rw [be4_eval]
    refine ⟨?_, by omega, by omega⟩
    unfold fourL
    congr 1
    · apply byte_eq; rw [byteN_toNat]; omega
    congr 1
    · apply byte_eq; rw [byteN_toNat]; omega
    congr 1
    · apply byte_eq; rw [byteN_toNat]; omega
    congr 1
    · apply byte_eq; rw [byteN_toNat]; omega

/-! What stands where: the number v lies at a place of l. -/
def At (l : List UInt8) (at_ : Nat) (v : Int) : Prop := at_ + 4 ≤ l.length ∧ (l.drop at_).take 4 = fourL v
theorem four_stuck (l : List UInt8) (a : Nat) (e most : Int) (h : e ≠ 0) : fourR l (a, e) most = (0, a, e) := by unfold fourR; rw [if_pos h]
theorem four_cut (l : List UInt8) (a j : Nat) (v most : Int) (h : At l a v) (h0 : 0 ≤ v) (h1 : v < 4294967296) (hm : v ≤ most) :
    fourR (l.take j) (a, 0) most = if a + 4 ≤ j then (v, a + 4, 0) else (0, a, 7) := by
  have hl := h.1
  unfold fourR
  rw [if_neg (by simp)]
  by_cases c : a + 4 ≤ j
  · have e : ((l.take j).drop a).take 4 = fourL v := by rw [List.drop_take, List.take_take, Nat.min_eq_left (by omega), h.2]
    rw [if_neg (by rw [List.length_take]; omega), e, be4_four v h0 h1, if_neg (by omega), if_pos c]
  · rw [if_pos (by rw [List.length_take]; show ((min j l.length : Nat) : Int) - (a : Int) < 4; omega), if_neg c]
theorem four_good (l : List UInt8) (a : Nat) (e most : Int) (h : (fourR l (a, e) most).2.2 = 0) : e = 0 ∧ At l a (fourR l (a, e) most).1 ∧ 0 ≤ (fourR l (a, e) most).1 ∧ (fourR l (a, e) most).1 < 4294967296 ∧
    (fourR l (a, e) most).1 ≤ most ∧ (fourR l (a, e) most).2 = (a + 4, 0) := by
  unfold fourR at h ⊢
  by_cases h0 : e ≠ 0
  · rw [if_pos h0] at h; exact absurd h h0
  · rw [if_neg h0] at h ⊢
    have he : e = 0 := Classical.not_not.1 h0
    dsimp only at h ⊢
    by_cases c1 : (l.length : Int) - (a : Int) < 4
    · rw [if_pos c1] at h; exact absurd h (by simp)
    · rw [if_neg c1] at h ⊢
      by_cases c2 : most < be4 ((l.drop a).take 4)
      · rw [if_pos c2] at h; exact absurd h (by simp)
      · rw [if_neg c2]
        have hlen : ((l.drop a).take 4).length = 4 := by rw [List.length_take, List.length_drop]; omega
        obtain ⟨q1, q2, q3⟩ := four_be _ hlen
        exact ⟨he, ⟨by omega, q1.symm⟩, q2, q3, by show be4 _ ≤ most; omega, rfl⟩

theorem four_step (l : List UInt8) (a j : Nat) (v most : Int) (s : List UInt8) (h : l.drop a = fourL v ++ s) (h0 : 0 ≤ v) (h1 : v < 4294967296) (hm : v ≤ most) :
    fourR (l.take j) (a, 0) most = (if a + 4 ≤ j then (v, a + 4, 0) else (0, a, 7)) ∧ l.drop (a + 4) = s := by
  have hlen : (l.drop a).length = 4 + s.length := by rw [h, List.length_append, fourL_len]
  rw [List.length_drop] at hlen
  refine ⟨four_cut l a j v most ⟨by omega, by rw [h, List.take_append_of_le_length (by rw [fourL_len]; omega), List.take_of_length_le (by rw [fourL_len]; omega)]⟩ h0 h1 hm, ?_⟩
  rw [← List.drop_drop, h, List.drop_append_of_le_length (by rw [fourL_len]; omega), List.drop_of_length_le (by rw [fourL_len]; omega), List.nil_append]

/-! Once something went wrong nothing else is told. -/
theorem end_stuck (l : List UInt8) (c o b s : Int) (m : List Int) (n : Int) (a : Nat) (e : Int) (h : e ≠ 0) : endR l c o b s m n (a, e) = .inl e := by unfold endR; rw [if_pos h]
theorem tail_stuck (l : List UInt8) (c o b s : Int) (m : List Int) (a : Nat) (e : Int) (h : e ≠ 0) : tailR l c o b s m (a, e) = .inl e := by unfold tailR; rw [four_stuck _ _ _ _ h]; exact end_stuck _ _ _ _ _ _ _ _ _ h
theorem ids_stuck (l : List UInt8) (a : Nat) (e : Int) (h : e ≠ 0) : ∀ k, (idsR l k (a, e)).2 = (a, e)
  | 0 => rfl
  | k + 1 => by unfold idsR; rw [four_stuck _ _ _ _ h]; exact ids_stuck l a e h k
theorem list_stuck (l : List UInt8) (c o b s k : Int) (a : Nat) (e : Int) (h : e ≠ 0) : listR l c o b s k (a, e) = .inl e := by unfold listR; rw [ids_stuck _ _ _ h]; exact tail_stuck _ _ _ _ _ _ _ _ h
theorem cnt_stuck (l : List UInt8) (c o b s : Int) (a : Nat) (e : Int) (h : e ≠ 0) : cntR l c o b s (a, e) = .inl e := by unfold cntR; rw [four_stuck _ _ _ _ h]; exact list_stuck _ _ _ _ _ _ _ _ h
theorem r4_stuck (l : List UInt8) (c o b : Int) (a : Nat) (e : Int) (h : e ≠ 0) : r4 l c o b (a, e) = .inl e := by unfold r4; rw [four_stuck _ _ _ _ h]; exact cnt_stuck _ _ _ _ _ _ _ h
theorem r3_stuck (l : List UInt8) (c o : Int) (a : Nat) (e : Int) (h : e ≠ 0) : r3 l c o (a, e) = .inl e := by unfold r3; rw [four_stuck _ _ _ _ h]; exact r4_stuck _ _ _ _ _ _ h
theorem r2_stuck (l : List UInt8) (c : Int) (a : Nat) (e : Int) (h : e ≠ 0) : r2 l c (a, e) = .inl e := by unfold r2; rw [four_stuck _ _ _ _ h]; exact r3_stuck _ _ _ _ _ h

theorem ids_cut (l : List UInt8) (j : Nat) : ∀ (ms : List Int) (a : Nat) (s : List UInt8), l.drop a = ms.flatMap fourL ++ s → (∀ m ∈ ms, 0 ≤ m ∧ m < 4294967296) →
    (a + 4 * ms.length ≤ j → idsR (l.take j) ms.length (a, 0) = (ms, a + 4 * ms.length, 0)) ∧ (¬ a + 4 * ms.length ≤ j → a ≤ j → ∃ q, (idsR (l.take j) ms.length (a, 0)).2 = (q, 7)) ∧ l.drop (a + 4 * ms.length) = s
  | [], a, s, h, _ => ⟨fun _ => rfl, fun hn ha => absurd ha (by simpa using hn), by simpa using h⟩
  | m :: ms, a, s, h, hr => by
    have hm := hr m (by simp)
    rw [List.flatMap_cons, List.append_assoc] at h
    obtain ⟨h1, h2⟩ := four_step l a j m far _ h hm.1 hm.2 (by unfold far; omega)
    obtain ⟨i1, i2, i3⟩ := ids_cut l j ms (a + 4) s h2 (fun x hx => hr x (by simp [hx]))
    have e : a + 4 * (m :: ms).length = a + 4 + 4 * ms.length := by rw [List.length_cons]; omega
    rw [e]
    refine ⟨fun hj => ?_, fun hj ha => ?_, i3⟩
    · rw [List.length_cons, idsR, h1, if_pos (by omega)]
      dsimp only
      rw [i1 hj]
    · rw [List.length_cons, idsR, h1]
      dsimp only
      by_cases c : a + 4 ≤ j
      · rw [if_pos c]; exact i2 hj c
      · rw [if_neg c]; exact ⟨a, ids_stuck _ _ _ (by decide) _⟩

theorem wi_range {n lo hi : Int} (h : wiB n lo hi = true) : lo ≤ n ∧ n ≤ hi := by unfold wiB at h; simpa using h
structure RecOk (r : Rec) : Prop where
  conn : 0 ≤ r.conn ∧ r.conn < 4294967296
  out : 0 ≤ r.out ∧ r.out < 4294967296
  by_ : 0 ≤ r.by_ ∧ r.by_ < 4294967296
  score : 0 ≤ r.score ∧ r.score < 4294967296
  ids : ∀ m ∈ r.matched, 0 ≤ m ∧ m < 4294967296
  len : r.matched.length ≤ 40
  tlen : r.target.length ≤ 1000
theorem check_ok {r : Rec} (h : checkR r = 0) : RecOk r := by
  unfold checkR at h
  by_cases c : 40 < r.matched.length ∨ 1000 < r.target.length
  · rw [if_pos c] at h; exact absurd h (by decide)
  · rw [if_neg c] at h
    by_cases d : fieldsB r = false ∨ idsB r.matched = false
    · rw [if_pos d] at h; exact absurd h (by decide)
    · have d1 : fieldsB r = true := by simpa using fun e => d (.inl e)
      have d2 : idsB r.matched = true := by simpa using fun e => d (.inr e)
      unfold fieldsB at d1
      simp only [Bool.and_eq_true, Bool.or_eq_true, beq_iff_eq] at d1
      obtain ⟨⟨⟨a1, a2⟩, a3⟩, a4⟩ := d1
      have b1 := wi_range a1
      have b3 := wi_range a3
      have b4 := wi_range a4
      have b2 : 0 ≤ r.out ∧ r.out ≤ 599 := by
        rcases a2 with e | e
        · omega
        · have := wi_range e; omega
      refine ⟨by omega, by omega, by omega, by omega, fun m hm => ?_, by omega, by omega⟩
      have := wi_range (List.all_eq_true.1 d2 m hm)
      omega

theorem enc_len (r : Rec) : (encL r).length = 25 + 4 * r.matched.length + r.target.length := by
  have h : (r.matched.flatMap fourL).length = 4 * r.matched.length := by
    induction r.matched with
    | nil => rfl
    | cons m ms ih => rw [List.flatMap_cons, List.length_append, ih, fourL_len, List.length_cons]; omega
  unfold encL
  simp only [List.length_cons, List.length_append, fourL_len, h]
  omega
/-- A record that is written, with whatever stands behind: a beginning of it asks for more. -/
theorem dec_cut (r : Rec) (x : List UInt8) (j : Nat) (h : checkR r = 0) :
    decL ((encL r ++ x).take j) = if (encL r).length ≤ j then .inr (r, (encL r).length) else .inl 7 := by
  have ok := check_ok h
  obtain ⟨l, hl⟩ : ∃ l, encL r ++ x = l := ⟨_, rfl⟩
  have hlen := enc_len r
  have hll : l.length = (encL r).length + x.length := by rw [← hl, List.length_append]
  have h0 : l.drop 1 = fourL r.conn ++ (fourL r.out ++ (fourL r.by_ ++ (fourL r.score ++ (fourL r.matched.length ++ (r.matched.flatMap fourL ++ (fourL r.target.length ++ (r.target ++ x))))))) := by
    rw [← hl]; unfold encL; simp only [List.cons_append, List.drop_succ_cons, List.drop_zero, List.append_assoc]
  rw [hl]
  cases j with
  | zero => rw [if_neg (by omega)]; rfl
  | succ i =>
    have hd : decL (l.take (i + 1)) = r1 (l.take (i + 1)) (1, 0) := by
      have : ∃ t, l = 82 :: t := ⟨_, hl.symm⟩
      obtain ⟨t, rfl⟩ := this
      rw [List.take_succ_cons]
      show (if (82 : UInt8) ≠ 82 then Sum.inl 4 else r1 (82 :: t.take i) (1, 0)) = _
      rw [if_neg (by decide)]
    rw [hd]
    obtain ⟨e1, h1⟩ := four_step l 1 (i + 1) _ far _ h0 ok.conn.1 ok.conn.2 (by unfold far; have := ok.conn; omega)
    obtain ⟨e2, h2⟩ := four_step l 5 (i + 1) _ far _ h1 ok.out.1 ok.out.2 (by unfold far; have := ok.out; omega)
    obtain ⟨e3, h3⟩ := four_step l 9 (i + 1) _ far _ h2 ok.by_.1 ok.by_.2 (by unfold far; have := ok.by_; omega)
    obtain ⟨e4, h4⟩ := four_step l 13 (i + 1) _ far _ h3 ok.score.1 ok.score.2 (by unfold far; have := ok.score; omega)
    obtain ⟨e5, h5⟩ := four_step l 17 (i + 1) _ 40 _ h4 (by omega) (by have := ok.len; omega) (by have := ok.len; omega)
    obtain ⟨i1, i2, h6⟩ := ids_cut l (i + 1) r.matched 21 _ h5 ok.ids
    obtain ⟨e7, h7⟩ := four_step l (21 + 4 * r.matched.length) (i + 1) _ 1000 _ h6 (by omega) (by have := ok.tlen; omega) (by have := ok.tlen; omega)
    unfold r1
    rw [e1]
    by_cases c1 : 1 + 4 ≤ i + 1
    · rw [if_pos c1]
      unfold r2
      rw [e2]
      by_cases c2 : 5 + 4 ≤ i + 1
      · rw [if_pos c2]
        unfold r3
        rw [e3]
        by_cases c3 : 9 + 4 ≤ i + 1
        · rw [if_pos c3]
          unfold r4
          rw [e4]
          by_cases c4 : 13 + 4 ≤ i + 1
          · rw [if_pos c4]
            unfold cntR
            rw [e5]
            by_cases c5 : 17 + 4 ≤ i + 1
            · rw [if_pos c5]
              unfold listR
              dsimp only
              rw [Int.toNat_natCast]
              by_cases c6 : 21 + 4 * r.matched.length ≤ i + 1
              · rw [i1 c6]
                dsimp only
                unfold tailR
                rw [e7]
                by_cases c7 : 21 + 4 * r.matched.length + 4 ≤ i + 1
                · rw [if_pos c7]
                  dsimp only
                  unfold endR
                  dsimp only
                  rw [if_neg (by decide), Int.toNat_natCast]
                  by_cases c8 : (encL r).length ≤ i + 1
                  · have ht : ((l.take (i + 1)).drop (21 + 4 * r.matched.length + 4)).take r.target.length = r.target := by
                      rw [List.drop_take, List.take_take, h7, Nat.min_eq_left (by omega), List.take_append_of_le_length (Nat.le_refl _), List.take_of_length_le (Nat.le_refl _)]
                    rw [if_neg (by rw [List.length_take]; omega), ht, if_neg (by rw [show (⟨r.conn, r.out, r.by_, r.score, r.matched, r.target⟩ : Rec) = r from rfl, h]; decide), if_pos c8]
                    congr 2
                    omega
                  · rw [if_pos (by rw [List.length_take]; omega), if_neg c8]
                · rw [if_neg c7, if_neg (by omega)]
                  exact end_stuck _ _ _ _ _ _ _ _ _ (by decide)
              · obtain ⟨q, hq⟩ := i2 c6 (by omega)
                rw [hq, if_neg (by omega)]
                exact tail_stuck _ _ _ _ _ _ _ _ (by decide)
            · rw [if_neg c5, if_neg (by omega)]; exact list_stuck _ _ _ _ _ _ _ _ (by decide)
          · rw [if_neg c4, if_neg (by omega)]; exact cnt_stuck _ _ _ _ _ _ _ (by decide)
        · rw [if_neg c3, if_neg (by omega)]; exact r4_stuck _ _ _ _ _ _ (by decide)
      · rw [if_neg c2, if_neg (by omega)]; exact r3_stuck _ _ _ _ _ (by decide)
    · rw [if_neg c1, if_neg (by omega)]; exact r2_stuck _ _ _ _ (by decide)

theorem drop_at {l : List UInt8} {a : Nat} {v : Int} (h : At l a v) : l.drop a = fourL v ++ l.drop (a + 4) := by
  rw [← h.2, ← List.drop_drop, List.take_append_drop]
theorem ids_good (l : List UInt8) : ∀ (k a : Nat) (e : Int), (idsR l k (a, e)).2.2 = 0 → e = 0 ∧ (idsR l k (a, e)).2 = (a + 4 * k, 0) ∧ (idsR l k (a, e)).1.length = k ∧ l.drop a = (idsR l k (a, e)).1.flatMap fourL ++ l.drop (a + 4 * k)
  | 0, a, e, h => by
    have he : e = 0 := h
    subst he
    exact ⟨rfl, rfl, rfl, rfl⟩
  | k + 1, a, e, h => by
    unfold idsR at h ⊢
    dsimp only at h ⊢
    have h1 : (fourR l (a, e) far).2.2 = 0 := by
      refine Classical.byContradiction fun hn => ?_
      obtain ⟨v, q, e', hq⟩ : ∃ v q e', fourR l (a, e) far = (v, q, e') := ⟨_, _, _, rfl⟩
      rw [hq] at h hn
      rw [ids_stuck _ _ _ hn] at h
      exact hn h
    obtain ⟨he, hat, _, _, _, hst⟩ := four_good l a e far h1
    rw [hst] at h ⊢
    obtain ⟨_, i2, i3, i4⟩ := ids_good l k (a + 4) 0 h
    refine ⟨he, by rw [i2]; congr 1; omega, by rw [List.length_cons, i3], ?_⟩
    rw [List.flatMap_cons, List.append_assoc, show a + 4 * (k + 1) = a + 4 + 4 * k by omega, ← i4]
    exact drop_at hat
/-- What is read is just what would be written. -/
theorem dec_good (l : List UInt8) (r : Rec) (n : Nat) (h : decL l = .inr (r, n)) : checkR r = 0 ∧ n ≤ l.length ∧ l.take n = encL r := by
  have ne : ∀ {st : Nat × Int} {f : Nat × Int → Read}, (∀ a e, e ≠ 0 → f (a, e) = .inl e) → f st = .inr (r, n) → st.2 = 0 := fun {st} {f} hf hr => by
    refine Classical.byContradiction fun hn => ?_
    obtain ⟨a, e⟩ := st
    rw [hf a e hn] at hr
    cases hr
  match l, h with
  | [], h => cases h
  | b :: t, h =>
    have hb : b = 82 ∧ r1 (b :: t) (1, 0) = .inr (r, n) := by
      by_cases c : b ≠ 82
      · have : decL (b :: t) = .inl 4 := by show (if b ≠ 82 then _ else _) = _; rw [if_pos c]
        rw [this] at h; cases h
      · have : decL (b :: t) = r1 (b :: t) (1, 0) := by show (if b ≠ 82 then _ else _) = _; rw [if_neg c]
        rw [this] at h; exact ⟨Classical.not_not.1 c, h⟩
    obtain ⟨rfl, h⟩ := hb
    obtain ⟨l, hl⟩ : ∃ l, (82 : UInt8) :: t = l := ⟨_, rfl⟩
    rw [hl] at h ⊢
    unfold r1 at h
    obtain ⟨_, q1, _, _, _, s1⟩ := four_good l 1 0 far (ne (fun a e => r2_stuck l _ a e) h)
    rw [s1] at h
    unfold r2 at h
    obtain ⟨_, q2, _, _, _, s2⟩ := four_good l 5 0 far (ne (fun a e => r3_stuck l _ _ a e) h)
    rw [s2] at h
    unfold r3 at h
    obtain ⟨_, q3, _, _, _, s3⟩ := four_good l 9 0 far (ne (fun a e => r4_stuck l _ _ _ a e) h)
    rw [s3] at h
    unfold r4 at h
    obtain ⟨_, q4, _, _, _, s4⟩ := four_good l 13 0 far (ne (fun a e => cnt_stuck l _ _ _ _ a e) h)
    rw [s4] at h
    unfold cntR at h
    obtain ⟨_, q5, p5, _, _, s5⟩ := four_good l 17 0 40 (ne (fun a e => list_stuck l _ _ _ _ _ a e) h)
    rw [s5] at h
    unfold listR at h
    obtain ⟨_, s6, k6, q6⟩ := ids_good l _ 21 0 (ne (fun a e => tail_stuck l _ _ _ _ _ a e) h)
    rw [s6] at h
    unfold tailR at h
    obtain ⟨_, q7, p7, _, _, s7⟩ := four_good l _ 0 1000 (ne (fun a e => end_stuck l _ _ _ _ _ _ a e) h)
    rw [s7] at h
    generalize (fourR l (1, 0) far).1 = v1 at *
    generalize (fourR l (5, 0) far).1 = v2 at *
    generalize (fourR l (9, 0) far).1 = v3 at *
    generalize (fourR l (13, 0) far).1 = v4 at *
    generalize (fourR l (17, 0) 40).1 = v5 at *
    generalize (idsR l v5.toNat (21, 0)).1 = ms at *
    obtain ⟨A, hA⟩ : ∃ A, 21 + 4 * v5.toNat = A := ⟨_, rfl⟩
    rw [hA] at q6 q7 h p7
    generalize (fourR l (A, 0) 1000).1 = v7 at *
    unfold endR at h
    rw [if_neg (by simp)] at h
    dsimp only at h
    by_cases c : (l.length : Int) - ((A + 4 : Nat) : Int) < v7
    · rw [if_pos c] at h; cases h
    · rw [if_neg c] at h
      by_cases d : checkR ⟨v1, v2, v3, v4, ms, (l.drop (A + 4)).take v7.toNat⟩ ≠ 0
      · rw [if_pos d] at h; cases h
      · rw [if_neg d] at h
        have d := Classical.not_not.1 d
        injection h with h
        injection h with h1 h2
        subst h1
        have htl : ((l.drop (A + 4)).take v7.toNat).length = v7.toNat := by rw [List.length_take, List.length_drop]; omega
        have hen : encL ⟨v1, v2, v3, v4, ms, (l.drop (A + 4)).take v7.toNat⟩ ++ l.drop (A + 4 + v7.toNat) = l := by
          have e7 : (((l.drop (A + 4)).take v7.toNat).length : Int) = v7 := by rw [htl]; omega
          have e5 : ((ms.length : Nat) : Int) = v5 := by rw [k6]; omega
          unfold encL
          dsimp only
          rw [e7, e5, ← hl]
          simp only [List.cons_append, List.append_assoc]
          congr 1
          have ed : l.drop (A + 4 + v7.toNat) = (l.drop (A + 4)).drop v7.toNat := by rw [List.drop_drop]
          rw [hl, ed, List.take_append_drop, ← drop_at q7, ← q6]
          have e1 : t = l.drop 1 := by rw [← hl]; rfl
          rw [e1, drop_at q1, drop_at q2, drop_at q3, drop_at q4, drop_at q5]
        have hn := enc_len ⟨v1, v2, v3, v4, ms, (l.drop (A + 4)).take v7.toNat⟩
        dsimp only at hn
        rw [htl, k6] at hn
        refine ⟨d, by omega, ?_⟩
        have hnn : n = (encL ⟨v1, v2, v3, v4, ms, (l.drop (A + 4)).take v7.toNat⟩).length := by omega
        rw [hnn]
        have ht := congrArg (List.take (encL ⟨v1, v2, v3, v4, ms, (l.drop (A + 4)).take v7.toNat⟩).length) hen
        rw [List.take_append_of_le_length (Nat.le_refl _), List.take_of_length_le (Nat.le_refl _)] at ht
        exact ht.symm
end Go.Proofs.Yteinbjopclblaaa
