/- Plain laws of chunks. -/
import Derived.Test.YtchoenfclfafiaaDoorOctA
namespace Go.Proofs.YtchoenfclfafiaaDoor
open Go.RowKit

/-- The end of a line: what is wrong, and how many bytes were read. -/
def lineR : List UInt8 → Int × Nat
  | [] => (7, 0)
  | a :: r => if a = 13 then (match r with | [] => (7, 1) | b :: _ => if b = 10 then (0, 2) else (4, 1)) else (4, 0)
def digN : Nat → List UInt8 → Nat
  | 0, _ => 0
  | _ + 1, [] => 0
  | f + 1, b :: r => if 0 ≤ digitI b then digN f r + 1 else 0
def hexV (l : List UInt8) : Int := (numL 16 7 l).getD 0
structure Piece where
  n : Int
  e : Int
  c : Nat
  d : List UInt8
def sizeR (l : List UInt8) : Piece :=
  if digN 7 l = 0 then ⟨0, if l.length = 0 then 7 else 4, 0, []⟩
  else ⟨hexV (l.take (digN 7 l)), (lineR (l.drop (digN 7 l))).1, digN 7 l + (lineR (l.drop (digN 7 l))).2, []⟩
def chunkR (l : List UInt8) (room : Int) : Piece :=
  if (sizeR l).e ≠ 0 then ⟨0, (sizeR l).e, (sizeR l).c, []⟩
  else if room < (sizeR l).n then ⟨0, 6, (sizeR l).c, []⟩
  else if (l.length : Int) - (sizeR l).c < (sizeR l).n then ⟨0, 7, (sizeR l).c, []⟩
  else ⟨(sizeR l).n, (lineR (l.drop ((sizeR l).c + (sizeR l).n.toNat))).1, (sizeR l).c + (sizeR l).n.toNat + (lineR (l.drop ((sizeR l).c + (sizeR l).n.toNat))).2, (l.drop (sizeR l).c).take (sizeR l).n.toNat⟩
abbrev Told := Sum Int (List UInt8 × Nat)
def preT (d : List UInt8) (c : Nat) : Told → Told
  | .inl e => .inl e
  | .inr (t, k) => .inr (d ++ t, c + k)
def chunksR : Nat → List UInt8 → Int → Told
  | 0, _, _ => .inl 7
  | f + 1, l, room => if (chunkR l room).e ≠ 0 then .inl (chunkR l room).e else if (chunkR l room).n = 0 then .inr ([], (chunkR l room).c)
    else preT (chunkR l room).d (chunkR l room).c (chunksR f (l.drop (chunkR l room).c) (room - (chunkR l room).n))

theorem line_ok {l : List UInt8} (h : (lineR l).1 = 0) : ∃ r, l = 13 :: 10 :: r := by
  unfold lineR at h
  split at h
  · exact absurd h (by decide)
  · split at h
    · split at h
      · exact absurd h (by decide)
      · split at h
        · rename_i h1 _ _ _ h2; exact ⟨_, by rw [h1, h2]⟩
        · exact absurd h (by decide)
    · exact absurd h (by decide)
theorem line_eval (r : List UInt8) : lineR (13 :: 10 :: r) = (0, 2) := rfl

def allDig (l : List UInt8) : Prop := ∀ b ∈ l, 0 ≤ digitI b
theorem dig_le : ∀ (f : Nat) (l : List UInt8), digN f l ≤ f ∧ digN f l ≤ l.length ∧ allDig (l.take (digN f l))
  | 0, l => ⟨Nat.le_refl _, Nat.zero_le _, fun b h => by simp [digN] at h⟩
  | f + 1, [] => ⟨Nat.zero_le _, Nat.le_refl _, fun b h => by simp at h⟩
  | f + 1, b :: r => by
    obtain ⟨h1, h2, h3⟩ := dig_le f r
    unfold digN
    split
    · refine ⟨by omega, by simp only [List.length_cons]; omega, fun x hx => ?_⟩
      rw [List.take_succ_cons, List.mem_cons] at hx
      rcases hx with rfl | hx
      · assumption
      · exact h3 x hx
    · exact ⟨Nat.zero_le _, Nat.zero_le _, fun x hx => by simp at hx⟩
theorem dig_eval (r : List UInt8) (hr : r = [] ∨ ∃ q, r = 13 :: q) : ∀ (f : Nat) (ds : List UInt8), allDig ds → ds.length ≤ f → digN f (ds ++ r) = ds.length
  | 0, ds, _, hl => by rw [List.eq_nil_of_length_eq_zero (by omega : ds.length = 0)]; rfl
  | f + 1, [], _, _ => by
    rcases hr with rfl | ⟨q, rfl⟩
    · rfl
    · show digN (f + 1) (13 :: q) = 0
      unfold digN
      rw [if_neg (by decide)]
  | f + 1, b :: ds, h, hl => by
    rw [List.cons_append]
    unfold digN
    rw [if_pos (h b (List.mem_cons_self ..)), dig_eval r hr f ds (fun x hx => h x (List.mem_cons_of_mem _ hx)) (by simp only [List.length_cons] at hl; omega)]
    rfl

/-! A size and its line. -/
structure SizeOk (l ds r : List UInt8) : Prop where
  e : l = ds ++ 13 :: 10 :: r
  dig : allDig ds
  lo : 1 ≤ ds.length
  hi : ds.length ≤ 7
theorem size_eval (ds r : List UInt8) (hd : allDig ds) (h1 : 1 ≤ ds.length) (h7 : ds.length ≤ 7) : sizeR (ds ++ 13 :: 10 :: r) = ⟨hexV ds, 0, ds.length + 2, []⟩ := by
  unfold sizeR
  rw [dig_eval _ (.inr ⟨_, rfl⟩) 7 ds hd h7, if_neg (by omega), List.take_left, List.drop_left, line_eval]
theorem size_ok {l : List UInt8} (h : (sizeR l).e = 0) : ∃ ds r, SizeOk l ds r := by
  unfold sizeR at h
  obtain ⟨d1, d2, d3⟩ := dig_le 7 l
  by_cases h0 : digN 7 l = 0
  · rw [if_pos h0] at h
    dsimp only at h
    split at h <;> exact absurd h (by decide)
  · rw [if_neg h0] at h
    obtain ⟨r, hr⟩ := line_ok h
    refine ⟨l.take (digN 7 l), r, ?_, d3, ?_, ?_⟩
    · rw [← hr, List.take_append_drop]
    · rw [List.length_take]; omega
    · rw [List.length_take]; omega
theorem size_none : (sizeR []).e = 7 := rfl
theorem size_cut (ds p : List UInt8) (hd : allDig ds) (h1 : 1 ≤ ds.length) (h7 : ds.length ≤ 7) (hp : p = [] ∨ p = [13]) : (sizeR (ds ++ p)).e = 7 := by
  unfold sizeR
  rw [dig_eval p (by rcases hp with rfl | rfl; exact .inl rfl; exact .inr ⟨[], rfl⟩) 7 ds hd h7, if_neg (by omega), List.drop_left]
  rcases hp with rfl | rfl <;> rfl
theorem size_prefix (ds r : List UInt8) (hd : allDig ds) (h1 : 1 ≤ ds.length) (h7 : ds.length ≤ 7) (j : Nat) (hj : j < ds.length + 2) : (sizeR ((ds ++ 13 :: 10 :: r).take j)).e = 7 := by
  by_cases h0 : j = 0
  · subst h0; exact size_none
  by_cases hj1 : j ≤ ds.length
  · rw [List.take_append_of_le_length hj1]
    have := size_cut (ds.take j) [] (fun b hb => hd b (List.mem_of_mem_take hb)) (by rw [List.length_take]; omega) (by rw [List.length_take]; omega) (.inl rfl)
    rwa [List.append_nil] at this
  · rw [List.take_append, List.take_of_length_le (by omega), show j - ds.length = 1 by omega]
    exact size_cut ds [13] hd h1 h7 (.inr rfl)

theorem digitI_r (b : UInt8) : -1 ≤ digitI b ∧ digitI b ≤ 15 :=
  of_decide_eq_true (all_bytes (p := fun b => decide (-1 ≤ digitI b ∧ digitI b ≤ 15)) (by decide +kernel) b)
theorem frmGo_range : ∀ (l : List UInt8) (v w : Int), 0 ≤ v → numGo 16 l v = some w → 0 ≤ w ∧ w < (v + 1) * 16 ^ l.length
  | [], v, w, hv, h => by
    unfold numGo at h
    have e : v = w := Option.some.inj h
    subst e
    rw [List.length_nil, Int.pow_zero]
    omega
  | b :: l, v, w, hv, h => by
    unfold numGo at h
    split at h
    · cases h
    · have := frmGo_range l _ w (by omega) h
      refine ⟨this.1, ?_⟩
      rw [List.length_cons, Int.pow_succ']
      have hp : (0 : Int) < 16 ^ l.length := Int.pow_pos (by decide)
      have h2 : (v * 16 + digitI b + 1) * 16 ^ l.length ≤ ((v + 1) * 16) * 16 ^ l.length := Int.mul_le_mul_of_nonneg_right (by omega) (Int.le_of_lt hp)
      rw [← Int.mul_assoc]
      omega
theorem frmGo_some : ∀ (l : List UInt8) (v : Int), allDig l → ∃ w, numGo 16 l v = some w
  | [], v, _ => ⟨v, rfl⟩
  | b :: l, v, h => by
    unfold numGo
    have h1 := digitI_r b
    have h2 := h b (List.mem_cons_self ..)
    rw [if_neg (by omega)]
    exact frmGo_some l _ (fun x hx => h x (List.mem_cons_of_mem _ hx))
theorem hexV_range (l : List UInt8) : 0 ≤ hexV l ∧ hexV l < 268435456 := by
  unfold hexV numL
  split
  · exact ⟨by decide, by decide⟩
  · rename_i h
    cases hn : numGo 16 l 0 with
    | none => exact ⟨by decide, by decide⟩
    | some w =>
      obtain ⟨h1, h2⟩ := frmGo_range l 0 w (Int.le_refl _) hn
      refine ⟨h1, ?_⟩
      have h3 : (16 : Nat) ^ l.length ≤ 16 ^ 7 := Nat.pow_le_pow_right (by decide) (by omega)
      have h4 : (16 : Int) ^ l.length = ((16 ^ l.length : Nat) : Int) := by simp
      rw [h4] at h2
      show w < _
      omega
theorem numL_hexV (l : List UInt8) (h : allDig l) (h1 : 1 ≤ l.length) (h7 : l.length ≤ 7) : numL 16 7 l = some (hexV l) := by
  unfold hexV numL
  rw [if_neg (by omega)]
  obtain ⟨w, hw⟩ := frmGo_some l 0 h
  rw [hw]; rfl

/-! A chunk. -/
structure ChunkOk (l ds d r : List UInt8) (room : Int) : Prop where
  e : l = ds ++ 13 :: 10 :: (d ++ 13 :: 10 :: r)
  dig : allDig ds
  lo : 1 ≤ ds.length
  hi : ds.length ≤ 7
  n : (d.length : Int) = hexV ds
  room : hexV ds ≤ room
theorem chunk_eval (ds d r : List UInt8) (room : Int) (hd : allDig ds) (h1 : 1 ≤ ds.length) (h7 : ds.length ≤ 7) (hn : (d.length : Int) = hexV ds) (hr : hexV ds ≤ room) :
    chunkR (ds ++ 13 :: 10 :: (d ++ 13 :: 10 :: r)) room = ⟨hexV ds, 0, ds.length + 2 + d.length + 2, d⟩ := by
  have hs := size_eval ds (d ++ 13 :: 10 :: r) hd h1 h7
  unfold chunkR
  rw [hs]
  dsimp only
  have hln : (hexV ds).toNat = d.length := by omega
  have e2 : (ds ++ 13 :: 10 :: (d ++ 13 :: 10 :: r)).drop (ds.length + 2) = d ++ 13 :: 10 :: r := by
    rw [← List.drop_drop, List.drop_left]; rfl
  have e3 : (ds ++ 13 :: 10 :: (d ++ 13 :: 10 :: r)).drop (ds.length + 2 + d.length) = 13 :: 10 :: r := by
    rw [← List.drop_drop, e2, List.drop_left]
  rw [if_neg (by simp), if_neg (by omega), if_neg (by simp; omega), hln, e2, e3, line_eval, List.take_left]
theorem chunk_ok {l : List UInt8} {room : Int} (h : (chunkR l room).e = 0) : ∃ ds d r, ChunkOk l ds d r room := by
  unfold chunkR at h
  by_cases h1 : (sizeR l).e ≠ 0
  · rw [if_pos h1] at h; exact absurd h h1
  obtain ⟨ds, q, ho⟩ := size_ok (Classical.not_not.1 h1)
  rw [if_neg h1, ho.e, size_eval ds q ho.dig ho.lo ho.hi] at h
  dsimp only at h
  by_cases h2 : room < hexV ds
  · rw [if_pos h2] at h; simp at h
  rw [if_neg h2] at h
  by_cases h3 : ((ds ++ 13 :: 10 :: q).length : Int) - ((ds.length + 2 : Nat) : Int) < hexV ds
  · rw [if_pos h3] at h; simp at h
  rw [if_neg h3] at h
  have hr := (hexV_range ds).1
  have hq : (hexV ds).toNat ≤ q.length := by
    rw [List.length_append, List.length_cons, List.length_cons] at h3; omega
  have e2 : (ds ++ 13 :: 10 :: q).drop (ds.length + 2) = q := by
    rw [← List.drop_drop, List.drop_left]; rfl
  rw [← List.drop_drop, e2] at h
  obtain ⟨r, hl⟩ := line_ok h
  exact ⟨ds, q.take (hexV ds).toNat, r, by rw [← hl, List.take_append_drop]; exact ho.e, ho.dig, ho.lo, ho.hi, by rw [List.length_take]; omega, by omega⟩
theorem chunk_prefix (ds d r : List UInt8) (room : Int) (hd : allDig ds) (h1 : 1 ≤ ds.length) (h7 : ds.length ≤ 7) (hn : (d.length : Int) = hexV ds) (hr : hexV ds ≤ room)
    (j : Nat) (hj : j < ds.length + 2 + d.length + 2) : (chunkR ((ds ++ 13 :: 10 :: (d ++ 13 :: 10 :: r)).take j) room).e = 7 := by
  by_cases h0 : j < ds.length + 2
  · have := size_prefix ds (d ++ 13 :: 10 :: r) hd h1 h7 j h0
    unfold chunkR
    rw [if_pos (by rw [this]; decide)]
    exact this
  · have et : (ds ++ 13 :: 10 :: (d ++ 13 :: 10 :: r)).take j = ds ++ 13 :: 10 :: ((d ++ 13 :: 10 :: r).take (j - ds.length - 2)) := by
      rw [List.take_append, List.take_of_length_le (by omega)]
      congr 1
      rw [show j - ds.length = j - ds.length - 2 + 1 + 1 by omega, List.take_succ_cons, List.take_succ_cons]
      rfl
    rw [et]
    have hs := size_eval ds ((d ++ 13 :: 10 :: r).take (j - ds.length - 2)) hd h1 h7
    unfold chunkR
    rw [hs]
    dsimp only
    rw [if_neg (by simp), if_neg (by omega)]
    by_cases h2 : j - ds.length - 2 < d.length
    · rw [if_pos]
      rw [List.length_append, List.length_cons, List.length_cons, List.length_take]
      omega
    · rw [if_neg (by
        rw [List.length_append, List.length_cons, List.length_cons, List.length_take, List.length_append, List.length_cons, List.length_cons]; omega)]
      dsimp only
      have hln : (hexV ds).toNat = d.length := by omega
      have e2 : (ds ++ 13 :: 10 :: (d ++ 13 :: 10 :: r).take (j - ds.length - 2)).drop (ds.length + 2 + d.length) = (13 :: 10 :: r).take (j - ds.length - 2 - d.length) := by
        rw [← List.drop_drop, ← List.drop_drop, List.drop_left]
        show ((d ++ 13 :: 10 :: r).take _).drop d.length = _
        rw [List.drop_take, List.drop_left]
      rw [hln, e2]
      have h3 : j - ds.length - 2 - d.length = 0 ∨ j - ds.length - 2 - d.length = 1 := by omega
      rcases h3 with h3 | h3 <;> rw [h3] <;> rfl

/-! All chunks. -/
def pieceP (ds d : List UInt8) : List UInt8 := ds ++ 13 :: 10 :: (d ++ [13, 10])
theorem pieceP_len (ds d : List UInt8) : (pieceP ds d).length = ds.length + 2 + d.length + 2 := by
  unfold pieceP
  rw [List.length_append, List.length_cons, List.length_cons, List.length_append, List.length_cons, List.length_cons, List.length_nil]; omega
theorem pieceP_app (ds d r : List UInt8) : ds ++ 13 :: 10 :: (d ++ 13 :: 10 :: r) = pieceP ds d ++ r := by unfold pieceP; simp
theorem chunk_none (room : Int) : (chunkR [] room).e = 7 := rfl
theorem chunks_e {f : Nat} {l : List UInt8} {room : Int} (h : (chunkR l room).e ≠ 0) : chunksR (f + 1) l room = .inl (chunkR l room).e := by
  rw [chunksR, if_pos h]
theorem chunks_piece (f : Nat) (ds d x : List UInt8) (room : Int) (hd : allDig ds) (h1 : 1 ≤ ds.length) (h7 : ds.length ≤ 7) (hn : (d.length : Int) = hexV ds) (hr : hexV ds ≤ room) :
    chunksR (f + 1) (pieceP ds d ++ x) room = if hexV ds = 0 then .inr ([], (pieceP ds d).length) else preT d (pieceP ds d).length (chunksR f x (room - hexV ds)) := by
  have e := chunk_eval ds d x room hd h1 h7 hn hr
  rw [pieceP_app, ← pieceP_len] at e
  rw [chunksR, e]
  dsimp only
  rw [if_neg (by simp), List.drop_left]
theorem chunks_law : ∀ (f : Nat) (l : List UInt8) (room : Int) (t : List UInt8) (k : Nat), chunksR f l room = .inr (t, k) →
    k ≤ l.length ∧ 1 ≤ k ∧ (t.length : Int) ≤ room ∧ (∀ (x : List UInt8) (f' : Nat) (room' : Int), k ≤ f' → (t.length : Int) ≤ room' → chunksR f' (l.take k ++ x) room' = .inr (t, k)) ∧
    (∀ (j f' : Nat) (room' : Int), j < k → j ≤ f' → (t.length : Int) ≤ room' → chunksR f' (l.take j) room' = .inl 7) := by
  intro f
  induction f with
  | zero => intro l room t k h; unfold chunksR at h; cases h
  | succ f ih =>
    intro l room t k h
    by_cases he : (chunkR l room).e ≠ 0
    · rw [chunks_e he] at h; cases h
    obtain ⟨ds, d, r, o⟩ := chunk_ok (Classical.not_not.1 he)
    have hrg := (hexV_range ds).1
    have hpl := pieceP_len ds d
    have hlo := o.lo
    have hroom := o.room
    have hdn := o.n
    have el : l = pieceP ds d ++ r := by rw [o.e, pieceP_app]
    have pre : ∀ (j f' : Nat) (room' : Int) (x : List UInt8), j < (pieceP ds d).length → j ≤ f' → hexV ds ≤ room' → chunksR f' ((pieceP ds d ++ x).take j) room' = .inl 7 := by
      intro j f' room' x hj hf hr
      have e := chunk_prefix ds d x room' o.dig o.lo o.hi o.n hr j (by omega)
      rw [pieceP_app] at e
      cases f' with
      | zero => rfl
      | succ g => rw [chunks_e (by rw [e]; decide), e]
    rw [el, chunks_piece f ds d r room o.dig o.lo o.hi o.n o.room] at h
    rw [el]
    by_cases h0 : hexV ds = 0
    · rw [if_pos h0] at h
      cases h
      refine ⟨by rw [List.length_append]; omega, by omega, by rw [List.length_nil]; omega, ?_, ?_⟩
      · intro x f' room' hf hr
        rw [List.length_nil] at hr
        rw [List.take_left, show f' = f' - 1 + 1 by omega, chunks_piece (f' - 1) ds d x room' o.dig o.lo o.hi o.n (by omega), if_pos h0]
      · intro j f' room' hj hf hr
        rw [List.length_nil] at hr
        exact pre j f' room' r hj hf (by omega)
    · rw [if_neg h0] at h
      cases hrec : chunksR f r (room - hexV ds) with
      | inl e => rw [hrec] at h; cases h
      | inr p =>
        obtain ⟨t', k'⟩ := p
        rw [hrec] at h
        cases h
        obtain ⟨i1, i2, i3, i4, i5⟩ := ih r _ t' k' hrec
        have hdt : (d ++ t').length = d.length + t'.length := List.length_append
        rw [List.length_append, hdt]
        refine ⟨by omega, by omega, by omega, ?_, ?_⟩
        · intro x f' room' hf hr
          rw [List.take_append, List.take_of_length_le (by omega), show (pieceP ds d).length + k' - (pieceP ds d).length = k' by omega, List.append_assoc, show f' = f' - 1 + 1 by omega,
            chunks_piece (f' - 1) ds d _ room' o.dig o.lo o.hi o.n (by omega), if_neg h0, i4 x (f' - 1) _ (by omega) (by omega)]
          rfl
        · intro j f' room' hj hf hr
          by_cases hjp : j < (pieceP ds d).length
          · exact pre j f' room' r hjp hf (by omega)
          · rw [List.take_append, List.take_of_length_le (by omega), show f' = f' - 1 + 1 by omega,
              chunks_piece (f' - 1) ds d _ room' o.dig o.lo o.hi o.n (by omega), if_neg h0, i5 _ (f' - 1) _ (by omega) (by omega) (by omega)]
            rfl

theorem chunks_fuel : ∀ (f g : Nat) (l : List UInt8) (room : Int), l.length ≤ f → l.length ≤ g → chunksR f l room = chunksR g l room := by
  intro f
  induction f with
  | zero =>
    intro g l room hf hg
    cases g with
    | zero => rfl
    | succ g => rw [List.eq_nil_of_length_eq_zero (by omega : l.length = 0), chunks_e (by rw [chunk_none]; decide)]; rfl
  | succ f ih =>
    intro g l room hf hg
    cases g with
    | zero => rw [List.eq_nil_of_length_eq_zero (by omega : l.length = 0), chunks_e (by rw [chunk_none]; decide)]; rfl
    | succ g =>
      by_cases he : (chunkR l room).e ≠ 0
      · rw [chunks_e he, chunks_e he]
      obtain ⟨ds, d, r, o⟩ := chunk_ok (Classical.not_not.1 he)
      have hpl := pieceP_len ds d
      have el : l = pieceP ds d ++ r := by rw [o.e, pieceP_app]
      rw [el, chunks_piece f ds d r room o.dig o.lo o.hi o.n o.room, chunks_piece g ds d r room o.dig o.lo o.hi o.n o.room]
      rw [el, List.length_append] at hf hg
      rw [ih g r _ (by omega) (by omega)]

def chunksL (l : List UInt8) (room : Int) : Told := chunksR l.length l room
theorem chunksL_bad (l : List UInt8) (room : Int) (h : (chunkR l room).e ≠ 0) : chunksL l room = .inl (chunkR l room).e := by
  unfold chunksL
  cases hl : l.length with
  | zero => rw [List.eq_nil_of_length_eq_zero hl]; rfl
  | succ n => exact chunks_e h
theorem chunksL_end (l : List UInt8) (room : Int) (h : (chunkR l room).e = 0) (hn : (chunkR l room).n = 0) : chunksL l room = .inr ([], (chunkR l room).c) := by
  unfold chunksL
  cases hl : l.length with
  | zero => rw [List.eq_nil_of_length_eq_zero hl, chunk_none] at h; exact absurd h (by decide)
  | succ n => rw [chunksR, if_neg (by rw [h]; decide), if_pos hn]
theorem chunksL_more (l : List UInt8) (room : Int) (h : (chunkR l room).e = 0) (hn : (chunkR l room).n ≠ 0) :
    chunksL l room = preT (chunkR l room).d (chunkR l room).c (chunksL (l.drop (chunkR l room).c) (room - (chunkR l room).n)) := by
  unfold chunksL
  cases hl : l.length with
  | zero => rw [List.eq_nil_of_length_eq_zero hl, chunk_none] at h; exact absurd h (by decide)
  | succ n =>
    obtain ⟨ds, d, r, o⟩ := chunk_ok h
    have e := chunk_eval ds d r room o.dig o.lo o.hi o.n o.room
    rw [← o.e] at e
    have hc : 1 ≤ (chunkR l room).c := by rw [e]; show 1 ≤ ds.length + 2 + d.length + 2; omega
    rw [chunksR, if_neg (by rw [h]; decide), if_neg hn]
    rw [chunks_fuel n ((l.drop (chunkR l room).c).length) _ _ (by rw [List.length_drop]; omega) (Nat.le_refl _)]
theorem preT_preT (a b : List UInt8) (c k : Nat) (x : Told) : preT a c (preT b k x) = preT (a ++ b) (c + k) x := by
  cases x with
  | inl e => rfl
  | inr p => obtain ⟨t, n⟩ := p; simp [preT, Nat.add_assoc]
/-- What a good chunk takes. -/
theorem chunk_c {l : List UInt8} {room : Int} (h : (chunkR l room).e = 0) : (chunkR l room).c ≤ l.length ∧ 1 ≤ (chunkR l room).c ∧ ((chunkR l room).d.length : Int) = (chunkR l room).n ∧ (chunkR l room).n ≤ room := by
  obtain ⟨ds, d, r, o⟩ := chunk_ok h
  have e := chunk_eval ds d r room o.dig o.lo o.hi o.n o.room
  rw [← o.e] at e
  rw [e]
  refine ⟨?_, by show 1 ≤ ds.length + 2 + d.length + 2; omega, o.n, o.room⟩
  rw [o.e, pieceP_app, List.length_append, pieceP_len]
  show ds.length + 2 + d.length + 2 ≤ _
  omega

/-! What the law asks. -/
theorem chunksL_more_text (l x : List UInt8) (room : Int) (t : List UInt8) (k : Nat) (h : chunksL l room = .inr (t, k)) : chunksL (l ++ x) room = .inr (t, k) := by
  obtain ⟨h1, h2, h3, h4, h5⟩ := chunks_law _ l room t k h
  have e : l ++ x = l.take k ++ (l.drop k ++ x) := by rw [← List.append_assoc, List.take_append_drop]
  unfold chunksL
  rw [e]
  exact h4 _ _ room (by rw [List.length_append, List.length_take]; omega) h3
theorem chunksL_wider (l : List UInt8) (room room' : Int) (t : List UInt8) (k : Nat) (h : chunksL l room = .inr (t, k)) (hr : (t.length : Int) ≤ room') : chunksL l room' = .inr (t, k) := by
  obtain ⟨h1, h2, h3, h4, h5⟩ := chunks_law _ l room t k h
  have := h4 (l.drop k) l.length room' h1 hr
  rw [List.take_append_drop] at this
  exact this
theorem chunksL_cut (l : List UInt8) (room : Int) (t : List UInt8) (k j : Nat) (h : chunksL l room = .inr (t, k)) (hj : j < k) : chunksL (l.take j) room = .inl 7 := by
  obtain ⟨h1, h2, h3, h4, h5⟩ := chunks_law _ l room t k h
  exact h5 j _ room hj (by rw [List.length_take]; omega) h3
theorem chunksL_range (l : List UInt8) (room : Int) (t : List UInt8) (k : Nat) (h : chunksL l room = .inr (t, k)) : k ≤ l.length ∧ 1 ≤ k ∧ (t.length : Int) ≤ room :=
  ⟨(chunks_law _ l room t k h).1, (chunks_law _ l room t k h).2.1, (chunks_law _ l room t k h).2.2.1⟩

end Go.Proofs.YtchoenfclfafiaaDoor
