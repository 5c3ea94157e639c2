/- Encodings, plainly: what they compute on lists of bytes, and the laws of joining and reading back. -/
import Derived.Test.YtchoenfclfafiaaUnqL
namespace Go.Proofs.Ytchoenfclfafiaa

/-! A reader that looks at one byte and what follows, writes some bytes and passes over some. -/
def scanGo (step : UInt8 → List UInt8 → List UInt8 × Nat) : Nat → List UInt8 → List UInt8
  | 0, _ => []
  | _ + 1, [] => []
  | f + 1, b :: r => (step b r).1 ++ scanGo step f (r.drop (step b r).2)
def scan (step : UInt8 → List UInt8 → List UInt8 × Nat) (l : List UInt8) : List UInt8 := scanGo step l.length l
theorem scanGo_fuel (step : UInt8 → List UInt8 → List UInt8 × Nat) : ∀ (f g : Nat) (l : List UInt8), l.length ≤ f → l.length ≤ g → scanGo step f l = scanGo step g l := by
  intro f
  induction f with
  | zero =>
    intro g l hf _
    have : l = [] := List.eq_nil_of_length_eq_zero (by omega)
    subst this
    cases g <;> rfl
  | succ f ih =>
    intro g l hf hg
    cases l with
    | nil => cases g <;> rfl
    | cons b r =>
      cases g with
      | zero => simp at hg
      | succ g =>
        simp only [List.length_cons] at hf hg
        unfold scanGo
        rw [ih g (r.drop (step b r).2) (by rw [List.length_drop]; omega) (by rw [List.length_drop]; omega)]
theorem scan_nil (step : UInt8 → List UInt8 → List UInt8 × Nat) : scan step [] = [] := rfl
theorem scan_cons (step : UInt8 → List UInt8 → List UInt8 × Nat) (b : UInt8) (r : List UInt8) : scan step (b :: r) = (step b r).1 ++ scan step (r.drop (step b r).2) := by
  unfold scan
  rw [List.length_cons, scanGo]
  rw [scanGo_fuel step r.length (r.drop (step b r).2).length (r.drop (step b r).2) (by rw [List.length_drop]; omega) (Nat.le_refl _)]

/-- What is read piece by piece is read together, where no step looks across. -/
theorem scan_append (step : UInt8 → List UInt8 → List UInt8 × Nat) (ok : List UInt8 → Prop) (t : List UInt8)
    (h : ∀ b r, ok (b :: r) → step b (r ++ t) = step b r ∧ (step b r).2 ≤ r.length ∧ (r.drop (step b r).2 = [] ∨ ok (r.drop (step b r).2))) :
    ∀ (n : Nat) (s : List UInt8), s.length ≤ n → (s = [] ∨ ok s) → scan step (s ++ t) = scan step s ++ scan step t := by
  intro n
  induction n with
  | zero =>
    intro s hl _
    have : s = [] := List.eq_nil_of_length_eq_zero (by omega)
    subst this; rfl
  | succ n ih =>
    intro s hl hok
    cases s with
    | nil => rfl
    | cons b r =>
      rcases hok with h0 | h0
      · cases h0
      · obtain ⟨h1, h2, h3⟩ := h b r h0
        simp only [List.length_cons] at hl
        rw [List.cons_append, scan_cons, h1, scan_cons, List.append_assoc, List.drop_append_of_le_length h2]
        rw [ih (r.drop (step b r).2) (by rw [List.length_drop]; omega) h3]

/-! Pairs of digits of base 16. -/
def pairI (l : List UInt8) : Int :=
  match l with
  | a :: b :: _ => if digitI a < 0 ∨ digitI b < 0 then -1 else digitI a * 16 + digitI b
  | _ => -1
theorem pairI_cons (a b : UInt8) (r : List UInt8) : pairI (a :: b :: r) = if digitI a < 0 ∨ digitI b < 0 then -1 else digitI a * 16 + digitI b := rfl
theorem digitI_ge (b : UInt8) : -1 ≤ digitI b ∧ digitI b ≤ 15 :=
  of_decide_eq_true (all_bytes (p := fun b => decide (-1 ≤ digitI b ∧ digitI b ≤ 15)) (by decide +kernel) b)
theorem pairI_range (l : List UInt8) : -1 ≤ pairI l ∧ pairI l ≤ 255 ∧ (0 ≤ pairI l → 2 ≤ l.length) := by
  match l with
  | [] => exact ⟨by decide, by decide, fun h => absurd h (by decide)⟩
  | [a] => exact ⟨by simp [pairI], by simp [pairI], fun h => absurd h (by simp [pairI])⟩
  | a :: b :: r =>
    have h1 := digitI_ge a
    have h2 := digitI_ge b
    rw [pairI_cons]
    simp only [List.length_cons]
    split <;> exact ⟨by omega, by omega, fun _ => by omega⟩
theorem pairI_append (r t : List UInt8) (h : 2 ≤ r.length) : pairI (r ++ t) = pairI r := by
  match r, h with
  | a :: b :: r, _ => rfl

def urlStep (b : UInt8) (r : List UInt8) : List UInt8 × Nat :=
  if b = 43 then ([32], 0) else if b = 37 ∧ 0 ≤ pairI r then ([UInt8.ofNat (pairI r).toNat], 2) else ([b], 0)
def urlDecL (l : List UInt8) : List UInt8 := scan urlStep l

theorem urlStep_le (b : UInt8) (r : List UInt8) : (urlStep b r).2 ≤ r.length ∧ (urlStep b r).1.length = 1 := by
  unfold urlStep
  have h := (pairI_range r).2.2
  split
  · exact ⟨Nat.zero_le _, rfl⟩
  · split
    · rename_i h2; exact ⟨h h2.2, rfl⟩
    · exact ⟨Nat.zero_le _, rfl⟩

def urlOk (l : List UInt8) : Prop := ∃ x, l = x ++ [46]
theorem urlOk_drop {l : List UInt8} (h : urlOk l) (k : Nat) (hk : k ≤ l.length) : l.drop k = [] ∨ urlOk (l.drop k) := by
  obtain ⟨x, rfl⟩ := h
  rcases Nat.lt_or_ge x.length k with h1 | h1
  · left
    rw [List.length_append] at hk
    exact List.drop_eq_nil_of_le (by simp at hk ⊢; omega)
  · right
    exact ⟨x.drop k, by rw [List.drop_append_of_le_length h1]⟩
theorem urlStep_append (t : List UInt8) (b : UInt8) (r : List UInt8) (h : urlOk (b :: r)) : urlStep b (r ++ t) = urlStep b r := by
  obtain ⟨x, hx⟩ := h
  unfold urlStep
  match r, hx with
  | [], hx =>
    have : b = 46 := by
      cases x with
      | nil => simpa using hx
      | cons a x => simp at hx
    subst this; rfl
  | [a], hx =>
    have ha : a = 46 := by
      match x, hx with
      | [], hx => simp at hx
      | [c], hx => simp at hx; exact hx.2
      | c :: d :: x, hx => simp at hx
    subst ha
    have e : pairI ([46] ++ t) = -1 := by
      cases t with
      | nil => rfl
      | cons c t => show pairI (46 :: c :: t) = -1; rw [pairI_cons, if_pos (Or.inl (by decide))]
    rw [e]; rfl
  | a :: c :: r, _ => rw [pairI_append (a :: c :: r) t (by simp)]
theorem urlDec_joins (s t : List UInt8) : urlDecL (s ++ [46] ++ t) = urlDecL (s ++ [46]) ++ urlDecL t := by
  refine scan_append urlStep urlOk t (fun b r h => ⟨urlStep_append t b r h, (urlStep_le b r).1, ?_⟩) _ _ (Nat.le_refl _) (.inr ⟨s, rfl⟩)
  cases r with
  | nil => exact .inl (by simp)
  | cons c r =>
    have : urlOk (c :: r) := by
      obtain ⟨x, hx⟩ := h
      cases x with
      | nil => simp at hx
      | cons d x => exact ⟨x, by simpa using (List.cons.inj hx).2⟩
    exact urlOk_drop this _ (urlStep_le b (c :: r)).1

/-! Encodings byte by byte. -/
def hexU (n : UInt8) : UInt8 := if n < 10 then n + 48 else n + 55
def urlSigns : List UInt8 := [45, 46, 95, 126]
def urlLet (b : UInt8) : Bool := decide (97 ≤ (b ||| 32).toNat) && decide ((b ||| 32).toNat ≤ 122) || decide (48 ≤ b.toNat) && decide (b.toNat ≤ 57)
def urlB (b : UInt8) : List UInt8 := if urlLet b = true ∨ 0 ≤ Lib.indexByte urlSigns b then [b] else if b = 32 then [43] else [37, hexU (b >>> 4), hexU (b &&& 15)]
def urlEncL (l : List UInt8) : List UInt8 := l.flatMap urlB
def hexB (b : UInt8) : List UInt8 := [hexD (b >>> 4), hexD (b &&& 15)]
def hexEncL (l : List UInt8) : List UInt8 := l.flatMap hexB

theorem hexTabU_all : ((List.range 16).all fun n => (ByteArray.mk #[48, 49, 50, 51, 52, 53, 54, 55, 56, 57, 65, 66, 67, 68, 69, 70]).data.toList[n]? == some (hexU (UInt8.ofNat n))) = true := by decide
theorem hexTabU_at (n : Nat) (h : n < (ByteArray.mk #[48, 49, 50, 51, 52, 53, 54, 55, 56, 57, 65, 66, 67, 68, 69, 70]).size) :
    (ByteArray.mk #[48, 49, 50, 51, 52, 53, 54, 55, 56, 57, 65, 66, 67, 68, 69, 70])[n] = hexU (UInt8.ofNat n) := by
  have h1 := List.all_eq_true.1 hexTabU_all n (List.mem_range.2 h)
  have h2 := Lib.data_getElem? (ByteArray.mk #[48, 49, 50, 51, 52, 53, 54, 55, 56, 57, 65, 66, 67, 68, 69, 70]) n h
  rw [h2] at h1
  simpa using h1

theorem urlB_len (b : UInt8) : (urlB b).length ≤ 3 := by unfold urlB; (repeat' split) <;> simp
theorem urlEnc_len (l : List UInt8) : (urlEncL l).length ≤ 3 * l.length := by
  induction l with
  | nil => simp [urlEncL]
  | cons b l ih => have := urlB_len b; simp only [urlEncL, List.flatMap_cons, List.length_append, List.length_cons] at *; omega
theorem hexEnc_len (l : List UInt8) : (hexEncL l).length = 2 * l.length := by
  induction l with
  | nil => rfl
  | cons b l ih => simp only [hexEncL, List.flatMap_cons, List.length_append, List.length_cons, hexB, List.length_nil] at *; omega

/-! HexDecode. -/
def hexGo : Nat → List UInt8 → Option (List UInt8)
  | 0, _ => some []
  | f + 1, l => if l.length = 0 then some [] else if pairI l < 0 then none else (hexGo f (l.drop 2)).map (UInt8.ofNat (pairI l).toNat :: ·)
def hexDecL (l : List UInt8) : Option (List UInt8) := hexGo l.length l
theorem hexGo_fuel : ∀ (f g : Nat) (l : List UInt8), l.length ≤ f → l.length ≤ g → hexGo f l = hexGo g l := by
  intro f
  induction f with
  | zero =>
    intro g l hf _
    cases g with
    | zero => rfl
    | succ g => unfold hexGo; rw [if_pos (by omega)]
  | succ f ih =>
    intro g l hf hg
    cases g with
    | zero => unfold hexGo; rw [if_pos (by omega)]
    | succ g =>
      unfold hexGo
      by_cases h0 : l.length = 0
      · rw [if_pos h0, if_pos h0]
      · rw [if_neg h0, if_neg h0, ih g _ (by rw [List.length_drop]; omega) (by rw [List.length_drop]; omega)]
theorem hexDec_nil : hexDecL [] = some [] := rfl
theorem hexDec_bad (l : List UInt8) (h : 0 < l.length) (hp : pairI l < 0) : hexDecL l = none := by
  unfold hexDecL
  rw [show l.length = l.length - 1 + 1 by omega, hexGo, if_neg (by omega), if_pos hp]
theorem hexDec_step (l : List UInt8) (h : 0 < l.length) (hp : ¬ pairI l < 0) : hexDecL l = (hexDecL (l.drop 2)).map (UInt8.ofNat (pairI l).toNat :: ·) := by
  unfold hexDecL
  rw [show hexGo l.length l = hexGo (l.length - 1 + 1) l by rw [show l.length - 1 + 1 = l.length by omega], hexGo, if_neg (by omega), if_neg hp]
  rw [hexGo_fuel (l.length - 1) (l.drop 2).length _ (by rw [List.length_drop]; omega) (Nat.le_refl _)]

theorem hexB_back (b : UInt8) (r : List UInt8) : pairI (hexB b ++ r) = b.toNat := by
  have h : ∀ b : UInt8, digitI (hexD (b >>> 4)) ≥ 0 ∧ digitI (hexD (b &&& 15)) ≥ 0 ∧ digitI (hexD (b >>> 4)) * 16 + digitI (hexD (b &&& 15)) = (b.toNat : Int) := fun b =>
    of_decide_eq_true (all_bytes (p := fun b => decide (digitI (hexD (b >>> 4)) ≥ 0 ∧ digitI (hexD (b &&& 15)) ≥ 0 ∧ digitI (hexD (b >>> 4)) * 16 + digitI (hexD (b &&& 15)) = (b.toNat : Int))) (by decide +kernel) b)
  obtain ⟨h1, h2, h3⟩ := h b
  show pairI (hexD (b >>> 4) :: hexD (b &&& 15) :: r) = _
  rw [pairI_cons, if_neg (by omega), h3]
theorem hexDec_enc (l : List UInt8) (r : List UInt8) : hexDecL (hexEncL l ++ r) = (hexDecL r).map (l ++ ·) := by
  induction l with
  | nil => simp [hexEncL]
  | cons b l ih =>
    have e : hexEncL (b :: l) ++ r = hexB b ++ (hexEncL l ++ r) := by simp [hexEncL]
    rw [e, hexDec_step _ (by simp [hexB]) (by rw [hexB_back]; omega), hexB_back]
    have e2 : (hexB b ++ (hexEncL l ++ r)).drop 2 = hexEncL l ++ r := rfl
    rw [e2, ih, Option.map_map]
    congr 1; funext x; simp
theorem hexDec_back (l : List UInt8) : hexDecL (hexEncL l) = some l := by
  have := hexDec_enc l []
  rw [List.append_nil, hexDec_nil] at this
  simpa using this
theorem hexDec_joins (s t : List UInt8) : hexDecL (hexEncL s ++ hexEncL t) = some (s ++ t) := by
  rw [hexDec_enc, hexDec_back]; rfl
theorem hexDec_len : ∀ (n : Nat) (l r : List UInt8), l.length ≤ n → hexDecL l = some r → r.length * 2 = l.length := by
  intro n
  induction n with
  | zero =>
    intro l r hl h
    have : l = [] := List.eq_nil_of_length_eq_zero (by omega)
    subst this; rw [hexDec_nil] at h; cases h; rfl
  | succ n ih =>
    intro l r hl h
    by_cases h0 : l.length = 0
    · have : l = [] := List.eq_nil_of_length_eq_zero h0
      subst this; rw [hexDec_nil] at h; cases h; rfl
    · by_cases hp : pairI l < 0
      · rw [hexDec_bad l (by omega) hp] at h; cases h
      · rw [hexDec_step l (by omega) hp] at h
        obtain ⟨x, hx, rfl⟩ := Option.map_eq_some_iff.1 h
        have h2 := (pairI_range l).2.2 (by omega)
        have := ih _ _ (by rw [List.length_drop]; omega) hx
        rw [List.length_drop] at this
        simp only [List.length_cons]; omega

end Go.Proofs.Ytchoenfclfafiaa
