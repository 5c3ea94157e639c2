/- Plain: how many members a set has; its text is read back. -/
import Derived.Test.YtnjjchbgnmjkjaaRqa
import Derived.Test.YtnjjchbgnmjkjaaRps
namespace Go.Proofs.Ytnjjchbgnmjkjaa
section
open Go.RowKit
/-- The text stands at a place. -/
def At (s : List UInt8) (p : Nat) (T : List UInt8) : Prop := ∀ i, i < T.length → s[p + i]? = T[i]?
theorem At.left {s : List UInt8} {p : Nat} {A B : List UInt8} (h : At s p (A ++ B)) : At s p A := fun i hi => by
  rw [h i (by rw [List.length_append]; omega), List.getElem?_append_left hi]
theorem At.right {s : List UInt8} {p : Nat} {A B : List UInt8} (h : At s p (A ++ B)) : At s (p + A.length) B := fun i hi => by
  rw [Nat.add_assoc, h (A.length + i) (by rw [List.length_append]; omega), List.getElem?_append_right (by omega), Nat.add_sub_cancel_left]
theorem At.head {s : List UInt8} {p : Nat} {c : UInt8} {T : List UInt8} (h : At s p (c :: T)) : s[p]? = some c := h 0 (by simp)
theorem At.tail {s : List UInt8} {p : Nat} {c : UInt8} {T : List UInt8} (h : At s p (c :: T)) : At s (p + 1) T := At.right (A := [c]) h
theorem At.le {s : List UInt8} {p : Nat} {T : List UInt8} (h : At s p T) (hp : p ≤ s.length) : p + T.length ≤ s.length := by
  rcases Nat.eq_zero_or_pos T.length with h0 | h0
  · omega
  · have := h (T.length - 1) (by omega)
    rw [List.getElem?_eq_getElem (show T.length - 1 < T.length by omega)] at this
    have := (List.getElem?_eq_some_iff.1 this).1
    omega
theorem At.self (s : List UInt8) : At s 0 s := fun i _ => by rw [Nat.zero_add]
def adv (r : RS) (n : Nat) : RS := { r with pos := r.pos + n }
/-- The bytes that no char begins with. -/
def badC : List UInt8 := [40, 46, 94, 36, 91, 93, 45, 124, 41, 42, 43, 63]
def headB (T : List UInt8) : Bool := match T with
  | [] => false
  | c :: T' => !(badC.contains c) && (c != 92 || (match T' with | [] => false | d :: _ => !([100, 119, 115] : List UInt8).contains d))
theorem charP_headB : ∀ b : Fin 256, headB (charP b.val) = true := by decide +kernel
theorem charP_head {b : Nat} (hb : b < 256) : ∃ c T, charP b = c :: T ∧ c ∉ badC ∧ (c = 92 → ∃ d T', T = d :: T' ∧ groupF d = none) := by
  have h := charP_headB ⟨b, hb⟩
  dsimp only at h
  cases hc : charP b with
  | nil => rw [hc] at h; cases h
  | cons c T =>
    rw [hc] at h
    unfold headB at h
    rw [Bool.and_eq_true] at h
    refine ⟨c, T, rfl, ?_, fun h92 => ?_⟩
    · intro hm
      have := h.1
      rw [List.contains_iff_mem.2 hm] at this
      cases this
    · have h2 := h.2
      subst h92
      rw [show ((92 : UInt8) != 92) = false from rfl, Bool.false_or] at h2
      cases T with
      | nil => cases h2
      | cons d T' =>
        refine ⟨d, T', rfl, ?_⟩
        dsimp only at h2
        have hn : d ∉ ([100, 119, 115] : List UInt8) := fun hm => by rw [List.contains_iff_mem.2 hm] at h2; cases h2
        unfold groupF
        rw [if_neg (fun e => hn (by simp [e])), if_neg (fun e => hn (by simp [e])), if_neg (fun e => hn (by simp [e]))]
theorem group_none {s : List UInt8} {r : RS} {b : Nat} {T : List UInt8} (he : r.e = 0) (hb : b < 256) (h : At s r.pos (charP b ++ T)) : groupR s r = (none, r) := by
  obtain ⟨c, T', hc, _, h92⟩ := charP_head hb
  have h0 := h.left
  rw [hc] at h0
  have hn := nextR_at he h0.head
  unfold groupR
  rw [hn]
  by_cases e : (c.toNat : Int) = 92
  · rw [if_pos e]
    have hcc : c = 92 := UInt8.toNat_inj.1 (by have : (92 : UInt8).toNat = 92 := rfl; omega)
    obtain ⟨d, T2, hT, hg⟩ := h92 hcc
    rw [hT] at h0
    rw [h0.tail.head]
    dsimp only
    rw [hg]
  · rw [if_neg e]
theorem char_at {s : List UInt8} {r : RS} {b : Nat} (he : r.e = 0) (hb : b < 256) (h : At s r.pos (charP b)) : charR s r = ((b : Int), adv r (charP b).length) := char_back he hb h
theorem toNat_ne {c d : UInt8} (h : c ≠ d) : (c.toNat : Int) ≠ (d.toNat : Int) := fun e => h (UInt8.toNat_inj.1 (by omega))
theorem take_no {s : List UInt8} {r : RS} {c d : UInt8} (he : r.e = 0) (h : s[r.pos]? = some c) (hne : c ≠ d) : takeR s r (d.toNat : Int) = (false, r) := by
  unfold takeR
  rw [nextR_at he h, if_neg (toNat_ne hne)]
theorem take_yes {s : List UInt8} {r : RS} {c : UInt8} (he : r.e = 0) (h : s[r.pos]? = some c) : takeR s r (c.toNat : Int) = (true, adv r 1) := by
  unfold takeR
  rw [nextR_at he h, if_pos rfl]
  rfl
/-- A byte alone in a class. -/
theorem round_one {s : List UInt8} {r : RS} {b : Nat} {c : UInt8} {T : List UInt8} (he : r.e = 0) (hb : b < 256) (h : At s r.pos (charP b ++ c :: T)) (hc : c ≠ 45) : roundC s r = (rgF b b, adv r (charP b).length) := by
  have hg := group_none he hb h
  have h1 := char_at he hb h.left
  have h2 := take_no (s := s) (r := adv r (charP b).length) (d := 45) he h.right.head hc
  unfold roundC
  rw [hg]
  dsimp only
  rw [h1]
  dsimp only
  rw [show ((45 : Int)) = ((45 : UInt8).toNat : Int) from rfl, h2, if_neg (fun h => by cases h)]
  rfl
theorem round_rng {s : List UInt8} {r : RS} {lo hi : Nat} {T : List UInt8} (he : r.e = 0) (hl : lo ≤ hi) (hh : hi < 256) (h : At s r.pos (charP lo ++ ([45] ++ (charP hi ++ T)))) :
    roundC s r = (rgF lo hi, adv r ((charP lo).length + 1 + (charP hi).length)) := by
  have hg := group_none he (show lo < 256 by omega) h
  have h1 := char_at he (show lo < 256 by omega) h.left
  have h2 := take_yes (s := s) (r := adv r (charP lo).length) (c := 45) he h.right.left.head
  have h3 := char_at (s := s) (r := adv (adv r (charP lo).length) 1) (b := hi) he hh h.right.right.left
  unfold roundC
  rw [hg]
  dsimp only
  rw [h1]
  dsimp only
  rw [show ((45 : Int)) = ((45 : UInt8).toNat : Int) from rfl, h2]
  dsimp only
  rw [h3]
  dsimp only
  rw [if_pos rfl, if_neg (fun e => by omega)]
  have e1 : ((lo : Int)).toNat = lo := by omega
  have e2 : ((hi : Int)).toNat = hi := by omega
  rw [e1, e2]
  refine congrArg (Prod.mk _) ?_
  unfold adv
  dsimp only
  congr 1
  omega
/-! The text of items. -/
theorem items_shape (f : Nat → Bool) : ∀ (n b : Nat), (itemsR f n b).1 = [] ∨ ∃ c T, (itemsR f n b).1 = c :: T ∧ c ∉ badC
  | 0, _ => .inl rfl
  | n + 1, b => by
    rw [itemsR]
    by_cases hb : 256 ≤ b
    · rw [if_pos hb]; exact .inl rfl
    · rw [if_neg hb]
      dsimp only
      obtain ⟨c, T, hc, hbad, _⟩ := charP_head (show b < 256 by omega)
      rcases items_shape f n (runTo f b + 1) with h | h
      · unfold pieceI
        rw [h]
        split
        · exact .inl rfl
        · split
          · rw [hc]; exact .inr ⟨c, _, rfl, hbad⟩
          · split
            · rw [hc]; exact .inr ⟨c, _, rfl, hbad⟩
            · rw [hc]; exact .inr ⟨c, _, rfl, hbad⟩
      · unfold pieceI
        split
        · exact .inr h
        · split
          · rw [hc]; exact .inr ⟨c, _, rfl, hbad⟩
          · split
            · rw [hc]; exact .inr ⟨c, _, rfl, hbad⟩
            · rw [hc]; exact .inr ⟨c, _, rfl, hbad⟩
theorem items_head (f : Nat → Bool) (b : Nat) : ∃ c T, (itemsL f b).1 ++ [93] = c :: T ∧ c ≠ 45 := by
  rcases items_shape f 257 b with h | ⟨c, T, h, hb⟩
  · exact ⟨93, [], by show (itemsR f 257 b).1 ++ [93] = _; rw [h]; rfl, by decide⟩
  · exact ⟨c, T ++ [93], by show (itemsR f 257 b).1 ++ [93] = _; rw [h]; rfl, fun e => hb (by rw [e]; decide)⟩
theorem not_93 {s : List UInt8} {r : RS} {b : Nat} {T : List UInt8} (he : r.e = 0) (hb : b < 256) (h : At s r.pos (charP b ++ T)) : nextR s r ≠ 93 := by
  obtain ⟨c, T', hc, hbad, _⟩ := charP_head hb
  have h0 := h.left
  rw [hc] at h0
  rw [nextR_at he h0.head]
  have : c ≠ 93 := fun e => hbad (by rw [e]; decide)
  exact toNat_ne this
/-- One round is taken. -/
theorem loop_one {s : List UInt8} {r q : RS} {first : Bool} {F g : Nat → Bool} (hp : r.pos ≤ s.length) (he : r.e = 0) (hn : nextR s r ≠ 93) (hr : roundC s r = (g, q)) :
    loopL s r first F = loopL s q false (fun x => F x || g x) := by
  rw [loop_eq hp, if_pos ⟨he, .inr hn⟩, hr]
theorem items_read (f : Nat → Bool) (s : List UInt8) : ∀ (n b : Nat) (r : RS) (first : Bool) (G : Nat → Bool), 257 - b ≤ n → r.e = 0 → r.pos ≤ s.length → At s r.pos ((itemsL f b).1 ++ [93]) → (first = true → (itemsL f b).1 ≠ []) →
    ∃ G', loopL s r first G = (G', adv r (itemsL f b).1.length) ∧ ∀ x, x < 256 → G' x = (G x || (decide (b ≤ x) && f x)) := by
  intro n
  induction n with
  | zero =>
    intro b r first G hn he hp hat hf
    have hst := items_step f b
    rw [if_pos (by omega)] at hst
    rw [hst] at hat hf ⊢
    have hff : first = false := by cases first; rfl; exact absurd rfl (hf rfl)
    have h9 : nextR s r = 93 := nextR_at he hat.head
    refine ⟨G, ?_, fun x hx => ?_⟩
    · rw [loop_eq hp, if_neg (fun h => by rcases h.2 with h | h; rw [hff] at h; cases h; exact h h9)]; rfl
    · rw [show decide (b ≤ x) = false from decide_eq_false (by omega)]; simp
  | succ n ih =>
    intro b r first G hn he hp hat hf
    have hst := items_step f b
    by_cases h256 : 256 ≤ b
    · rw [if_pos h256] at hst
      rw [hst] at hat hf ⊢
      have hff : first = false := by cases first; rfl; exact absurd rfl (hf rfl)
      have h9 : nextR s r = 93 := nextR_at he hat.head
      refine ⟨G, ?_, fun x hx => ?_⟩
      · rw [loop_eq hp, if_neg (fun h => by rcases h.2 with h | h; rw [hff] at h; cases h; exact h h9)]; rfl
      · rw [show decide (b ≤ x) = false from decide_eq_false (by omega)]; simp
    rw [if_neg h256] at hst
    obtain ⟨e1, e2, e3, e4⟩ := runE_facts f 257 b (by omega)
    have e4 := e4 (by omega)
    have hE : runE f 257 b = runTo f b := rfl
    rw [hE] at e1 e2 e3 e4
    obtain ⟨e, he0⟩ : ∃ e, runTo f b = e := ⟨_, rfl⟩
    rw [he0] at hst e1 e2 e3 e4
    have h1 : (itemsL f b).1 = pieceI b e ++ (itemsL f (e + 1)).1 := by rw [hst]
    have hsem : ∀ (x : Nat), x < 256 → ((G x || rgF b (e - 1) x && decide (b < e)) || (decide (e + 1 ≤ x) && f x)) = (G x || (decide (b ≤ x) && f x)) := fun x hx => by
      unfold rgF
      by_cases c1 : b ≤ x
      · by_cases c2 : x < e
        · have := (e2 x c1 c2).2
          rw [this, decide_eq_true c1, decide_eq_true (show x ≤ e - 1 by omega), decide_eq_true (show b < e by omega)]; simp
        · by_cases c3 : x = e
          · subst c3
            rw [e3 hx]
            by_cases c4 : b < x
            · rw [decide_eq_false (show ¬ x ≤ x - 1 by omega)]; simp
            · rw [decide_eq_false c4]; simp
          · rw [decide_eq_true c1, decide_eq_false (show ¬ x ≤ e - 1 by omega), decide_eq_true (show e + 1 ≤ x by omega)]; simp
      · rw [decide_eq_false c1, decide_eq_false (show ¬ e + 1 ≤ x by omega)]; simp
    obtain ⟨c, T, hct, hc45⟩ := items_head f (e + 1)
    have hlen : ∀ k, (itemsL f b).1.length = k + (itemsL f (e + 1)).1.length → ∀ q : RS, q = adv r k → adv q (itemsL f (e + 1)).1.length = adv r (itemsL f b).1.length := fun k hk q hq => by
      subst hq; unfold adv; dsimp only; congr 1; omega
    rw [h1, List.append_assoc] at hat
    by_cases c0 : e = b
    · subst c0
      have hpi : pieceI e e = [] := by unfold pieceI; rw [if_pos (by omega)]
      rw [hpi, List.nil_append] at hat h1
      obtain ⟨G', g1, g2⟩ := ih (e + 1) r first G (by omega) he hp hat (fun hh => by rw [← h1]; exact hf hh)
      refine ⟨G', by rw [g1, h1], fun x hx => ?_⟩
      rw [g2 x hx, ← hsem x hx, decide_eq_false (show ¬ e < e by omega)]; simp
    by_cases c1 : e = b + 1
    · subst c1
      have hpi : pieceI b (b + 1) = charP b := by unfold pieceI; rw [if_neg (by omega), if_pos (by omega)]
      rw [hpi] at hat h1
      rw [hct] at hat
      have hr := round_one he (show b < 256 by omega) hat hc45
      have hl := loop_one (first := first) (F := G) hp he (not_93 he (show b < 256 by omega) hat) hr
      have hat2 := hat.right
      rw [← hct] at hat2
      have hp2 := hat.left.le hp
      obtain ⟨G', g1, g2⟩ := ih (b + 1 + 1) (adv r (charP b).length) false (fun x => G x || rgF b b x) (by omega) he hp2 hat2 (fun hh => by cases hh)
      refine ⟨G', ?_, fun x hx => ?_⟩
      · rw [hl, g1]; exact congrArg (Prod.mk _) (hlen _ (by rw [h1, List.length_append]) _ rfl)
      · rw [g2 x hx, ← hsem x hx, decide_eq_true (show b < b + 1 by omega)]; simp
    by_cases c2 : e = b + 2
    · subst c2
      have hpi : pieceI b (b + 2) = charP b ++ charP (b + 1) := by unfold pieceI; rw [if_neg (by omega), if_neg (by omega), if_pos (by omega)]
      rw [hpi] at hat h1
      rw [List.append_assoc] at hat
      obtain ⟨d, T2, hd, hdb, _⟩ := charP_head (show b + 1 < 256 by omega)
      have hata := hat
      rw [hd, List.cons_append] at hata
      have hr := round_one he (show b < 256 by omega) hata (fun e => hdb (by rw [e]; decide))
      have hl := loop_one (first := first) (F := G) hp he (not_93 he (show b < 256 by omega) hata) hr
      have hp2 := hat.left.le hp
      have hat2 := hat.right
      rw [hct] at hat2
      have hr2 := round_one (r := adv r (charP b).length) he (show b + 1 < 256 by omega) hat2 hc45
      have hl2 := loop_one (r := adv r (charP b).length) (first := false) (F := fun x => G x || rgF b b x) hp2 he (not_93 (r := adv r (charP b).length) he (show b + 1 < 256 by omega) hat2) hr2
      have hp3 := hat2.left.le hp2
      have hat3 := hat2.right
      rw [← hct] at hat3
      obtain ⟨G', g1, g2⟩ := ih (b + 2 + 1) (adv (adv r (charP b).length) (charP (b + 1)).length) false (fun x => (G x || rgF b b x) || rgF (b + 1) (b + 1) x) (by omega) he hp3 hat3 (fun hh => by cases hh)
      refine ⟨G', ?_, fun x hx => ?_⟩
      · rw [hl, hl2, g1]
        refine congrArg (Prod.mk _) (hlen ((charP b).length + (charP (b + 1)).length) (by rw [h1, List.length_append, List.length_append]) _ ?_)
        unfold adv; dsimp only; congr 1; omega
      · rw [g2 x hx, ← hsem x hx, decide_eq_true (show b < b + 2 by omega)]
        have : (rgF b b x || rgF (b + 1) (b + 1) x) = rgF b (b + 2 - 1) x := by
          unfold rgF
          rw [Bool.eq_iff_iff]
          simp only [Bool.or_eq_true, Bool.and_eq_true, decide_eq_true_eq]
          omega
        rw [Bool.or_assoc (G x), this]; simp
    · have hpi : pieceI b e = charP b ++ [45] ++ charP (e - 1) := by unfold pieceI; rw [if_neg (by omega), if_neg (by omega), if_neg (by omega)]
      rw [hpi] at hat h1
      rw [List.append_assoc, List.append_assoc] at hat
      have hr := round_rng he (show b ≤ e - 1 by omega) (show e - 1 < 256 by omega) hat
      have hl := loop_one (first := first) (F := G) hp he (not_93 he (show b < 256 by omega) hat) hr
      have hat2 := hat.right.right.right
      have hp2 := hat.right.right.left.le (hat.right.left.le (hat.left.le hp))
      have hq : adv r ((charP b).length + 1 + (charP (e - 1)).length) = adv (adv (adv r (charP b).length) 1) (charP (e - 1)).length := by unfold adv; dsimp only; congr 1; omega
      obtain ⟨G', g1, g2⟩ := ih (e + 1) (adv r ((charP b).length + 1 + (charP (e - 1)).length)) false (fun x => G x || rgF b (e - 1) x) (by omega) he (by rw [hq]; exact hp2) (by rw [hq]; exact hat2) (fun hh => by cases hh)
      refine ⟨G', ?_, fun x hx => ?_⟩
      · rw [hl, g1]
        exact congrArg (Prod.mk _) (hlen _ (by rw [h1, List.length_append, List.length_append, List.length_append]; rfl) _ rfl)
      · rw [g2 x hx, ← hsem x hx, decide_eq_true (show b < e by omega)]; simp
end

section
open Go.RowKit
theorem adv_adv (r : RS) (a b : Nat) : adv (adv r a) b = adv r (a + b) := by unfold adv; dsimp only; rw [Nat.add_assoc]
def cnt (f : Nat → Bool) : Nat → Nat → Nat
  | 0, _ => 0
  | k + 1, b => (if f b = true then 1 else 0) + cnt f k (b + 1)
theorem cnt_le (f : Nat → Bool) : ∀ k b, cnt f k b ≤ k
  | 0, _ => Nat.le_refl _
  | k + 1, b => by rw [cnt]; have := cnt_le f k (b + 1); split <;> omega
theorem cnt_run (f : Nat → Bool) : ∀ m k b, (∀ y, b ≤ y → y < b + m → f y = true) → cnt f (m + k) b = m + cnt f k (b + m)
  | 0, k, b, _ => by simp
  | m + 1, k, b, h => by
    rw [show m + 1 + k = (m + k) + 1 by omega, cnt, if_pos (h b (Nat.le_refl _) (by omega)), cnt_run f m k (b + 1) (fun y h1 h2 => h y (by omega) (by omega)), show b + 1 + m = b + (m + 1) by omega]
    omega
theorem cnt_none (f : Nat → Bool) : ∀ k b, cnt f k b = 0 → ∀ y, b ≤ y → y < b + k → f y = false
  | 0, b, _, y, h1, h2 => absurd h1 (by omega)
  | k + 1, b, h, y, h1, h2 => by
    rw [cnt] at h
    by_cases hb : f b = true
    · rw [if_pos hb] at h; omega
    · rw [if_neg hb] at h
      by_cases e : y = b
      · rw [e]; simpa using hb
      · exact cnt_none f k (b + 1) (by omega) y (by omega) (by omega)
theorem cnt_all (f : Nat → Bool) : ∀ k b, cnt f k b = k → ∀ y, b ≤ y → y < b + k → f y = true
  | 0, b, _, y, h1, h2 => absurd h1 (by omega)
  | k + 1, b, h, y, h1, h2 => by
    rw [cnt] at h
    have := cnt_le f k (b + 1)
    by_cases hb : f b = true
    · rw [if_pos hb] at h
      by_cases e : y = b
      · rw [e]; exact hb
      · exact cnt_all f k (b + 1) (by omega) y (by omega) (by omega)
    · rw [if_neg hb] at h; omega
theorem cnt_but (f : Nat → Bool) : ∀ k b, cnt f k b + 1 = k → ∀ y z, b ≤ y → y < b + k → b ≤ z → z < b + k → f y = false → f z = false → y = z
  | 0, b, h, _, _, _, _, _, _, _, _ => absurd h (by omega)
  | k + 1, b, h, y, z, h1, h2, h3, h4, hy, hz => by
    rw [cnt] at h
    by_cases hb : f b = true
    · rw [if_pos hb] at h
      exact cnt_but f k (b + 1) (by omega) y z (by by_cases e : y = b; rw [e, hb] at hy; cases hy; omega) (by omega) (by by_cases e : z = b; rw [e, hb] at hz; cases hz; omega) (by omega) hy hz
    · rw [if_neg hb] at h
      have hall := cnt_all f k (b + 1) (by omega)
      have e1 : y = b := by
        by_cases e : y = b
        · exact e
        · rw [hall y (by omega) (by omega)] at hy; cases hy
      have e2 : z = b := by
        by_cases e : z = b
        · exact e
        · rw [hall z (by omega) (by omega)] at hz; cases hz
      omega
theorem cnt_not (f : Nat → Bool) : ∀ k b, cnt (fun x => !f x) k b + cnt f k b = k
  | 0, _ => rfl
  | k + 1, b => by
    have := cnt_not f k (b + 1)
    rw [cnt, cnt]
    cases f b <;> simp <;> omega
theorem items_cnt (f : Nat → Bool) : ∀ n b, 257 - b ≤ n → b ≤ 257 → (itemsL f b).2 = cnt f (256 - b) b
  | 0, b, hn, hb => by
    rw [items_step, if_pos (by omega), show 256 - b = 0 by omega]; rfl
  | n + 1, b, hn, hb => by
    rw [items_step]
    by_cases h : 256 ≤ b
    · rw [if_pos h, show 256 - b = 0 by omega]; rfl
    rw [if_neg h]
    obtain ⟨e1, e2, e3, e4⟩ := runE_facts f 257 b (by omega)
    have e4 := e4 (by omega)
    have hE : runE f 257 b = runTo f b := rfl
    rw [hE] at e1 e2 e3 e4
    generalize runTo f b = e at *
    dsimp only
    rw [items_cnt f n (e + 1) (by omega) (by omega)]
    rw [show 256 - b = (e - b) + (256 - e) by omega, cnt_run f (e - b) (256 - e) b (fun y h1 h2 => (e2 y h1 (by omega)).2), show b + (e - b) = e by omega]
    by_cases h5 : e < 256
    · rw [show 256 - e = (256 - (e + 1)) + 1 by omega, cnt, e3 h5]; simp
    · rw [show 256 - e = 0 by omega, show 256 - (e + 1) = 0 by omega]; rfl
theorem items_zero (f : Nat → Bool) : ∀ n b, 257 - b ≤ n → b ≤ 257 → (itemsL f b).2 = 0 → (itemsL f b).1 = []
  | 0, b, hn, hb, _ => by rw [items_step, if_pos (by omega)]
  | n + 1, b, hn, hb, h0 => by
    rw [items_step] at h0 ⊢
    by_cases h : 256 ≤ b
    · rw [if_pos h]
    rw [if_neg h] at h0 ⊢
    obtain ⟨e1, e2, e3, e4⟩ := runE_facts f 257 b (by omega)
    have e4 := e4 (by omega)
    have hE : runE f 257 b = runTo f b := rfl
    rw [hE] at e1 e2 e3 e4
    generalize runTo f b = e at *
    dsimp only at h0 ⊢
    rw [items_zero f n (e + 1) (by omega) (by omega) (by omega)]
    unfold pieceI
    rw [if_pos (by omega)]; rfl
theorem items_some (f : Nat → Bool) : ∀ n b, 257 - b ≤ n → b ≤ 257 → (itemsL f b).1 = [] → (itemsL f b).2 = 0
  | 0, b, hn, hb, _ => by rw [items_step, if_pos (by omega)]
  | n + 1, b, hn, hb, h0 => by
    rw [items_step] at h0 ⊢
    by_cases h : 256 ≤ b
    · rw [if_pos h]
    rw [if_neg h] at h0 ⊢
    obtain ⟨e1, e2, e3, e4⟩ := runE_facts f 257 b (by omega)
    have e4 := e4 (by omega)
    have hE : runE f 257 b = runTo f b := rfl
    rw [hE] at e1 e2 e3 e4
    generalize runTo f b = e at *
    dsimp only at h0 ⊢
    obtain ⟨h1, h2⟩ := List.append_eq_nil_iff.1 h0
    rw [items_some f n (e + 1) (by omega) (by omega) h2]
    obtain ⟨c, T, hc, _⟩ := charP_head (show b < 256 by omega)
    unfold pieceI at h1
    by_cases c0 : e - b = 0
    · omega
    · rw [if_neg c0] at h1
      split at h1
      · rw [hc] at h1; cases h1
      · split at h1
        · rw [hc] at h1; cases h1
        · rw [hc] at h1; cases h1
theorem items_one1 (f : Nat → Bool) : ∀ n b, 257 - b ≤ n → b ≤ 257 → (itemsL f b).2 = 1 → ∃ x, b ≤ x ∧ x < 256 ∧ f x = true ∧ (itemsL f b).1 = charP x
  | 0, b, hn, hb, h1 => by rw [items_step, if_pos (by omega)] at h1; cases h1
  | n + 1, b, hn, hb, h1 => by
    rw [items_step] at h1 ⊢
    by_cases h : 256 ≤ b
    · rw [if_pos h] at h1; cases h1
    rw [if_neg h] at h1 ⊢
    obtain ⟨e1, e2, e3, e4⟩ := runE_facts f 257 b (by omega)
    have e4 := e4 (by omega)
    have hE : runE f 257 b = runTo f b := rfl
    rw [hE] at e1 e2 e3 e4
    generalize runTo f b = e at *
    dsimp only at h1 ⊢
    by_cases c0 : e = b
    · obtain ⟨x, x1, x2, x3, x4⟩ := items_one1 f n (e + 1) (by omega) (by omega) (by omega)
      refine ⟨x, by omega, x2, x3, ?_⟩
      rw [x4]; unfold pieceI; rw [if_pos (by omega)]; rfl
    · have c1 : e = b + 1 := by omega
      refine ⟨b, Nat.le_refl _, by omega, (e2 b (Nat.le_refl _) (by omega)).2, ?_⟩
      rw [items_zero f n (e + 1) (by omega) (by omega) (by omega)]
      unfold pieceI
      rw [if_neg (by omega), if_pos (by omega), List.append_nil]
/-- What a byte class reads. -/
theorem atom_dot {s : List UInt8} {A : RS → TR} {r : RS} (he : r.e = 0) (h : At s r.pos [46]) : atomR s A r = (byT (fun x => !(rgF 10 10 x)), adv r 1) := by
  have hn := nextR_at he h.head
  unfold atomR
  rw [hn, if_neg (by decide), if_pos (by decide)]
  rfl
theorem atom_char {s : List UInt8} {A : RS → TR} {r : RS} {b : Nat} (he : r.e = 0) (hb : b < 256) (h : At s r.pos (charP b)) : atomR s A r = (byT (rgF b b), adv r (charP b).length) := by
  obtain ⟨c, T, hc, hbad, _⟩ := charP_head hb
  have h0 := h
  rw [hc] at h0
  have hn := nextR_at he h0.head
  have hne : ∀ d : UInt8, d ∈ badC → (c.toNat : Int) ≠ (d.toNat : Int) := fun d hd => toNat_ne fun e => hbad (by rw [e]; exact hd)
  have hg := group_none (T := []) he hb (by rw [List.append_nil]; exact h)
  have h1 := char_at he hb h
  unfold atomR
  have n1 : (c.toNat : Int) ≠ 40 := hne 40 (by decide)
  have n2 : (c.toNat : Int) ≠ 46 := hne 46 (by decide)
  have n3 : (c.toNat : Int) ≠ 94 := hne 94 (by decide)
  have n4 : (c.toNat : Int) ≠ 36 := hne 36 (by decide)
  have n5 : (c.toNat : Int) ≠ 91 := hne 91 (by decide)
  rw [hn, if_neg n1, if_neg n2, if_neg n3, if_neg n4, if_neg n5]
  unfold baseR
  rw [hg]
  dsimp only
  rw [h1]
  dsimp only
  rw [show ((b : Int)).toNat = b by omega]
theorem class_at {s : List UInt8} {A : RS → TR} {r : RS} (he : r.e = 0) (h : At s r.pos [91]) : atomR s A r = (byT (classR s (adv r 1)).1, (classR s (adv r 1)).2) := by
  have hn := nextR_at he h.head
  unfold atomR
  rw [hn, if_neg (by decide), if_neg (by decide), if_neg (by decide), if_neg (by decide), if_pos (by decide)]
  rfl
/-- A class is read back. -/
theorem class_back {s : List UInt8} {q : RS} {f : Nat → Bool} {inv : Bool} (he : q.e = 0) (hp : q.pos ≤ s.length) (hne : (itemsL f 0).1 ≠ []) (hS : setF (fun x => if inv = true then !f x else f x) ≠ .zero)
    (h : At s q.pos ((if inv = true then [94] else []) ++ ((itemsL f 0).1 ++ [93]))) :
    ∃ F, classR s q = (F, adv q ((if inv = true then 1 else 0) + ((itemsL f 0).1.length + 1))) ∧ ∀ x, x < 256 → F x = if inv = true then !f x else f x := by
  obtain ⟨c, T, hct, hbad⟩ : ∃ c T, (itemsL f 0).1 = c :: T ∧ c ∉ badC := (items_shape f 257 0).resolve_left hne
  have htk : takeR s q 94 = (inv, adv q (if inv = true then 1 else 0)) := by
    cases inv with
    | true => exact take_yes (c := 94) he h.left.head
    | false =>
      have h2 : At s q.pos ((itemsL f 0).1 ++ [93]) := h
      rw [hct] at h2
      exact take_no (d := 94) he h2.head (fun e => hbad (by rw [e]; decide))
  have hat : At s (adv q (if inv = true then 1 else 0)).pos ((itemsL f 0).1 ++ [93]) := by
    have := h.right
    cases inv with
    | true => exact this
    | false => exact this
  have hp2 : (adv q (if inv = true then 1 else 0)).pos ≤ s.length := by
    have := h.left.le hp
    cases inv with
    | true => exact this
    | false => exact this
  obtain ⟨G', g1, g2⟩ := items_read f s 257 0 (adv q (if inv = true then 1 else 0)) true (fun _ => false) (by omega) he hp2 hat (fun _ => hne)
  have hF : classF s q = fun x => if inv = true then !G' x else G' x := by unfold classF; rw [htk, g1]
  have hFx : ∀ x, x < 256 → classF s q x = if inv = true then !f x else f x := fun x hx => by rw [hF]; dsimp only; rw [g2 x hx]; simp
  have hE : classE s q = adv (adv q (if inv = true then 1 else 0)) (itemsL f 0).1.length := by
    unfold classE
    rw [setF_congr hFx, if_neg hS, htk, g1]
  refine ⟨classF s q, ?_, hFx⟩
  unfold classR
  rw [hE]
  have h9 := take_yes (s := s) (r := adv (adv q (if inv = true then 1 else 0)) (itemsL f 0).1.length) (c := 93) he hat.right.head
  rw [show (93 : Int) = ((93 : UInt8).toNat : Int) from rfl, h9]
  refine congrArg (Prod.mk _) ?_
  unfold adv; dsimp only; congr 1; omega
theorem bytes_back {s : List UInt8} {A : RS → TR} {r : RS} {f : Nat → Bool} (he : r.e = 0) (hp : r.pos ≤ s.length) (hS : setF f ≠ .zero) (h : At s r.pos (bytesP f)) :
    atomR s A r = (byT f, adv r (bytesP f).length) := by
  have hcn : (itemsL f 0).2 = cnt f 256 0 := items_cnt f 257 0 (by omega) (by omega)
  have hcm : (itemsL (fun x => !f x) 0).2 = cnt (fun x => !f x) 256 0 := items_cnt (fun x => !f x) 257 0 (by omega) (by omega)
  have hno := cnt_not f 256 0
  have hle := cnt_le f 256 0
  have hby : ∀ g : Nat → Bool, (∀ x, x < 256 → g x = f x) → byT g = byT f := fun g hg => by unfold byT; rw [setF_congr hg]
  have hn0 : (itemsL f 0).2 ≠ 0 := fun e => hS (by
    rw [← setF_none]
    exact setF_congr fun x hx => cnt_none f 256 0 (by rw [hcn] at e; exact e) x (Nat.zero_le _) (by omega))
  unfold bytesP at h ⊢
  by_cases h1 : (itemsL f 0).2 = 1
  · rw [if_pos h1] at h ⊢
    obtain ⟨x, _, x2, x3, x4⟩ := items_one1 f 257 0 (by omega) (by omega) h1
    rw [x4] at h ⊢
    rw [atom_char he x2 h]
    refine congrArg (fun t => (t, _)) (hby _ fun y hy => ?_)
    unfold rgF
    by_cases e : y = x
    · subst e; rw [x3]; simp
    · have hfy : f y = false := by
        cases hc : f y with
        | false => rfl
        | true =>
          have h5 : cnt (fun x => !f x) 256 0 + 1 = 256 := by rw [hcn] at h1; omega
          have := cnt_but (fun x => !f x) 256 0 h5 y x (Nat.zero_le _) (by omega) (Nat.zero_le _) (by omega) (by rw [hc]; rfl) (by rw [x3]; rfl)
          exact absurd this e
      rw [hfy]
      simp; omega
  rw [if_neg h1] at h ⊢
  by_cases h2 : (itemsL f 0).2 = 255 ∧ f 10 = false
  · rw [if_pos h2] at h ⊢
    rw [atom_dot he h]
    refine congrArg (fun t => (t, _)) (hby _ fun y hy => ?_)
    unfold rgF
    by_cases e : y = 10
    · subst e; rw [h2.2]; rfl
    · have hfy : f y = true := by
        cases hc : f y with
        | true => rfl
        | false =>
          have := cnt_but f 256 0 (by rw [hcn] at h2; omega) y 10 (Nat.zero_le _) (by omega) (Nat.zero_le _) (by omega) hc h2.2
          exact absurd this e
      rw [hfy]
      simp; omega
  rw [if_neg h2] at h ⊢
  have fin : ∀ (g : Nat → Bool) (inv : Bool), (∀ x, x < 256 → (if inv = true then !g x else g x) = f x) → (itemsL g 0).1 ≠ [] → At s r.pos ([91] ++ ((if inv = true then [94] else []) ++ ((itemsL g 0).1 ++ [93]))) →
      atomR s A r = (byT f, adv r (1 + ((if inv = true then 1 else 0) + ((itemsL g 0).1.length + 1)))) := fun g inv hg hne hat => by
    have hS2 : setF (fun x => if inv = true then !g x else g x) ≠ .zero := by rw [setF_congr hg]; exact hS
    obtain ⟨F, c1, c2⟩ := class_back (q := adv r 1) he (hat.left.le hp) hne hS2 hat.right
    rw [class_at he hat.left, c1, hby F (fun x hx => (c2 x hx).trans (hg x hx)), adv_adv]
  by_cases h3 : 128 < (itemsL f 0).2 ∧ (itemsL f 0).2 < 256
  · rw [if_pos h3] at h ⊢
    have hne : (itemsL (fun x => !f x) 0).1 ≠ [] := fun e => by
      have := items_some _ 257 0 (by omega) (by omega) e
      omega
    have := fin (fun x => !f x) true (fun x _ => by simp) hne (by simpa using h)
    rw [this]
    have e : 1 + ((if true = true then 1 else 0) + ((itemsL (fun x => !f x) 0).1.length + 1)) = ([91, 94] ++ (itemsL (fun x => !f x) 0).1 ++ [93] : List UInt8).length := by
      show 1 + (1 + ((itemsL (fun x => !f x) 0).1.length + 1)) = _
      simp only [List.length_append, List.length_cons, List.length_nil]; omega
    rw [e]
  · rw [if_neg h3] at h ⊢
    have hne : (itemsL f 0).1 ≠ [] := fun e => hn0 (items_some _ 257 0 (by omega) (by omega) e)
    have := fin f false (fun x _ => by simp) hne (by simpa using h)
    rw [this]
    have e : 1 + ((if false = true then 1 else 0) + ((itemsL f 0).1.length + 1)) = ([91] ++ (itemsL f 0).1 ++ [93] : List UInt8).length := by
      show 1 + (0 + ((itemsL f 0).1.length + 1)) = _
      simp only [List.length_append, List.length_cons, List.length_nil]; omega
    rw [e]
end
end Go.Proofs.Ytnjjchbgnmjkjaa
