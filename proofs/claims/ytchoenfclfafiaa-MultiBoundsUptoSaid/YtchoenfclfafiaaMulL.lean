/- Bodies of parts: plainly. -/
import Derived.Test.YtchoenfclfafiaaBase
import Derived.Test.YtchoenfclfafiaaOctC
import Derived.Lib.IndexMore
import Derived.Lib.IndexAny
import Derived.Lib.Strings
namespace Go.Proofs.Ytchoenfclfafiaa
open Go.RowKit

def bndB (b : UInt8) : Bool := letB b || decide (0 ≤ Lib.indexByte [39, 43, 95, 45, 46] b)
def rightB (l : List UInt8) : Bool := l.all bndB && (decide (1 ≤ l.length) && decide (l.length ≤ 70))
def beginL : List UInt8 := [99, 111, 110, 116, 101, 110, 116, 45, 100, 105, 115, 112, 111, 115, 105, 116, 105, 111, 110, 58, 32, 102, 111, 114, 109, 45, 100, 97, 116, 97, 59, 32, 110, 97, 109, 101, 61, 34]
def capL : List UInt8 := [67, 111, 110, 116, 101, 110, 116, 45, 68, 105, 115, 112, 111, 115, 105, 116, 105, 111, 110, 58, 32, 102, 111, 114, 109, 45, 100, 97, 116, 97, 59, 32, 110, 97, 109, 101, 61, 34]
def specL : List UInt8 := [34, 13, 10]
def nlL : List UInt8 := [13, 10]
def lineM (b : List UInt8) : List UInt8 := 45 :: 45 :: b
def frontR (s p : List UInt8) : List UInt8 × Bool := if s.length < p.length ∨ lowerL (s.take p.length) ≠ p then (s, false) else (s.drop p.length, true)
abbrev PartV := List UInt8 × List UInt8
def badP (b : List UInt8) (a : PartV) : Bool := Lib.containsAny a.1 specL || Lib.contains (nlL ++ a.2) (nlL ++ lineM b)
def textP (b : List UInt8) (a : PartV) : List UInt8 := lineM b ++ (13 :: 10 :: capL) ++ a.1 ++ [34, 13, 10, 13, 10] ++ a.2 ++ [13, 10]
def joinE (l : List PartV) (b : List UInt8) : Int := if rightB b = false then 1 else if 20 < l.length then 2 else if l.any (badP b) = true then 4 else 0
def joinM (l : List PartV) (b : List UInt8) : List UInt8 := l.flatMap (textP b) ++ lineM b ++ [45, 45, 13, 10]
/-- Lines up to an empty one are left out. -/
def skipR : Nat → List UInt8 → Option (List UInt8)
  | 0, _ => none
  | f + 1, s => if (Lib.cut s nlL).2.2 = false then none else if (Lib.cut s nlL).1 = [] then some (Lib.cut s nlL).2.1 else skipR f (Lib.cut s nlL).2.1
def skipL (s : List UInt8) : Option (List UInt8) := skipR (s.length + 1) s
def nameR (first : List UInt8) : List UInt8 := Lib.trimSuffix (frontR first beginL).1 [34]
def headOk (s : List UInt8) : Bool := (Lib.cut s nlL).2.2 && (frontR (Lib.cut s nlL).1 beginL).2 && Lib.hasSuffix (frontR (Lib.cut s nlL).1 beginL).1 [34] && !Lib.containsAny (nameR (Lib.cut s nlL).1) specL
def partR (s b : List UInt8) : Option (PartV × List UInt8) :=
  if headOk s = false then none
  else match skipL (Lib.cut s nlL).2.1 with
    | none => none
    | some r => if (Lib.cut (nlL ++ r) (nlL ++ lineM b)).2.2 = false then none
      else some ((nameR (Lib.cut s nlL).1, Lib.trimPrefix (Lib.cut (nlL ++ r) (nlL ++ lineM b)).1 nlL), (Lib.cut (nlL ++ r) (nlL ++ lineM b)).2.1)
/-- The parts, and what went wrong. -/
def partsR : Nat → List UInt8 → List UInt8 → Int → List PartV → Int × List PartV
  | 0, _, _, _, _ => (4, [])
  | f + 1, s, b, most, out =>
    if s = [45, 45, 13, 10] then (0, out)
    else if Lib.hasPrefix s nlL = false then (4, [])
    else match partR (s.drop 2) b with
      | none => (4, [])
      | some (a, r) => if most ≤ (out.length : Int) then (2, []) else partsR f r b most (out ++ [a])
def partsL (s b : List UInt8) (most : Int) : Int × List PartV :=
  if rightB b = false then (1, []) else if 4096 < s.length then (2, []) else if Lib.hasPrefix s (lineM b) = false then (4, []) else partsR (s.length + 1) (s.drop (lineM b).length) b most []

/-! Cutting at the first instance. -/
theorem occ_in {a p r : List UInt8} {j : Nat} (h : j + p.length ≤ a.length) : Lib.occAt (a ++ r) p j = Lib.occAt a p j := by
  unfold Lib.occAt
  rw [List.drop_append_of_le_length (by omega), Bool.eq_iff_iff, List.isPrefixOf_iff_prefix, List.isPrefixOf_iff_prefix]
  exact ⟨fun hp => List.prefix_of_prefix_length_le hp (List.prefix_append _ _) (by rw [List.length_drop]; omega), fun hp => hp.trans (List.prefix_append _ _)⟩
theorem no_occ {a p : List UInt8} (hp : p ≠ []) (h : Lib.contains a p = false) (j : Nat) : Lib.occAt a p j = false := by
  rcases Lib.index_spec a p with ⟨_, h2⟩ | ⟨i, h1, _⟩
  · rcases Nat.lt_or_ge a.length j with hj | hj
    · unfold Lib.occAt
      rw [List.drop_of_length_le (by omega)]
      cases p with
      | nil => exact absurd rfl hp
      | cons x t => rfl
    · exact h2 j hj
  · unfold Lib.contains at h
    rw [h1] at h
    have : (0 : Int) ≤ (i : Int) := by omega
    rw [decide_eq_true this] at h
    cases h
theorem contains_of_occ {a p : List UInt8} (h : ∀ j, j ≤ a.length → Lib.occAt a p j = false) : Lib.contains a p = false := by
  rcases Lib.index_spec a p with ⟨h1, _⟩ | ⟨i, _, h2, h3, _⟩
  · unfold Lib.contains; rw [h1]; rfl
  · rw [h i h2] at h3; cases h3
theorem cut_firstM {a t r : List UInt8} (ht : (13 : UInt8) ∉ t) (h : Lib.contains a (13 :: t) = false) : Lib.cut (a ++ (13 :: t) ++ r) (13 :: t) = (a, r, true) := by
  have hi : Lib.index (a ++ (13 :: t) ++ r) (13 :: t) = (a.length : Int) := by
    refine Lib.index_first (by simp <;> omega) ?_ fun j hj => ?_
    · unfold Lib.occAt
      rw [List.append_assoc, List.drop_left, List.isPrefixOf_iff_prefix]
      exact List.prefix_append _ _
    · rcases Nat.lt_or_ge a.length (j + (13 :: t).length) with hl | hl
      · cases ho : Lib.occAt (a ++ (13 :: t) ++ r) (13 :: t) j with
        | false => rfl
        | true =>
          exfalso
          unfold Lib.occAt at ho
          rw [List.isPrefixOf_iff_prefix] at ho
          obtain ⟨z, hz⟩ := ho
          have h1 : (List.drop j (a ++ (13 :: t) ++ r))[a.length - j]? = some 13 := by
            rw [List.getElem?_drop, show j + (a.length - j) = a.length by omega, List.append_assoc, List.getElem?_append_right (Nat.le_refl _), Nat.sub_self]
            rfl
          rw [← hz, List.getElem?_append_left (by omega)] at h1
          have h2 : t[a.length - j - 1]? = some 13 := by
            rw [show a.length - j = (a.length - j - 1) + 1 by omega] at h1
            exact h1
          exact ht (List.mem_of_getElem? h2)
      · rw [List.append_assoc, occ_in hl]
        exact no_occ (by simp) h j
  unfold Lib.cut
  rw [if_pos (by rw [hi]; omega), hi, Int.toNat_natCast]
  refine Prod.ext ?_ (Prod.ext ?_ rfl)
  · rw [List.append_assoc, List.take_left]
  · show List.drop (a.length + (13 :: t).length) _ = r
    rw [← List.length_append, List.drop_left]
theorem cut_back_all {s p : List UInt8} (h : (Lib.cut s p).2.2 = true) : s = (Lib.cut s p).1 ++ p ++ (Lib.cut s p).2.1 ∧ (p ≠ [] → Lib.contains (Lib.cut s p).1 p = false) := by
  unfold Lib.cut at h ⊢
  by_cases hi : 0 ≤ Lib.index s p
  · rw [if_pos hi]
    rcases Lib.index_spec s p with ⟨h1, _⟩ | ⟨i, h1, h2, h3, h4⟩
    · omega
    · rw [h1, Int.toNat_natCast]
      have hr := Lib.occAt_room h3
      dsimp only
      unfold Lib.occAt at h3
      rw [List.isPrefixOf_iff_prefix] at h3
      obtain ⟨z, hz⟩ := h3
      refine ⟨?_, fun hp => ?_⟩
      · have e1 : s.drop (i + p.length) = z := by rw [← List.drop_drop, ← hz, List.drop_left]
        rw [e1, List.append_assoc, hz, List.take_append_drop]
      · refine contains_of_occ fun j hj => ?_
        rw [List.length_take] at hj
        rcases Nat.lt_or_ge (s.take i).length (j + p.length) with hl | hl
        · cases ho : Lib.occAt (s.take i) p j with
          | false => rfl
          | true => rcases Lib.occAt_room ho with h5 | h5
                    · omega
                    · exact absurd h5 hp
        · have hpl : 0 < p.length := List.length_pos_iff.2 hp
          have := occ_in (r := s.drop i) hl
          rw [List.take_append_drop] at this
          rw [← this]
          rw [List.length_take] at hl
          exact h4 j (by omega)
  · rw [if_neg hi] at h; cases h
theorem any_none (chars : List UInt8) : ∀ l : List UInt8, Lib.containsAny l chars = false ↔ ∀ x ∈ l, chars.contains x = false := by
  intro l
  constructor
  · intro h x hx
    cases hc : chars.contains x with
    | false => rfl
    | true =>
      exfalso
      have : ∀ m : List UInt8, x ∈ m → 0 ≤ Lib.indexAny m chars := by
        intro m
        induction m with
        | nil => intro h; cases h
        | cons y m ih =>
          intro hm
          unfold Lib.indexAny
          split
          · omega
          · rename_i hy
            rcases List.mem_cons.1 hm with e | e
            · subst e; exact absurd hc hy
            · have := ih e
              split
              · rename_i h1
                have : Lib.indexAny m chars = -1 := by simpa using h1
                omega
              · omega
      have h2 := this l hx
      unfold Lib.containsAny at h
      rw [decide_eq_true h2] at h
      cases h
  · intro h
    have : Lib.indexAny l chars = -1 := Lib.indexAny_none (fun j b _ hb => h b (List.mem_of_getElem? hb))
    unfold Lib.containsAny
    rw [this]
    rfl
theorem spec_not {l : List UInt8} (h : Lib.containsAny l specL = false) : (13 : UInt8) ∉ l ∧ (10 : UInt8) ∉ l ∧ (34 : UInt8) ∉ l := by
  rw [any_none] at h
  exact ⟨fun e => by have := h _ e; revert this; decide, fun e => by have := h _ e; revert this; decide, fun e => by have := h _ e; revert this; decide⟩
theorem contains_clean {a t : List UInt8} (h : (13 : UInt8) ∉ a) : Lib.contains a (13 :: t) = false :=
  contains_of_occ fun j _ => by
    cases ho : Lib.occAt a (13 :: t) j with
    | false => rfl
    | true => exact absurd (List.mem_of_getElem? (Lib.occAt_head rfl ho)) h
theorem bnd_plain (x : UInt8) (h : bndB x = true) : x ≠ 13 := fun e => by subst e; revert h; decide
theorem right_not {b : List UInt8} (h : rightB b = true) : (13 : UInt8) ∉ b := by
  unfold rightB at h
  rw [Bool.and_eq_true] at h
  exact fun e => bnd_plain _ (List.all_eq_true.1 h.1 _ e) rfl
theorem right_len {b : List UInt8} (h : rightB b = true) : 1 ≤ b.length ∧ b.length ≤ 70 := by
  unfold rightB at h
  simp only [Bool.and_eq_true, decide_eq_true_eq] at h
  exact h.2
theorem line_not {b : List UInt8} (h : rightB b = true) : (13 : UInt8) ∉ (10 :: lineM b) := by
  unfold lineM
  intro e
  rcases List.mem_cons.1 e with e | e
  · revert e; decide
  · rcases List.mem_cons.1 e with e | e
    · revert e; decide
    · rcases List.mem_cons.1 e with e | e
      · revert e; decide
      · exact right_not h e
theorem cap_low : lowerL capL = beginL := by decide
theorem cap_clean : (13 : UInt8) ∉ capL := by decide
theorem front_cap (x : List UInt8) : frontR (capL ++ x) beginL = (x, true) := by
  have hl : beginL.length = capL.length := by decide
  unfold frontR
  rw [if_neg]
  · rw [hl, List.drop_left]
  · rintro (h | h)
    · rw [List.length_append] at h; omega
    · apply h; rw [hl, List.take_left]; exact cap_low
theorem suffix_quote (n : List UInt8) : Lib.hasSuffix (n ++ [34]) [34] = true ∧ Lib.trimSuffix (n ++ [34]) [34] = n := by
  have h : Lib.hasSuffix (n ++ [34]) [34] = true := by unfold Lib.hasSuffix; rw [List.isSuffixOf_iff_suffix]; exact List.suffix_append _ _
  refine ⟨h, ?_⟩
  unfold Lib.trimSuffix
  rw [if_pos h, List.length_append, Nat.add_sub_cancel, List.take_left]
theorem trim_nl (v : List UInt8) : Lib.trimPrefix (nlL ++ v) nlL = v := by
  have h : Lib.hasPrefix (nlL ++ v) nlL = true := by unfold Lib.hasPrefix; rw [List.isPrefixOf_iff_prefix]; exact List.prefix_append _ _
  unfold Lib.trimPrefix
  rw [if_pos h, List.drop_left]
theorem skip_nl (r : List UInt8) : skipL (nlL ++ r) = some r := by
  have h := cut_firstM (a := []) (t := [10]) (r := r) (by decide) (by decide)
  have h : Lib.cut (nlL ++ r) nlL = ([], r, true) := h
  unfold skipL skipR
  rw [h]
  rfl
def tailP (b : List UInt8) (a : PartV) : List UInt8 := capL ++ a.1 ++ [34] ++ nlL ++ nlL ++ a.2 ++ nlL ++ lineM b
theorem part_back {b : List UInt8} {a : PartV} (hb : rightB b = true) (ha : badP b a = false) (r : List UInt8) : partR (tailP b a ++ r) b = some (a, r) := by
  obtain ⟨n, v⟩ := a
  unfold badP at ha
  rw [Bool.or_eq_false_iff] at ha
  obtain ⟨h1, h2⟩ := ha
  dsimp only at h1 h2
  obtain ⟨q1, q2, q3⟩ := spec_not h1
  have hc1 : Lib.cut (tailP b (n, v) ++ r) nlL = (capL ++ n ++ [34], nlL ++ (v ++ nlL ++ lineM b ++ r), true) := by
    have e : tailP b (n, v) ++ r = (capL ++ n ++ [34]) ++ (13 :: [10]) ++ (nlL ++ (v ++ nlL ++ lineM b ++ r)) := by
      unfold tailP nlL
      simp only [List.append_assoc, List.cons_append, List.nil_append]
    rw [e]
    refine cut_firstM (by decide) (contains_clean ?_)
    intro e
    rcases List.mem_append.1 e with e | e
    · rcases List.mem_append.1 e with e | e
      · exact cap_clean e
      · exact q1 e
    · revert e; decide
  have hc2 : Lib.cut (nlL ++ (v ++ nlL ++ lineM b ++ r)) (nlL ++ lineM b) = (nlL ++ v, r, true) := by
    have e : nlL ++ (v ++ nlL ++ lineM b ++ r) = (nlL ++ v) ++ (13 :: (10 :: lineM b)) ++ r := by
      unfold nlL
      simp only [List.append_assoc, List.cons_append, List.nil_append]
    rw [e]
    exact cut_firstM (line_not hb) h2
  have hf : frontR (capL ++ n ++ [34]) beginL = (n ++ [34], true) := by rw [List.append_assoc]; exact front_cap _
  unfold partR headOk nameR
  rw [hc1]
  dsimp only
  rw [hf]
  dsimp only
  rw [(suffix_quote n).1, (suffix_quote n).2, h1]
  rw [if_neg (by decide), skip_nl]
  dsimp only
  rw [hc2]
  dsimp only
  rw [if_neg (by decide), trim_nl]
def bodyJ (l : List PartV) (b : List UInt8) : List UInt8 := l.flatMap (fun a => nlL ++ tailP b a) ++ [45, 45, 13, 10]
theorem join_body (b : List UInt8) : ∀ l : List PartV, joinM l b = lineM b ++ bodyJ l b := by
  intro l
  unfold joinM bodyJ
  induction l with
  | nil => rfl
  | cons a l ih =>
    rw [List.flatMap_cons, List.flatMap_cons]
    have e : textP b a = lineM b ++ nlL ++ capL ++ a.1 ++ [34] ++ nlL ++ nlL ++ a.2 ++ nlL := by
      unfold textP nlL
      simp only [List.append_assoc, List.cons_append, List.nil_append]
    rw [List.append_assoc, List.append_assoc, ← List.append_assoc (List.flatMap _ l), ih, e]
    unfold tailP
    simp only [List.append_assoc]
theorem parts_back {b : List UInt8} (hb : rightB b = true) (most : Int) : ∀ (l : List PartV) (f : Nat) (out : List PartV), (∀ a ∈ l, badP b a = false) → l.length < f → (out.length : Int) + l.length ≤ most → partsR f (bodyJ l b) b most out = (0, out ++ l) := by
  intro l
  induction l with
  | nil =>
    intro f out _ hf _
    obtain ⟨f, rfl⟩ : ∃ k, f = k + 1 := ⟨f - 1, by simp at hf; omega⟩
    unfold partsR
    rw [if_pos (by rfl), List.append_nil]
  | cons a l ih =>
    intro f out hl hf hm
    obtain ⟨f, rfl⟩ : ∃ k, f = k + 1 := ⟨f - 1, by simp at hf; omega⟩
    rw [List.length_cons] at hf hm
    have e : bodyJ (a :: l) b = nlL ++ (tailP b a ++ bodyJ l b) := by unfold bodyJ; rw [List.flatMap_cons]; simp only [List.append_assoc]
    unfold partsR
    rw [e, if_neg (by unfold nlL; intro h; injection h with h; revert h; decide)]
    have hp : Lib.hasPrefix (nlL ++ (tailP b a ++ bodyJ l b)) nlL = true := by unfold Lib.hasPrefix; rw [List.isPrefixOf_iff_prefix]; exact List.prefix_append _ _
    have hd : (nlL ++ (tailP b a ++ bodyJ l b)).drop 2 = tailP b a ++ bodyJ l b := rfl
    rw [hp, if_neg (by decide), hd, part_back hb (hl a (by simp))]
    dsimp only
    rw [if_neg (by omega), ih f (out ++ [a]) (fun x hx => hl x (by simp [hx])) (by omega) (by rw [List.length_append, List.length_singleton]; omega), List.append_assoc]
    rfl
theorem join_back_m {l : List PartV} {b : List UInt8} (h : joinE l b = 0) : partsL (joinM l b) b 20 = if 4096 < (joinM l b).length then (2, []) else (0, l) := by
  unfold joinE at h
  cases hb : rightB b with
  | false =>
    rw [hb, if_pos rfl] at h
    exact absurd h (by decide)
  | true =>
    rw [hb, if_neg (by decide)] at h
    by_cases hl : 20 < l.length
    · rw [if_pos hl] at h; exact absurd h (by decide)
    · rw [if_neg hl] at h
      cases ha : l.any (badP b) with
      | true => rw [ha] at h; exact absurd h (by decide)
      | false =>
        unfold partsL
        rw [hb, if_neg (by decide)]
        split
        · rfl
        · have hp : Lib.hasPrefix (joinM l b) (lineM b) = true := by rw [join_body]; unfold Lib.hasPrefix; rw [List.isPrefixOf_iff_prefix]; exact List.prefix_append _ _
          have hd : (joinM l b).drop (lineM b).length = bodyJ l b := by rw [join_body, List.drop_left]
          rw [hp, if_neg (by decide), hd, parts_back hb 20 l _ [] (fun a hx => by
            have := List.any_eq_false.1 ha a hx
            simpa using this) ?_ (by simp; omega)]
          · rfl
          · have h1 : (bodyJ l b).length ≤ (joinM l b).length := by rw [join_body, List.length_append]; omega
            have h2 : l.length ≤ (bodyJ l b).length := by
              unfold bodyJ
              rw [List.length_append]
              have : ∀ m : List PartV, m.length ≤ (m.flatMap fun a => nlL ++ tailP b a).length := by
                intro m
                induction m with
                | nil => exact Nat.le_refl _
                | cons x m ih => rw [List.flatMap_cons, List.length_append, List.length_cons]; have : 1 ≤ (nlL ++ tailP b x).length := by rw [List.length_append]; show 1 ≤ 2 + _; omega
                                 omega
              have := this l
              omega
            omega
theorem cut_short {s p : List UInt8} (h : (Lib.cut s p).2.2 = true) : (Lib.cut s p).2.1.length + p.length ≤ s.length := by
  have := congrArg List.length (cut_back_all h).1
  rw [List.length_append, List.length_append] at this
  omega
theorem skipR_len : ∀ (f : Nat) {s r : List UInt8}, skipR f s = some r → r.length ≤ s.length
  | 0, s, r, h => by unfold skipR at h; cases h
  | f + 1, s, r, h => by
    unfold skipR at h
    cases hc : (Lib.cut s nlL).2.2 with
    | false => rw [hc, if_pos rfl] at h; cases h
    | true =>
      rw [hc, if_neg (by decide)] at h
      have h1 := cut_short hc
      split at h
      · injection h with h; subst h; omega
      · have := skipR_len f h; omega
theorem skip_len {s r : List UInt8} (h : skipL s = some r) : r.length ≤ s.length := skipR_len _ h
theorem part_good {s b : List UInt8} {a : PartV} {r : List UInt8} (hb : rightB b = true) (h : partR s b = some (a, r)) : badP b a = false ∧ r.length < s.length := by
  unfold partR at h
  cases hk : headOk s with
  | false => rw [hk, if_pos rfl] at h; cases h
  | true =>
    rw [hk, if_neg (by decide)] at h
    cases hs : skipL (Lib.cut s nlL).2.1 with
    | none => rw [hs] at h; cases h
    | some r0 =>
      rw [hs] at h
      dsimp only at h
      cases hc : (Lib.cut (nlL ++ r0) (nlL ++ lineM b)).2.2 with
      | false => rw [hc, if_pos rfl] at h; cases h
      | true =>
        rw [hc, if_neg (by decide)] at h
        injection h with h
        injection h with h1 h2
        unfold headOk at hk
        simp only [Bool.and_eq_true, Bool.not_eq_true'] at hk
        obtain ⟨⟨⟨k1, k2⟩, k3⟩, k4⟩ := hk
        obtain ⟨e1, e2⟩ := cut_back_all hc
        have e2 := e2 (by unfold nlL; simp)
        obtain ⟨r1, r2⟩ := right_len hb
        have hP : (nlL ++ lineM b).length = b.length + 4 := by unfold nlL lineM; simp
        subst h1; subst h2
        refine ⟨?_, ?_⟩
        · unfold badP
          rw [Bool.or_eq_false_iff]
          refine ⟨k4, ?_⟩
          show Lib.contains (nlL ++ Lib.trimPrefix (Lib.cut (nlL ++ r0) (nlL ++ lineM b)).1 nlL) (nlL ++ lineM b) = false
          generalize (Lib.cut (nlL ++ r0) (nlL ++ lineM b)).1 = V at *
          cases hp : Lib.hasPrefix V nlL with
          | true =>
            have hp' := hp
            unfold Lib.hasPrefix at hp'
            rw [List.isPrefixOf_iff_prefix] at hp'
            obtain ⟨z, rfl⟩ := hp'
            rw [trim_nl]
            exact e2
          | false =>
            have hv : Lib.trimPrefix V nlL = V := by unfold Lib.trimPrefix; rw [hp, if_neg (by decide)]
            rw [hv]
            have hvl : V.length < 2 := by
              rcases Nat.lt_or_ge V.length 2 with h | h
              · exact h
              · exfalso
                have h3 : nlL <+: V := by
                  have h4 : nlL <+: (V ++ (nlL ++ lineM b) ++ (Lib.cut (nlL ++ r0) (nlL ++ lineM b)).2.1) := by rw [← e1]; exact List.prefix_append _ _
                  rw [List.append_assoc] at h4
                  exact List.prefix_of_prefix_length_le h4 (List.prefix_append _ _) h
                unfold Lib.hasPrefix at hp
                rw [List.isPrefixOf_iff_prefix.2 h3] at hp
                cases hp
            refine contains_of_occ fun j _ => ?_
            cases ho : Lib.occAt (nlL ++ V) (nlL ++ lineM b) j with
            | false => rfl
            | true =>
              exfalso
              rcases Lib.occAt_room ho with h5 | h5
              · rw [hP, List.length_append] at h5
                have : nlL.length = 2 := rfl
                omega
              · rw [h5] at hP; simp at hP
        · have h5 := congrArg List.length e1
          rw [List.length_append, List.length_append, List.length_append, hP] at h5
          have h6 := skip_len hs
          have h7 := cut_short k1
          have : nlL.length = 2 := rfl
          omega
theorem parts_good {b : List UInt8} (hb : rightB b = true) (most : Int) : ∀ (f : Nat) (s : List UInt8) (out l : List PartV), partsR f s b most out = (0, l) → (∀ a ∈ out, badP b a = false) → (out.length : Int) ≤ most → (∀ a ∈ l, badP b a = false) ∧ (l.length : Int) ≤ most := by
  intro f
  induction f with
  | zero => intro s out l h; unfold partsR at h; cases h
  | succ f ih =>
    intro s out l h ho hl
    unfold partsR at h
    split at h
    · cases h; exact ⟨ho, hl⟩
    · split at h
      · cases h
      · cases hp : partR (s.drop 2) b with
        | none => rw [hp] at h; cases h
        | some p =>
          obtain ⟨a, r⟩ := p
          rw [hp] at h
          dsimp only at h
          split at h
          · cases h
          · rename_i hlt
            refine ih r (out ++ [a]) l h (fun x hx => ?_) (by rw [List.length_append, List.length_singleton]; omega)
            rcases List.mem_append.1 hx with hx | hx
            · exact ho x hx
            · rw [List.mem_singleton.1 hx]; exact (part_good hb hp).1
theorem parts_join {s b : List UInt8} {l : List PartV} (h : partsL s b 20 = (0, l)) : joinE l b = 0 := by
  unfold partsL at h
  cases hb : rightB b with
  | false => rw [hb] at h; cases h
  | true =>
    rw [hb, if_neg (by decide)] at h
    split at h
    · cases h
    · split at h
      · cases h
      · obtain ⟨h1, h2⟩ := parts_good hb 20 _ _ _ _ h (by simp) (by simp)
        unfold joinE
        rw [hb, if_neg (by decide), if_neg (by omega), if_neg]
        rw [List.any_eq_true]
        rintro ⟨a, ha, hx⟩
        rw [h1 a ha] at hx
        cases hx
end Go.Proofs.Ytchoenfclfafiaa
