/- Heads of requests, plainly: what is right, printed, read; what is printed is read back; no head is a beginning of another. -/
import Derived.Test.YtchoenfclfafiaaDoorHedL
namespace Go.Proofs.YtchoenfclfafiaaDoor
open Go.RowKit

def plainB (b : UInt8) : Bool := !(decide (b.toNat < 33) || decide (126 < b.toNat))
def plainL (l : List UInt8) : Bool := l.all plainB
def valB (b : UInt8) : Bool := !(decide (b.toNat < 32) && !(b.toNat == 9) || b.toNat == 127)
def valueL (l : List UInt8) : Bool := l.all valB && (trimL l == l)
def fieldE (f : PairV) : Int :=
  if (tokenL f.1.data.toList && valueL f.2.data.toList) = false then 4 else if 1000 < f.1.size + f.2.size then 5 else 0
def fieldsE : List PairV → Int
  | [] => 0
  | f :: r => if fieldE f = 0 then fieldsE r else fieldE f
structure HeadV where
  m : ByteArray
  t : ByteArray
  fs : List PairV
def lineOneB (m t : List UInt8) : Bool := tokenL m && decide (m.length ≤ 20) && !t.isEmpty && plainL t
def checkH (h : HeadV) : Int :=
  if lineOneB h.m.data.toList h.t.data.toList = false then 4 else if 1000 < h.t.size ∨ 30 < h.fs.length then 5 else fieldsE h.fs
def verL : List UInt8 := [72, 84, 84, 80, 47, 49, 46, 49]
def lineF (f : PairV) : List UInt8 := f.1.data.toList ++ 58 :: 32 :: f.2.data.toList
def firstL (h : HeadV) : List UInt8 := h.m.data.toList ++ 32 :: h.t.data.toList ++ 32 :: verL
def printH (h : HeadV) : List UInt8 := firstL h ++ [13, 10] ++ h.fs.flatMap (fun f => lineF f ++ [13, 10]) ++ [13, 10]
def lineOk (x : List UInt8) : Bool := !x.isEmpty && (!x.contains 13 && !x.contains 10)
def endL : List UInt8 := [13, 10, 13, 10]
def linesL (l : List UInt8) : Option (List (List UInt8)) :=
  if Lib.hasSuffix l endL = true then (if (spl2 (l.take (l.length - 4))).all lineOk = true then some (spl2 (l.take (l.length - 4))) else none) else none
def cutF (x : List UInt8) : PairV := (bs (Lib.cut x [58]).1, bs (trimL (Lib.cut x [58]).2.1))
def cutOk (x : List UInt8) : Bool := (Lib.cut x [58]).2.2
def headOf (ls : List (List UInt8)) : Except Int HeadV :=
  match splL 32 (ls.headD []) with
  | [a, b, c] => if c = verL then (if ls.tail.all cutOk = true then (if checkH ⟨bs a, bs b, ls.tail.map cutF⟩ = 0 then .ok ⟨bs a, bs b, ls.tail.map cutF⟩ else .error (checkH ⟨bs a, bs b, ls.tail.map cutF⟩)) else .error 4) else .error 4
  | _ => .error 4
def parseH (l : List UInt8) : Except Int HeadV :=
  if 4096 < l.length then .error 5 else match linesL l with
  | none => .error 4
  | some ls => headOf ls

theorem fieldE_cases (f : PairV) : fieldE f = 0 ∨ fieldE f = 4 ∨ fieldE f = 5 := by
  unfold fieldE
  split
  · exact .inr (.inl rfl)
  · split
    · exact .inr (.inr rfl)
    · exact .inl rfl
theorem fieldsE_cases : ∀ l : List PairV, fieldsE l = 0 ∨ fieldsE l = 4 ∨ fieldsE l = 5
  | [] => .inl rfl
  | f :: r => by
    unfold fieldsE
    split
    · exact fieldsE_cases r
    · exact fieldE_cases f
theorem checkH_cases (h : HeadV) : checkH h = 0 ∨ checkH h = 4 ∨ checkH h = 5 := by
  unfold checkH
  split
  · exact .inr (.inl rfl)
  · split
    · exact .inr (.inr rfl)
    · exact fieldsE_cases _
theorem fieldsE_ok : ∀ {l : List PairV}, fieldsE l = 0 → ∀ f ∈ l, fieldE f = 0
  | [], _, f, h => by cases h
  | x :: r, h, f, hf => by
    unfold fieldsE at h
    split at h
    · rename_i h1
      rcases List.mem_cons.1 hf with e | e
      · subst e; exact h1
      · exact fieldsE_ok h f e
    · rename_i h1; exact absurd h h1
/-- What a right head is. -/
structure HeadOk (h : HeadV) : Prop where
  tok : tokenL h.m.data.toList = true
  short : h.m.size ≤ 20
  some_ : h.t.data.toList ≠ []
  plain : plainL h.t.data.toList = true
  line : h.t.size ≤ 1000
  few : h.fs.length ≤ 30
  names : ∀ f ∈ h.fs, tokenL f.1.data.toList = true
  vals : ∀ f ∈ h.fs, valueL f.2.data.toList = true
  lens : ∀ f ∈ h.fs, f.1.size + f.2.size ≤ 1000
theorem fieldE_ok {f : PairV} (h : fieldE f = 0) : tokenL f.1.data.toList = true ∧ valueL f.2.data.toList = true ∧ f.1.size + f.2.size ≤ 1000 := by
  unfold fieldE at h
  split at h
  · cases h
  · rename_i h1
    split at h
    · cases h
    · rename_i h2
      rw [Bool.not_eq_false, Bool.and_eq_true] at h1
      exact ⟨h1.1, h1.2, by omega⟩
theorem head_ok {h : HeadV} (hc : checkH h = 0) : HeadOk h := by
  unfold checkH at hc
  split at hc
  · cases hc
  · rename_i h1
    split at hc
    · cases hc
    · rename_i h2
      unfold lineOneB at h1
      rw [Bool.not_eq_false] at h1
      simp only [Bool.and_eq_true, decide_eq_true_eq] at h1
      obtain ⟨⟨⟨a1, a2⟩, a3⟩, a4⟩ := h1
      have hl : h.m.data.toList.length = h.m.size := by simp
      have hx := fieldsE_ok hc
      exact ⟨a1, by omega, by simpa using a3, a4, by omega, by omega, fun f hf => (fieldE_ok (hx f hf)).1, fun f hf => (fieldE_ok (hx f hf)).2.1, fun f hf => (fieldE_ok (hx f hf)).2.2⟩

theorem tokB_plain (b : UInt8) (h : tokB b = true) : b ≠ 32 ∧ b ≠ 13 ∧ b ≠ 10 ∧ b ≠ 58 ∧ b ≠ 9 ∧ b ≠ 34 := by
  have := all_bytes (p := fun b => !tokB b || decide (b ≠ 32 ∧ b ≠ 13 ∧ b ≠ 10 ∧ b ≠ 58 ∧ b ≠ 9 ∧ b ≠ 34)) (by decide +kernel) b
  rw [h] at this
  simpa using this
theorem plainB_plain (b : UInt8) (h : plainB b = true) : b ≠ 32 ∧ b ≠ 13 ∧ b ≠ 10 := by
  have := all_bytes (p := fun b => !plainB b || decide (b ≠ 32 ∧ b ≠ 13 ∧ b ≠ 10)) (by decide +kernel) b
  rw [h] at this
  simpa using this
theorem valB_plain (b : UInt8) (h : valB b = true) : b ≠ 13 ∧ b ≠ 10 := by
  have := all_bytes (p := fun b => !valB b || decide (b ≠ 13 ∧ b ≠ 10)) (by decide +kernel) b
  rw [h] at this
  simpa using this
theorem tokL_not {l : List UInt8} (h : tokenL l = true) : (32 : UInt8) ∉ l ∧ (13 : UInt8) ∉ l ∧ (10 : UInt8) ∉ l ∧ (58 : UInt8) ∉ l ∧ l ≠ [] := by
  unfold tokenL at h
  simp only [Bool.and_eq_true, List.all_eq_true] at h
  refine ⟨fun e => (tokB_plain _ (h.2 _ e)).1 rfl, fun e => (tokB_plain _ (h.2 _ e)).2.1 rfl, fun e => (tokB_plain _ (h.2 _ e)).2.2.1 rfl, fun e => (tokB_plain _ (h.2 _ e)).2.2.2.1 rfl, fun e => by rw [e] at h; simp at h⟩
theorem plainL_not {l : List UInt8} (h : plainL l = true) : (32 : UInt8) ∉ l ∧ (13 : UInt8) ∉ l ∧ (10 : UInt8) ∉ l := by
  unfold plainL at h
  rw [List.all_eq_true] at h
  exact ⟨fun e => (plainB_plain _ (h _ e)).1 rfl, fun e => (plainB_plain _ (h _ e)).2.1 rfl, fun e => (plainB_plain _ (h _ e)).2.2 rfl⟩
theorem valueL_not {l : List UInt8} (h : valueL l = true) : (13 : UInt8) ∉ l ∧ (10 : UInt8) ∉ l ∧ trimL l = l := by
  unfold valueL at h
  simp only [Bool.and_eq_true, List.all_eq_true, beq_iff_eq] at h
  exact ⟨fun e => (valB_plain _ (h.1 _ e)).1 rfl, fun e => (valB_plain _ (h.1 _ e)).2 rfl, h.2⟩
theorem contains_not {l : List UInt8} {b : UInt8} (h : b ∉ l) : l.contains b = false := by
  cases e : l.contains b with
  | false => rfl
  | true => exact absurd (List.contains_iff_mem.1 e) h
theorem lineOk_of {x : List UInt8} (h0 : x ≠ []) (h1 : (13 : UInt8) ∉ x) (h2 : (10 : UInt8) ∉ x) : lineOk x = true := by
  unfold lineOk
  rw [contains_not h1, contains_not h2]
  cases x with
  | nil => exact absurd rfl h0
  | cons _ _ => rfl
theorem line_not {x : List UInt8} (h : lineOk x = true) : x ≠ [] ∧ (13 : UInt8) ∉ x ∧ (10 : UInt8) ∉ x := by
  unfold lineOk at h
  simp only [Bool.and_eq_true, Bool.not_eq_true'] at h
  refine ⟨fun e => by rw [e] at h; simp at h, fun e => ?_, fun e => ?_⟩
  · have := List.contains_iff_mem.2 e; rw [h.2.1] at this; cases this
  · have := List.contains_iff_mem.2 e; rw [h.2.2] at this; cases this

/-- Lines with ends between. -/
theorem spl2_lines : ∀ (x : List UInt8) (ls : List (List UInt8)), (∀ y ∈ x :: ls, (13 : UInt8) ∉ y) → spl2 (x ++ ls.flatMap fun y => [13, 10] ++ y) = x :: ls
  | x, [], h => by rw [List.flatMap_nil, List.append_nil]; exact spl2_clean x (h x (by simp))
  | x, y :: ls, h => by
    have ih := spl2_lines y ls (fun z hz => h z (by simp only [List.mem_cons] at hz ⊢; exact .inr hz))
    have e : x ++ (y :: ls).flatMap (fun y => [13, 10] ++ y) = x ++ 13 :: 10 :: (y ++ ls.flatMap fun y => [13, 10] ++ y) := by simp
    rw [e, spl2_append, ih, spl2_clean x (h x (by simp))]
    rfl
theorem shift_ends : ∀ (x : List UInt8) (ls : List (List UInt8)), x ++ [13, 10] ++ ls.flatMap (fun y => y ++ [13, 10]) = (x ++ ls.flatMap fun y => [13, 10] ++ y) ++ [13, 10]
  | x, [] => by simp
  | x, y :: ls => by
    have ih := shift_ends y ls
    rw [List.flatMap_cons, List.flatMap_cons]
    have e1 : x ++ [13, 10] ++ (y ++ [13, 10] ++ ls.flatMap fun y => y ++ [13, 10]) = x ++ [13, 10] ++ (y ++ [13, 10] ++ ls.flatMap (fun y => y ++ [13, 10])) := rfl
    rw [e1, ih]
    simp
theorem printH_form (h : HeadV) : printH h = (firstL h ++ (h.fs.map lineF).flatMap fun y => [13, 10] ++ y) ++ endL := by
  unfold printH
  have e : h.fs.flatMap (fun f => lineF f ++ [13, 10]) = (h.fs.map lineF).flatMap fun y => y ++ [13, 10] := by rw [List.flatMap_map]
  rw [e, shift_ends, List.append_assoc]
  rfl
theorem suffix_end (a : List UInt8) : Lib.hasSuffix (a ++ endL) endL = true := by
  unfold Lib.hasSuffix
  rw [List.isSuffixOf_iff_suffix]
  exact ⟨a, rfl⟩
theorem take_end (a : List UInt8) : (a ++ endL).take ((a ++ endL).length - 4) = a := by
  rw [List.length_append, show endL.length = 4 from rfl, Nat.add_sub_cancel, List.take_left]
theorem spl_three (a b c : List UInt8) (h1 : (32 : UInt8) ∉ a) (h2 : (32 : UInt8) ∉ b) (h3 : (32 : UInt8) ∉ c) : splL 32 (a ++ 32 :: b ++ 32 :: c) = [a, b, c] := by
  have whole : ∀ w : List UInt8, (32 : UInt8) ∉ w → splL 32 w = [w] := fun w => by
    induction w with
    | nil => intro _; rfl
    | cons b w ih => intro h; rw [splL, if_neg (fun e => h (by simp [e])), ih (fun e => h (by simp [e]))]
  rw [List.append_assoc, List.cons_append, splL_append, splL_append, whole a h1, whole b h2, whole c h3]
  rfl
theorem cut_line (c : UInt8) : ∀ (a b : List UInt8), c ∉ a → Lib.cut (a ++ c :: b) [c] = (a, b, true) := by
  intro a b h
  have key : ∀ a : List UInt8, c ∉ a → Lib.index (a ++ c :: b) [c] = (a.length : Int) := by
    intro a
    induction a with
    | nil => intro _; rw [List.nil_append, Lib.index]; simp [List.isPrefixOf]
    | cons x a ih =>
      intro h
      have h1 := ih (fun e => h (by simp [e]))
      rw [List.cons_append, index_cons_ne x c _ (fun e => h (by simp [e])), h1, if_neg (by rw [beq_iff_eq]; omega)]
      simp
  have h1 := key a h
  unfold Lib.cut
  rw [if_pos (by omega), h1]
  simp
theorem trimL_len (l : List UInt8) : (trimL l).length ≤ l.length := by
  unfold trimL rtrimL
  rw [List.length_reverse]
  refine Nat.le_trans (List.dropWhile_sublist _).length_le ?_
  rw [List.length_reverse]
  exact (List.dropWhile_sublist _).length_le
theorem trim_blank (l : List UInt8) : trimL (32 :: l) = trimL l := rfl
theorem cutF_line {f : PairV} (h1 : (58 : UInt8) ∉ f.1.data.toList) (h2 : trimL f.2.data.toList = f.2.data.toList) : cutOk (lineF f) = true ∧ cutF (lineF f) = f := by
  unfold cutOk cutF lineF
  rw [cut_line 58 _ _ h1]
  refine ⟨rfl, ?_⟩
  dsimp only
  rw [trim_blank, h2, bs_eta, bs_eta]
/-- What is printed is read as it was. -/
theorem parse_print {h : HeadV} (hc : checkH h = 0) (hlen : (printH h).length ≤ 4096) : parseH (printH h) = .ok h := by
  have ho := head_ok hc
  obtain ⟨m1, m2, m3, _, _⟩ := tokL_not ho.tok
  obtain ⟨t1, t2, t3⟩ := plainL_not ho.plain
  have hv1 : (32 : UInt8) ∉ verL := by decide
  have hv2 : (13 : UInt8) ∉ verL := by decide
  have hv3 : (10 : UInt8) ∉ verL := by decide
  have f13 : (13 : UInt8) ∉ firstL h := by
    unfold firstL
    simp only [List.mem_append, List.mem_cons]
    rintro ((h | h | h) | h | h)
    · exact m2 h
    · exact absurd h (by decide)
    · exact t2 h
    · exact absurd h (by decide)
    · exact hv2 h
  have f10 : (10 : UInt8) ∉ firstL h := by
    unfold firstL
    simp only [List.mem_append, List.mem_cons]
    rintro ((h | h | h) | h | h)
    · exact m3 h
    · exact absurd h (by decide)
    · exact t3 h
    · exact absurd h (by decide)
    · exact hv3 h
  have hl : ∀ f ∈ h.fs, (13 : UInt8) ∉ lineF f ∧ (10 : UInt8) ∉ lineF f ∧ lineF f ≠ [] := fun f hf => by
    obtain ⟨n1, n2, n3, n4, n5⟩ := tokL_not (ho.names f hf)
    obtain ⟨v1, v2, v3⟩ := valueL_not (ho.vals f hf)
    unfold lineF
    refine ⟨?_, ?_, by simp⟩
    · simp only [List.mem_append, List.mem_cons]
      rintro (h | h | h | h)
      · exact n2 h
      · exact absurd h (by decide)
      · exact absurd h (by decide)
      · exact v1 h
    · simp only [List.mem_append, List.mem_cons]
      rintro (h | h | h | h)
      · exact n3 h
      · exact absurd h (by decide)
      · exact absurd h (by decide)
      · exact v2 h
  have hall : ∀ y ∈ firstL h :: h.fs.map lineF, (13 : UInt8) ∉ y ∧ (10 : UInt8) ∉ y ∧ y ≠ [] := fun y hy => by
    rcases List.mem_cons.1 hy with e | e
    · subst e; exact ⟨f13, f10, by unfold firstL; simp⟩
    · obtain ⟨f, hf, rfl⟩ := List.mem_map.1 e
      exact hl f hf
  have hls : linesL (printH h) = some (firstL h :: h.fs.map lineF) := by
    rw [printH_form]
    unfold linesL
    rw [if_pos (suffix_end _), take_end, spl2_lines _ _ (fun y hy => (hall y hy).1), if_pos]
    rw [List.all_eq_true]
    exact fun y hy => lineOk_of (hall y hy).2.2 (hall y hy).1 (hall y hy).2.1
  unfold parseH
  rw [if_neg (by omega), hls]
  dsimp only
  unfold headOf
  rw [List.headD_cons, show firstL h = h.m.data.toList ++ 32 :: h.t.data.toList ++ 32 :: verL from rfl, spl_three _ _ _ m1 t1 hv1]
  dsimp only
  rw [if_pos rfl, List.tail_cons, if_pos]
  · have hm : (h.fs.map lineF).map cutF = h.fs := by
      rw [List.map_map]
      have : ∀ l : List PairV, (∀ f ∈ l, cutF (lineF f) = f) → l.map (cutF ∘ lineF) = l := fun l => by
        induction l with
        | nil => intro _; rfl
        | cons x l ih => intro hx; rw [List.map_cons, ih (fun f hf => hx f (by simp [hf]))]; show cutF (lineF x) :: l = _; rw [hx x (by simp)]
      exact this _ fun f hf => (cutF_line (tokL_not (ho.names f hf)).2.2.2.1 (valueL_not (ho.vals f hf)).2.2).2
    rw [hm, bs_eta, bs_eta, if_pos hc]
  · rw [List.all_eq_true]
    intro y hy
    obtain ⟨f, hf, rfl⟩ := List.mem_map.1 hy
    exact (cutF_line (tokL_not (ho.names f hf)).2.2.2.1 (valueL_not (ho.vals f hf)).2.2).1
theorem parse_len {l : List UInt8} (h : 4096 < l.length) : parseH l = .error 5 := by unfold parseH; rw [if_pos h]
theorem parse_ok {l : List UInt8} {h : HeadV} (hp : parseH l = .ok h) : l.length ≤ 4096 ∧ checkH h = 0 ∧ ∃ ls, linesL l = some ls ∧ headOf ls = .ok h := by
  unfold parseH at hp
  split at hp
  · cases hp
  · rename_i h1
    split at hp
    · cases hp
    · rename_i ls hls
      refine ⟨by omega, ?_, ls, hls, hp⟩
      unfold headOf at hp
      split at hp
      · split at hp
        · split at hp
          · split at hp
            · rename_i hc
              cases hp
              exact hc
            · cases hp
          · cases hp
        · cases hp
      · cases hp
theorem parse_err {l : List UInt8} {e : Int} (hp : parseH l = .error e) : e = 4 ∨ e = 5 := by
  unfold parseH at hp
  split at hp
  · cases hp; exact .inr rfl
  · split at hp
    · cases hp; exact .inl rfl
    · unfold headOf at hp
      split at hp
      · split at hp
        · split at hp
          · split at hp
            · cases hp
            · rename_i hc
              cases hp
              exact (checkH_cases _).resolve_left hc
          · cases hp; exact .inl rfl
        · cases hp; exact .inl rfl
      · cases hp; exact .inl rfl
theorem lines_form {l : List UInt8} {ls : List (List UInt8)} (h : linesL l = some ls) : ∃ a, l = a ++ endL ∧ spl2 a = ls ∧ ls.all lineOk = true := by
  unfold linesL at h
  split at h
  · rename_i h1
    split at h
    · rename_i h2
      cases h
      obtain ⟨a, ha⟩ := (by unfold Lib.hasSuffix at h1; rw [List.isSuffixOf_iff_suffix] at h1; exact h1 : endL <:+ l)
      refine ⟨a, ha.symm, ?_, h2⟩
      rw [← ha, take_end]
    · cases h
  · cases h
/-- Lines that are all right have no end of a line between that leaves an empty one. -/
theorem lines_no_more {a x : List UInt8} (hx : x ≠ []) (b : List UInt8) (hb : a ++ endL ++ x = b ++ endL) : (spl2 b).all lineOk = false := by
  have hlen := congrArg List.length hb
  simp only [List.length_append, show endL.length = 4 from rfl] at hlen
  have hbt : b = (a ++ endL ++ x).take (a.length + x.length) := by
    rw [hb, List.take_left' (by omega)]
  have hxl : 0 < x.length := List.length_pos_iff.2 hx
  have bad : ∀ y ∈ spl2 b, lineOk y = false → (spl2 b).all lineOk = false := fun y hy h => by
    rw [List.all_eq_false]
    exact ⟨y, hy, by rw [h]; decide⟩
  rcases (show x.length = 1 ∨ x.length = 2 ∨ x.length = 3 ∨ 4 ≤ x.length by omega) with h1 | h1 | h1 | h1
  · have e : b = a ++ [13] := by
      rw [hbt, h1, List.append_assoc, List.take_append, List.take_of_length_le (by omega), show a.length + 1 - a.length = 1 by omega]; rfl
    have hmem : ∃ y ∈ spl2 (a ++ [13]), (13 : UInt8) ∈ y := by
      clear hbt hb e bad hlen
      have key : ∀ (n : Nat) (a : List UInt8), a.length ≤ n → ∃ y ∈ spl2 (a ++ [13]), (13 : UInt8) ∈ y := by
        intro n
        induction n with
        | zero => intro a h; have : a = [] := List.eq_nil_of_length_eq_zero (by omega); subst this; exact ⟨[13], by simp [spl2], by simp⟩
        | succ n ih =>
          intro a h
          match a with
          | [] => exact ⟨[13], by simp [spl2], by simp⟩
          | [c] =>
            show ∃ y ∈ spl2 (c :: 13 :: []), _
            rw [spl2, if_neg (fun h => absurd h.2 (by decide))]
            exact ⟨[c, 13], by simp [spl2, consH], by simp⟩
          | c :: d :: r =>
            simp only [List.length_cons] at h
            show ∃ y ∈ spl2 (c :: d :: (r ++ [13])), _
            rw [spl2]
            split
            · obtain ⟨y, hy, hm⟩ := ih r (by omega)
              exact ⟨y, by simp [hy], hm⟩
            · obtain ⟨y, hy, hm⟩ := ih (d :: r) (by simp only [List.length_cons]; omega)
              rw [List.cons_append] at hy
              cases hq : spl2 (d :: (r ++ [13])) with
              | nil => exact absurd hq (spl2_ne _)
              | cons z q =>
                rw [hq] at hy
                rcases List.mem_cons.1 hy with e | e
                · subst e; exact ⟨c :: y, by simp [consH], by simp [hm]⟩
                · exact ⟨y, by simp [consH, e], hm⟩
      exact key a.length a (Nat.le_refl _)
    obtain ⟨y, hy, hm⟩ := hmem
    rw [← e] at hy
    refine bad y hy ?_
    cases hq : lineOk y with
    | false => rfl
    | true => exact absurd hm (line_not hq).2.1
  · have e : b = a ++ 13 :: 10 :: [] := by
      rw [hbt, h1, List.append_assoc, List.take_append, List.take_of_length_le (by omega), show a.length + 2 - a.length = 2 by omega]; rfl
    refine bad [] ?_ rfl
    rw [e, spl2_append]
    simp [spl2]
  · have e : b = a ++ 13 :: 10 :: [13] := by
      rw [hbt, h1, List.append_assoc, List.take_append, List.take_of_length_le (by omega), show a.length + 3 - a.length = 3 by omega]; rfl
    refine bad [13] ?_ (by decide)
    rw [e, spl2_append]
    simp [spl2]
  · have e : b = a ++ 13 :: 10 :: (13 :: 10 :: x.take (x.length - 4)) := by
      rw [hbt, List.append_assoc, List.take_append, List.take_of_length_le (by omega), show a.length + x.length - a.length = x.length by omega, List.take_append, List.take_of_length_le (by show 4 ≤ x.length; exact h1)]
      rfl
    refine bad [] ?_ rfl
    rw [e, spl2_append, spl2_end]
    simp
theorem parse_once {l x : List UInt8} {h : HeadV} (hp : parseH l = .ok h) (hx : x ≠ []) : ∀ g, parseH (l ++ x) ≠ .ok g := fun g hg => by
  obtain ⟨_, _, ls, h1, _⟩ := parse_ok hp
  obtain ⟨_, _, ls2, h2, _⟩ := parse_ok hg
  obtain ⟨a, rfl, _, _⟩ := lines_form h1
  obtain ⟨b, hb, e, ha⟩ := lines_form h2
  have := lines_no_more hx b hb
  rw [e, ha] at this
  cases this
end Go.Proofs.YtchoenfclfafiaaDoor
