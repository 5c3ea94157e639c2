/- Normalization of strings, plainly: squeezing, leaving bytes out, command lines; each is idempotent. -/
import Derived.Test.YtdbipccopijgeaaDoorFinds
import Derived.Test.YtdbipccopijgeaaDoorOLower
namespace Go.Proofs.YtdbipccopijgeaaDoor

def whiteB (b : UInt8) : Bool := decide (9 ≤ b.toNat) && decide (b.toNat ≤ 13) || b == 32
def sqGo : Bool → List UInt8 → List UInt8
  | _, [] => []
  | p, b :: l => if whiteB b = true then (if p = true then sqGo true l else 32 :: sqGo true l) else b :: sqGo false l
def squeezeL (l : List UInt8) : List UInt8 := sqGo false l
def outL (set l : List UInt8) : List UInt8 := l.filter fun b => decide (Lib.indexByte set b < 0)
def commaB (b : UInt8) : UInt8 := if b = 44 ∨ b = 59 then 32 else b
def dsL : List UInt8 → List UInt8
  | [] => []
  | [b] => [b]
  | b :: c :: l => if b = 32 ∧ (c = 47 ∨ c = 40) then dsL (c :: l) else b :: dsL (c :: l)
def cmdSet : List UInt8 := [92, 34, 39, 94]
def cmdL (l : List UInt8) : List UInt8 := lowerL (dsL (squeezeL ((outL cmdSet l).map commaB)))

def adj (R : UInt8 → UInt8 → Bool) : List UInt8 → Bool
  | a :: b :: l => R a b && adj R (b :: l)
  | _ => true
def n2 (a b : UInt8) : Bool := !(a == 32 && b == 32)
def n3 (a b : UInt8) : Bool := !(a == 32 && (b == 47 || b == 40))
def Good (l : List UInt8) : Prop := (∀ b ∈ l, whiteB b = true → b = 32) ∧ adj n2 l = true

theorem adj_cons {R : UInt8 → UInt8 → Bool} {a : UInt8} {l : List UInt8} : adj R (a :: l) = true ↔ (∀ b, l.head? = some b → R a b = true) ∧ adj R l = true := by
  cases l with
  | nil => simp [adj]
  | cons b l => simp [adj]
theorem good_nil : Good [] := ⟨fun _ h => absurd h (by simp), rfl⟩
theorem good_cons {a : UInt8} {l : List UInt8} : Good (a :: l) ↔ (whiteB a = true → a = 32) ∧ (∀ b, l.head? = some b → n2 a b = true) ∧ Good l := by
  unfold Good
  rw [adj_cons]
  simp only [List.mem_cons, forall_eq_or_imp]
  exact ⟨fun h => ⟨h.1.1, h.2.1, h.1.2, h.2.2⟩, fun h => ⟨⟨h.1, h.2.2.1⟩, h.2.1, h.2.2.2⟩⟩

theorem white32 : whiteB 32 = true := by decide
theorem sq_fix : ∀ (l : List UInt8) (p : Bool), Good l → (p = true → l.head? ≠ some 32) → sqGo p l = l
  | [], _, _, _ => rfl
  | b :: l, p, h, hp => by
    obtain ⟨h1, h2, h3⟩ := good_cons.1 h
    unfold sqGo
    by_cases hw : whiteB b = true
    · have hb := h1 hw
      subst hb
      have hp' : ¬ p = true := fun e => hp e rfl
      rw [if_pos hw, if_neg hp', sq_fix l true h3 (fun _ e => by
        have := h2 32 e
        simp [n2] at this)]
    · rw [if_neg hw, sq_fix l false h3 (fun e => by cases e)]
theorem sq_good : ∀ (l : List UInt8) (p : Bool), Good (sqGo p l) ∧ (p = true → (sqGo p l).head? ≠ some 32)
  | [], _ => ⟨good_nil, fun _ => by simp [sqGo]⟩
  | b :: l, p => by
    unfold sqGo
    by_cases hw : whiteB b = true
    · rw [if_pos hw]
      obtain ⟨h1, h2⟩ := sq_good l true
      by_cases hp : p = true
      · rw [if_pos hp]; exact ⟨h1, fun _ => h2 rfl⟩
      · rw [if_neg hp]
        exact ⟨good_cons.2 ⟨fun _ => rfl, fun c hc => by
          have : c ≠ 32 := fun e => h2 rfl (by rw [hc, e])
          simp [n2, this], h1⟩, fun e => absurd e hp⟩
    · rw [if_neg hw]
      have hb : b ≠ 32 := fun e => hw (by rw [e]; exact white32)
      exact ⟨good_cons.2 ⟨fun e => absurd e hw, fun c _ => by simp [n2, hb], (sq_good l false).1⟩, fun _ => by simpa using hb⟩
theorem squeeze_again (l : List UInt8) : squeezeL (squeezeL l) = squeezeL l := sq_fix _ false (sq_good l false).1 (fun e => by cases e)

theorem adj_occ {l : List UInt8} (h : adj n2 l = true) : ∀ j, Lib.occAt l [32, 32] j = false := by
  induction l with
  | nil => intro j; simp [Lib.occAt]
  | cons a l ih =>
    obtain ⟨h1, h2⟩ := adj_cons.1 h
    intro j
    cases j with
    | succ j => exact ih h2 j
    | zero =>
      unfold Lib.occAt
      cases l with
      | nil => simp [List.isPrefixOf]
      | cons b l =>
        have := h1 b rfl
        simp only [n2, Bool.not_eq_true', Bool.and_eq_false_iff, beq_eq_false_iff_ne] at this
        simp only [List.drop_zero, List.isPrefixOf, Bool.and_eq_false_iff, beq_eq_false_iff_ne]
        rcases this with h | h
        · exact .inl (fun e => h e.symm)
        · exact .inr (.inl (fun e => h e.symm))
theorem find_none {s t : List UInt8} (h : ∀ j, Lib.occAt s t j = false) : findL s t 0 = -1 := by
  rcases findL_cases s t 0 with ⟨h1, _⟩ | ⟨k, _, _, _, h4, _⟩
  · exact h1
  · rw [h k] at h4; cases h4
theorem squeeze_find (l : List UInt8) : findL (squeezeL l) [32, 32] 0 = -1 := find_none (adj_occ (sq_good l false).1.2)

theorem out_again (set l : List UInt8) : outL set (outL set l) = outL set l := by
  unfold outL; rw [List.filter_filter]; congr 1; funext b; simp
theorem out_fix {set l : List UInt8} (h : ∀ b ∈ l, Lib.indexByte set b < 0) : outL set l = l :=
  List.filter_eq_self.2 (fun b hb => decide_eq_true (h b hb))
theorem out_mem {set l : List UInt8} {b : UInt8} (h : b ∈ outL set l) : Lib.indexByte set b < 0 ∧ b ∈ l := by
  unfold outL at h
  rw [List.mem_filter] at h
  exact ⟨of_decide_eq_true h.2, h.1⟩
theorem occ_one (c : UInt8) : ∀ (l : List UInt8), (∀ b ∈ l, b ≠ c) → ∀ j, Lib.occAt l [c] j = false
  | [], _, j => by simp [Lib.occAt]
  | a :: l, h, 0 => by
    unfold Lib.occAt
    simp only [List.drop_zero, List.isPrefixOf, Bool.and_true, beq_eq_false_iff_ne]
    exact fun e => h a (by simp) e.symm
  | a :: l, h, j + 1 => occ_one c l (fun b hb => h b (by simp [hb])) j
theorem nonull_find (l : List UInt8) : findL (outL [0] l) [0] 0 = -1 := by
  refine find_none (occ_one 0 _ fun b hb => ?_)
  have := (out_mem hb).1
  rintro rfl
  exact absurd this (by decide)

/-! Command lines. -/
theorem ds_head : ∀ (l : List UInt8) (b : UInt8), l.head? = some b → b ≠ 32 → (dsL l).head? = some b
  | [], b, h, _ => by simp at h
  | [a], b, h, _ => h
  | a :: c :: l, b, h, hb => by
    simp only [List.head?_cons, Option.some.injEq] at h
    subst h
    unfold dsL
    rw [if_neg (fun e => hb e.1)]; rfl
theorem ds_good : ∀ l : List UInt8, Good l → Good (dsL l) ∧ adj n3 (dsL l) = true
  | [], _ => ⟨good_nil, rfl⟩
  | [a], h => ⟨h, rfl⟩
  | a :: c :: l, h => by
    obtain ⟨h1, h2, h3⟩ := good_cons.1 h
    obtain ⟨i1, i2⟩ := ds_good (c :: l) h3
    unfold dsL
    by_cases hd : a = 32 ∧ (c = 47 ∨ c = 40)
    · rw [if_pos hd]; exact ⟨i1, i2⟩
    · rw [if_neg hd]
      have hac := h2 c rfl
      by_cases ha : a = 32
      · subst ha
        have hc32 : c ≠ 32 := by simpa [n2] using hac
        have hh := ds_head (c :: l) c rfl hc32
        have hc : ¬ (c = 47 ∨ c = 40) := fun e => hd ⟨rfl, e⟩
        refine ⟨good_cons.2 ⟨h1, fun b hb => ?_, i1⟩, adj_cons.2 ⟨fun b hb => ?_, i2⟩⟩
        · rw [hh] at hb; cases hb; exact hac
        · rw [hh] at hb; cases hb
          obtain ⟨q1, q2⟩ := not_or.1 hc
          simp [n3, q1, q2]
      · exact ⟨good_cons.2 ⟨h1, fun b _ => by simp [n2, ha], i1⟩, adj_cons.2 ⟨fun b _ => by simp [n3, ha], i2⟩⟩
theorem ds_fix : ∀ l : List UInt8, adj n3 l = true → dsL l = l
  | [], _ => rfl
  | [a], _ => rfl
  | a :: c :: l, h => by
    obtain ⟨h1, h2⟩ := adj_cons.1 h
    have := h1 c rfl
    unfold dsL
    rw [if_neg, ds_fix (c :: l) h2]
    rintro ⟨rfl, e⟩
    rcases e with rfl | rfl <;> exact absurd this (by decide)
theorem ds_mem : ∀ (l : List UInt8) (b : UInt8), b ∈ dsL l → b ∈ l
  | [], b, h => h
  | [a], b, h => h
  | a :: c :: l, b, h => by
    unfold dsL at h
    split at h
    · exact List.mem_cons_of_mem _ (ds_mem _ b h)
    · rcases List.mem_cons.1 h with h | h
      · rw [h]; simp
      · exact List.mem_cons_of_mem _ (ds_mem _ b h)
theorem sq_mem : ∀ (l : List UInt8) (p : Bool) (b : UInt8), b ∈ sqGo p l → b ∈ l ∨ b = 32
  | [], _, b, h => by simp [sqGo] at h
  | a :: l, p, b, h => by
    unfold sqGo at h
    split at h
    · split at h
      · rcases sq_mem l true b h with h | h
        · exact .inl (List.mem_cons_of_mem _ h)
        · exact .inr h
      · rcases List.mem_cons.1 h with h | h
        · exact .inr h
        · rcases sq_mem l true b h with h | h
          · exact .inl (List.mem_cons_of_mem _ h)
          · exact .inr h
    · rcases List.mem_cons.1 h with h | h
      · exact .inl (by rw [h]; simp)
      · rcases sq_mem l false b h with h | h
        · exact .inl (List.mem_cons_of_mem _ h)
        · exact .inr h

theorem lowerB_facts (b : UInt8) : whiteB (lowerB b) = whiteB b ∧ (lowerB b == 32) = (b == 32) ∧ (lowerB b == 47) = (b == 47) ∧ (lowerB b == 40) = (b == 40) ∧ (lowerB b == 44) = (b == 44) ∧ (lowerB b == 59) = (b == 59) ∧ Lib.indexByte cmdSet (lowerB b) = Lib.indexByte cmdSet b :=
  of_decide_eq_true (all_bytes (p := fun b => decide (whiteB (lowerB b) = whiteB b ∧ (lowerB b == 32) = (b == 32) ∧ (lowerB b == 47) = (b == 47) ∧ (lowerB b == 40) = (b == 40) ∧ (lowerB b == 44) = (b == 44) ∧ (lowerB b == 59) = (b == 59) ∧ Lib.indexByte cmdSet (lowerB b) = Lib.indexByte cmdSet b)) (by decide +kernel) b)
theorem adj_map {R : UInt8 → UInt8 → Bool} {f : UInt8 → UInt8} (h : ∀ a b, R (f a) (f b) = R a b) : ∀ l : List UInt8, adj R (l.map f) = adj R l
  | [] => rfl
  | [a] => rfl
  | a :: b :: l => by
    have ih := adj_map h (b :: l)
    simp only [List.map_cons] at ih
    simp only [List.map_cons, adj, h, ih]
theorem comma_ne (b : UInt8) : commaB b ≠ 44 ∧ commaB b ≠ 59 ∧ (Lib.indexByte cmdSet b < 0 → Lib.indexByte cmdSet (commaB b) < 0) :=
  of_decide_eq_true (all_bytes (p := fun b => decide (commaB b ≠ 44 ∧ commaB b ≠ 59 ∧ (Lib.indexByte cmdSet b < 0 → Lib.indexByte cmdSet (commaB b) < 0))) (by decide +kernel) b)

theorem cmd_again (l : List UInt8) : cmdL (cmdL l) = cmdL l := by
  have hg := sq_good ((outL cmdSet l).map commaB) false
  obtain ⟨g1, g2⟩ := ds_good (squeezeL ((outL cmdSet l).map commaB)) hg.1
  have hmem : ∀ b ∈ dsL (squeezeL ((outL cmdSet l).map commaB)), b ≠ 44 ∧ b ≠ 59 ∧ Lib.indexByte cmdSet b < 0 := fun b hb => by
    rcases sq_mem _ _ b (ds_mem _ b hb) with h | h
    · obtain ⟨a, ha, rfl⟩ := List.mem_map.1 h
      obtain ⟨c1, c2, c3⟩ := comma_ne a
      exact ⟨c1, c2, c3 (out_mem ha).1⟩
    · subst h; decide
  obtain ⟨m, hm⟩ : ∃ m, dsL (squeezeL ((outL cmdSet l).map commaB)) = m := ⟨_, rfl⟩
  rw [hm] at g1 g2 hmem
  have hc : cmdL l = lowerL m := by unfold cmdL; rw [hm]
  rw [hc]
  unfold cmdL
  have e1 : outL cmdSet (lowerL m) = lowerL m := out_fix fun b hb => by
    obtain ⟨a, ha, rfl⟩ := List.mem_map.1 hb
    rw [(lowerB_facts a).2.2.2.2.2.2]; exact (hmem a ha).2.2
  have e2 : (lowerL m).map commaB = lowerL m := by
    refine (List.map_congr_left fun b hb => ?_).trans (List.map_id _)
    obtain ⟨a, ha, rfl⟩ := List.mem_map.1 hb
    obtain ⟨_, _, _, _, f1, f2, _⟩ := lowerB_facts a
    obtain ⟨k1, k2, _⟩ := hmem a ha
    have h1 : lowerB a ≠ 44 := by rw [← beq_eq_false_iff_ne, f1, beq_eq_false_iff_ne]; exact k1
    have h2 : lowerB a ≠ 59 := by rw [← beq_eq_false_iff_ne, f2, beq_eq_false_iff_ne]; exact k2
    unfold commaB; rw [if_neg (fun e => e.elim h1 h2)]; rfl
  have gl : Good (lowerL m) := by
    refine ⟨fun b hb hw => ?_, ?_⟩
    · obtain ⟨a, ha, rfl⟩ := List.mem_map.1 hb
      rw [(lowerB_facts a).1] at hw
      rw [g1.1 a ha hw]; decide
    · rw [lowerL, adj_map (fun a b => by unfold n2; rw [(lowerB_facts a).2.1, (lowerB_facts b).2.1])]; exact g1.2
  have e3 : squeezeL (lowerL m) = lowerL m := sq_fix _ false gl (fun e => by cases e)
  have e4 : dsL (lowerL m) = lowerL m := ds_fix _ (by
    rw [lowerL, adj_map (fun a b => by unfold n3; rw [(lowerB_facts a).2.1, (lowerB_facts b).2.2.1, (lowerB_facts b).2.2.2.1])]; exact g2)
  rw [e1, e2, e3, e4, lowerL_again]
theorem cmd_lower (l : List UInt8) : lowerL (cmdL l) = cmdL l := by unfold cmdL; rw [lowerL_again]

theorem sq_len : ∀ (l : List UInt8) (p : Bool), (sqGo p l).length ≤ l.length
  | [], _ => Nat.le_refl _
  | b :: l, p => by
    have h1 := sq_len l true
    have h2 := sq_len l false
    unfold sqGo
    (repeat' split) <;> simp only [List.length_cons] <;> omega
theorem ds_len : ∀ l : List UInt8, (dsL l).length ≤ l.length
  | [] => Nat.le_refl _
  | [_] => Nat.le_refl _
  | a :: c :: l => by
    have h := ds_len (c :: l)
    unfold dsL
    split <;> simp only [List.length_cons] at * <;> omega

end Go.Proofs.YtdbipccopijgeaaDoor
