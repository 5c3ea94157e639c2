/- Paths made plain: again the same; below the root; a component and its way back. -/
import Derived.Test.YtdbipccopijgeaaDoorPatL
namespace Go.Proofs.YtdbipccopijgeaaDoor
open Go.RowKit

theorem out_head {rooted : Bool} {left : List (List UInt8)} (h : NormP rooted left) (hne : left ≠ []) (sl : Bool) : ((outP rooted left sl).head? == some 47) = rooted := by
  unfold outP
  cases rooted with
  | true => rfl
  | false =>
    cases left with
    | nil => exact absurd rfl hne
    | cons p r =>
      have hp := h.all p (by simp)
      cases p with
      | nil => exact absurd rfl hp.1
      | cons b q =>
        have hb : b ≠ 47 := fun e => hp.2.2 (by simp [e])
        rw [Lib.join_cons]
        simpa using hb
theorem fold_out {rooted : Bool} {left : List (List UInt8)} (h : NormP rooted left) (sl : Bool) : leftP rooted ((if rooted = true then [[]] else []) ++ left ++ (if sl = true then [[]] else [])) = left := by
  have h1 := h.stays
  unfold leftP at *
  have h2 : ((if rooted = true then [[]] else []) ++ left ++ (if sl = true then [[]] else [])).foldl (stepP rooted) [] = (if sl = true then [[]] else []).foldl (stepP rooted) (left.foldl (stepP rooted) []) := by
    rw [List.foldl_append, List.foldl_append]
    congr 1
    cases rooted with
    | true => rw [if_pos rfl, List.foldl_cons, step_nil]; rfl
    | false => rfl
  rw [h2, h1]
  cases sl with
  | true => rw [if_pos rfl, List.foldl_cons, step_nil]; rfl
  | false => rfl
theorem spl_rooted (s : List UInt8) : (s.head? == some 47) = true → 1 < (splL 47 s).length := by
  intro h
  cases s with
  | nil => cases h
  | cons b s =>
    have hb : b = 47 := by simpa using h
    subst hb
    have := splL_ne 47 s
    rw [splL, if_pos rfl, List.length_cons]
    have : 0 < (splL 47 s).length := List.length_pos_iff.2 this
    omega
theorem tail_same (s : List UInt8) (hne : leftP (s.head? == some 47) (splL 47 s) ≠ []) :
    tailP (leftP (s.head? == some 47) (splL 47 s)) ((if (s.head? == some 47) = true then [[]] else []) ++ leftP (s.head? == some 47) (splL 47 s) ++ (if tailP (leftP (s.head? == some 47) (splL 47 s)) (splL 47 s) = true then [[]] else [])) = tailP (leftP (s.head? == some 47) (splL 47 s)) (splL 47 s) := by
  have hN := norm_left (s.head? == some 47) s
  have hroot := spl_rooted s
  have hcl := splL_clean 47 s
  have hps : splL 47 s ≠ [] := splL_ne 47 s
  generalize (s.head? == some 47) = rt at *
  generalize splL 47 s = ps at *
  cases hsl : tailP (leftP rt ps) ps with
  | true =>
    rw [if_pos rfl]
    unfold tailP
    have hlen : 0 < (leftP rt ps).length := List.length_pos_iff.2 hne
    rw [Bool.and_eq_true]
    refine ⟨decide_eq_true ⟨hne, ?_⟩, ?_⟩
    · simp only [List.length_append, List.length_cons, List.length_nil]; omega
    · rw [List.getLast?_append]; rfl
  | false =>
    simp only [Bool.false_eq_true, if_false, List.append_nil]
    rcases List.eq_nil_or_concat ps with e | ⟨qs, q, e⟩
    · exact absurd e hps
    · rw [List.concat_eq_append] at e
      subst e
      unfold tailP at hsl
      rw [List.getLast?_append] at hsl
      have hl2 : leftP rt (qs ++ [q]) = stepP rt (leftP rt qs) q := by unfold leftP; rw [List.foldl_append]; rfl
      by_cases hq : dotP q = true
      · have hlen : ¬ 1 < (qs ++ [q]).length := by
          intro h
          have : (decide (leftP rt (qs ++ [q]) ≠ [] ∧ 1 < (qs ++ [q]).length) && dotP ((([q] : List (List UInt8)).getLast?.or qs.getLast?).getD [])) = true := by
            rw [Bool.and_eq_true]
            exact ⟨decide_eq_true ⟨hne, h⟩, hq⟩
          rw [this] at hsl; cases hsl
        have hqs : qs = [] := by
          rw [List.length_append, List.length_singleton] at hlen
          exact List.eq_nil_of_length_eq_zero (by omega)
        subst hqs
        have hrt : rt = false := by
          cases rt with
          | false => rfl
          | true => exact absurd (hroot rfl) hlen
        subst hrt
        have hl3 : leftP false ([] ++ [q]) = stepP false [] q := rfl
        rw [hl3] at hne ⊢
        have hl4 : stepP false [] q = [q] := by
          unfold stepP at hne ⊢
          by_cases c1 : q = [] ∨ q = [46]
          · rw [if_pos c1] at hne; exact absurd rfl hne
          · rw [if_neg c1]
            by_cases c2 : q = upP
            · rw [if_pos c2, if_neg (fun h => h.1 rfl), if_neg (by decide)]; rfl
            · rw [if_neg c2]; rfl
        rw [hl4]
        rfl
      · have hq' : ¬ (q = [] ∨ q = [46] ∨ q = upP) := fun e => hq (decide_eq_true e)
        have hl4 : leftP rt (qs ++ [q]) = leftP rt qs ++ [q] := by
          rw [hl2]
          unfold stepP
          rw [if_neg (fun e => hq' (e.elim .inl fun e => .inr (.inl e))), if_neg (fun e => hq' (.inr (.inr e)))]
        rw [hl4]
        unfold tailP
        rw [← List.append_assoc, List.getLast?_append]
        have : dotP ((([q] : List (List UInt8)).getLast?.or ((if rt = true then [[]] else []) ++ leftP rt qs).getLast?).getD []) = false := by
          show dotP q = false
          simpa using hq
        rw [this, Bool.and_false]
/-- Made plain again it is the same. -/
theorem path_again (s : List UInt8) : pathL (pathL s) = pathL s := by
  by_cases hne : leftP (s.head? == some 47) (splL 47 s) = []
  · have e : pathL s = outP (s.head? == some 47) [] false := by
      unfold pathL
      rw [hne]
      rfl
    rw [e]
    cases (s.head? == some 47) <;> decide
  · have hN := norm_left (s.head? == some 47) s
    have ht := tail_same s hne
    have hsp := spl_out hN hne (tailP (leftP (s.head? == some 47) (splL 47 s)) (splL 47 s))
    have hh := out_head hN hne (tailP (leftP (s.head? == some 47) (splL 47 s)) (splL 47 s))
    have hf := fold_out hN (tailP (leftP (s.head? == some 47) (splL 47 s)) (splL 47 s))
    have e : pathL s = outP (s.head? == some 47) (leftP (s.head? == some 47) (splL 47 s)) (tailP (leftP (s.head? == some 47) (splL 47 s)) (splL 47 s)) := rfl
    rw [e]
    conv => lhs; unfold pathL
    rw [hh, hsp, hf, ht]

/-! Below the root. -/
theorem inner_piece {left tl A B : List (List UInt8)} {x : List UInt8} (htl : tl = [] ∨ tl = [[]]) (h : [] :: (left ++ tl) = A ++ x :: B) (hA : A ≠ []) (hB : B ≠ []) : x ∈ left ∨ (left = [] ∧ False) := by
  cases A with
  | nil => exact absurd rfl hA
  | cons a A =>
    injection h with _ h
    rcases htl with e | e
    · subst e
      rw [List.append_nil] at h
      left; rw [h]; simp
    · subst e
      rcases List.eq_nil_or_concat B with e | ⟨B', b, e⟩
      · exact absurd e hB
      · rw [List.concat_eq_append] at e
        subst e
        have h2 : left ++ [[]] = (A ++ x :: B') ++ [b] := by rw [h]; simp
        have h3 := List.append_inj' h2 rfl
        left; rw [h3.1]; simp
theorem root_inner (s : List UInt8) (x : List UInt8) (hx : x = [] ∨ x = [46] ∨ x = upP) (a b : List UInt8) : pathL (47 :: s) ≠ a ++ 47 :: (x ++ 47 :: b) := by
  intro h
  have hN := norm_left true (47 :: s)
  have e : pathL (47 :: s) = outP true (leftP true (splL 47 (47 :: s))) (tailP (leftP true (splL 47 (47 :: s))) (splL 47 (47 :: s))) := rfl
  rw [e] at h
  have hxc : (47 : UInt8) ∉ x := by rcases hx with rfl | rfl | rfl <;> decide
  have hs2 := congrArg (splL 47) h
  rw [splL_append, splL_append, splP_whole 47 x hxc] at hs2
  have hsl0 : leftP true (splL 47 (47 :: s)) = [] → tailP (leftP true (splL 47 (47 :: s))) (splL 47 (47 :: s)) = false := fun h => by unfold tailP; rw [h]; simp
  generalize leftP true (splL 47 (47 :: s)) = left at *
  generalize tailP left (splL 47 (47 :: s)) = sl at *
  by_cases hne : left = []
  · subst hne
    rw [hsl0 rfl] at hs2
    have e1 : splL 47 (outP true [] false) = [[], []] := by decide
    have h1 : 0 < (splL 47 a).length := List.length_pos_iff.2 (splL_ne 47 a)
    have h2 : 0 < (splL 47 b).length := List.length_pos_iff.2 (splL_ne 47 b)
    rw [e1] at hs2
    have := congrArg List.length hs2
    simp only [List.length_append, List.length_cons, List.length_nil] at this
    omega
  · have hsp := spl_out hN hne sl
    rw [hsp, if_pos rfl] at hs2
    obtain ⟨n, names, h1, h2, h3⟩ := hN.ups
    have hm := inner_piece (left := left) (tl := if sl = true then [[]] else []) (A := splL 47 a) (B := splL 47 b) (x := x) (by cases sl <;> simp) (by simpa using hs2) (splL_ne 47 a) (splL_ne 47 b)
    rcases hm with hm | ⟨_, hm⟩
    · have hc := hN.all x hm
      rcases hx with rfl | rfl | rfl
      · exact hc.1 rfl
      · exact hc.2.1 rfl
      · rw [h1, h3 rfl] at hm
        exact h2 _ (by simpa using hm) rfl
    · exact hm
theorem path_back (t s : List UInt8) (h : Comp1 t) (h2 : t ≠ upP) : pathL (47 :: (t ++ 47 :: (46 :: 46 :: 47 :: s))) = pathL (47 :: s) := by
  have e1 : splL 47 (47 :: (t ++ 47 :: (46 :: 46 :: 47 :: s))) = [] :: t :: upP :: splL 47 s := by
    rw [show (47 : UInt8) :: (t ++ 47 :: (46 :: 46 :: 47 :: s)) = [] ++ 47 :: (t ++ 47 :: (upP ++ 47 :: s)) from rfl, splL_append, splL_append, splL_append, splP_whole 47 t h.2.2, splP_whole 47 upP (by decide)]
    rfl
  have e2 : splL 47 (47 :: s) = [] :: splL 47 s := by rw [splL, if_pos rfl]
  have hf : leftP true ([] :: t :: upP :: splL 47 s) = leftP true ([] :: splL 47 s) := by
    unfold leftP
    rw [List.foldl_cons, List.foldl_cons, List.foldl_cons, List.foldl_cons, step_nil]
    congr 1
    have a1 : stepP true [] t = [t] := by
      unfold stepP
      rw [if_neg (fun e => e.elim h.1 h.2.1), if_neg h2]; rfl
    rw [a1]
    unfold stepP
    rw [if_neg (by decide), if_pos rfl, if_pos ⟨by simp, by simpa using h2⟩]
    rfl
  have hl : ([] :: t :: upP :: splL 47 s).getLast?.getD [] = ([] :: splL 47 s).getLast?.getD [] := by
    cases hq : splL 47 s with
    | nil => exact absurd hq (splL_ne 47 s)
    | cons y r => rfl
  have ht : ∀ L, tailP L ([] :: t :: upP :: splL 47 s) = tailP L ([] :: splL 47 s) := fun L => by
    have l0 : 0 < (splL 47 s).length := List.length_pos_iff.2 (splL_ne 47 s)
    have l1 : 1 < (([] : List UInt8) :: t :: upP :: splL 47 s).length := by simp only [List.length_cons]; omega
    have l2 : 1 < (([] : List UInt8) :: splL 47 s).length := by simp only [List.length_cons]; omega
    unfold tailP
    rw [hl]
    congr 1
    exact decide_eq_decide.2 ⟨fun h => ⟨h.1, l2⟩, fun h => ⟨h.1, l1⟩⟩
  show outP true (leftP true (splL 47 (47 :: (t ++ 47 :: (46 :: 46 :: 47 :: s))))) (tailP (leftP true (splL 47 (47 :: (t ++ 47 :: (46 :: 46 :: 47 :: s))))) (splL 47 (47 :: (t ++ 47 :: (46 :: 46 :: 47 :: s))))) = outP true (leftP true (splL 47 (47 :: s))) (tailP (leftP true (splL 47 (47 :: s))) (splL 47 (47 :: s)))
  rw [e1, e2, hf, ht]
end Go.Proofs.YtdbipccopijgeaaDoor
