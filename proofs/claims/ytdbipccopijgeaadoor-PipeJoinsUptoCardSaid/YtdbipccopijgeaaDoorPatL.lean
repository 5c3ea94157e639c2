/- Paths made plain; in plain lists. -/
import Derived.Test.YtdbipccopijgeaaDoorArgL
import Derived.Lib.Join
namespace Go.Proofs.YtdbipccopijgeaaDoor
open Go.RowKit

def upP : List UInt8 := [46, 46]
def stepP (rooted : Bool) (left : List (List UInt8)) (p : List UInt8) : List (List UInt8) :=
  if p = [] ∨ p = [46] then left else if p = upP then (if left ≠ [] ∧ left.getLast? ≠ some upP then left.dropLast else if rooted = true then left else left ++ [p]) else left ++ [p]
def leftP (rooted : Bool) (ps : List (List UInt8)) : List (List UInt8) := ps.foldl (stepP rooted) []
def dotP (p : List UInt8) : Bool := decide (p = [] ∨ p = [46] ∨ p = upP)
def tailP (left ps : List (List UInt8)) : Bool := decide (left ≠ [] ∧ 1 < ps.length) && dotP (ps.getLast?.getD [])
def outP (rooted : Bool) (left : List (List UInt8)) (sl : Bool) : List UInt8 := (if rooted = true then [47] else []) ++ Lib.join left [47] ++ (if sl = true then [47] else [])
def pathL (s : List UInt8) : List UInt8 := outP (s.head? == some 47) (leftP (s.head? == some 47) (splL 47 s)) (tailP (leftP (s.head? == some 47) (splL 47 s)) (splL 47 s))

/-- A component: something, no slash, no dot alone. -/
def Comp1 (p : List UInt8) : Prop := p ≠ [] ∧ p ≠ [46] ∧ (47 : UInt8) ∉ p
/-- What is left: first ups (none behind a root), then names. -/
structure NormP (rooted : Bool) (left : List (List UInt8)) : Prop where
  all : ∀ p ∈ left, Comp1 p
  ups : ∃ n names, left = List.replicate n upP ++ names ∧ (∀ p ∈ names, p ≠ upP) ∧ (rooted = true → n = 0)
theorem NormP.nil (rooted : Bool) : NormP rooted [] := ⟨fun p h => (by cases h), 0, [], rfl, fun p h => (by cases h), fun _ => rfl⟩
theorem upP_comp : Comp1 upP := by refine ⟨by decide, by decide, by decide⟩
theorem NormP.step {rooted : Bool} {left : List (List UInt8)} (h : NormP rooted left) (p : List UInt8) (hp : (47 : UInt8) ∉ p) : NormP rooted (stepP rooted left p) := by
  unfold stepP
  by_cases c1 : p = [] ∨ p = [46]
  · rw [if_pos c1]; exact h
  · rw [if_neg c1]
    have hc : Comp1 p := ⟨fun e => c1 (.inl e), fun e => c1 (.inr e), hp⟩
    obtain ⟨n, names, h1, h2, h3⟩ := h.ups
    by_cases c2 : p = upP
    · rw [if_pos c2]
      by_cases c3 : left ≠ [] ∧ left.getLast? ≠ some upP
      · rw [if_pos c3]
        refine ⟨fun q hq => h.all q ((List.dropLast_sublist left).subset hq), ?_⟩
        rcases List.eq_nil_or_concat names with e | ⟨ns, x, e⟩
        · subst e
          rw [List.append_nil] at h1
          exfalso
          subst h1
          cases n with
          | zero => exact c3.1 rfl
          | succ n => exact c3.2 (by rw [List.replicate_succ', List.getLast?_append]; rfl)
        · rw [List.concat_eq_append] at e
          subst e
          refine ⟨n, ns, ?_, fun q hq => h2 q (by simp [hq]), h3⟩
          rw [h1, ← List.append_assoc, List.dropLast_concat]
      · rw [if_neg c3]
        by_cases c4 : rooted = true
        · rw [if_pos c4]; exact h
        · rw [if_neg c4]
          refine ⟨fun q hq => ?_, ?_⟩
          · rcases List.mem_append.1 hq with h4 | h4
            · exact h.all q h4
            · rw [List.mem_singleton.1 h4]; exact hc
          · rcases List.eq_nil_or_concat names with e | ⟨ns, x, e⟩
            · subst e
              refine ⟨n + 1, [], ?_, fun q hq => (by cases hq), fun e => absurd e c4⟩
              rw [h1, c2, List.append_nil, List.append_nil, List.replicate_succ']
            · rw [List.concat_eq_append] at e
              subst e
              exfalso
              refine c3 ⟨by rw [h1]; simp, ?_⟩
              rw [h1, ← List.append_assoc, List.getLast?_append]
              intro e
              have : x = upP := by simpa using e
              exact h2 x (by simp) this
    · rw [if_neg c2]
      refine ⟨fun q hq => ?_, n, names ++ [p], by rw [h1, List.append_assoc], fun q hq => ?_, h3⟩
      · rcases List.mem_append.1 hq with h4 | h4
        · exact h.all q h4
        · rw [List.mem_singleton.1 h4]; exact hc
      · rcases List.mem_append.1 hq with h4 | h4
        · exact h2 q h4
        · rw [List.mem_singleton.1 h4]; exact c2
theorem NormP.fold {rooted : Bool} : ∀ (ps : List (List UInt8)) (left : List (List UInt8)), NormP rooted left → (∀ p ∈ ps, (47 : UInt8) ∉ p) → NormP rooted (ps.foldl (stepP rooted) left)
  | [], _, h, _ => h
  | p :: ps, left, h, hp => NormP.fold ps _ (h.step p (hp p (by simp))) fun q hq => hp q (by simp [hq])
theorem splL_clean (c : UInt8) (l : List UInt8) : ∀ x ∈ splL c l, c ∉ x := by
  induction l with
  | nil => intro x hx; simp [splL] at hx; subst hx; simp
  | cons b l ih =>
    intro x hx
    rw [splL] at hx
    split at hx
    · rcases List.mem_cons.1 hx with h | h
      · subst h; simp
      · exact ih x h
    · rename_i hb
      cases h : splL c l with
      | nil => exact absurd h (splL_ne c l)
      | cons y r =>
        rw [h] at hx ih
        rcases List.mem_cons.1 hx with h1 | h1
        · subst h1
          intro e
          rcases List.mem_cons.1 e with e | e
          · exact hb e.symm
          · exact ih y (by simp) e
        · exact ih x (by simp [h1])
theorem norm_left (rooted : Bool) (s : List UInt8) : NormP rooted (leftP rooted (splL 47 s)) := NormP.fold _ _ (NormP.nil _) (splL_clean 47 s)
/-- What is plain stays. -/
theorem fold_names {rooted : Bool} : ∀ (names left : List (List UInt8)), (∀ p ∈ names, Comp1 p ∧ p ≠ upP) → names.foldl (stepP rooted) left = left ++ names
  | [], left, _ => by simp
  | p :: names, left, h => by
    have hp := h p (by simp)
    have e : stepP rooted left p = left ++ [p] := by
      unfold stepP
      rw [if_neg (fun e => e.elim hp.1.1 hp.1.2.1), if_neg hp.2]
    rw [List.foldl_cons, e, fold_names names _ (fun q hq => h q (by simp [hq]))]
    simp
theorem fold_ups : ∀ (n m : Nat), (List.replicate n upP).foldl (stepP false) (List.replicate m upP) = List.replicate (m + n) upP
  | 0, m => rfl
  | n + 1, m => by
    have e : stepP false (List.replicate m upP) upP = List.replicate (m + 1) upP := by
      unfold stepP
      rw [if_neg (by decide), if_pos rfl, if_neg, if_neg (by decide), List.replicate_succ']
      rintro ⟨h1, h2⟩
      cases m with
      | zero => exact h1 rfl
      | succ m => exact h2 (by rw [List.replicate_succ', List.getLast?_append]; rfl)
    rw [List.replicate_succ, List.foldl_cons, e, fold_ups n (m + 1)]
    congr 1
    omega
theorem NormP.stays {rooted : Bool} {left : List (List UInt8)} (h : NormP rooted left) : leftP rooted left = left := by
  obtain ⟨n, names, h1, h2, h3⟩ := h.ups
  unfold leftP
  have hn : ∀ p ∈ names, Comp1 p ∧ p ≠ upP := fun p hp => ⟨h.all p (by rw [h1]; simp [hp]), h2 p hp⟩
  rw [h1, List.foldl_append]
  cases rooted with
  | true => rw [h3 rfl]; exact fold_names names [] hn
  | false =>
    have := fold_ups n 0
    rw [Nat.zero_add] at this
    rw [show ([] : List (List UInt8)) = List.replicate 0 upP from rfl, this]
    exact fold_names names _ hn
theorem step_nil (rooted : Bool) (left : List (List UInt8)) : stepP rooted left [] = left := by unfold stepP; rw [if_pos (.inl rfl)]
theorem splP_whole (c : UInt8) : ∀ w : List UInt8, c ∉ w → splL c w = [w]
  | [], _ => rfl
  | b :: w, h => by rw [splL, if_neg (fun e => h (by simp [e])), splP_whole c w (fun e => h (by simp [e]))]
theorem splP_join (c : UInt8) : ∀ ws : List (List UInt8), ws ≠ [] → (∀ w ∈ ws, c ∉ w) → splL c (Lib.join ws [c]) = ws
  | [], h, _ => absurd rfl h
  | [w], _, h => by rw [Lib.join_one]; exact splP_whole c w (h w (by simp))
  | w :: x :: r, _, h => by
    have ih := splP_join c (x :: r) (by simp) (fun y hy => h y (by simp [hy]))
    have e : Lib.join (w :: x :: r) [c] = w ++ c :: Lib.join (x :: r) [c] := by
      rw [Lib.join_cons, Lib.join_cons]
      simp [Lib.joinTail]
    rw [e, splL_append, ih, splP_whole c w (h w (by simp))]
    rfl
/-- The pieces of what is written. -/
theorem spl_out {rooted : Bool} {left : List (List UInt8)} (h : NormP rooted left) (hne : left ≠ []) (sl : Bool) :
    splL 47 (outP rooted left sl) = (if rooted = true then [[]] else []) ++ left ++ (if sl = true then [[]] else []) := by
  have hj := splP_join 47 left hne fun w hw => (h.all w hw).2.2
  have h1 : splL 47 (Lib.join left [47] ++ (if sl = true then [47] else [])) = left ++ (if sl = true then [[]] else []) := by
    cases sl with
    | false => simpa using hj
    | true =>
      rw [if_pos rfl, if_pos rfl, show Lib.join left [47] ++ [47] = Lib.join left [47] ++ 47 :: [] from rfl, splL_append, hj]
      rfl
  unfold outP
  cases rooted with
  | false => simp only [Bool.false_eq_true, if_false, List.nil_append]; exact h1
  | true =>
    rw [if_pos rfl, if_pos rfl, List.append_assoc, show [47] ++ (Lib.join left [47] ++ if sl = true then [47] else []) = [] ++ 47 :: (Lib.join left [47] ++ if sl = true then [47] else []) from rfl, splL_append, h1]
    simp [splL]
end Go.Proofs.YtdbipccopijgeaaDoor
