/- Plain: a tree as text. -/
import Derived.Test.YtnjjchbgnmjkjaaRpx
import Derived.Test.YtnjjchbgnmjkjaaRexC
namespace Go.Proofs.Ytnjjchbgnmjkjaa
open Go.RowKit

def memF (S : Set4) : Nat → Bool := fun x => hasB S (UInt8.ofNat x)
def noneP : List UInt8 := [91, 94, 92, 120, 48, 48, 45, 92, 120, 102, 102, 93]
/-- In brackets, if it is of one of the kinds. -/
def brP (ks : List Int) (a : Int × List UInt8) : List UInt8 := if ks.contains a.1 = true then [40] ++ a.2 ++ [41] else a.2
def shapeP (k : Int) (S : Set4) (l : List (Int × List UInt8)) : List UInt8 :=
  if k = 1 then noneP else if k = 7 then [94] else if k = 8 then [36] else if k = 3 then bytesP (memF S)
  else if k = 6 then (match l with | [a] => brP [2, 4, 5, 6] a ++ [42] | _ => [])
  else if k = 4 then (match l with | [a, b] => brP [2, 5] a ++ brP [2, 5, 4] b | _ => [])
  else if k = 5 then (match l with | [a, b] => a.2 ++ [124] ++ brP [5] b | _ => [])
  else []
mutual
def showT : Tree → List UInt8
  | .node k S ts => shapeP k S (showL ts)
def showL : List Tree → List (Int × List UInt8)
  | [] => []
  | t :: ts => (t.kind, showT t) :: showL ts
end
theorem set_mem {S : Set4} (h : S.Wf) : setF (memF S) = S := by
  have hw : ∀ (j : Nat) (x : Int), word64 x → S.word j = x → j < 4 → ((wdF (memF S) j : Nat) : Int) = x := fun j x hx hj h4 => by
    obtain ⟨n, rfl⟩ : ∃ n : Nat, x = n := ⟨x.toNat, by unfold word64 at hx; omega⟩
    have hn : n < 2 ^ 64 := by unfold word64 at hx; have := hx.2; omega
    congr 1
    refine Nat.eq_of_testBit_eq fun i => ?_
    rw [wdF_test]
    by_cases hi : i < 64
    · rw [decide_eq_true hi, Bool.true_and]
      unfold memF hasB
      have e : (UInt8.ofNat (64 * j + i)).toNat = 64 * j + i := by rw [UInt8.toNat_ofNat']; omega
      rw [e, show (64 * j + i) / 64 = j by omega, show (64 * j + i) % 64 = i by omega, hj, Nat.testBit_eq_decide_div_mod_eq]
      have e2 : ((n : Int) / 2 ^ i % 2 == 1) = ((n / 2 ^ i % 2 : Nat) == 1) := by
        have : (n : Int) / 2 ^ i % 2 = ((n / 2 ^ i % 2 : Nat) : Int) := by
          rw [Int.natCast_emod, Int.natCast_ediv, Int.natCast_pow]; rfl
        rw [this]
        cases h5 : ((n / 2 ^ i % 2 : Nat) == 1) with
        | true => rw [beq_iff_eq] at h5; rw [h5]; rfl
        | false => rw [beq_eq_false_iff_ne] at h5 ⊢; omega
      rw [e2]
      rfl
    · rw [decide_eq_false hi, Bool.false_and]
      exact (Nat.testBit_lt_two_pow (Nat.lt_of_lt_of_le hn (Nat.pow_le_pow_right (by decide) (by omega)))).symm
  obtain ⟨h1, h2, h3, h4⟩ := h
  obtain ⟨a, b, c, d⟩ := S
  unfold setF
  rw [hw 0 a h1 rfl (by decide), hw 1 b h2 rfl (by decide), hw 2 c h3 rfl (by decide), hw 3 d h4 rfl (by decide)]
mutual
def nodesT : Tree → Nat
  | .node _ _ ts => 1 + nodesL ts
def nodesL : List Tree → Nat
  | [] => 0
  | t :: ts => nodesT t + nodesL ts
end
theorem brP_len (ks : List Int) (a : Int × List UInt8) : (brP ks a).length ≤ a.2.length + 2 := by
  unfold brP
  split
  · simp only [List.length_append, List.length_cons, List.length_nil]; omega
  · omega
def sumL : List (Int × List UInt8) → Nat
  | [] => 0
  | a :: l => a.2.length + 2 + sumL l
theorem shapeP_len (k : Int) (S : Set4) (l : List (Int × List UInt8)) : (shapeP k S l).length ≤ 2320 + sumL l := by
  have h := bytesP_len (memF S)
  unfold shapeP
  generalize bytesP (memF S) = B at *
  split
  · show 12 ≤ _; omega
  · split
    · show 1 ≤ _; omega
    · split
      · show 1 ≤ _; omega
      · split
        · omega
        · split
          · split
            · rename_i a
              have := brP_len [2, 4, 5, 6] a
              simp only [List.length_append, List.length_cons, List.length_nil, sumL]; omega
            · simp
          · split
            · split
              · rename_i a b
                have := brP_len [2, 5] a
                have := brP_len [2, 5, 4] b
                simp only [List.length_append, sumL]; omega
              · simp
            · split
              · split
                · rename_i a b
                  have := brP_len [5] b
                  simp only [List.length_append, List.length_cons, List.length_nil, sumL]; omega
                · simp
              · simp
mutual
theorem showT_len : ∀ t : Tree, (showT t).length + 2 ≤ 2400 * nodesT t
  | .node k S ts => by
    rw [showT, nodesT]
    have h1 := shapeP_len k S (showL ts)
    have h2 := showL_len ts
    omega
theorem showL_len : ∀ ts : List Tree, sumL (showL ts) ≤ 2400 * nodesL ts
  | [] => by rw [showL, sumL]; omega
  | t :: ts => by
    rw [showL, sumL, nodesL]
    have h1 := showT_len t
    have h2 := showL_len ts
    dsimp only
    omega
end
mutual
theorem chk_nodes : ∀ (t : Tree) (deep n : Int), (chk t deep n).2 = 0 → (chk t deep n).1 = n + nodesT t
  | .node k s ts, deep, n, h => by
    rw [chk] at h ⊢
    rw [nodesT]
    by_cases c1 : 80 < n + 1
    · rw [if_pos c1] at h; exact absurd (show (2 : Int) = 0 from h) (by decide)
    rw [if_neg c1] at h ⊢
    by_cases c2 : 20 < deep
    · rw [if_pos c2] at h; exact absurd (show (11 : Int) = 0 from h) (by decide)
    rw [if_neg c2] at h ⊢
    by_cases c3 : badT k s ts.length = true
    · rw [if_pos c3] at h; exact absurd (show (1 : Int) = 0 from h) (by decide)
    rw [if_neg c3] at h ⊢
    rw [chkL_nodes ts _ _ h]
    omega
theorem chkL_nodes : ∀ (ts : List Tree) (deep n : Int), (chkL ts deep n).2 = 0 → (chkL ts deep n).1 = n + nodesL ts
  | [], _, n, _ => by rw [chkL, nodesL]; show n = n + ((0 : Nat) : Int); omega
  | t :: ts, deep, n, h => by
    rw [chkL] at h ⊢
    rw [nodesL]
    by_cases c : (chk t deep n).2 ≠ 0
    · rw [if_pos c] at h; exact absurd h c
    · rw [if_neg c] at h ⊢
      have h1 := chk_nodes t deep n (by omega)
      rw [chkL_nodes ts _ _ h, h1]
      omega
end
mutual
/-- Each set is four words. -/
def WfT : Tree → Prop
  | .node _ S ts => S.Wf ∧ WfL ts
def WfL : List Tree → Prop
  | [] => True
  | t :: ts => WfT t ∧ WfL ts
end
mutual
theorem LT.wf {w : World} {B : Nat} : ∀ (t : Tree) (cs : List Value), LT w B t cs → WfT t
  | .node k S ts, cs, h => by
    rw [LT] at h
    rw [WfT]
    obtain ⟨A, c, _, h2, h3⟩ := h
    exact ⟨h2, LK.wf ts A h3⟩
theorem LK.wf {w : World} {B : Nat} : ∀ (ts : List Tree) (A : Option Addr), LK w B ts A → WfL ts
  | [], _, _ => by rw [WfL]; trivial
  | t :: ts, A, h => by
    rw [LK] at h
    rw [WfL]
    obtain ⟨b, off, cs, _, _, _, _, h5, h6⟩ := h
    exact ⟨LT.wf t cs h5, LK.wf ts _ h6⟩
end
end Go.Proofs.Ytnjjchbgnmjkjaa
