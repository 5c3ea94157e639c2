/- The code of an expression: what its walk asks, and that its best span is the expression's; plain. -/
import Derived.Test.YteinbjopclblaaaThoU
import Derived.Test.YteinbjopclblaaaRexF
import Derived.Test.YteinbjopclblaaaRexT
namespace Go.Proofs.Yteinbjopclblaaa
open Go.RowKit

mutual
def WfT : Tree → Prop
  | .node _ s ts => s.Wf ∧ WfL ts
def WfL : List Tree → Prop
  | [] => True
  | t :: ts => WfT t ∧ WfL ts
end
mutual
theorem LT.wf {w : World} {B : Nat} : ∀ (t : Tree) (cs : List Value), LT w B t cs → WfT t
  | .node k s ts, cs, h => by
    rw [LT] at h
    obtain ⟨A, c, _, h2, h3⟩ := h
    rw [WfT]
    exact ⟨h2, LK.wf ts A h3⟩
theorem LK.wf {w : World} {B : Nat} : ∀ (ts : List Tree) (A : Option Addr), LK w B ts A → WfL ts
  | [], _, _ => by rw [WfL]; trivial
  | t :: ts, A, h => by
    rw [LK] at h
    obtain ⟨b, off, cs, _, _, _, _, h5, h6⟩ := h
    rw [WfL]
    exact ⟨LT.wf t cs h5, LK.wf ts _ h6⟩
end
theorem code_wf {t : Tree} {at_ : Nat} {l : List Ins} (h : Code t at_ l) : WfT t → ∀ x ∈ l, x.set.Wf := by
  induction h with
  | none S at_ | byte S at_ => intro hw x hx; rw [WfT] at hw; rw [List.mem_singleton] at hx; subst hx; exact hw.1
  | begin S at_ | finish S at_ => intro hw x hx; rw [List.mem_singleton] at hx; subst hx; exact zero_wf
  | empty => intro _ x hx; simp at hx
  | cat S a b at_ la lb _ _ h1 h2 =>
    intro hw x hx
    rw [WfT, WfL, WfL, WfL] at hw
    rcases List.mem_append.1 hx with h | h
    · exact h1 hw.2.1 x h
    · exact h2 hw.2.2.1 x h
  | alt S a b at_ la lb _ _ h1 h2 =>
    intro hw x hx
    rw [WfT, WfL, WfL, WfL] at hw
    rcases List.mem_cons.1 hx with h | hx
    · subst h; exact zero_wf
    · rcases List.mem_append.1 hx with h | hx
      · exact h1 hw.2.1 x h
      · rcases List.mem_cons.1 hx with h | h
        · subst h; exact zero_wf
        · exact h2 hw.2.2.1 x h
  | star S a at_ la _ h1 =>
    intro hw x hx
    rw [WfT, WfL, WfL] at hw
    rcases List.mem_cons.1 hx with h | hx
    · subst h; exact zero_wf
    · rcases List.mem_append.1 hx with h | hx
      · exact h1 hw.2.1 x h
      · rw [List.mem_singleton] at hx
        subst hx; exact zero_wf
theorem prog_wf {t : Tree} {l : List Ins} (h : Code t 0 l) (hw : WfT t) : ∀ n (hn : n < (l ++ [(⟨6, 0, 0, .zero⟩ : Ins)]).length), (l ++ [(⟨6, 0, 0, .zero⟩ : Ins)])[n].set.Wf := fun n hn => by
  have hm := List.getElem_mem hn
  rcases List.mem_append.1 hm with h1 | h1
  · exact code_wf h hw _ h1
  · rw [List.mem_singleton.1 h1]; exact zero_wf
theorem prog_last {t : Tree} {l : List Ins} (h : Code t 0 l) : ∀ n (hn : n < (l ++ [(⟨6, 0, 0, .zero⟩ : Ins)]).length), (l ++ [(⟨6, 0, 0, .zero⟩ : Ins)])[n].kind = 6 ↔ n = (l ++ [(⟨6, 0, 0, .zero⟩ : Ins)]).length - 1 := fun n hn => by
  have hl : (l ++ [(⟨6, 0, 0, .zero⟩ : Ins)]).length = l.length + 1 := by simp
  rw [hl] at hn ⊢
  by_cases c : n < l.length
  · rw [List.getElem_append_left c]
    have := code_tgt h l[n] (List.getElem_mem c)
    unfold Tgt at this
    constructor
    · intro e; omega
    · intro e; omega
  · obtain rfl : n = l.length := by omega
    simp
theorem best_same {t : Tree} {l : List Ins} (hc : Code t 0 l) (hf : Fine t) {s : List UInt8} {found is : Bool} {f tt i j : Nat} (hB : BestI (l ++ [(⟨6, 0, 0, .zero⟩ : Ins)]) s ((l ++ [(⟨6, 0, 0, .zero⟩ : Ins)]).length - 1) (fun j => j < s.length + 1) found f tt)
    (hF : Found s t is i j) : found = is ∧ f = i ∧ tt = j := by
  have hl : (l ++ [(⟨6, 0, 0, .zero⟩ : Ins)]).length - 1 = l.length := by simp
  rw [hl] at hB
  have h1 : ∀ a b, R (l ++ [(⟨6, 0, 0, .zero⟩ : Ins)]) s a l.length b → b < s.length + 1 → M s t a b := fun a b h hb => (prog_iff hc hf _ rfl a b (by have := h.le; omega)).1 h
  have h2 : ∀ a b, M s t a b → R (l ++ [(⟨6, 0, 0, .zero⟩ : Ins)]) s a l.length b ∧ b < s.length + 1 := fun a b h => by
    have := h.le
    exact ⟨(prog_iff hc hf _ rfl a b (by omega)).2 h, by omega⟩
  unfold Found at hF
  cases is with
  | true =>
    rw [if_pos rfl] at hF
    cases found with
    | false =>
      obtain ⟨h3, h4⟩ := h2 _ _ hF.1
      exact absurd h3 ((hB.2 rfl).1 _ _ h4)
    | true =>
      obtain ⟨h3, h4, h5⟩ := hB.1 rfl
      have h6 := hF.2 _ _ (h1 _ _ h3 h4)
      obtain ⟨h7, h8⟩ := h2 _ _ hF.1
      have h9 := h5 _ _ h7 h8
      refine ⟨rfl, ?_⟩
      omega
  | false =>
    rw [if_neg (by decide)] at hF
    obtain ⟨rfl, rfl, h3⟩ := hF
    cases found with
    | false => exact ⟨rfl, (hB.2 rfl).2⟩
    | true =>
      obtain ⟨h4, h5, _⟩ := hB.1 rfl
      exact absurd (h1 _ _ h4 h5) (h3 _ _)
/-- The first test's instructions are three. -/
theorem code_star_len {x : Nat} {l : List Ins} (h : Code (starT (letT x)) 0 l) : l.length = 3 := by
  unfold starT letT at h
  cases h with
  | star _ _ _ la h1 =>
    cases h1
    rfl
end Go.Proofs.Yteinbjopclblaaa
