/- The walk of asks: has a tree a kind? -/
import Derived.Test.YtnjjchbgnmjkjaaRexN4
import Derived.Test.YtnjjchbgnmjkjaaCFX
namespace Go.Proofs.Ytnjjchbgnmjkjaa
open Go.RowKit

theorem LK.flat {w : World} {B : Nat} : ∀ {ts : List Tree} {A : Option Addr}, LK w B ts A → ∃ xs, Sl w B 6 A ts.length xs ∧ ∀ j (h : j < ts.length), ∃ A' c', LT w B ts[j] (cellsX ts[j].kind ts[j].set A' ts[j].kids.length c') ∧ ∀ i, i < 6 → xs[j * 6 + i]? = (cellsX ts[j].kind ts[j].set A' ts[j].kids.length c')[i]?
  | [], A, _ => ⟨[], ⟨by simp, fun h => absurd h (by simp)⟩, fun j h => absurd h (by simp)⟩
  | t :: ts, A, h => by
    rw [LK] at h
    obtain ⟨b, off, cs, rfl, h2, h3, h4, h5, h6⟩ := h
    obtain ⟨xs, hs, hx⟩ := LK.flat h6
    obtain ⟨A1, c1, rfl, _⟩ := h5.parts
    have hl := hs.len
    refine ⟨cellsX t.kind t.set A1 t.kids.length c1 ++ xs, ⟨by rw [List.length_append, hl, h3, List.length_cons]; omega, fun _ => ⟨b, off, rfl, h2, fun j hj => ?_⟩⟩, fun j hj => ?_⟩
    · by_cases c : j < 6
      · rw [List.getElem_append_left (by rw [h3]; exact c)]
        exact h4 j (by rw [h3]; exact c)
      · rw [List.getElem_append_right (by rw [h3]; omega)]
        rw [List.length_append, h3] at hj
        obtain ⟨b', off', e, _, hc⟩ := hs.src (by omega)
        injection e with e
        injection e with e1 e2
        subst e1; subst e2
        have := hc (j - 6) (by omega)
        rw [show off + 6 + (j - 6) = off + j by omega] at this
        rw [this]
        simp only [h3]
    · cases j with
      | zero => exact ⟨A1, c1, h5, fun i hi => by rw [Nat.zero_mul, Nat.zero_add, List.getElem?_append_left (by rw [h3]; exact hi)]; rfl⟩
      | succ j =>
        obtain ⟨A', c', g1, g2⟩ := hx j (by simpa using hj)
        refine ⟨A', c', g1, fun i hi => ?_⟩
        rw [List.getElem?_append_right (by rw [h3]; omega), h3, show (j + 1) * 6 + i - 6 = j * 6 + i by omega]
        exact g2 i hi

def dT : Tree := .node 0 .zero []
theorem asksL_any (q : Int) : ∀ ts : List Tree, asksL q ts = ts.any (asksT q)
  | [] => by rw [asksL]; rfl
  | t :: ts => by rw [asksL, asksL_any q ts]; rfl
end Go.Proofs.Ytnjjchbgnmjkjaa
