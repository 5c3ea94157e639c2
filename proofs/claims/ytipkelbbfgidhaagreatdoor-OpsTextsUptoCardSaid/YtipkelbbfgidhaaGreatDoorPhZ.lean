/- Plain: a node more, and its edge in the map. -/
import Derived.Test.YtipkelbbfgidhaaGreatDoorPhF
namespace Go.Proofs.YtipkelbbfgidhaaGreatDoor

theorem lookE_snoc : ∀ (l : List (EdgeK × Nat)) (p : EdgeK × Nat) (k : EdgeK), lookE (l ++ [p]) k = (lookE l k).or (if k = p.1 then some p.2 else none)
  | [], p, k => by simp [lookE]
  | q :: l, p, k => by
    rw [List.cons_append, lookE, lookE]
    by_cases h : k = q.1
    · rw [if_pos h, if_pos h]; rfl
    · rw [if_neg h, if_neg h]; exact lookE_snoc l p k
theorem NextOk.start : NextOk [⟨0, 0, 0⟩] [] := fun a b j => by
  constructor
  · intro h; cases h
  · rintro ⟨h0, n, h1, _⟩
    have : j < 1 := (List.getElem?_eq_some_iff.1 h1).1
    omega
theorem NextOk.add {ns : List NodeP} {l : List (EdgeK × Nat)} (h : NextOk ns l) (x : NodeP) (h0 : 0 < ns.length) (hn : lookE l ((x.up : Int), x.b) = none) : NextOk (ns ++ [x]) (l ++ [(((x.up : Int), x.b), ns.length)]) := fun a b j => by
  rw [lookE_snoc]
  have hx := h a b
  by_cases e : ((a : Int), b) = ((x.up : Int), x.b)
  · obtain ⟨e1, rfl⟩ := Prod.mk.inj e
    obtain rfl : a = x.up := by omega
    rw [hn, if_pos rfl]
    constructor
    · intro hj
      obtain rfl : ns.length = j := by simpa using hj
      exact ⟨h0, x, by simp, rfl, rfl⟩
    · rintro ⟨hj, n, h1, h2, h3⟩
      by_cases hlt : j < ns.length
      · rw [List.getElem?_append_left hlt] at h1
        have := (hx j).2 ⟨hj, n, h1, h2, h3⟩
        rw [hn] at this
        cases this
      · have := (List.getElem?_eq_some_iff.1 h1).1
        rw [List.length_append, List.length_singleton] at this
        obtain rfl : j = ns.length := by omega
        rfl
  · rw [if_neg e, Option.or_none, hx j]
    constructor
    · rintro ⟨hj, n, h1, h2⟩
      have hlt := (List.getElem?_eq_some_iff.1 h1).1
      exact ⟨hj, n, by rw [List.getElem?_append_left hlt]; exact h1, h2⟩
    · rintro ⟨hj, n, h1, h2, h3⟩
      by_cases hlt : j < ns.length
      · rw [List.getElem?_append_left hlt] at h1
        exact ⟨hj, n, h1, h2, h3⟩
      · have := (List.getElem?_eq_some_iff.1 h1).1
        rw [List.length_append, List.length_singleton] at this
        obtain rfl : j = ns.length := by omega
        simp at h1
        subst h1; subst h2; subst h3
        exact absurd rfl e
end Go.Proofs.YtipkelbbfgidhaaGreatDoor
