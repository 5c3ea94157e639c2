/- Plain: the fresh edges of a level, gathered word by word. -/
import Derived.Test.YtipkelbbfgidhaaGreatDoorPhK
namespace Go.Proofs.YtipkelbbfgidhaaGreatDoor

def edgeAt (ws : List (List UInt8)) (n : Nat) (at0 : List Nat) (k : Nat) : Nat × UInt8 := (at0.getD k 0, (ws.getD k []).getD n 0)
def gath (ws : List (List UInt8)) (n : Nat) (at0 : List Nat) : Nat → List (Nat × UInt8)
  | 0 => []
  | k + 1 => if n < (ws.getD k []).length ∧ edgeAt ws n at0 k ∉ gath ws n at0 k then gath ws n at0 k ++ [edgeAt ws n at0 k] else gath ws n at0 k
theorem gath_ok (ws : List (List UInt8)) (n : Nat) (at0 : List Nat) : ∀ m, (gath ws n at0 m).Nodup ∧ ∀ e, e ∈ gath ws n at0 m ↔ ∃ k, k < m ∧ n < (ws.getD k []).length ∧ e = edgeAt ws n at0 k
  | 0 => ⟨by simp [gath], fun e => by simp [gath]⟩
  | m + 1 => by
    obtain ⟨h1, h2⟩ := gath_ok ws n at0 m
    have hm : ∀ e, (∃ k, k < m + 1 ∧ n < (ws.getD k []).length ∧ e = edgeAt ws n at0 k) ↔ (e ∈ gath ws n at0 m ∨ n < (ws.getD m []).length ∧ e = edgeAt ws n at0 m) := fun e => by
      rw [h2]
      constructor
      · rintro ⟨k, hk, h3, h4⟩
        by_cases hkm : k = m
        · subst hkm; exact .inr ⟨h3, h4⟩
        · exact .inl ⟨k, by omega, h3, h4⟩
      · rintro (⟨k, hk, h3, h4⟩ | ⟨h3, h4⟩)
        · exact ⟨k, by omega, h3, h4⟩
        · exact ⟨m, by omega, h3, h4⟩
    rw [gath]
    split
    case isTrue h =>
      refine ⟨List.nodup_append.2 ⟨h1, by simp, fun a ha b hb e => ?_⟩, fun e => ?_⟩
      · rw [List.mem_singleton] at hb
        subst hb; subst e
        exact h.2 ha
      · rw [List.mem_append, List.mem_singleton, hm]
        exact ⟨fun h3 => h3.imp id fun h4 => ⟨h.1, h4⟩, fun h3 => h3.imp id fun h4 => h4.2⟩
    case isFalse h =>
      refine ⟨h1, fun e => ?_⟩
      rw [hm]
      constructor
      · exact .inl
      · rintro (h3 | ⟨h3, rfl⟩)
        · exact h3
        · exact Classical.byContradiction fun h4 => h ⟨h3, h4⟩
theorem gath_edges (ws : List (List UInt8)) (n : Nat) (at0 : List Nat) : EdgesOf ws n at0 (gath ws n at0 ws.length) :=
  ⟨(gath_ok ws n at0 ws.length).1, (gath_ok ws n at0 ws.length).2⟩
theorem EdgesOf.perm {ws : List (List UInt8)} {n : Nat} {at0 : List Nat} {es es' : List (Nat × UInt8)} (h : EdgesOf ws n at0 es) (hp : es'.Perm es) : EdgesOf ws n at0 es' :=
  ⟨hp.nodup_iff.2 h.nod, fun e => (hp.mem_iff).trans (h.mem e)⟩
end Go.Proofs.YtipkelbbfgidhaaGreatDoor
