/- (*threads).add: what it keeps. -/
import Derived.Test.YteinbjopclblaaaThoN
namespace Go.Proofs.Yteinbjopclblaaa
open Go.RowKit

/-- How many instructions were not come to yet. -/
def unmet (n : Nat) (G : Nat → Nat) : Nat := ((List.range n).filter fun i => G i == 0).length
theorem unmet_succ (n : Nat) (G : Nat → Nat) : unmet (n + 1) G = unmet n G + if G n = 0 then 1 else 0 := by
  unfold unmet
  rw [List.range_succ, List.filter_append, List.length_append]
  by_cases c : G n = 0
  · simp [c]
  · simp [c]
theorem unmet_same {n : Nat} {G H : Nat → Nat} (h : ∀ i, i < n → (G i = 0 ↔ H i = 0)) : unmet n G = unmet n H := by
  induction n with
  | zero => rfl
  | succ n ih =>
    rw [unmet_succ, unmet_succ, ih fun i hi => h i (by omega)]
    by_cases c : G n = 0
    · rw [if_pos c, if_pos ((h n (by omega)).1 c)]
    · rw [if_neg c, if_neg fun e => c ((h n (by omega)).2 e)]
theorem unmet_upd {n k v : Nat} {G : Nat → Nat} (hk : k < n) (h0 : G k = 0) (hv : v ≠ 0) : unmet n (upd G k v) + 1 = unmet n G := by
  induction n with
  | zero => omega
  | succ n ih =>
    rw [unmet_succ, unmet_succ]
    by_cases c : k = n
    · subst c
      rw [if_pos h0, if_neg (by unfold upd; rw [if_pos rfl]; exact hv)]
      rw [unmet_same (H := G) fun i hi => by unfold upd; rw [if_neg (by omega)]]
    · have h1 := ih (by omega)
      have h2 : upd G k v n = G n := by unfold upd; rw [if_neg fun e => c e.symm]
      rw [h2]
      omega
theorem unmet_le (n : Nat) (G : Nat → Nat) : unmet n G ≤ n := by
  induction n with
  | zero => exact Nat.le_refl _
  | succ n ih => rw [unmet_succ]; split <;> omega
def zeroV : Value → Bool
  | .int _ m => m == 0
  | _ => false
def unmetW (w : World) (g : Nat) : Nat := match w.heap[g]? with
  | some (.cells cs _ _) => (cs.toList.filter zeroV).length
  | _ => 0
theorem FromN.unmet {w : World} {g n : Nat} {F : Nat → Nat} (h : FromN w g n F) : unmetW w g = unmet n F := by
  unfold FromN at h
  unfold unmetW
  rw [h]
  dsimp only
  unfold Go.Proofs.Yteinbjopclblaaa.unmet
  rw [List.filter_map, List.length_map]
  congr 1
  apply List.filter_congr
  intro i _
  show ((F i : Int) == 0) = (F i == 0)
  by_cases c : F i = 0
  · rw [c]; rfl
  · rw [beq_eq_false_iff_ne.2 c, beq_eq_false_iff_ne.2 (by omega)]
def lenV : Value → Nat
  | .slice _ n _ => n
  | _ => 0

/-- The threads' block. -/
def ThB (w : World) (gt : Nat) (pv : Value) (s : ByteArray) (gF n : Nat) (vl : Value) : Prop := ∃ cF, w.heap[gt]? = some (.cells #[pv, .string s, .slice (some ⟨gF, 0, none⟩) n cF, vl] 145 (0, 0))
theorem ThB.cells {w : World} {gt : Nat} {pv : Value} {s : ByteArray} {gF n : Nat} {vl : Value} (h : ThB w gt pv s gF n vl) :
    w.cell? ⟨gt, 0, none⟩ = some pv ∧ w.cell? ⟨gt, 1, none⟩ = some (.string s) ∧ (∃ cF, w.cell? ⟨gt, 2, none⟩ = some (.slice (some ⟨gF, 0, none⟩) n cF)) ∧ w.cell? ⟨gt, 3, none⟩ = some vl ∧ w.frozen? ⟨gt, 3, none⟩ = false := by
  obtain ⟨cF, h⟩ := h
  exact ⟨cell_of_row w gt 0 _ _ _ h, cell_of_row w gt 1 _ _ _ h, ⟨cF, cell_of_row w gt 2 _ _ _ h⟩, cell_of_row w gt 3 _ _ _ h, frozen_of_row w gt 3 _ _ h⟩
theorem ThB.keep {w w' : World} {gt : Nat} {pv : Value} {s : ByteArray} {gF n : Nat} {vl : Value} (h : ThB w gt pv s gF n vl) (hk : w'.heap[gt]? = w.heap[gt]?) : ThB w' gt pv s gF n vl := by
  obtain ⟨cF, h⟩ := h
  exact ⟨cF, hk.trans h⟩
theorem ThB.set {w : World} {gt : Nat} {pv : Value} {s : ByteArray} {gF n : Nat} {vl : Value} (h : ThB w gt pv s gF n vl) (u : Value) : ThB (w.setCell ⟨gt, 3, none⟩ u) gt pv s gF n u := by
  obtain ⟨cF, h⟩ := h
  exact ⟨cF, heap_setCell_same w gt 3 _ _ u h⟩

/-- The threads as they lie in memory, with the stack. -/
structure ThM (w : World) (gt : Nat) (pv : Value) (s : ByteArray) (gF n : Nat) (vl : Value) (G : Nat → Nat) (lg : List Nat) : Prop where
  blk : ThB w gt pv s gF n vl
  frm : FromN w gF n G
  lst : OwnN w vl lg
  far : vl.ownBlock ≠ some gF
  len : lg.length + unmet n G ≤ n
theorem ThM.ne {w : World} {gt : Nat} {pv : Value} {s : ByteArray} {gF n : Nat} {vl : Value} {G : Nat → Nat} {lg : List Nat} (h : ThM w gt pv s gF n vl G lg) : gt ≠ gF ∧ vl.ownBlock ≠ some gt := by
  obtain ⟨cF, hb⟩ := h.blk
  constructor
  · intro e
    have h2 := h.frm
    unfold FromN at h2
    rw [← e, hb] at h2
    injection h2 with h2
    injection h2 with _ h2 _
    exact absurd h2 (by decide)
  · intro e
    rcases h.lst.2 with ⟨h1, _⟩ | ⟨g, cap, cur, h1, _, h3, _⟩
    · rw [h1] at e; cases e
    · rw [h1] at e
      injection e with e
      have e : g = gt := e
      rw [e, hb] at h3
      injection h3 with h3
      injection h3 with _ h3 _
      exact absurd h3 (by decide)
end Go.Proofs.Yteinbjopclblaaa
