/- Arguments with depth opened: a slice of whatever elements as one list of cells. -/
import Derived.Test.YtipkelbbfgidhaaGreatDoorMem
import Derived.Deep.Slices
import Derived.Deep.Fields
import Derived.ChangeSame
import Derived.Lib.SmallJoins
import Derived.SizedLaws
namespace Go.Proofs.YtipkelbbfgidhaaGreatDoor
open Go.RowKit Go.ChangeShapes Go.WideShapes Go.Deep

theorem flat_len {α : Type} (cells : α → List Value) (size : Nat) (hsz : ∀ a, (cells a).length = size) : ∀ l : List α, (l.flatMap cells).length = l.length * size
  | [] => by simp
  | a :: r => by rw [List.flatMap_cons, List.length_append, hsz, flat_len cells size hsz r, List.length_cons, Nat.succ_mul]; omega
theorem flat_at {α : Type} (cells : α → List Value) (size : Nat) (hsz : ∀ a, (cells a).length = size) : ∀ (l : List α) (k j : Nat) (h : k < l.length), j < size → (l.flatMap cells)[k * size + j]? = (cells l[k])[j]?
  | [], k, j, h, _ => absurd h (by simp)
  | a :: r, 0, j, h, hj => by
    rw [List.flatMap_cons, Nat.zero_mul, Nat.zero_add, List.getElem?_append_left (by rw [hsz]; exact hj)]; rfl
  | a :: r, k + 1, j, h, hj => by
    rw [List.flatMap_cons, List.getElem?_append_right (by rw [hsz, Nat.succ_mul]; omega), hsz, show (k + 1) * size + j - size = k * size + j by rw [Nat.succ_mul]; omega]
    exact flat_at cells size hsz r k j (by simpa using h) hj

section
variable {H : Type} {enc : TypeId × Value → H} {P : Program} {w : World} {base : Nat} {spare : Nat → Bool} {held : Bool}
/-- A slice opened: its elements as a list, each with what its own reading tells. -/
theorem open_list {α : Type} {t e : TypeId} {fuel : Nat} {cs : List Value} {x : DataW H × List MemPlace} (size : Nat) (cells : α → List Value) (dat : α → DataW H) (Ok : α → Prop)
    (ht : P.underlying t = some (.slice e)) (hC : P.cellsOf e = size) (hsz : ∀ a, (cells a).length = size)
    (hel : ∀ n cs' y, DataW.trod enc P w base spare held n e cs' = some y → ∃ a : α, cs' = cells a ∧ y.1 = dat a ∧ Ok a)
    (h : DataW.trod enc P w base spare held fuel t cs = some x) :
    ∃ (A : Option Addr) (len c : Nat) (l : List α), cs = [.slice A len c] ∧ l.length = len ∧ len ≤ c ∧ c ≤ maxLen ∧ (∀ a ∈ l, Ok a) ∧ Sl w w.heap.size size A len (l.flatMap cells) ∧
      ((x.1 = .nil ∧ l = []) ∨ ∃ sp, x.1 = .slice (l.map dat) sp) := by
  rcases open_slice ht h with ⟨h1, h2⟩ | ⟨a, len, cap, m, n, D, Pl, hcs, hb, hl, hm, hmm, hx, hi⟩
  · exact ⟨none, 0, 0, [], h1, rfl, Nat.le_refl _, Nat.zero_le _, by simp, Sl.nil _ _ _ _, .inl ⟨by rw [h2], rfl⟩⟩
  · have hlm : len ≤ m := by rw [hmm]; split <;> omega
    have hall : ∀ i, i < len → ∃ a' : α, w.cells? base (a.add (i * size)) size = some (cells a') ∧ D i = dat a' ∧ Ok a' := fun i him => by
      obtain ⟨cs', hc, ht'⟩ := hi i (by omega)
      obtain ⟨a', e1, e2, e3⟩ := hel _ _ _ ht'
      rw [hC] at hc
      subst e1
      exact ⟨a', hc, e2, e3⟩
    have hlist : ∀ k, k ≤ len → ∃ l : List α, l.length = k ∧ (∀ i (h : i < l.length), w.cells? base (a.add (i * size)) size = some (cells l[i]) ∧ D i = dat l[i] ∧ Ok l[i]) := by
      intro k
      induction k with
      | zero => exact fun _ => ⟨[], rfl, fun i h => absurd h (by simp)⟩
      | succ k ih =>
        intro hk
        obtain ⟨l, hl1, hl2⟩ := ih (by omega)
        obtain ⟨a', q⟩ := hall k (by omega)
        refine ⟨l ++ [a'], by rw [List.length_append, hl1]; rfl, fun i h => ?_⟩
        by_cases c : i < l.length
        · rw [List.getElem_append_left c]; exact hl2 i c
        · have hik : i = k := by rw [List.length_append, List.length_cons, List.length_nil] at h; omega
          subst hik
          rw [List.getElem_append_right (by omega)]
          simpa [hl1] using q
    obtain ⟨l, hl1, hl2⟩ := hlist len (Nat.le_refl _)
    refine ⟨some a, len, cap, l, hcs, hl1, hl, hm, fun x hx => ?_, ?_, .inr ⟨(List.range (m - len)).map fun j => D (len + j), ?_⟩⟩
    · obtain ⟨i, hi', rfl⟩ := List.mem_iff_getElem.1 hx
      exact (hl2 i hi').2.2
    · refine ⟨by rw [flat_len cells size hsz, hl1], fun hp => ?_⟩
      rw [flat_len cells size hsz] at hp
      have hp1 : 0 < l.length := Nat.pos_of_mul_pos_right hp
      have hp2 : 0 < size := Nat.pos_of_mul_pos_left hp
      have h0 := (World.cells?_some (hl2 0 hp1).1).2.2 0 hp2
      have hsome : ∃ v, w.cell? a = some v := by
        have h00 : (cells l[0])[0]? = some ((cells l[0])[0]'(by rw [hsz]; exact hp2)) := List.getElem?_eq_getElem _
        rw [h00, Nat.zero_mul] at h0
        exact ⟨_, by simpa [Addr.add] using h0⟩
      obtain ⟨v, hv⟩ := hsome
      have hsp := World.cell?_spot hv
      obtain ⟨b, off, spot⟩ := a
      have : spot = none := hsp
      subst this
      refine ⟨b, off, rfl, World.block_lt_of_cell? w ⟨b, off, none⟩ hv, fun j hj => ?_⟩
      have hj' : j < l.length * size := by rw [flat_len cells size hsz] at hj; exact hj
      have e1 : j / size * size + j % size = j := by rw [Nat.mul_comm]; exact Nat.div_add_mod j size
      have hk : j / size < l.length := Nat.div_lt_of_lt_mul (by rw [Nat.mul_comm]; exact hj')
      have hm2 : j % size < size := Nat.mod_lt _ hp2
      have hat := flat_at cells size hsz l (j / size) (j % size) hk hm2
      rw [e1] at hat
      have hc := (World.cells?_some (hl2 _ hk).1).2.2 (j % size) hm2
      rw [← hat, List.getElem?_eq_getElem hj, Go.WideShapes.add_plain, Go.WideShapes.add_plain, Nat.add_assoc, e1] at hc
      exact hc
    · rw [hx]
      show DataW.slice _ _ = DataW.slice _ _
      congr 1
      refine List.ext_getElem (by simp [hl1]) fun i h1 h2 => ?_
      have hi' : i < l.length := by simpa using h2
      simp [(hl2 i hi').2.1]
end

theorem all_part {H : Type} {P : Program} {ts : List TypeId} {ds : List (DataW H)} (h : (DataW.weightsEach P ts ds).all (· ≤ reachBytes) = true) {j : Nat} {t : TypeId} {d : DataW H} (ht : ts[j]? = some t) (hd : ds[j]? = some d) :
    (d.weights P t).all (· ≤ reachBytes) = true :=
  List.all_eq_true.2 fun n hn => List.all_eq_true.1 h n (DataW.weights_mem_each ht hd n hn)
end Go.Proofs.YtipkelbbfgidhaaGreatDoor
