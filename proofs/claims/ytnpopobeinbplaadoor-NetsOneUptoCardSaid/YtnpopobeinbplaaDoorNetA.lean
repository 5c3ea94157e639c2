/- Rows of networks in memory: two ints each; slices.Equal at equal rows. -/
import Derived.Test.YtnpopobeinbplaaDoorMem
import Derived.Laws.OwnMore
import Derived.Test.YtnpopobeinbplaaDoorNetW
import Derived.Laws.StructEq
import Derived.BigRegion
import Derived.Deep.QuietTactic
namespace Go.Proofs.YtnpopobeinbplaaDoor
open Go.RowKit

abbrev PairN := Int × Int
def cellsN (x : PairN) : List Value := [.int .u32 x.1, .int .i64 x.2]
theorem cellsN_len (l : List PairN) : (l.flatMap cellsN).length = l.length * 2 := by
  induction l with
  | nil => rfl
  | cons x l ih => rw [List.flatMap_cons, List.length_append, ih]; simp only [cellsN, List.length_cons, List.length_nil]; omega
theorem cellsN_one (l : List PairN) : ∀ u ∈ l.flatMap cellsN, u.oneCell' = true := fun u hu => by
  obtain ⟨x, _, h⟩ := List.mem_flatMap.1 hu
  simp only [cellsN, List.mem_cons, List.not_mem_nil, or_false] at h
  rcases h with rfl | rfl <;> rfl
theorem cellsN_at : ∀ (l : List PairN) (k : Nat) (h : k < l.length), (l.flatMap cellsN)[k * 2]? = some (.int .u32 l[k].1) ∧ (l.flatMap cellsN)[k * 2 + 1]? = some (.int .i64 l[k].2)
  | [], k, h => absurd h (by simp)
  | x :: l, 0, _ => ⟨rfl, rfl⟩
  | x :: l, k + 1, h => by
    have := cellsN_at l k (by simpa using h)
    rw [List.flatMap_cons, show (k + 1) * 2 = 2 + k * 2 by omega, List.getElem?_append_right (by simp [cellsN]), show 2 + k * 2 + 1 = 2 + (k * 2 + 1) by omega, List.getElem?_append_right (by simp [cellsN])]
    simpa [cellsN] using this
/-- A row of fields of the call's own. -/
def OwnN (w : World) (base : Nat) (v : Value) (l : List PairN) : Prop := w.ownsRow base 27 2 v l.length (l.flatMap cellsN)
theorem OwnN.nil (w : World) (base : Nat) : OwnN w base (.slice none 0 0) [] := World.ownsRow_nil w base 27 2
theorem OwnN.below {w w' : World} {base : Nat} {v : Value} {l : List PairN} (h : OwnN w base v l) (hb : Below w.heap.size w w') : OwnN w' base v l := ownsRow_below h hb
theorem OwnN.keep {w w' : World} {base : Nat} {v : Value} {l : List PairN} (h : OwnN w base v l) (hk : ∀ g, v.ownBlock = some g → w'.heap[g]? = w.heap[g]?) : OwnN w' base v l := by
  refine ⟨h.1, ?_⟩
  rcases h.2 with h0 | ⟨g, cap, cur, h1, h2, h3, h4⟩
  · exact .inl h0
  · exact .inr ⟨g, cap, cur, h1, h2, (hk g (by rw [h1]; rfl)).trans h3, h4⟩
theorem OwnN.low {w : World} {base b : Nat} {v : Value} {l : List PairN} (h : OwnN w base v l) (hb : b ≤ base) : OwnN w b v l :=
  ⟨h.1, h.2.imp_right fun ⟨g, cap, cur, h1, h2, h3⟩ => ⟨g, cap, cur, h1, Nat.le_trans hb h2, h3⟩⟩
theorem OwnN.form {w : World} {base : Nat} {v : Value} {l : List PairN} (h : OwnN w base v l) : ∃ A c, v = .slice A l.length c ∧ Sl w w.heap.size 2 A l.length (l.flatMap cellsN) := by
  rcases h.2 with ⟨h1, h2⟩ | ⟨g, cap, cur, h1, hb, hg, _⟩
  · have : l = [] := List.eq_nil_of_length_eq_zero h2
    subst this
    exact ⟨none, 0, h1, Sl.nil _ _ _ _⟩
  · refine ⟨_, _, h1, cellsN_len l, fun hp => ⟨g, 0, rfl, ?_, fun j hj => ?_⟩⟩
    · exact (World.ownsRow.lt h g (by rw [h1]; simp [Value.ownBlock])).2
    · have := World.ownsRow.cells (g := g) h (by rw [h1]; simp [Value.ownBlock]) j _ (List.getElem?_eq_getElem hj)
      rw [addr_add] at this
      rw [Nat.zero_add]
      exact this
/-- Two cells of a field. -/
theorem net_at {w : World} {B n : Nat} {A : Option Addr} {l : List PairN} (h : Sl w B 2 A n (l.flatMap cellsN)) (k : Nat) (hk : k < l.length) :
    ∃ b off, A = some ⟨b, off, none⟩ ∧ b < B ∧ w.cell? ⟨b, off + k * 2, none⟩ = some (.int .u32 l[k].1) ∧ w.cell? ⟨b, off + k * 2 + 1, none⟩ = some (.int .i64 l[k].2) := by
  have hl := cellsN_len l
  obtain ⟨b, off, e, hb, hc⟩ := h.src (by omega)
  obtain ⟨h0, h1⟩ := cellsN_at l k hk
  refine ⟨b, off, e, hb, ?_, ?_⟩
  · rw [hc (k * 2) (by omega)]
    rw [List.getElem?_eq_getElem (by omega)] at h0
    exact h0
  · rw [Nat.add_assoc, hc (k * 2 + 1) (by omega)]
    rw [List.getElem?_eq_getElem (by omega)] at h1
    exact h1
theorem info_net : (Tryd.prog.info? 27).map (fun i => (i.zero, i.size, i.bytes)) = some (some (.agg #[.int .u32 0, .int .i64 0]), 2, 16) := by kernel_rfl
section
variable {ops : Array Oper} {rest : List Oper} {o : Oper} {a : Act} {Q : Exit → Act → World → Prop} {w : World}
/-- One field appended. -/
theorem wpList_append_n (hgd : o.guard = none) (s x : Operand) (ho : o.op = .call { callee := .builtin .append, args := #[s, x], argTypes := #[30, 30] })
    (base : Nat) (v : Value) (l : List PairN) (hs : a.eval s = v) (hown : OwnN w base v l) (hbase : base ≤ w.heap.size)
    (vs : List Value) (new : PairN) (hv : vs = cellsN new) (g0 : Nat) (hg0 : w.heap.size = g0) (c : Nat) (hx : a.eval x = .slice (some ⟨g0, 0, none⟩) 1 c)
    (hbytes : l.length ≤ 4194304)
    (h : ∀ v' w', OwnN w' base v' (l ++ [new]) → Below base w w' → (∀ g, g < w.heap.size → v.ownBlock ≠ some g → w'.heap[g]? = w.heap[g]?) → w.heap.size < w'.heap.size → wpList Tryd.prog ops Q rest (a.put o.dst v') w') :
    wpList Tryd.prog ops Q (o :: rest) a (w.alloc (.cells vs.toArray 27)) := by
  subst hv; subst hg0
  obtain ⟨i0, hi, hz0, hz1, hz2⟩ := info_parts info_net
  refine wpList_plain hgd fun _ hK => wp_append_kept s x 30 ho base 27 i0 _ 2 16 Tryd.underlying30 hi hz0 hz1 hz2 rfl (by decide) v l.length (l.flatMap cellsN) hs hown hbase (cellsN new) 1 c hx rfl
    (fun u hu => cellsN_one [new] u (by simpa using hu)) (by unfold maxLen; omega) (by omega) fun v' w' h1 h2 h3 h4 => hK _ _ (h v' w' (by unfold OwnN; rw [List.length_append, List.flatMap_append]; simpa using h1) h2 h3 h4)
end
set_option maxRecDepth 100000 in
set_option maxHeartbeats 800000 in
theorem EqualN_yes (l : List PairN) (A1 A2 : Option Addr) (c1 c2 : Nat) (w : World) (h1 : Sl w w.heap.size 2 A1 l.length (l.flatMap cellsN)) (h2 : Sl w w.heap.size 2 A2 l.length (l.flatMap cellsN)) (hl : l.length ≤ 4398046511104) :
    Calls Tryd.prog 15 #[.slice A1 l.length c1, .slice A2 l.length c2] w fun e w' => e = .returned (.bool true) ∧ Below w.heap.size w w' := by
  generalize hn : l.length = n at *
  have HN := Lib.hid hn
  clear hn
  go_enter Tryd.func15, Tryd.ntmps15
  go_wp2_with fail
  go_loopw [13] (fun i wr => ∃ k : Nat, k ≤ n ∧ i = .int .i64 k ∧ Below w.heap.size w wr) (fun i _ => n - (intOf i).toNat)
  case atStart => exact ⟨0, Nat.zero_le _, rfl, Below.refl _ _⟩
  case round =>
    obtain ⟨k, hk, rfl, hb⟩ := hrel
    by_cases hlt : k < n
    · have q1 : k < l.length := by rw [HN.out]; exact hlt
      obtain ⟨b, off, rfl, hbB, x0, x1⟩ := net_at (h1.below hb) k q1
      obtain ⟨b', off', rfl, hbB', y0, y1⟩ := net_at (h2.below hb) k q1
      generalize l[k] = X at *
      obtain ⟨p, q⟩ := X
      dsimp only at x0 x1 y0 y1
      have i1 : (k : Int) < (n : Int) := by omega
      have i2 : IntKind.i64.wrap ((k : Int) + 1) = (k : Int) + 1 := IntWalk.i64_in _ (by omega)
      have i3 : (0 : Int) ≤ (k : Int) := by omega
      have HBB := Lib.hid hb
      clear hb
      go_wp2_with fail
      go_quiet (fail)
      go_wp2_with fail
      exact ⟨⟨k + 1, by omega, rfl, below_drewN HBB.out nq⟩, by dsimp only [intOf]; omega⟩
    · obtain rfl : k = n := by omega
      go_wp2_with fail
      go_ret
      exact ⟨rfl, hb⟩

end Go.Proofs.YtnpopobeinbplaaDoor
