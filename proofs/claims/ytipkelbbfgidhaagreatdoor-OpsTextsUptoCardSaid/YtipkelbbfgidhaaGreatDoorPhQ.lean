/- maker.fail at an edge that comes. -/
import Derived.Test.YtipkelbbfgidhaaGreatDoorPhE
import Derived.Test.YtipkelbbfgidhaaGreatDoorPhZ
namespace Go.Proofs.YtipkelbbfgidhaaGreatDoor
open Go.RowKit

theorem put_kept (W : World) (b j : Nat) (o : Obj) (h : b ≠ j) : (ChangeMaps.setBlock W b o).heap[j]? = W.heap[j]? := by
  simp [ChangeMaps.setBlock, Array.getElem?_setIfInBounds_ne h]
theorem cell_heap {w w' : World} {g : Nat} (h : w'.heap[g]? = w.heap[g]?) (i : Nat) : w'.cell? ⟨g, i, none⟩ = w.cell? ⟨g, i, none⟩ := by simp only [World.cell?, h]
theorem free_heap {w w' : World} {g : Nat} (h : w'.heap[g]? = w.heap[g]?) (i : Nat) : w'.frozen? ⟨g, i, none⟩ = w.frozen? ⟨g, i, none⟩ := by simp only [World.frozen?, h]
theorem MkF.drew {w : World} {gm g bm cap : Nat} {ns : List NodeP} {l : List (EdgeK × Nat)} (h : MkF w gm g bm cap ns l) : MkF w.drew gm g bm cap ns l := ⟨h.nodes, h.next, h.fail, h.map, h.lt⟩
def FailIs (ss : List (List UInt8)) (p : List UInt8) (b : UInt8) (r : Nat) : Prop :=
  ∃ f, ss[r]? = some f ∧ f ∈ ss ∧ f <:+ p ++ [b] ∧ f ≠ p ++ [b] ∧ ∀ u, u ∈ ss → u <:+ p ++ [b] → u ≠ p ++ [b] → u <:+ f
theorem no_kid {ns : List NodeP} {ss : List (List UInt8)} (hi : Inv ns ss) {l : List (EdgeK × Nat)} (hl : NextOk ns l) {up : Nat} {b : UInt8} {p : List UInt8} (hu : ss[up]? = some p) (hnew : p ++ [b] ∉ ss) : lookE l ((up : Int), b) = none := by
  cases h : lookE l ((up : Int), b) with
  | none => rfl
  | some j => exact absurd (List.mem_of_getElem? ((hi.kid hu).2 ((hl up b j).1 h))) hnew
theorem fail_any {ns : List NodeP} {ss : List (List UInt8)} (hi : Inv ns ss) {l : List (EdgeK × Nat)} (hl : NextOk ns l) (hb : ns.length ≤ 400) {up : Nat} {b : UInt8} {p : List UInt8} (hu : ss[up]? = some p) (hnew : p ++ [b] ∉ ss) (x : Nat)
    {gm g bm cap : Nat} {w : World} (M : MkF w gm g bm cap ns (l ++ [(((up : Int), b), x)])) :
    Calls Tryz.prog 75 #[.pointer (some ⟨gm, 0, none⟩), .agg #[.int .i64 (up : Int), .int .u8 b.toNat]] w fun e w' => (∃ r : Nat, e = .returned (.int .i64 (r : Int)) ∧ FailIs ss p b r) ∧ Below w.heap.size w w' := by
  by_cases h0 : up = 0
  · subst h0
    refine (fail_root_calls gm b w).mono ?_
    rintro e w' ⟨rfl, h⟩
    rw [hi.trie.root] at hu
    obtain rfl := Option.some.inj hu
    exact ⟨⟨0, rfl, [], hi.trie.root, fail_root hi.trie⟩, h⟩
  · obtain ⟨n0, hn0⟩ : ∃ n, ns[up]? = some n := ⟨_, List.getElem?_eq_getElem (hi.lt hu)⟩
    obtain ⟨h1, f, h2, h3⟩ := hi.fail_at (by omega) hn0 hu
    refine (fail_calls ns ss hi _ gm g bm cap up (fun a c j ha => ?_) b n0 f hn0 h0 (failAt_start h2) h1 (by omega) w M).mono ?_
    · rw [lookE_snoc, if_neg (fun e => by injection e with e _; omega), Option.or_none]
      exact hl a c j
    · rintro e w' ⟨⟨r, rfl, v, hv, hlong⟩, hbw⟩
      exact ⟨⟨r, rfl, v, hv, fail_of_long h3 hlong hi.trie hnew⟩, hbw⟩
/-- These edges lie there, in a block at least base. -/
def EdgesAt (w : World) (base : Nat) (v : Value) (l : List (Nat × UInt8)) : Prop :=
  ∃ A c, v = .slice A l.length c ∧ (0 < l.length → ∃ (g : Nat) (cs : Array Value) (fz : Nat × Nat), A = some ⟨g, 0, none⟩ ∧ base ≤ g ∧ w.heap[g]? = some (.cells cs 122 fz) ∧ ∀ j (h : j < l.length), cs[j * 2]? = some (.int .i64 (l[j].1 : Int)) ∧ cs[j * 2 + 1]? = some (.int .u8 l[j].2.toNat))
theorem EdgesAt.at {w : World} {base : Nat} {v : Value} {l : List (Nat × UInt8)} (h : EdgesAt w base v l) (k : Nat) (hk : k < l.length) :
    ∃ g cs fz c, v = .slice (some ⟨g, 0, none⟩) l.length c ∧ base ≤ g ∧ w.heap[g]? = some (.cells cs 122 fz) ∧ w.cell? ⟨g, k * 2, none⟩ = some (.int .i64 (l[k].1 : Int)) ∧ w.cell? ⟨g, k * 2 + 1, none⟩ = some (.int .u8 l[k].2.toNat) := by
  obtain ⟨A, c, rfl, h⟩ := h
  obtain ⟨g, cs, fz, rfl, h1, h2, h3⟩ := h (by omega)
  exact ⟨g, cs, fz, c, rfl, h1, h2, (cell_of_row w g (k * 2) _ _ _ h2).trans (h3 k hk).1, (cell_of_row w g (k * 2 + 1) _ _ _ h2).trans (h3 k hk).2⟩
theorem EdgesAt.keep {w w' : World} {base : Nat} {v : Value} {l : List (Nat × UInt8)} (h : EdgesAt w base v l) (hk : ∀ (g : Nat) cs fz, w.heap[g]? = some (.cells cs 122 fz) → w'.heap[g]? = w.heap[g]?) : EdgesAt w' base v l := by
  obtain ⟨A, c, rfl, h⟩ := h
  refine ⟨A, c, rfl, fun h0 => ?_⟩
  obtain ⟨g, cs, fz, e, h1, h2, h3⟩ := h h0
  exact ⟨g, cs, fz, e, h1, (hk g cs fz h2).trans h2, h3⟩
end Go.Proofs.YtipkelbbfgidhaaGreatDoor
