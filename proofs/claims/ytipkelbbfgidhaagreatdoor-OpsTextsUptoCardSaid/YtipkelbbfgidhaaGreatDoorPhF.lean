/- maker.fail: the chain of failures, walked. -/
import Derived.Test.YtipkelbbfgidhaaGreatDoorPhK
import Derived.Test.YtipkelbbfgidhaaGreatDoorPhV
import Derived.BigQuiet
namespace Go.Proofs.YtipkelbbfgidhaaGreatDoor
open Go.RowKit

/-- The maker at a block: its nodes' failures, its map. -/
structure MkF (w : World) (gm g bm cap : Nat) (ns : List NodeP) (l : List (EdgeK × Nat)) : Prop where
  nodes : w.cell? ⟨gm, 0, none⟩ = some (.slice (some ⟨g, 0, none⟩) ns.length cap)
  next : w.cell? ⟨gm, 1, none⟩ = some (.map (some bm))
  fail : ∀ j n, ns[j]? = some n → w.cell? ⟨g, j * 4 + 2, none⟩ = some (.int .i64 (n.fail : Int))
  map : MpAt w bm l
  lt : gm < w.heap.size ∧ g < w.heap.size
theorem fail_root_calls (gm : Nat) (b : UInt8) (w : World) : Calls Tryz.prog 75 #[.pointer (some ⟨gm, 0, none⟩), .agg #[.int .i64 0, .int .u8 b.toNat]] w fun e w' => e = .returned (.int .i64 0) ∧ Below w.heap.size w w' := by
  go_enter Tryz.func75, Tryz.ntmps75
  go_wp2_with fail
  go_ret
  exact ⟨rfl, by rw [Go.Sort.alloc_eq_grow]; exact Go.Lib.below_grow w.heap.size w (Nat.le_refl _) 0 _⟩
/-- The map's edges are the nodes' own. -/
def NextOk (ns : List NodeP) (l : List (EdgeK × Nat)) : Prop := ∀ (a : Nat) (b : UInt8) (j : Nat), lookE l ((a : Int), b) = some j ↔ 0 < j ∧ ∃ n, ns[j]? = some n ∧ n.up = a ∧ n.b = b
/-- What maker.fail answers. -/
def FailOut (ss : List (List UInt8)) (u : List UInt8) (r : Nat) : Prop := ∃ v, ss[r]? = some v ∧ IsLong ss u v
theorem fail_calls (ns : List NodeP) (ss : List (List UInt8)) (hi : Inv ns ss) (l : List (EdgeK × Nat)) (gm g bm cap up : Nat) (hl : ∀ (a : Nat) (b : UInt8) (j : Nat), a < up → (lookE l ((a : Int), b) = some j ↔ 0 < j ∧ ∃ n, ns[j]? = some n ∧ n.up = a ∧ n.b = b)) (b : UInt8) (n0 : NodeP) (f : List UInt8) (hup : ns[up]? = some n0) (h0 : up ≠ 0) (hf : FailAt ss f b n0.fail) (hfl : n0.fail < up) (hb : ns.length < 9223372036854775808)
    (w : World) (M : MkF w gm g bm cap ns l) :
    Calls Tryz.prog 75 #[.pointer (some ⟨gm, 0, none⟩), .agg #[.int .i64 (up : Int), .int .u8 b.toNat]] w fun e w' => (∃ r : Nat, e = .returned (.int .i64 (r : Int)) ∧ FailOut ss (f ++ [b]) r) ∧ Below w.heap.size w w' := by
  have h1 := M.nodes
  have h2 := M.next
  have h3 := M.fail up n0 hup
  have l1 : gm < w.heap.size := M.lt.1
  have l2 : g < w.heap.size := M.lt.2
  have l3 : gm ≠ w.heap.size := by omega
  have l4 : g ≠ w.heap.size := by omega
  have hlt : up < ns.length := (List.getElem?_eq_some_iff.1 hup).1
  have HF := Lib.hid hf
  have hlen : ∀ a x, ns[a]? = some x → a < ns.length := fun a x h => (List.getElem?_eq_some_iff.1 h).1
  have hget : ∀ a, a < ns.length → ∃ x, ns[a]? = some x := fun a h => ⟨_, List.getElem?_eq_getElem h⟩
  have HL : ∀ (a : Nat) (o : Obj) (q : Nat), a < ns.length → (Instr.lookup 92 (.map (some bm)) (.agg #[.int .i64 (a : Int), .int .u8 b.toNat]) true).run Tryz.prog ((w.alloc o).drewN q) = .ok (.tuple #[.int .i64 (((lookE l ((a : Int), b)).getD 0 : Nat) : Int), .bool (lookE l ((a : Int), b)).isSome]) ((w.alloc o).drewN q) := fun a o q ha => by
    refine run_look_edge2 (k := ((a : Int), b)) ?_ ⟨by omega, by show (a : Int) < _; omega⟩
    obtain ⟨es, ck, h5, h6⟩ := M.map
    refine ⟨es, ck, ?_, h6⟩
    have : bm < w.heap.size := (Array.getElem?_eq_some_iff.1 h5).1
    show (w.heap.push o)[bm]? = _
    rw [Array.getElem?_push_lt this]
    exact (Array.getElem?_eq_getElem this).symm.trans h5
  have HR := Lib.hid M.fail
  generalize ns.length = n at *
  clear hf hup
  go_enter Tryz.func75, Tryz.ntmps75
  go_wp2_with (fail)
  go_quiet (fail)
  go_wp2_with fail
  go_loopw [5] (fun i wr => ∃ a : Nat, a < up ∧ i = .int .i64 (a : Int) ∧ Hid (FailAt ss f b a) ∧ ∃ q, wr = (w.alloc (.cells #[.int .i64 (up : Int), .int .u8 b.toNat] 122)).drewN q) (fun i _ => (intOf i).toNat)
  case atStart => exact ⟨n0.fail, hfl, rfl, HF, _, rfl⟩
  case round =>
    obtain ⟨a, ha, rfl, hfa, q, rfl⟩ := hrel
    have hk := fun q => HL a (.cells #[.int .i64 (up : Int), .int .u8 b.toNat] 122) q (by omega)
    have HX := Lib.hid (fun j => hl a b j ha)
    clear HL
    generalize lookE l ((a : Int), b) = r at hk HX
    cases r with
    | some j =>
      simp only [Option.getD_some, Option.isSome_some] at hk
      have HO : Hid (FailOut ss (f ++ [b]) j) := Lib.hid (hfa.out.found hi ((HX.out j).1 rfl))
      clear hfa HX HF
      go_wp2_with fail
      go_quiet (fail)
      go_wp2_with fail
      go_ret
      exact ⟨⟨j, rfl, HO.out⟩, by repeat (first | exact Below.alloc (Below.refl _ _) (Nat.le_refl _) _ | apply below_drewN_q)⟩
    | none =>
      have hno : ∀ j, ¬ (0 < j ∧ ∃ x, ns[j]? = some x ∧ x.up = a ∧ x.b = b) := fun j h => by cases (HX.out j).2 h
      simp only [Option.getD_none, Option.isSome_none] at hk
      by_cases ha0 : a = 0
      · subst ha0
        have HO : Hid (FailOut ss (f ++ [b]) 0) := Lib.hid ⟨[], hi.trie.root, hfa.out.none hi hno⟩
        have hk2 : ∀ q, (Instr.lookup 92 (.map (some bm)) (.agg #[.int .i64 0, .int .u8 b.toNat]) true).run Tryz.prog ((w.alloc (.cells #[.int .i64 (up : Int), .int .u8 b.toNat] 122)).drewN q) = .ok (.tuple #[.int .i64 0, .bool false]) ((w.alloc (.cells #[.int .i64 (up : Int), .int .u8 b.toNat] 122)).drewN q) := hk
        clear hfa HX HF hno hk
        go_wp2_with fail
        go_quiet (fail)
        go_wp2_with fail
        go_ret
        exact ⟨⟨0, rfl, HO.out⟩, by repeat (first | exact Below.alloc (Below.refl _ _) (Nat.le_refl _) _ | apply below_drewN_q)⟩
      · obtain ⟨x, hx⟩ := hget a (by omega)
        have hcell := HR.out a x hx
        obtain ⟨hq1, hq2⟩ := hfa.out.next hi (by omega) hx hno
        have HN := Lib.hid hq1
        clear hfa HX HF hno hq1
        go_wp2_with fail
        go_quiet (fail)
        go_wp2_with fail
        exact ⟨⟨x.fail, by omega, rfl, HN, _, rfl⟩, by simp [intOf] <;> omega⟩
end Go.Proofs.YtipkelbbfgidhaaGreatDoor
