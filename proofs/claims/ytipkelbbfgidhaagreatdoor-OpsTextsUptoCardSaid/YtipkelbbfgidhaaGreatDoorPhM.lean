/- Maps keyed by edges (a node and a byte). -/
import Derived.Test.YtipkelbbfgidhaaGreatDoorRexH
import Derived.Laws.StructEq
import Derived.DeepKeys3
import Derived.WideKeyMaps2
namespace Go.Proofs.YtipkelbbfgidhaaGreatDoor
open Go.RowKit

abbrev EdgeK := Int × UInt8
def keyV (k : EdgeK) : Value := .agg #[.int .i64 k.1, .int .u8 k.2.toNat]
theorem run_eqInt (d : Nat) (x y : Int) (w : World) : (Op.equalIn (d + 1) 3 (.int .i64 x) (.int .i64 y)).run Tryz.prog w = .ok (x == y) w := by
  simp [Op.equalIn, run_underlying Tryz.underlying3]
theorem run_eqU8 (d : Nat) (x y : Int) (w : World) : (Op.equalIn (d + 1) 5 (.int .u8 x) (.int .u8 y)).run Tryz.prog w = .ok (x == y) w := by
  simp [Op.equalIn, run_underlying Tryz.underlying5]
theorem plain_int : Tryz.prog.plainKey 3 = true := by kernel_rfl
theorem plain_u8 : Tryz.prog.plainKey 5 = true := by kernel_rfl
theorem fields_step (d off : Nat) (t : TypeId) (f : Field) (fs : List Field) (xs ys : Array Value) (x y : Value) (r : Bool) (w : World) (hn : (f.name == "_") = false) (ht : f.type = t) (ho : f.offset = off)
    (hp : Tryz.prog.plainKey t = true) (hx : xs[off]? = some x) (hy : ys[off]? = some y) (he : (Op.equalIn d t x y).run Tryz.prog w = .ok r w) :
    (Op.eqFields d xs ys (f :: fs)).run Tryz.prog w = if r = true then (Op.eqFields d xs ys fs).run Tryz.prog w else .ok false w := by
  subst ht; subst ho
  have h1 : f.name ≠ "_" := fun e => by rw [e] at hn; exact absurd hn (by decide)
  simp only [Op.eqFields, if_pos h1, Sem.run_bind, run_part_plain w hp hx, run_part_plain w hp hy, Result.andThen_ok, he]
  cases r <;> simp
set_option maxRecDepth 100000 in
theorem run_edge_eq (a b : EdgeK) (w : World) : (Op.equal 122 (keyV a) (keyV b)).run Tryz.prog w = .ok (decide (a = b)) w := by
  have h := run_equalIn_struct (P := Tryz.prog) w 9999 122 #[.int .i64 a.1, .int .u8 a.2.toNat] #[.int .i64 b.1, .int .u8 b.2.toNat] (by kernel_rfl) (by kernel_rfl)
  unfold Op.equal keyV
  refine h.trans ?_
  have hf : (Tryz.prog.fieldsOf 122).toList.map (fun f => (f.name == "_", f.type, f.offset)) = [(false, 3, 0), (false, 5, 1)] := by kernel_rfl
  generalize (Tryz.prog.fieldsOf 122).toList = l at *
  match l, hf with
  | [], hf => cases hf
  | [_], hf => simp at hf
  | _ :: _ :: _ :: _, hf => simp at hf
  | [f0, f1], hf =>
    simp only [List.map_cons, List.map_nil, List.cons.injEq, Prod.mk.injEq, and_true] at hf
    obtain ⟨⟨n0, t0, o0⟩, n1, t1, o1⟩ := hf
    rw [fields_step 9999 0 3 f0 [f1] _ _ (.int .i64 a.1) (.int .i64 b.1) (a.1 == b.1) w n0 t0 o0 plain_int rfl rfl (run_eqInt 9998 _ _ w)]
    rw [fields_step 9999 1 5 f1 [] _ _ (.int .u8 a.2.toNat) (.int .u8 b.2.toNat) ((a.2.toNat : Int) == (b.2.toNat : Int)) w n1 t1 o1 plain_u8 rfl rfl (run_eqU8 9998 _ _ w)]
    obtain ⟨a1, a2⟩ := a
    obtain ⟨b1, b2⟩ := b
    by_cases e1 : a1 = b1
    · by_cases e2 : a2 = b2
      · subst e1; subst e2; simp [Op.eqFields]
      · have : ((a2.toNat : Int) == (b2.toNat : Int)) = false := beq_eq_false_iff_ne.2 fun e => e2 (UInt8.toNat_inj.1 (by omega))
        simp [e1, e2, this]
    · have : (a1 == b1) = false := beq_eq_false_iff_ne.2 e1
      simp [e1, this]
/-- The map at a block: these edges, to these numbers. -/
def MpAt (w : World) (b : Nat) (l : List (EdgeK × Nat)) : Prop := ∃ (es : Array MapEntry) (clock : Nat), w.heap[b]? = some (.map es clock) ∧ es.toList.map (fun e => (e.key, e.val)) = l.map fun p => (keyV p.1, Value.int .i64 (p.2 : Int))
def lookE : List (EdgeK × Nat) → EdgeK → Option Nat
  | [], _ => none
  | p :: l, k => if k = p.1 then some p.2 else lookE l k
def findE : List (EdgeK × Nat) → EdgeK → Nat → Option (Nat × Value)
  | [], _, _ => none
  | p :: l, k, i => if k = p.1 then some (i, .int .i64 (p.2 : Int)) else findE l k (i + 1)
theorem findE_look : ∀ (l : List (EdgeK × Nat)) (k : EdgeK) (i : Nat), (findE l k i).map (·.2) = (lookE l k).map fun v => Value.int .i64 (v : Int)
  | [], _, _ => rfl
  | p :: l, k, i => by
    rw [findE, lookE]
    by_cases h : k = p.1
    · rw [if_pos h, if_pos h]; rfl
    · rw [if_neg h, if_neg h]; exact findE_look l k (i + 1)
theorem run_ask : ∀ (es : List MapEntry) (l : List (EdgeK × Nat)) (k : EdgeK) (i : Nat) (w : World), es.map (fun e => (e.key, e.val)) = l.map (fun p => (keyV p.1, Value.int .i64 (p.2 : Int))) →
    (Instr.findAsking 122 (keyV k) es i).run Tryz.prog w = .ok (findE l k i) w
  | [], [], k, i, w, _ => by simp [Instr.findAsking, findE]
  | [], _ :: _, _, _, _, h => by cases h
  | _ :: _, [], _, _, _, h => by cases h
  | e :: es, p :: l, k, i, w, h => by
    simp only [List.map_cons, List.cons.injEq, Prod.mk.injEq] at h
    obtain ⟨⟨h1, h2⟩, h3⟩ := h
    simp only [Instr.findAsking, Sem.run_bind, h1, run_edge_eq, Result.andThen_ok, findE]
    by_cases hk : k = p.1
    · simp [hk, h2]
    · simp only [decide_eq_false hk, Bool.false_eq_true, if_false, if_neg hk]
      exact run_ask es l k (i + 1) w h3
theorem run_findE (l : List (EdgeK × Nat)) (es : Array MapEntry) (k : EdgeK) (w : World) (h : es.toList.map (fun e => (e.key, e.val)) = l.map (fun p => (keyV p.1, Value.int .i64 (p.2 : Int)))) :
    (Instr.findKey 122 (keyV k) es.toList).run Tryz.prog w = .ok (findE l k 0) w := by
  rw [run_findKey_eq w (by kernel_rfl)]
  exact run_ask es.toList l k 0 w h
theorem lits_int (d : Nat) (x : Int) (h : -9223372036854775808 ≤ x ∧ x < 9223372036854775808) : Tryz.prog.keyLits (d + 1) 3 [.int .i64 x] = some [.int .i64 x] := by
  have hw : (Lit.int .i64 x).wf = true := by
    have e1 : IntKind.i64.min = -9223372036854775808 := by decide
    have e2 : IntKind.i64.max = 9223372036854775807 := by decide
    simp only [Lit.wf, e1, e2, Bool.and_eq_true, decide_eq_true_eq]
    omega
  simp [Program.keyLits, Tryz.underlying3, hw]
theorem lits_u8 (d : Nat) (x : UInt8) : Tryz.prog.keyLits (d + 1) 5 [.int .u8 x.toNat] = some [.int .u8 x.toNat] := by
  have hw : (Lit.int .u8 (x.toNat : Int)).wf = true := by
    have := x.toNat_lt
    have e1 : IntKind.u8.min = 0 := by decide
    have e2 : IntKind.u8.max = 255 := by decide
    simp only [Lit.wf, e1, e2, Bool.and_eq_true, decide_eq_true_eq]
    omega
  simp [Program.keyLits, Tryz.underlying5, hw]
theorem keyV_ok (k : EdgeK) (h : -9223372036854775808 ≤ k.1 ∧ k.1 < 9223372036854775808) : ∃ l, keyOf Tryz.prog 122 (keyV k) = some l := by
  have hu : Tryz.prog.underlying 122 = some (.struct (Tryz.prog.fieldsOf 122)) := by kernel_rfl
  have hf : (Tryz.prog.fieldsOf 122).toList.map (fun f => (f.type, f.offset)) = [(3, 0), (5, 1)] := by kernel_rfl
  have hb : (Tryz.prog.fieldsOf 122).all (·.name != "_") = true := by kernel_rfl
  have hk : Tryz.prog.keyType 122 = true := by kernel_rfl
  have hc : Tryz.prog.cellsOf 122 = 2 := by kernel_rfl
  have ci : Tryz.prog.cellsOf 3 = 1 := by kernel_rfl
  have cu : Tryz.prog.cellsOf 5 = 1 := by kernel_rfl
  have hs : ∃ n, Tryz.prog.types.size = n + 1 := ⟨Tryz.prog.types.size - 1, by kernel_rfl⟩
  obtain ⟨n, hn⟩ := hs
  have hl : Tryz.prog.keyLits (Tryz.prog.types.size + 1) 122 [.int .i64 k.1, .int .u8 k.2.toNat] = some [.int .i64 k.1, .int .u8 k.2.toNat] := by
    rw [hn, Program.keyLits.eq_def]
    simp only [hu]
    rw [if_pos ⟨by rw [hc]; rfl, hb⟩]
    generalize (Tryz.prog.fieldsOf 122).toList = l at *
    match l, hf with
    | [], hf => cases hf
    | [_], hf => simp at hf
    | _ :: _ :: _ :: _, hf => simp at hf
    | [f0, f1], hf =>
      simp only [List.map_cons, List.map_nil, List.cons.injEq, Prod.mk.injEq, and_true] at hf
      obtain ⟨⟨t0, o0⟩, t1, o1⟩ := hf
      simp [t0, o0, t1, o1, ci, cu, lits_int n k.1 h, lits_u8 n k.2]
  unfold keyOf
  rw [hu]
  refine ⟨.string (keyBytes [.int .i64 k.1, .int .u8 k.2.toNat]), ?_⟩
  have hfm : (keyV k).formed Tryz.prog 122 = true := by simp [keyV, Value.formed, hu, hc]
  simp only [hk, hfm, Bool.and_self, if_true]
  show Option.map _ (Tryz.prog.keyLits (Tryz.prog.types.size + 1) 122 [.int .i64 k.1, .int .u8 k.2.toNat]) = _
  rw [hl]
  rfl
theorem edge_law : WideMaps.KeyLaw Tryz.prog 122 := deep_law (m := 2) (by omega) (by kernel_rfl) (by kernel_rfl) (by kernel_rfl)
theorem run_look_edge {b : Nat} {l : List (EdgeK × Nat)} {w : World} (M : MpAt w b l) (k : EdgeK) (hk : -9223372036854775808 ≤ k.1 ∧ k.1 < 9223372036854775808) :
    (Instr.lookup 92 (.map (some b)) (keyV k) false).run Tryz.prog w = .ok (.int .i64 (((lookE l k).getD 0 : Nat) : Int)) w := by
  obtain ⟨es, clock, hb, he⟩ := M
  obtain ⟨kl, hkl⟩ := keyV_ok k hk
  have hz : (zeroValue 3).run Tryz.prog w = .ok (.int .i64 0) w := by kernel_rfl
  have hf := findE_look l k 0
  have h1 := run_findE l es k w he
  have hu : Tryz.prog.underlying 92 = some (.map 122 3) := by kernel_rfl
  have hc := edge_law.check w es.isEmpty hkl
  generalize findE l k 0 = r at *
  generalize lookE l k = r' at *
  cases r <;> cases r' <;> simp at hf
  · simp [Instr.lookup, run_underlying hu, MapKept.run_getObj_map hb, hc, h1, hz, Result.andThen]
  · simp [Instr.lookup, run_underlying hu, MapKept.run_getObj_map hb, hc, h1, hf, Result.andThen]
theorem run_look_edge2 {b : Nat} {l : List (EdgeK × Nat)} {w : World} (M : MpAt w b l) (k : EdgeK) (hk : -9223372036854775808 ≤ k.1 ∧ k.1 < 9223372036854775808) :
    (Instr.lookup 92 (.map (some b)) (keyV k) true).run Tryz.prog w = .ok (.tuple #[.int .i64 (((lookE l k).getD 0 : Nat) : Int), .bool (lookE l k).isSome]) w := by
  obtain ⟨es, clock, hb, he⟩ := M
  obtain ⟨kl, hkl⟩ := keyV_ok k hk
  have hz : (zeroValue 3).run Tryz.prog w = .ok (.int .i64 0) w := by kernel_rfl
  have hf := findE_look l k 0
  have h1 := run_findE l es k w he
  have hu : Tryz.prog.underlying 92 = some (.map 122 3) := by kernel_rfl
  have hc := edge_law.check w es.isEmpty hkl
  generalize findE l k 0 = r at *
  generalize lookE l k = r' at *
  cases r <;> cases r' <;> simp at hf
  · simp [Instr.lookup, run_underlying hu, MapKept.run_getObj_map hb, hc, h1, hz, Result.andThen]
  · simp [Instr.lookup, run_underlying hu, MapKept.run_getObj_map hb, hc, h1, hf, Result.andThen]
theorem run_put_edge {b : Nat} {l : List (EdgeK × Nat)} {w : World} (M : MpAt w b l) (k : EdgeK) (v : Nat) (hk : -9223372036854775808 ≤ k.1 ∧ k.1 < 9223372036854775808) (hn : lookE l k = none) :
    ∃ o : Obj, (Instr.mapUpdate 92 (.map (some b)) (keyV k) (.int .i64 (v : Int))).run Tryz.prog w = .ok () (ChangeMaps.setBlock w b o) ∧ MpAt (ChangeMaps.setBlock w b o) b (l ++ [(k, v)]) := by
  obtain ⟨es, clock, hb, he⟩ := M
  obtain ⟨kl, hkl⟩ := keyV_ok k hk
  have hf := findE_look l k 0
  have h1 := run_findE l es k w he
  have hu : Tryz.prog.underlying 92 = some (.map 122 3) := by kernel_rfl
  have hc := edge_law.check w false hkl
  rw [hn] at hf
  generalize findE l k 0 = r at *
  cases r <;> simp at hf
  refine ⟨.map (es.push ⟨keyV k, .int .i64 (v : Int), clock⟩) (clock + 1), by simp [Instr.mapUpdate, run_underlying hu, MapKept.run_getObj_map hb, hc, h1, MapKept.run_setObj_map _ hb, Result.andThen, ChangeMaps.setBlock], es.push ⟨keyV k, .int .i64 (v : Int), clock⟩, clock + 1, ?_, by simp [he]⟩
  simp [ChangeMaps.setBlock, (Array.getElem?_eq_some_iff.1 hb).1]
/-- The same at every world whose map is this one. -/
theorem run_put_edges {b : Nat} {l : List (EdgeK × Nat)} {w : World} (M : MpAt w b l) (k : EdgeK) (v : Nat) (hk : -9223372036854775808 ≤ k.1 ∧ k.1 < 9223372036854775808) (hn : lookE l k = none) :
    ∃ o : Obj, ∀ W : World, W.heap[b]? = w.heap[b]? → (Instr.mapUpdate 92 (.map (some b)) (keyV k) (.int .i64 (v : Int))).run Tryz.prog W = .ok () (ChangeMaps.setBlock W b o) ∧ MpAt (ChangeMaps.setBlock W b o) b (l ++ [(k, v)]) := by
  obtain ⟨es, clock, hb, he⟩ := M
  obtain ⟨kl, hkl⟩ := keyV_ok k hk
  have hf := findE_look l k 0
  have hu : Tryz.prog.underlying 92 = some (.map 122 3) := by kernel_rfl
  rw [hn] at hf
  refine ⟨.map (es.push ⟨keyV k, .int .i64 (v : Int), clock⟩) (clock + 1), fun W hW => ?_⟩
  rw [hb] at hW
  have h1 := run_findE l es k W he
  have hc := edge_law.check W false hkl
  generalize findE l k 0 = r at *
  cases r <;> simp at hf
  refine ⟨by simp [Instr.mapUpdate, run_underlying hu, MapKept.run_getObj_map hW, hc, h1, MapKept.run_setObj_map _ hW, Result.andThen, ChangeMaps.setBlock], es.push ⟨keyV k, .int .i64 (v : Int), clock⟩, clock + 1, ?_, by simp [he]⟩
  simp [ChangeMaps.setBlock, (Array.getElem?_eq_some_iff.1 hW).1]
end Go.Proofs.YtipkelbbfgidhaaGreatDoor
