/- Part 20 of the proof: lemmas and walks that the last texts use. -/
import Derived.Test.YthfjmlcjkbgboaaGreatDoorM04
import Derived.Test.YthfjmlcjkbgboaaGreatDoorM19
import Derived.Laws.StructEq
import Derived.DeepKeys3
import Derived.WideKeyMaps2
import Derived.Shelf.SlicesQ.Contains
import Derived.Shelf.SlLaysF0
import Derived.Shelf.SlSortCmp.InsertionK
import Derived.Lib.AppendIntMem
import Derived.BigQuiet
namespace Go.Proofs.YthfjmlcjkbgboaaGreatDoor
open Go.RowKit
abbrev EdgeK := Int × UInt8
def keyV (k : EdgeK) : Value := .agg #[.int .i64 k.1, .int .u8 k.2.toNat]
theorem run_eqInt (d : Nat) (x y : Int) (w : World) : (Op.equalIn (d + 1) 3 (.int .i64 x) (.int .i64 y)).run Tryz.prog w = .ok (x == y) w := by
  simp [Op.equalIn, run_underlying Tryz.underlying3]
theorem run_eqU8 (d : Nat) (x y : Int) (w : World) : (Op.equalIn (d + 1) 5 (.int .u8 x) (.int .u8 y)).run Tryz.prog w = .ok (x == y) w := by
  simp [Op.equalIn, run_underlying Tryz.underlying5]
theorem plain_int : Tryz.prog.plainKey 3 = true := by kernel_rfl
theorem plain_u8 : Tryz.prog.plainKey 5 = true := by kernel_rfl
theorem fields_step (d off : Nat) (t : TypeId) (f : Field) (fs : List Field) (xs ys : Array Value) (x y : Value) (r : Bool) (w : World) (hn : (f.name == "_") = false) (ht : f.type = t) (ho : f.offset = off)
    (hp : Tryz.prog.plainKey t = true) (hx : xs[off]? = some x) (hy : ys[off]? = some y) (he : (Op.equalIn d t x y).run Tryz.prog w = .ok r w) :
    (Op.eqFields d xs ys (f :: fs)).run Tryz.prog w = if r = true then (Op.eqFields d xs ys fs).run Tryz.prog w else .ok false w := by
  subst ht; subst ho
  have h1 : f.name ≠ "_" := fun e => by rw [e] at hn; exact absurd hn (by decide)
  simp only [Op.eqFields, if_pos h1, Sem.run_bind, run_part_plain w hp hx, run_part_plain w hp hy, Result.andThen_ok, he]
  cases r <;> simp
set_option maxRecDepth 100000 in
theorem run_edge_eq (a b : EdgeK) (w : World) : (Op.equal 300 (keyV a) (keyV b)).run Tryz.prog w = .ok (decide (a = b)) w := by
  have h := run_equalIn_struct (P := Tryz.prog) w 9999 300 #[.int .i64 a.1, .int .u8 a.2.toNat] #[.int .i64 b.1, .int .u8 b.2.toNat] (by kernel_rfl) (by kernel_rfl)
  unfold Op.equal keyV
  refine h.trans ?_
  have hf : (Tryz.prog.fieldsOf 300).toList.map (fun f => (f.name == "_", f.type, f.offset)) = [(false, 3, 0), (false, 5, 1)] := by kernel_rfl
  generalize (Tryz.prog.fieldsOf 300).toList = l at *
  match l, hf with
  | [], hf => cases hf
  | [_], hf => simp at hf
  | _ :: _ :: _ :: _, hf => simp at hf
  | [f0, f1], hf =>
    simp only [List.map_cons, List.map_nil, List.cons.injEq, Prod.mk.injEq, and_true] at hf
    obtain ⟨⟨n0, t0, o0⟩, n1, t1, o1⟩ := hf
    rw [fields_step 9999 0 3 f0 [f1] _ _ (.int .i64 a.1) (.int .i64 b.1) (a.1 == b.1) w n0 t0 o0 plain_int rfl rfl (run_eqInt 9998 _ _ w)]
    rw [fields_step 9999 1 5 f1 [] _ _ (.int .u8 a.2.toNat) (.int .u8 b.2.toNat) ((a.2.toNat : Int) == (b.2.toNat : Int)) w n1 t1 o1 plain_u8 rfl rfl (run_eqU8 9998 _ _ w)]
    obtain ⟨a1, a2⟩ := a
    obtain ⟨b1, b2⟩ := b
    by_cases e1 : a1 = b1
    · by_cases e2 : a2 = b2
      · subst e1; subst e2; simp [Op.eqFields]
      · have : ((a2.toNat : Int) == (b2.toNat : Int)) = false := beq_eq_false_iff_ne.2 fun e => e2 (UInt8.toNat_inj.1 (by omega))
        simp [e1, e2, this]
    · have : (a1 == b1) = false := beq_eq_false_iff_ne.2 e1
      simp [e1, this]
/-- The map at a block: these edges, to these numbers. -/
def MpAt (w : World) (b : Nat) (l : List (EdgeK × Nat)) : Prop := ∃ (es : Array MapEntry) (clock : Nat), w.heap[b]? = some (.map es clock) ∧ es.toList.map (fun e => (e.key, e.val)) = l.map fun p => (keyV p.1, Value.int .i64 (p.2 : Int))
def lookE : List (EdgeK × Nat) → EdgeK → Option Nat
  | [], _ => none
  | p :: l, k => if k = p.1 then some p.2 else lookE l k
def findE : List (EdgeK × Nat) → EdgeK → Nat → Option (Nat × Value)
  | [], _, _ => none
  | p :: l, k, i => if k = p.1 then some (i, .int .i64 (p.2 : Int)) else findE l k (i + 1)
theorem findE_look : ∀ (l : List (EdgeK × Nat)) (k : EdgeK) (i : Nat), (findE l k i).map (·.2) = (lookE l k).map fun v => Value.int .i64 (v : Int)
  | [], _, _ => rfl
  | p :: l, k, i => by
    rw [findE, lookE]
    by_cases h : k = p.1
    · rw [if_pos h, if_pos h]; rfl
    · rw [if_neg h, if_neg h]; exact findE_look l k (i + 1)
theorem run_ask : ∀ (es : List MapEntry) (l : List (EdgeK × Nat)) (k : EdgeK) (i : Nat) (w : World), es.map (fun e => (e.key, e.val)) = l.map (fun p => (keyV p.1, Value.int .i64 (p.2 : Int))) →
    (Instr.findAsking 300 (keyV k) es i).run Tryz.prog w = .ok (findE l k i) w
  | [], [], k, i, w, _ => by simp [Instr.findAsking, findE]
  | [], _ :: _, _, _, _, h => by cases h
  | _ :: _, [], _, _, _, h => by cases h
  | e :: es, p :: l, k, i, w, h => by
    simp only [List.map_cons, List.cons.injEq, Prod.mk.injEq] at h
    obtain ⟨⟨h1, h2⟩, h3⟩ := h
    simp only [Instr.findAsking, Sem.run_bind, h1, run_edge_eq, Result.andThen_ok, findE]
    by_cases hk : k = p.1
    · simp [hk, h2]
    · simp only [decide_eq_false hk, Bool.false_eq_true, if_false, if_neg hk]
      exact run_ask es l k (i + 1) w h3
theorem run_findE (l : List (EdgeK × Nat)) (es : Array MapEntry) (k : EdgeK) (w : World) (h : es.toList.map (fun e => (e.key, e.val)) = l.map (fun p => (keyV p.1, Value.int .i64 (p.2 : Int)))) :
    (Instr.findKey 300 (keyV k) es.toList).run Tryz.prog w = .ok (findE l k 0) w := by
  rw [run_findKey_eq w (by kernel_rfl)]
  exact run_ask es.toList l k 0 w h
theorem lits_int (d : Nat) (x : Int) (h : -9223372036854775808 ≤ x ∧ x < 9223372036854775808) : Tryz.prog.keyLits (d + 1) 3 [.int .i64 x] = some [.int .i64 x] := by
  have hw : (Lit.int .i64 x).wf = true := by
    have e1 : IntKind.i64.min = -9223372036854775808 := by decide
    have e2 : IntKind.i64.max = 9223372036854775807 := by decide
    simp only [Lit.wf, e1, e2, Bool.and_eq_true, decide_eq_true_eq]
    omega
  simp [Program.keyLits, Tryz.underlying3, hw]
theorem lits_u8 (d : Nat) (x : UInt8) : Tryz.prog.keyLits (d + 1) 5 [.int .u8 x.toNat] = some [.int .u8 x.toNat] := by
  have hw : (Lit.int .u8 (x.toNat : Int)).wf = true := by
    have := x.toNat_lt
    have e1 : IntKind.u8.min = 0 := by decide
    have e2 : IntKind.u8.max = 255 := by decide
    simp only [Lit.wf, e1, e2, Bool.and_eq_true, decide_eq_true_eq]
    omega
  simp [Program.keyLits, Tryz.underlying5, hw]
theorem keyV_ok (k : EdgeK) (h : -9223372036854775808 ≤ k.1 ∧ k.1 < 9223372036854775808) : ∃ l, keyOf Tryz.prog 300 (keyV k) = some l := by
  have hu : Tryz.prog.underlying 300 = some (.struct (Tryz.prog.fieldsOf 300)) := by kernel_rfl
  have hf : (Tryz.prog.fieldsOf 300).toList.map (fun f => (f.type, f.offset)) = [(3, 0), (5, 1)] := by kernel_rfl
  have hb : (Tryz.prog.fieldsOf 300).all (·.name != "_") = true := by kernel_rfl
  have hk : Tryz.prog.keyType 300 = true := by kernel_rfl
  have hc : Tryz.prog.cellsOf 300 = 2 := by kernel_rfl
  have ci : Tryz.prog.cellsOf 3 = 1 := by kernel_rfl
  have cu : Tryz.prog.cellsOf 5 = 1 := by kernel_rfl
  have hs : ∃ n, Tryz.prog.types.size = n + 1 := ⟨Tryz.prog.types.size - 1, by kernel_rfl⟩
  obtain ⟨n, hn⟩ := hs
  have hl : Tryz.prog.keyLits (Tryz.prog.types.size + 1) 300 [.int .i64 k.1, .int .u8 k.2.toNat] = some [.int .i64 k.1, .int .u8 k.2.toNat] := by
    rw [hn, Program.keyLits.eq_def]
    simp only [hu]
    rw [if_pos ⟨by rw [hc]; rfl, hb⟩]
    generalize (Tryz.prog.fieldsOf 300).toList = l at *
    match l, hf with
    | [], hf => cases hf
    | [_], hf => simp at hf
    | _ :: _ :: _ :: _, hf => simp at hf
    | [f0, f1], hf =>
      simp only [List.map_cons, List.map_nil, List.cons.injEq, Prod.mk.injEq, and_true] at hf
      obtain ⟨⟨t0, o0⟩, t1, o1⟩ := hf
      simp [t0, o0, t1, o1, ci, cu, lits_int n k.1 h, lits_u8 n k.2]
  unfold keyOf
  rw [hu]
  refine ⟨.string (keyBytes [.int .i64 k.1, .int .u8 k.2.toNat]), ?_⟩
  have hfm : (keyV k).formed Tryz.prog 300 = true := by simp [keyV, Value.formed, hu, hc]
  simp only [hk, hfm, Bool.and_self, if_true]
  show Option.map _ (Tryz.prog.keyLits (Tryz.prog.types.size + 1) 300 [.int .i64 k.1, .int .u8 k.2.toNat]) = _
  rw [hl]
  rfl
theorem edge_law : WideMaps.KeyLaw Tryz.prog 300 := deep_law (m := 2) (by omega) (by kernel_rfl) (by kernel_rfl) (by kernel_rfl)
theorem run_look_edge {b : Nat} {l : List (EdgeK × Nat)} {w : World} (M : MpAt w b l) (k : EdgeK) (hk : -9223372036854775808 ≤ k.1 ∧ k.1 < 9223372036854775808) :
    (Instr.lookup 267 (.map (some b)) (keyV k) false).run Tryz.prog w = .ok (.int .i64 (((lookE l k).getD 0 : Nat) : Int)) w := by
  obtain ⟨es, clock, hb, he⟩ := M
  obtain ⟨kl, hkl⟩ := keyV_ok k hk
  have hz : (zeroValue 3).run Tryz.prog w = .ok (.int .i64 0) w := by kernel_rfl
  have hf := findE_look l k 0
  have h1 := run_findE l es k w he
  have hu : Tryz.prog.underlying 267 = some (.map 300 3) := by kernel_rfl
  have hc := edge_law.check w es.isEmpty hkl
  generalize findE l k 0 = r at *
  generalize lookE l k = r' at *
  cases r <;> cases r' <;> simp at hf
  · simp [Instr.lookup, run_underlying hu, MapKept.run_getObj_map hb, hc, h1, hz, Result.andThen]
  · simp [Instr.lookup, run_underlying hu, MapKept.run_getObj_map hb, hc, h1, hf, Result.andThen]
theorem run_look_edge2 {b : Nat} {l : List (EdgeK × Nat)} {w : World} (M : MpAt w b l) (k : EdgeK) (hk : -9223372036854775808 ≤ k.1 ∧ k.1 < 9223372036854775808) :
    (Instr.lookup 267 (.map (some b)) (keyV k) true).run Tryz.prog w = .ok (.tuple #[.int .i64 (((lookE l k).getD 0 : Nat) : Int), .bool (lookE l k).isSome]) w := by
  obtain ⟨es, clock, hb, he⟩ := M
  obtain ⟨kl, hkl⟩ := keyV_ok k hk
  have hz : (zeroValue 3).run Tryz.prog w = .ok (.int .i64 0) w := by kernel_rfl
  have hf := findE_look l k 0
  have h1 := run_findE l es k w he
  have hu : Tryz.prog.underlying 267 = some (.map 300 3) := by kernel_rfl
  have hc := edge_law.check w es.isEmpty hkl
  generalize findE l k 0 = r at *
  generalize lookE l k = r' at *
  cases r <;> cases r' <;> simp at hf
  · simp [Instr.lookup, run_underlying hu, MapKept.run_getObj_map hb, hc, h1, hz, Result.andThen]
  · simp [Instr.lookup, run_underlying hu, MapKept.run_getObj_map hb, hc, h1, hf, Result.andThen]
/-- The same at every world whose map is this one. -/
theorem run_put_edges {b : Nat} {l : List (EdgeK × Nat)} {w : World} (M : MpAt w b l) (k : EdgeK) (v : Nat) (hk : -9223372036854775808 ≤ k.1 ∧ k.1 < 9223372036854775808) (hn : lookE l k = none) :
    ∃ o : Obj, ∀ W : World, W.heap[b]? = w.heap[b]? → (Instr.mapUpdate 267 (.map (some b)) (keyV k) (.int .i64 (v : Int))).run Tryz.prog W = .ok () (ChangeMaps.setBlock W b o) ∧ MpAt (ChangeMaps.setBlock W b o) b (l ++ [(k, v)]) := by
  obtain ⟨es, clock, hb, he⟩ := M
  obtain ⟨kl, hkl⟩ := keyV_ok k hk
  have hf := findE_look l k 0
  have hu : Tryz.prog.underlying 267 = some (.map 300 3) := by kernel_rfl
  rw [hn] at hf
  refine ⟨.map (es.push ⟨keyV k, .int .i64 (v : Int), clock⟩) (clock + 1), fun W hW => ?_⟩
  rw [hb] at hW
  have h1 := run_findE l es k W he
  have hc := edge_law.check W false hkl
  generalize findE l k 0 = r at *
  cases r <;> simp at hf
  refine ⟨by simp [Instr.mapUpdate, run_underlying hu, MapKept.run_getObj_map hW, hc, h1, MapKept.run_setObj_map _ hW, Result.andThen, ChangeMaps.setBlock], es.push ⟨keyV k, .int .i64 (v : Int), clock⟩, clock + 1, ?_, by simp [he]⟩
  simp [ChangeMaps.setBlock, (Array.getElem?_eq_some_iff.1 hW).1]
end Go.Proofs.YthfjmlcjkbgboaaGreatDoor
namespace Go.Proofs.YthfjmlcjkbgboaaGreatDoor
open Go.RowKit Go.Shelf Go.Lib
def edgeIn_lays_ren : Go.Shelf.Ren := ⟨fun | 6 => 256 | 7 => 230 | n => n, fun | 0 => 0 | 3 => 3 | 4 => 4 | 22 => 298 | 24 => 300 | n => n, fun n => n⟩
theorem edgeIn_lays : SlLaysQ.n7 Tryz.prog edgeIn_lays_ren := {
  mixed := by kernel_rfl
  f6 := ⟨Tryz.f256.name, by decide, Tryz.func256.trans (congrArg some (by kernel_rfl))⟩
  f7 := ⟨Tryz.f230.name, by decide, Tryz.func230.trans (congrArg some (by kernel_rfl))⟩
  t0 := Tryz.underlying0
  a0 := Tryz.isAgg0
  z0 := Tryz.sizeOf0
  v0 := Tryz.zeroValue0
  t3 := Tryz.underlying3
  a3 := Tryz.isAgg3
  z3 := Tryz.sizeOf3
  v3 := Tryz.zeroValue3
  t4 := Tryz.underlying4
  a4 := Tryz.isAgg4
  z4 := Tryz.sizeOf4
  v4 := Tryz.zeroValue4
  t22 := Tryz.underlying298
  a22 := Tryz.isAgg298
  z22 := Tryz.sizeOf298
  v22 := Tryz.zeroValue298 }
def encK (k : EdgeK) : List Value := [.int .i64 k.1, .int .u8 k.2.toNat]
set_option maxRecDepth 100000 in
theorem eqlK : EqlAt Tryz.prog 300 (fun k => .agg (encK k).toArray) (fun a b => decide (a = b)) := by
  refine ⟨fun x y w => ?_, GuardAt.agg _ (by kernel_rfl)⟩
  have hS : Tryz.prog.underlying 300 = some (.struct (Tryz.prog.fieldsOf 300)) := by kernel_rfl
  have hp : Tryz.prog.stoodInHeld 300 = false := by kernel_rfl
  have h := run_edge_eq x y w
  unfold Op.equal keyV at h
  simp only [encK]
  rw [run_eql_struct]
  exact (congrArg (fun r => Result.andThen r fun b w' => Result.ok (Value.bool b) w') h).trans rfl
theorem edge_in (b off n c : Nat) (zs : List EdgeK) (x : EdgeK) (w : World) (hz : n ≤ zs.length) (hbig : n ≤ 9223372036854775807)
    (hc : ∀ j, j < zs.length → ∀ i v, (encK zs[j]!)[i]? = some v → w.cell? ⟨b, off + j * 2 + i, none⟩ = some v) :
    Calls Tryz.prog 230 #[.slice (some ⟨b, off, none⟩) n c, keyV x] w fun e w' => e = .returned (.bool ((zs.take n).any fun y => decide (x = y))) ∧ Below w.heap.size w w' := by
  have h := AnyQ.slices_Contains edgeIn_lays 2 Tryz.isAgg300 Tryz.sizeOf300 encK (fun _ => rfl) (fun a b => decide (a = b)) eqlK b off n c zs x w hz hbig hc
  exact h
end Go.Proofs.YthfjmlcjkbgboaaGreatDoor
namespace Go.Proofs.YthfjmlcjkbgboaaGreatDoor
open Go.RowKit Go.Shelf Go.Lib Go.Sort
def edgeSort_lays_ren : Go.Shelf.Ren := ⟨fun | 6 => 231 | 14 => 257 | 15 => 235 | 20 => 286 | 21 => 287 | 22 => 288 | 23 => 289 | 24 => 290 | 25 => 291 | 26 => 292 | 27 => 293 | 28 => 267 | 29 => 221 | 46 => 314 | 47 => 295 | 48 => 296 | 49 => 315 | 50 => 316 | 57 => 320 | n => n, fun | 0 => 0 | 3 => 3 | 4 => 4 | 5 => 5 | 9 => 9 | 22 => 298 | 24 => 300 | 25 => 303 | 39 => 191 | 45 => 329 | 46 => 330 | 50 => 327 | 53 => 39 | 55 => 212 | 66 => 363 | 70 => 297 | 76 => 383 | 77 => 384 | n => n, fun n => n⟩
theorem edgeSort_lays : SlLaysF0.n6 Tryz.prog edgeSort_lays_ren := {
  mixed := by kernel_rfl
  f6 := ⟨Tryz.f231.name, by decide, Tryz.func231.trans (congrArg some (by kernel_rfl))⟩
  f14 := ⟨Tryz.f257.name, by decide, Tryz.func257.trans (congrArg some (by kernel_rfl))⟩
  f15 := Tryz.func235.trans (congrArg some (by kernel_rfl))
  f20 := ⟨Tryz.f286.name, by decide, Tryz.func286.trans (congrArg some (by kernel_rfl))⟩
  f21 := ⟨Tryz.f287.name, by decide, Tryz.func287.trans (congrArg some (by kernel_rfl))⟩
  f22 := ⟨Tryz.f288.name, by decide, Tryz.func288.trans (congrArg some (by kernel_rfl))⟩
  f23 := ⟨Tryz.f289.name, by decide, Tryz.func289.trans (congrArg some (by kernel_rfl))⟩
  f24 := ⟨Tryz.f290.name, by decide, Tryz.func290.trans (congrArg some (by kernel_rfl))⟩
  f25 := ⟨Tryz.f291.name, by decide, Tryz.func291.trans (congrArg some (by kernel_rfl))⟩
  f26 := ⟨Tryz.f292.name, by decide, Tryz.func292.trans (congrArg some (by kernel_rfl))⟩
  f27 := ⟨Tryz.f293.name, by decide, Tryz.func293.trans (congrArg some (by kernel_rfl))⟩
  f28 := Tryz.func267.trans (congrArg some (by kernel_rfl))
  f29 := Tryz.func221.trans (congrArg some (by kernel_rfl))
  f46 := ⟨Tryz.f314.name, by decide, Tryz.func314.trans (congrArg some (by kernel_rfl))⟩
  f47 := Tryz.func295.trans (congrArg some (by kernel_rfl))
  f48 := Tryz.func296.trans (congrArg some (by kernel_rfl))
  f49 := ⟨Tryz.f315.name, by decide, Tryz.func315.trans (congrArg some (by kernel_rfl))⟩
  f50 := ⟨Tryz.f316.name, by decide, Tryz.func316.trans (congrArg some (by kernel_rfl))⟩
  f57 := ⟨Tryz.f320.name, by decide, Tryz.func320.trans (congrArg some (by kernel_rfl))⟩
  t0 := Tryz.underlying0
  a0 := Tryz.isAgg0
  z0 := Tryz.sizeOf0
  v0 := Tryz.zeroValue0
  t3 := Tryz.underlying3
  a3 := Tryz.isAgg3
  z3 := Tryz.sizeOf3
  v3 := Tryz.zeroValue3
  t4 := Tryz.underlying4
  a4 := Tryz.isAgg4
  z4 := Tryz.sizeOf4
  v4 := Tryz.zeroValue4
  t5 := Tryz.underlying5
  a5 := Tryz.isAgg5
  z5 := Tryz.sizeOf5
  v5 := Tryz.zeroValue5
  t9 := Tryz.underlying9
  a9 := Tryz.isAgg9
  z9 := Tryz.sizeOf9
  v9 := Tryz.zeroValue9
  t22 := Tryz.underlying298
  a22 := Tryz.isAgg298
  z22 := Tryz.sizeOf298
  v22 := Tryz.zeroValue298
  t25 := Tryz.underlying303
  a25 := Tryz.isAgg303
  z25 := Tryz.sizeOf303
  v25 := Tryz.zeroValue303
  t39 := Tryz.underlying191
  a39 := Tryz.isAgg191
  z39 := Tryz.sizeOf191
  v39 := Tryz.zeroValue191
  t45 := Tryz.underlying329
  a45 := Tryz.isAgg329
  z45 := Tryz.sizeOf329
  v45 := Tryz.zeroValue329
  t46 := Tryz.underlying330
  a46 := Tryz.isAgg330
  z46 := Tryz.sizeOf330
  v46 := Tryz.zeroValue330
  t50 := Tryz.underlying327
  a50 := Tryz.isAgg327
  z50 := Tryz.sizeOf327
  v50 := Tryz.zeroValue327
  t53 := Tryz.underlying39
  a53 := Tryz.isAgg39
  z53 := Tryz.sizeOf39
  v53 := Tryz.zeroValue39
  t55 := Tryz.underlying212
  a55 := Tryz.isAgg212
  z55 := Tryz.sizeOf212
  v55 := Tryz.zeroValue212
  t66 := Tryz.underlying363
  a66 := Tryz.isAgg363
  z66 := Tryz.sizeOf363
  v66 := Tryz.zeroValue363
  t70 := Tryz.underlying297
  a70 := Tryz.isAgg297
  z70 := Tryz.sizeOf297
  v70 := Tryz.zeroValue297
  t76 := Tryz.underlying383
  a76 := Tryz.isAgg383
  z76 := Tryz.sizeOf383
  v76 := Tryz.zeroValue383
  t77 := Tryz.underlying384
  a77 := Tryz.isAgg384
  z77 := Tryz.sizeOf384
  v77 := Tryz.zeroValue384 }
/-- An edge whose node is small: the difference of two does not wrap. -/
abbrev EdgeS := Fin 65536 × UInt8
def encS (k : EdgeS) : List Value := [.int .i64 (k.1.val : Int), .int .u8 k.2.toNat]
def cmpS (x y : EdgeS) : Int := ((x.1.val : Int) - y.1.val) * 256 + x.2.toNat - y.2.toNat
theorem ltS (x y : EdgeS) : ltOf cmpS x y = decide (x.1.val < y.1.val ∨ x.1.val = y.1.val ∧ x.2.toNat < y.2.toNat) := by
  have h1 := x.2.toNat_lt
  have h2 := y.2.toNat_lt
  unfold ltOf cmpS
  apply decide_eq_decide.2
  omega
theorem swoS : SWO (ltOf cmpS) where
  irrefl x := by rw [ltS]; simp
  trans x y z h1 h2 := by rw [ltS] at *; simp only [decide_eq_true_eq] at *; omega
  ntrans x y z h1 h2 := by rw [ltS] at *; simp only [decide_eq_false_iff_not] at *; omega
set_option maxHeartbeats 1000000 in
theorem cmp_calls (x y : EdgeS) (W : World) : Calls Tryz.prog 232 #[.agg (encS x).toArray, .agg (encS y).toArray] W fun e w' => e = .returned (.int .i64 (cmpS x y)) ∧ ∃ q os', w' = grow (W.drewN q) os' := by
  obtain ⟨x1, x2⟩ := x
  obtain ⟨y1, y2⟩ := y
  unfold encS cmpS
  have h1 := x1.isLt
  have h2 := y1.isLt
  have h3 := x2.toNat_lt
  have h4 := y2.toNat_lt
  simp only
  generalize x1.val = a at *
  generalize y1.val = b at *
  generalize x2.toNat = c at *
  generalize y2.toNat = d at *
  have e1 : IntKind.i64.wrap ((a : Int) - b) = (a : Int) - b := by simp [IntKind.wrap, IntKind.bits, IntKind.signed]; omega
  have e2 : IntKind.i64.wrap (((a : Int) - b) * 256) = ((a : Int) - b) * 256 := by simp [IntKind.wrap, IntKind.bits, IntKind.signed]; omega
  have e3 : IntKind.i64.wrap (((a : Int) - b) * 256 + c) = ((a : Int) - b) * 256 + c := by simp [IntKind.wrap, IntKind.bits, IntKind.signed]; omega
  have e4 : IntKind.i64.wrap (((a : Int) - b) * 256 + c - d) = ((a : Int) - b) * 256 + c - d := by simp [IntKind.wrap, IntKind.bits, IntKind.signed]; omega
  have e5 : IntKind.i64.wrap (c : Int) = c := by simp [IntKind.wrap, IntKind.bits, IntKind.signed]; omega
  have e6 : IntKind.i64.wrap (d : Int) = d := by simp [IntKind.wrap, IntKind.bits, IntKind.signed]; omega
  go_enter Tryz.func232, Tryz.ntmps232
  go_wp2
  go_ret
  exact ⟨rfl, 0, _, by rw [alloc_eq_grow, alloc_eq_grow, grow_grow]; rfl⟩
end Go.Proofs.YthfjmlcjkbgboaaGreatDoor
namespace Go.Proofs.YthfjmlcjkbgboaaGreatDoor
open Go.RowKit Go.Shelf Go.Lib Go.Sort
theorem edge_idx_nil (v : EdgeK) (w : World) : Calls Tryz.prog 256 #[.slice none 0 0, keyV v] w fun e w' => e = .returned (.int .i64 (-1)) ∧ ∃ q os, w' = grow (w.drewN q) os := by
  unfold keyV
  go_enter Tryz.func256, Tryz.ntmps256
  go_wp2_with fail
  go_loop [8] (fun i => i = .int .i64 0) (fun _ => 0)
  case atStart => rfl
  case round =>
    subst hrel
    go_wp2_with fail
    go_ret
    exact ⟨rfl, 0, _, by rw [alloc_eq_grow]; rfl⟩
theorem edge_in_nil (v : EdgeK) (w : World) : Calls Tryz.prog 230 #[.slice none 0 0, keyV v] w fun e w' => e = .returned (.bool false) ∧ Below w.heap.size w w' := by
  have hcon := fun W => edge_idx_nil v W
  unfold keyV at hcon ⊢
  go_enter Tryz.func230, Tryz.ntmps230
  go_wp2_with (go_at_call 256; refine (hcon _).mono ?_; rintro e w' ⟨rfl, q, os, rfl⟩)
  go_ret
  refine ⟨rfl, ?_⟩
  rw [alloc_eq_grow]
  exact Below.trans (below_grow w.heap.size w (Nat.le_refl _) 0 #[.cells #[.int .i64 v.1, .int .u8 v.2.toNat] 300]) (below_grow _ _ (by simp [grow]) q os)
end Go.Proofs.YthfjmlcjkbgboaaGreatDoor
namespace Go.Proofs.YthfjmlcjkbgboaaGreatDoor
open Go.RowKit
/-- The maker at a block: its nodes' failures, its map. -/
structure MkF (w : World) (gm g bm cap : Nat) (ns : List NodeP) (l : List (EdgeK × Nat)) : Prop where
  nodes : w.cell? ⟨gm, 0, none⟩ = some (.slice (some ⟨g, 0, none⟩) ns.length cap)
  next : w.cell? ⟨gm, 1, none⟩ = some (.map (some bm))
  fail : ∀ j n, ns[j]? = some n → w.cell? ⟨g, j * 4 + 2, none⟩ = some (.int .i64 (n.fail : Int))
  map : MpAt w bm l
  lt : gm < w.heap.size ∧ g < w.heap.size
theorem fail_root_calls (gm : Nat) (b : UInt8) (w : World) : Calls Tryz.prog 233 #[.pointer (some ⟨gm, 0, none⟩), .agg #[.int .i64 0, .int .u8 b.toNat]] w fun e w' => e = .returned (.int .i64 0) ∧ Below w.heap.size w w' := by
  go_enter Tryz.func233, Tryz.ntmps233
  go_wp2_with fail
  go_ret
  exact ⟨rfl, by rw [Go.Sort.alloc_eq_grow]; exact Go.Lib.below_grow w.heap.size w (Nat.le_refl _) 0 _⟩
/-- The map's edges are the nodes' own. -/
def NextOk (ns : List NodeP) (l : List (EdgeK × Nat)) : Prop := ∀ (a : Nat) (b : UInt8) (j : Nat), lookE l ((a : Int), b) = some j ↔ 0 < j ∧ ∃ n, ns[j]? = some n ∧ n.up = a ∧ n.b = b
/-- What maker.fail answers. -/
def FailOut (ss : List (List UInt8)) (u : List UInt8) (r : Nat) : Prop := ∃ v, ss[r]? = some v ∧ IsLong ss u v
theorem fail_calls (ns : List NodeP) (ss : List (List UInt8)) (hi : Inv ns ss) (l : List (EdgeK × Nat)) (gm g bm cap up : Nat) (hl : ∀ (a : Nat) (b : UInt8) (j : Nat), a < up → (lookE l ((a : Int), b) = some j ↔ 0 < j ∧ ∃ n, ns[j]? = some n ∧ n.up = a ∧ n.b = b)) (b : UInt8) (n0 : NodeP) (f : List UInt8) (hup : ns[up]? = some n0) (_ : up ≠ 0) (hf : FailAt ss f b n0.fail) (hfl : n0.fail < up) (hb : ns.length < 9223372036854775808)
    (w : World) (M : MkF w gm g bm cap ns l) :
    Calls Tryz.prog 233 #[.pointer (some ⟨gm, 0, none⟩), .agg #[.int .i64 (up : Int), .int .u8 b.toNat]] w fun e w' => (∃ r : Nat, e = .returned (.int .i64 (r : Int)) ∧ FailOut ss (f ++ [b]) r) ∧ Below w.heap.size w w' := by
  have h1 := M.nodes
  have h2 := M.next
  have h3 := M.fail up n0 hup
  have l1 : gm < w.heap.size := M.lt.1
  have l2 : g < w.heap.size := M.lt.2
  have l3 : gm ≠ w.heap.size := by omega
  have l4 : g ≠ w.heap.size := by omega
  have hlt : up < ns.length := (List.getElem?_eq_some_iff.1 hup).1
  have HF := Lib.hid hf
  have hlen : ∀ a x, ns[a]? = some x → a < ns.length := fun a x h => (List.getElem?_eq_some_iff.1 h).1
  have hget : ∀ a, a < ns.length → ∃ x, ns[a]? = some x := fun a h => ⟨_, List.getElem?_eq_getElem h⟩
  have HL : ∀ (a : Nat) (o : Obj) (q : Nat), a < ns.length → (Instr.lookup 267 (.map (some bm)) (.agg #[.int .i64 (a : Int), .int .u8 b.toNat]) true).run Tryz.prog ((w.alloc o).drewN q) = .ok (.tuple #[.int .i64 (((lookE l ((a : Int), b)).getD 0 : Nat) : Int), .bool (lookE l ((a : Int), b)).isSome]) ((w.alloc o).drewN q) := fun a o q ha => by
    refine run_look_edge2 (k := ((a : Int), b)) ?_ ⟨by omega, by show (a : Int) < _; omega⟩
    obtain ⟨es, ck, h5, h6⟩ := M.map
    refine ⟨es, ck, ?_, h6⟩
    have : bm < w.heap.size := (Array.getElem?_eq_some_iff.1 h5).1
    show (w.heap.push o)[bm]? = _
    rw [Array.getElem?_push_lt this]
    exact (Array.getElem?_eq_getElem this).symm.trans h5
  have HR := Lib.hid M.fail
  generalize ns.length = n at *
  clear hf hup
  go_enter Tryz.func233, Tryz.ntmps233
  go_wp2_with (fail)
  go_quiet (fail)
  go_wp2_with fail
  go_loopw [5] (fun i wr => ∃ a : Nat, a < up ∧ i = .int .i64 (a : Int) ∧ Hid (FailAt ss f b a) ∧ ∃ q, wr = (w.alloc (.cells #[.int .i64 (up : Int), .int .u8 b.toNat] 300)).drewN q) (fun i _ => (intOf i).toNat)
  case atStart => exact ⟨n0.fail, hfl, rfl, HF, _, rfl⟩
  case round =>
    obtain ⟨a, ha, rfl, hfa, q, rfl⟩ := hrel
    have hk := fun q => HL a (.cells #[.int .i64 (up : Int), .int .u8 b.toNat] 300) q (by omega)
    have HX := Lib.hid (fun j => hl a b j ha)
    clear HL
    generalize lookE l ((a : Int), b) = r at hk HX
    cases r with
    | some j =>
      simp only [Option.getD_some, Option.isSome_some] at hk
      have HO : Hid (FailOut ss (f ++ [b]) j) := Lib.hid (hfa.out.found hi ((HX.out j).1 rfl))
      clear hfa HX HF
      go_wp2_with fail
      go_quiet (fail)
      go_wp2_with fail
      go_ret
      exact ⟨⟨j, rfl, HO.out⟩, by repeat (first | exact Below.alloc (Below.refl _ _) (Nat.le_refl _) _ | apply below_drewN_q)⟩
    | none =>
      have hno : ∀ j, ¬ (0 < j ∧ ∃ x, ns[j]? = some x ∧ x.up = a ∧ x.b = b) := fun j h => by cases (HX.out j).2 h
      simp only [Option.getD_none, Option.isSome_none] at hk
      by_cases ha0 : a = 0
      · subst ha0
        have HO : Hid (FailOut ss (f ++ [b]) 0) := Lib.hid ⟨[], hi.trie.root, hfa.out.none hi hno⟩
        have hk2 : ∀ q, (Instr.lookup 267 (.map (some bm)) (.agg #[.int .i64 0, .int .u8 b.toNat]) true).run Tryz.prog ((w.alloc (.cells #[.int .i64 (up : Int), .int .u8 b.toNat] 300)).drewN q) = .ok (.tuple #[.int .i64 0, .bool false]) ((w.alloc (.cells #[.int .i64 (up : Int), .int .u8 b.toNat] 300)).drewN q) := hk
        clear hfa HX HF hno hk
        go_wp2_with fail
        go_quiet (fail)
        go_wp2_with fail
        go_ret
        exact ⟨⟨0, rfl, HO.out⟩, by repeat (first | exact Below.alloc (Below.refl _ _) (Nat.le_refl _) _ | apply below_drewN_q)⟩
      · obtain ⟨x, hx⟩ := hget a (by omega)
        have hcell := HR.out a x hx
        obtain ⟨hq1, hq2⟩ := hfa.out.next hi (by omega) hx hno
        have HN := Lib.hid hq1
        clear hfa HX HF hno hq1
        go_wp2_with fail
        go_quiet (fail)
        go_wp2_with fail
        exact ⟨⟨x.fail, by omega, rfl, HN, _, rfl⟩, by simp [intOf] <;> omega⟩
end Go.Proofs.YthfjmlcjkbgboaaGreatDoor
