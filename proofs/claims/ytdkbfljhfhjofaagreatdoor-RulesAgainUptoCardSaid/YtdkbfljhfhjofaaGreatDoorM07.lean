/- Part 7 of the proof: lemmas and walks that the last texts use. -/
import Derived.Test.YtdkbfljhfhjofaaGreatDoorM02
import Derived.Test.YtdkbfljhfhjofaaGreatDoorM03
import Derived.Test.YtdkbfljhfhjofaaGreatDoorM06
import Derived.Deep.Strs
namespace Go.Proofs.YtdkbfljhfhjofaaGreatDoor
open Go.RowKit Go.ChangeShapes Go.WideShapes Go.Deep
def cellsRuV (v : RuVar) : List Value := [.int .i64 v.k, .int .i64 v.m, .string v.n]
def cellsRuA (a : RuAct) : List Value := [.int .i64 a.k, .int .i64 a.n]
/-- A rule with where its lists lie. -/
structure RuM where
  r : RuOne
  vA : Option Addr
  vc : Nat
  pA : Option Addr
  pc : Nat
  aA : Option Addr
  ac : Nat
def cellsRu (x : RuM) : List Value := [.int .i64 x.r.id, .int .i64 x.r.phase, .slice x.vA x.r.vars.length x.vc, .slice x.pA x.r.pipe.length x.pc, .bool x.r.no, .int .i64 x.r.op, .string x.r.arg, .slice x.aA x.r.acts.length x.ac, .bool x.r.chain]
theorem cellsRu_len (x : RuM) : (cellsRu x).length = 9 := rfl
structure RuIn (w : World) (B : Nat) (x : RuM) : Prop where
  vars : Sl w B 3 x.vA x.r.vars.length (x.r.vars.flatMap cellsRuV)
  pipe : Sl w B 1 x.pA x.r.pipe.length (x.r.pipe.map (Value.int .i64))
  acts : Sl w B 2 x.aA x.r.acts.length (x.r.acts.flatMap cellsRuA)
theorem RuIn.keep {w w' : World} {B B' : Nat} {x : RuM} (h : RuIn w B x) (hb : Below B w w') (hB : B ≤ B') : RuIn w' B' x := ⟨(h.vars.below hb).more hB, (h.pipe.below hb).more hB, (h.acts.below hb).more hB⟩
/-- Nothing in a rule is great. -/
structure RuSmall (x : RuOne) : Prop where
  vars : x.vars.length ≤ 1048576
  names : ∀ v ∈ x.vars, v.n.size ≤ 1048576
  pipe : x.pipe.length ≤ 1048576
  arg : x.arg.size ≤ 1048576
  acts : x.acts.length ≤ 1048576
def varRD {H : Type} (f : RuVar) : DataW H := .agg [.lit (.int .i64 f.k), .lit (.int .i64 f.m), .lit (.string f.n.data.toList)]
def actRD {H : Type} (f : RuAct) : DataW H := .agg [.lit (.int .i64 f.k), .lit (.int .i64 f.n)]
def intRD {H : Type} (z : Int) : DataW H := .lit (.int .i64 z)
section
variable {H : Type} {enc : TypeId × Value → H} {P : Program} {w : World} {base : Nat} {spare : Nat → Bool} {held : Bool}
theorem trod_struct9 {t : TypeId} {f0 f1 f2 f3 f4 f5 f6 f7 f8 : Field} {fuel : Nat} {cs : List Value} {x : DataW H × List MemPlace} (ht : P.underlying t = some (.struct #[f0, f1, f2, f3, f4, f5, f6, f7, f8])) (h : DataW.trod enc P w base spare held fuel t cs = some x) :
    ∃ (y : Fin 9 → DataW H × List MemPlace) (n : Nat), x.1 = .agg [(y 0).1, (y 1).1, (y 2).1, (y 3).1, (y 4).1, (y 5).1, (y 6).1, (y 7).1, (y 8).1] ∧ cs.length = P.cellsOf t ∧
      ∀ (i : Fin 9) (f : Field), [f0, f1, f2, f3, f4, f5, f6, f7, f8][i.val]? = some f → DataW.trod enc P w base spare held n f.type ((cs.drop f.offset).take (P.cellsOf f.type)) = some (y i) := by
  obtain ⟨xs, n, _, rfl, hl, hlen, hf⟩ := DataW.trod_struct ht h
  match xs, hlen with
  | [y0, y1, y2, y3, y4, y5, y6, y7, y8], _ =>
    refine ⟨fun i => [y0, y1, y2, y3, y4, y5, y6, y7, y8][i.val]'(i.isLt), n, rfl, hl, fun i f hi => ?_⟩
    have := hf i.val f (by simpa using hi)
    rw [List.getElem?_eq_getElem (show i.val < [y0, y1, y2, y3, y4, y5, y6, y7, y8].length from i.isLt)] at this
    simpa using this
end
theorem cells_nine {α : Type} {l : List α} (h : l.length = 9) : ∃ a b c d e f g i j, l = [a, b, c, d, e, f, g, i, j] := by
  match l, h with
  | [a, b, c, d, e, f, g, i, j], _ => exact ⟨a, b, c, d, e, f, g, i, j, rfl⟩
theorem cells_three {α : Type} {l : List α} (h : l.length = 3) : ∃ a b c, l = [a, b, c] := by
  match l, h with
  | [a, b, c], _ => exact ⟨a, b, c, rfl⟩
theorem cells_two {α : Type} {l : List α} (h : l.length = 2) : ∃ a b, l = [a, b] := by
  match l, h with
  | [a, b], _ => exact ⟨a, b, rfl⟩
theorem ruOf_int : Tryz.prog.cellsOf 3 = 1 := by kernel_rfl
theorem ruOf_bool : Tryz.prog.cellsOf 4 = 1 := by kernel_rfl
theorem ruOf_str : Tryz.prog.cellsOf 9 = 1 := by kernel_rfl
theorem ruOf_var : Tryz.prog.cellsOf 49 = 3 := by kernel_rfl
theorem ruOf_act : Tryz.prog.cellsOf 70 = 2 := by kernel_rfl
theorem ruOf_rule : Tryz.prog.cellsOf 39 = 9 := by kernel_rfl
theorem ruOf_rules : Tryz.prog.cellsOf 24 = 3 := by kernel_rfl
theorem ruOf_vars : Tryz.prog.cellsOf 35 = 1 := by kernel_rfl
theorem ruOf_acts : Tryz.prog.cellsOf 37 = 1 := by kernel_rfl
theorem ruOf_ints : Tryz.prog.cellsOf 36 = 1 := by kernel_rfl
theorem bulk_part {H : Type} {l sp : List (DataW H)} {d : DataW H} (h : d ∈ l) (hb : Rows.uptoBulk (.slice l sp) ≤ 1048576) : Rows.uptoBulk d ≤ 1048576 := by
  have := part_le h
  rw [Rows.uptoBulk] at hb
  omega
theorem bulk_agg {H : Type} {l : List (DataW H)} {d : DataW H} (h : d ∈ l) (hb : Rows.uptoBulk (.agg l) ≤ 1048576) : Rows.uptoBulk d ≤ 1048576 := by
  have := part_le h
  rw [Rows.uptoBulk] at hb
  omega
theorem bulk_str {H : Type} {s : ByteArray} (hb : Rows.uptoBulk (.lit (.string s.data.toList) : DataW H) ≤ 1048576) : s.size ≤ 1048576 := by
  simp only [Rows.uptoBulk, Array.length_toList] at hb
  have : s.data.size = s.size := rfl
  omega
section
variable {H : Type} {enc : TypeId × Value → H} {w : World} {base : Nat} {spare : Nat → Bool} {held : Bool} {fuel : Nat} {cs : List Value} {x : DataW H × List MemPlace}
theorem open_ruvars (h : DataW.trod enc Tryz.prog w base spare held fuel 35 cs = some x) :
    ∃ (A : Option Addr) (c : Nat) (l : List RuVar), cs = [.slice A l.length c] ∧ Sl w w.heap.size 3 A l.length (l.flatMap cellsRuV) ∧ (Rows.uptoBulk x.1 ≤ 1048576 → l.length ≤ 1048576 ∧ ∀ v ∈ l, v.n.size ≤ 1048576) := by
  obtain ⟨A, len, c, l, h1, h2, _, _, _, h6, h7⟩ := open_list 3 cellsRuV varRD (fun _ => True) Tryz.underlying35 ruOf_var (fun _ => rfl)
    (fun n cs' y hy => by
      obtain ⟨y0, y1, y2, n', hx, hl, g0, g1, g2⟩ := trod_struct3 Tryz.underlying49 hy
      rw [ruOf_var] at hl
      obtain ⟨c0, c1, c2, rfl⟩ := cells_three hl
      rw [ruOf_int] at g0 g1
      rw [ruOf_str] at g2
      obtain ⟨k0, e0, x0, _⟩ := DataW.trod_int Tryz.underlying3 g0
      obtain ⟨k1, e1, x1, _⟩ := DataW.trod_int Tryz.underlying3 g1
      obtain ⟨s, e2, x2, _⟩ := DataW.trod_string Tryz.underlying9 g2
      injection e0 with e0 _
      injection e1 with e1 _
      injection e2 with e2 _
      subst e0; subst e1; subst e2; subst hx; subst x0; subst x1; subst x2
      exact ⟨⟨k0, k1, s⟩, rfl, rfl, trivial⟩) h
  subst h2
  refine ⟨A, c, l, h1, h6, fun hb => ?_⟩
  rcases h7 with ⟨_, rfl⟩ | ⟨sp, h7⟩
  · exact ⟨Nat.zero_le _, fun v hv => by cases hv⟩
  · rw [h7] at hb
    have := slice_bulk (l := (l.map varRD : List (DataW H))) (sp := sp)
    rw [List.length_map] at this
    exact ⟨by omega, fun v hv => bulk_str (bulk_agg (l := [.lit (.int .i64 v.k), .lit (.int .i64 v.m), .lit (.string v.n.data.toList)]) (by simp) (bulk_part (List.mem_map.2 ⟨v, hv, rfl⟩) hb))⟩
theorem open_ruacts (h : DataW.trod enc Tryz.prog w base spare held fuel 37 cs = some x) :
    ∃ (A : Option Addr) (c : Nat) (l : List RuAct), cs = [.slice A l.length c] ∧ Sl w w.heap.size 2 A l.length (l.flatMap cellsRuA) ∧ (Rows.uptoBulk x.1 ≤ 1048576 → l.length ≤ 1048576) := by
  obtain ⟨A, len, c, l, h1, h2, _, _, _, h6, h7⟩ := open_list 2 cellsRuA actRD (fun _ => True) Tryz.underlying37 ruOf_act (fun _ => rfl)
    (fun n cs' y hy => by
      obtain ⟨y0, y1, n', hx, hl, g0, g1⟩ := trod_struct2 Tryz.underlying70 hy
      rw [ruOf_act] at hl
      obtain ⟨c0, c1, rfl⟩ := cells_two hl
      rw [ruOf_int] at g0 g1
      obtain ⟨k0, e0, x0, _⟩ := DataW.trod_int Tryz.underlying3 g0
      obtain ⟨k1, e1, x1, _⟩ := DataW.trod_int Tryz.underlying3 g1
      injection e0 with e0 _
      injection e1 with e1 _
      subst e0; subst e1; subst hx; subst x0; subst x1
      exact ⟨⟨k0, k1⟩, rfl, rfl, trivial⟩) h
  subst h2
  refine ⟨A, c, l, h1, h6, fun hb => ?_⟩
  rcases h7 with ⟨_, rfl⟩ | ⟨sp, h7⟩
  · exact Nat.zero_le _
  · rw [h7] at hb
    have := slice_bulk (l := (l.map actRD : List (DataW H))) (sp := sp)
    rw [List.length_map] at this
    omega
theorem open_ruints (h : DataW.trod enc Tryz.prog w base spare held fuel 36 cs = some x) :
    ∃ (A : Option Addr) (c : Nat) (l : List Int), cs = [.slice A l.length c] ∧ Sl w w.heap.size 1 A l.length (l.map (Value.int .i64)) ∧ (Rows.uptoBulk x.1 ≤ 1048576 → l.length ≤ 1048576) := by
  obtain ⟨A, len, c, l, h1, h2, _, _, _, h6, h7⟩ := open_list 1 (fun z : Int => [Value.int .i64 z]) intRD (fun _ => True) Tryz.underlying36 ruOf_int (fun _ => rfl)
    (fun n cs' y hy => by
      obtain ⟨k, e0, hy1, _⟩ := DataW.trod_int Tryz.underlying3 hy
      exact ⟨k, e0, by rw [hy1]; rfl, trivial⟩) h
  subst h2
  refine ⟨A, c, l, h1, ?_, fun hb => ?_⟩
  · have : ∀ l : List Int, l.flatMap (fun z : Int => [Value.int .i64 z]) = l.map (Value.int .i64) := fun l => by
      induction l with
      | nil => rfl
      | cons a r ih => rw [List.flatMap_cons, ih]; rfl
    rw [this] at h6
    exact h6
  · rcases h7 with ⟨_, rfl⟩ | ⟨sp, h7⟩
    · exact Nat.zero_le _
    · rw [h7] at hb
      have := slice_bulk (l := (l.map intRD : List (DataW H))) (sp := sp)
      rw [List.length_map] at this
      omega
end
structure RuD (H : Type) where
  m : RuM
  dat : DataW H
def RuDOk {H : Type} (w : World) (a : RuD H) : Prop := RuIn w w.heap.size a.m ∧ (Rows.uptoBulk a.dat ≤ 1048576 → RuSmall a.m.r)
section
variable {H : Type} {enc : TypeId × Value → H} {w : World} {base : Nat} {spare : Nat → Bool} {held : Bool} {fuel : Nat} {cs : List Value} {x : DataW H × List MemPlace}
set_option maxRecDepth 100000 in
theorem open_rurule (h : DataW.trod enc Tryz.prog w base spare held fuel 39 cs = some x) : ∃ a : RuD H, cs = cellsRu a.m ∧ x.1 = a.dat ∧ RuDOk w a := by
  obtain ⟨y, n, hx, hl, hf⟩ := trod_struct9 Tryz.underlying39 h
  rw [ruOf_rule] at hl
  obtain ⟨c0, c1, c2, c3, c4, c5, c6, c7, c8, rfl⟩ := cells_nine hl
  have g0 := hf 0 _ rfl
  have g1 := hf 1 _ rfl
  have g2 := hf 2 _ rfl
  have g3 := hf 3 _ rfl
  have g4 := hf 4 _ rfl
  have g5 := hf 5 _ rfl
  have g6 := hf 6 _ rfl
  have g7 := hf 7 _ rfl
  have g8 := hf 8 _ rfl
  dsimp only at g0 g1 g2 g3 g4 g5 g6 g7 g8
  rw [ruOf_int] at g0 g1 g5
  rw [ruOf_vars] at g2
  rw [ruOf_ints] at g3
  rw [ruOf_bool] at g4 g8
  rw [ruOf_str] at g6
  rw [ruOf_acts] at g7
  obtain ⟨k0, e0, _, _⟩ := DataW.trod_int Tryz.underlying3 g0
  obtain ⟨k1, e1, _, _⟩ := DataW.trod_int Tryz.underlying3 g1
  obtain ⟨A2, a2, l2, e2, s2, z2⟩ := open_ruvars g2
  obtain ⟨A3, a3, l3, e3, s3, z3⟩ := open_ruints g3
  obtain ⟨k4, e4, _⟩ := DataW.trod_bool Tryz.underlying4 g4
  obtain ⟨k5, e5, _, _⟩ := DataW.trod_int Tryz.underlying3 g5
  obtain ⟨k6, e6, x6, _⟩ := DataW.trod_string Tryz.underlying9 g6
  obtain ⟨A7, a7, l7, e7, s7, z7⟩ := open_ruacts g7
  obtain ⟨k8, e8, _⟩ := DataW.trod_bool Tryz.underlying4 g8
  have q0 : c0 = .int .i64 k0 := by injection e0
  have q1 : c1 = .int .i64 k1 := by injection e1
  have q2 : c2 = .slice A2 l2.length a2 := by injection e2
  have q3 : c3 = .slice A3 l3.length a3 := by injection e3
  have q4 : c4 = .bool k4 := by injection e4
  have q5 : c5 = .int .i64 k5 := by injection e5
  have q6 : c6 = .string k6 := by injection e6
  have q7 : c7 = .slice A7 l7.length a7 := by injection e7
  have q8 : c8 = .bool k8 := by injection e8
  subst q0; subst q1; subst q2; subst q3; subst q4; subst q5; subst q6; subst q7; subst q8
  refine ⟨⟨⟨⟨k0, k1, l2, l3, k4, k5, k6, l7, k8⟩, A2, a2, A3, a3, A7, a7⟩, x.1⟩, rfl, rfl, ⟨s2, s3, s7⟩, fun hb => ?_⟩
  dsimp only at hb
  rw [hx] at hb
  have b2 := z2 (bulk_agg (d := (y 2).1) (by simp) hb)
  have b3 := z3 (bulk_agg (d := (y 3).1) (by simp) hb)
  have b6 := bulk_agg (d := (y 6).1) (by simp) hb
  have b7 := z7 (bulk_agg (d := (y 7).1) (by simp) hb)
  rw [x6] at b6
  exact ⟨b2.1, b2.2, b3, bulk_str b6, b7⟩
end
/-- What an argument that is a set of rules tells. -/
structure RuArg where
  most : Int
  status : Int
  A : Option Addr
  c : Nat
  l : List RuM
def RuArg.set (a : RuArg) : RuSet := ⟨a.most, a.status, a.l.map RuM.r⟩
def RuArg.value (a : RuArg) : Value := .agg #[.int .i64 a.most, .int .i64 a.status, .slice a.A a.l.length a.c]
/-- Such rules lie in memory. -/
structure RuLies (W : World) (B : Nat) (a : RuArg) : Prop where
  sl : Sl W B 9 a.A a.l.length (a.l.flatMap cellsRu)
  all : ∀ x ∈ a.l, RuIn W B x
  cap : a.l.length ≤ a.c
theorem RuLies.keep {w w' : World} {B B' : Nat} {a : RuArg} (h : RuLies w B a) (hb : Below B w w') (hB : B ≤ B') : RuLies w' B' a := ⟨(h.sl.below hb).more hB, fun x hx => (h.all x hx).keep hb hB, h.cap⟩
structure RulesArg (W : World) (v : Value) (a : RuArg) : Prop where
  val : v = a.value
  lies : RuLies W W.heap.size a
structure RuBulk (a : RuArg) : Prop where
  len : a.l.length ≤ 1048576
  all : ∀ x ∈ a.l, RuSmall x.r
def RulesDat {H : Type} (a : RuArg) (d : DataW H) : Prop := Rows.uptoBulk d ≤ 1048576 → RuBulk a
theorem rules_bulk {H : Type} {a : RuArg} {d : DataW H} (h : RulesDat a d) (hb : Rows.uptoBulk d ≤ 1048576) : RuBulk a := h hb
set_option maxRecDepth 100000 in
theorem open_rules {H : Type} {enc : TypeId × Value → H} {w : World} {base : Nat} {spare : Nat → Bool} {held : Bool} {v : Value} {d : DataW H} {p : List MemPlace} {r : Reach} {b0 : Nat}
    (hv : Value.okWide Tryz.prog w r b0 24 v) (h0 : DataW.Trod enc Tryz.prog w base spare held 24 v d p) : ∃ a, RulesArg w v a ∧ RulesDat a d := by
  obtain ⟨v0, v1, v2, y0, y1, y2, n, rfl, rfl, rfl, g0, g1, g2⟩ := Joins.open_agg3 Tryz.underlying24 (by kernel_rfl) ruOf_rules hv h0
  obtain ⟨k0, e0, _, _⟩ := DataW.trod_int Tryz.underlying3 g0
  obtain ⟨k1, e1, _, _⟩ := DataW.trod_int Tryz.underlying3 g1
  obtain ⟨A, len, c, l, h1, h2, hcap, _, h5, h6, h7⟩ := open_list 9 (fun a : RuD H => cellsRu a.m) RuD.dat (RuDOk w) Tryz.underlying22 ruOf_rule (fun _ => rfl) (fun n cs' y hy => open_rurule hy) g2
  have q0 : v0 = .int .i64 k0 := by injection e0
  have q1 : v1 = .int .i64 k1 := by injection e1
  subst h2
  have q2 : v2 = .slice A l.length c := by injection h1
  subst q0; subst q1; subst q2
  have hflat : l.flatMap (fun a => cellsRu a.m) = (l.map RuD.m).flatMap cellsRu := by rw [List.flatMap_map]
  refine ⟨⟨k0, k1, A, c, l.map RuD.m⟩, ⟨by unfold RuArg.value; rw [List.length_map], ⟨?_, ?_, by show (l.map RuD.m).length ≤ c; rw [List.length_map]; exact hcap⟩⟩, fun hb => ⟨?_, ?_⟩⟩
  · show Sl w w.heap.size 9 A (l.map RuD.m).length ((l.map RuD.m).flatMap cellsRu)
    rw [List.length_map, ← hflat]; exact h6
  · intro x hx
    obtain ⟨y, hy, rfl⟩ := List.mem_map.1 hx
    exact (h5 y hy).1
  · have hb2 := bulk_agg (d := y2.1) (by simp) hb
    show (l.map RuD.m).length ≤ 1048576
    rw [List.length_map]
    rcases h7 with ⟨_, rfl⟩ | ⟨sp, h7⟩
    · exact Nat.zero_le _
    · rw [h7] at hb2
      have := slice_bulk (l := (l.map RuD.dat)) (sp := sp)
      rw [List.length_map] at this
      omega
  · intro x hx
    obtain ⟨y, hy, rfl⟩ := List.mem_map.1 hx
    have hb2 := bulk_agg (d := y2.1) (by simp) hb
    rcases h7 with ⟨_, rfl⟩ | ⟨sp, h7⟩
    · cases hy
    · rw [h7] at hb2
      exact (h5 y hy).2 (bulk_part (List.mem_map.2 ⟨y, hy, rfl⟩) hb2)
end Go.Proofs.YtdkbfljhfhjofaaGreatDoor
namespace Go.Proofs.YtdkbfljhfhjofaaGreatDoor
open Go.RowKit
def hitI (p : Nat → Bool) (n : Nat) : Int := match (List.range n).find? p with
  | some i => (i : Int)
  | none => -1
def anyN (p : Nat → Bool) (n : Nat) : Bool := (List.range n).any p
theorem hit_none (p : Nat → Bool) (n : Nat) (h : ∀ i, i < n → p i = false) : hitI p n = -1 := by
  unfold hitI
  rw [List.find?_eq_none.2 (fun x hx => by rw [h x (List.mem_range.1 hx)]; decide)]
theorem hit_at (p : Nat → Bool) (n j : Nat) (hj : j < n) (h1 : p j = true) (h : ∀ i, i < j → p i = false) : hitI p n = j := by
  unfold hitI
  have : (List.range n).find? p = some j := by
    rw [List.find?_eq_some_iff_getElem]
    refine ⟨h1, j, by simpa using hj, by simp, fun i hi => by simpa using h i hi⟩
  rw [this]
theorem any_false (p : Nat → Bool) (n : Nat) : anyN p n = false ↔ ∀ i, i < n → p i = false := by
  unfold anyN; simp
theorem any_true (p : Nat → Bool) (n : Nat) : anyN p n = true ↔ ∃ i, i < n ∧ p i = true := by
  unfold anyN; simp
theorem hit_any (p : Nat → Bool) (n : Nat) : decide (0 ≤ hitI p n) = anyN p n := by
  cases h : anyN p n with
  | false => rw [hit_none p n ((any_false p n).1 h)]; rfl
  | true =>
    obtain ⟨i, hi, hpi⟩ := (any_true p n).1 h
    unfold hitI
    cases hf : (List.range n).find? p with
    | some j => simp
    | none => exact absurd hpi (by have := List.find?_eq_none.1 hf i (by simpa using hi); simpa using this)
theorem anyN_list {α : Type} (f : α → Bool) (l : List α) (d : α) : anyN (fun j => f (l.getD j d)) l.length = l.any f := by
  rw [Bool.eq_iff_iff, any_true, List.any_eq_true]
  constructor
  · rintro ⟨i, hi, h⟩
    rw [List.getD_eq_getElem?_getD, List.getElem?_eq_getElem hi] at h
    exact ⟨l[i], List.getElem_mem hi, h⟩
  · rintro ⟨x, hx, h⟩
    obtain ⟨i, hi, rfl⟩ := List.mem_iff_getElem.1 hx
    exact ⟨i, hi, by rw [List.getD_eq_getElem?_getD, List.getElem?_eq_getElem hi]; exact h⟩
def BoolPost (b : Bool) (w : World) (e : Ending) (w' : World) : Prop := e = .returned (.bool b) ∧ Below w.heap.size w w'
end Go.Proofs.YtdkbfljhfhjofaaGreatDoor
