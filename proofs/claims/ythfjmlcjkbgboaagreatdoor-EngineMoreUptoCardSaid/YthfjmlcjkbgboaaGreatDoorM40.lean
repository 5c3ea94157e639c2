/- Part 40 of the proof: lemmas and walks that the last texts use. -/
import Derived.Test.YthfjmlcjkbgboaaGreatDoorM04
import Derived.Test.YthfjmlcjkbgboaaGreatDoorM39
import Derived.Deep.Strs
import Derived.Shelf.GgClosure.Gives
namespace Go.Proofs.YthfjmlcjkbgboaaGreatDoor
open Go.RowKit Go.ChangeShapes Go.WideShapes Go.Deep
def cellsRuV (v : RuVar) : List Value := [.int .i64 v.k, .int .i64 v.m, .string v.n]
def cellsRuA (a : RuAct) : List Value := [.int .i64 a.k, .int .i64 a.n]
structure RuM where
 r : RuOne
 vA : Option Addr
 vc : Nat
 pA : Option Addr
 pc : Nat
 aA : Option Addr
 ac : Nat
def cellsRu (x : RuM) : List Value := [.int .i64 x.r.id, .int .i64 x.r.phase, .slice x.vA x.r.vars.length x.vc, .slice x.pA x.r.pipe.length x.pc, .bool x.r.no, .int .i64 x.r.op, .string x.r.arg, .slice x.aA x.r.acts.length x.ac, .bool x.r.chain]
theorem cellsRu_len (x : RuM) : (cellsRu x).length = 9 := rfl
structure RuIn (w : World) (B : Nat) (x : RuM) : Prop where
 vars : Sl w B 3 x.vA x.r.vars.length (x.r.vars.flatMap cellsRuV)
 pipe : Sl w B 1 x.pA x.r.pipe.length (x.r.pipe.map (Value.int .i64))
 acts : Sl w B 2 x.aA x.r.acts.length (x.r.acts.flatMap cellsRuA)
theorem RuIn.keep {w w' : World} {B B' : Nat} {x : RuM} (h : RuIn w B x) (hb : Below B w w') (hB : B ≤ B') : RuIn w' B' x := ⟨(h.vars.below hb).more hB, (h.pipe.below hb).more hB, (h.acts.below hb).more hB⟩
structure RuSmall (x : RuOne) : Prop where
 vars : x.vars.length ≤ 1048576
 names : ∀ v ∈ x.vars, v.n.size ≤ 1048576
 pipe : x.pipe.length ≤ 1048576
 arg : x.arg.size ≤ 1048576
 acts : x.acts.length ≤ 1048576
def varRD {H : Type} (f : RuVar) : DataW H := .agg [.lit (.int .i64 f.k), .lit (.int .i64 f.m), .lit (.string f.n.data.toList)]
def actRD {H : Type} (f : RuAct) : DataW H := .agg [.lit (.int .i64 f.k), .lit (.int .i64 f.n)]
def intRD {H : Type} (z : Int) : DataW H := .lit (.int .i64 z)
section
variable {H : Type} {enc : TypeId × Value → H} {P : Program} {w : World} {base : Nat} {spare : Nat → Bool} {held : Bool}
theorem trod_struct9 {t : TypeId} {f0 f1 f2 f3 f4 f5 f6 f7 f8 : Field} {fuel : Nat} {cs : List Value} {x : DataW H × List MemPlace} (ht : P.underlying t = some (.struct #[f0, f1, f2, f3, f4, f5, f6, f7, f8])) (h : DataW.trod enc P w base spare held fuel t cs = some x) :
 ∃ (y : Fin 9 → DataW H × List MemPlace) (n : Nat), x.1 = .agg [(y 0).1, (y 1).1, (y 2).1, (y 3).1, (y 4).1, (y 5).1, (y 6).1, (y 7).1, (y 8).1] ∧ cs.length = P.cellsOf t ∧
  ∀ (i : Fin 9) (f : Field), [f0, f1, f2, f3, f4, f5, f6, f7, f8][i.val]? = some f → DataW.trod enc P w base spare held n f.type ((cs.drop f.offset).take (P.cellsOf f.type)) = some (y i) := by
 obtain ⟨xs, n, _, rfl, hl, hlen, hf⟩ := DataW.trod_struct ht h
 match xs, hlen with
 | [y0, y1, y2, y3, y4, y5, y6, y7, y8], _ =>
  refine ⟨fun i => [y0, y1, y2, y3, y4, y5, y6, y7, y8][i.val]'(i.isLt), n, rfl, hl, fun i f hi => ?_⟩
  have := hf i.val f (by simpa using hi)
  rw [List.getElem?_eq_getElem (show i.val < [y0, y1, y2, y3, y4, y5, y6, y7, y8].length from i.isLt)] at this
  simpa using this
end
theorem cells_nine {α : Type} {l : List α} (h : l.length = 9) : ∃ a b c d e f g i j, l = [a, b, c, d, e, f, g, i, j] := by
 match l, h with
 | [a, b, c, d, e, f, g, i, j], _ => exact ⟨a, b, c, d, e, f, g, i, j, rfl⟩
theorem cells_three {α : Type} {l : List α} (h : l.length = 3) : ∃ a b c, l = [a, b, c] := by
 match l, h with
 | [a, b, c], _ => exact ⟨a, b, c, rfl⟩
theorem cells_two {α : Type} {l : List α} (h : l.length = 2) : ∃ a b, l = [a, b] := by
 match l, h with
 | [a, b], _ => exact ⟨a, b, rfl⟩
theorem ruOf_int : Tryz.prog.cellsOf 3 = 1 := by kernel_rfl
theorem ruOf_bool : Tryz.prog.cellsOf 4 = 1 := by kernel_rfl
theorem ruOf_str : Tryz.prog.cellsOf 9 = 1 := by kernel_rfl
theorem ruOf_var : Tryz.prog.cellsOf 41 = 3 := by kernel_rfl
theorem ruOf_act : Tryz.prog.cellsOf 57 = 2 := by kernel_rfl
theorem ruOf_rule : Tryz.prog.cellsOf 26 = 9 := by kernel_rfl
theorem ruOf_vars : Tryz.prog.cellsOf 22 = 1 := by kernel_rfl
theorem ruOf_acts : Tryz.prog.cellsOf 24 = 1 := by kernel_rfl
theorem ruOf_ints : Tryz.prog.cellsOf 23 = 1 := by kernel_rfl
theorem bulk_part {H : Type} {l sp : List (DataW H)} {d : DataW H} (h : d ∈ l) (hb : Rows.uptoBulk (.slice l sp) ≤ 1048576) : Rows.uptoBulk d ≤ 1048576 := by
 have := part_le h
 rw [Rows.uptoBulk] at hb
 omega
theorem bulk_agg {H : Type} {l : List (DataW H)} {d : DataW H} (h : d ∈ l) (hb : Rows.uptoBulk (.agg l) ≤ 1048576) : Rows.uptoBulk d ≤ 1048576 := by
 have := part_le h
 rw [Rows.uptoBulk] at hb
 omega
theorem bulk_str {H : Type} {s : ByteArray} (hb : Rows.uptoBulk (.lit (.string s.data.toList) : DataW H) ≤ 1048576) : s.size ≤ 1048576 := by
 simp only [Rows.uptoBulk, Array.length_toList] at hb
 have : s.data.size = s.size := rfl
 omega
section
variable {H : Type} {enc : TypeId × Value → H} {w : World} {base : Nat} {spare : Nat → Bool} {held : Bool} {fuel : Nat} {cs : List Value} {x : DataW H × List MemPlace}
theorem open_ruvars (h : DataW.trod enc Tryz.prog w base spare held fuel 22 cs = some x) :
 ∃ (A : Option Addr) (c : Nat) (l : List RuVar), cs = [.slice A l.length c] ∧ Sl w w.heap.size 3 A l.length (l.flatMap cellsRuV) ∧ (Rows.uptoBulk x.1 ≤ 1048576 → l.length ≤ 1048576 ∧ ∀ v ∈ l, v.n.size ≤ 1048576) := by
 obtain ⟨A, len, c, l, h1, h2, _, _, _, h6, h7⟩ := open_list 3 cellsRuV varRD (fun _ => True) Tryz.underlying22 ruOf_var (fun _ => rfl)
  (fun n cs' y hy => by
   obtain ⟨y0, y1, y2, n', hx, hl, g0, g1, g2⟩ := trod_struct3 Tryz.underlying41 hy
   rw [ruOf_var] at hl
   obtain ⟨c0, c1, c2, rfl⟩ := cells_three hl
   rw [ruOf_int] at g0 g1
   rw [ruOf_str] at g2
   obtain ⟨k0, e0, x0, _⟩ := DataW.trod_int Tryz.underlying3 g0
   obtain ⟨k1, e1, x1, _⟩ := DataW.trod_int Tryz.underlying3 g1
   obtain ⟨s, e2, x2, _⟩ := DataW.trod_string Tryz.underlying9 g2
   injection e0 with e0 _
   injection e1 with e1 _
   injection e2 with e2 _
   subst e0; subst e1; subst e2; subst hx; subst x0; subst x1; subst x2
   exact ⟨⟨k0, k1, s⟩, rfl, rfl, trivial⟩) h
 subst h2
 refine ⟨A, c, l, h1, h6, fun hb => ?_⟩
 rcases h7 with ⟨_, rfl⟩ | ⟨sp, h7⟩
 · exact ⟨Nat.zero_le _, fun v hv => by cases hv⟩
 · rw [h7] at hb
   have := slice_bulk (l := (l.map varRD : List (DataW H))) (sp := sp)
   rw [List.length_map] at this
   exact ⟨by omega, fun v hv => bulk_str (bulk_agg (l := [.lit (.int .i64 v.k), .lit (.int .i64 v.m), .lit (.string v.n.data.toList)]) (by simp) (bulk_part (List.mem_map.2 ⟨v, hv, rfl⟩) hb))⟩
theorem open_ruacts (h : DataW.trod enc Tryz.prog w base spare held fuel 24 cs = some x) :
 ∃ (A : Option Addr) (c : Nat) (l : List RuAct), cs = [.slice A l.length c] ∧ Sl w w.heap.size 2 A l.length (l.flatMap cellsRuA) ∧ (Rows.uptoBulk x.1 ≤ 1048576 → l.length ≤ 1048576) := by
 obtain ⟨A, len, c, l, h1, h2, _, _, _, h6, h7⟩ := open_list 2 cellsRuA actRD (fun _ => True) Tryz.underlying24 ruOf_act (fun _ => rfl)
  (fun n cs' y hy => by
   obtain ⟨y0, y1, n', hx, hl, g0, g1⟩ := trod_struct2 Tryz.underlying57 hy
   rw [ruOf_act] at hl
   obtain ⟨c0, c1, rfl⟩ := cells_two hl
   rw [ruOf_int] at g0 g1
   obtain ⟨k0, e0, x0, _⟩ := DataW.trod_int Tryz.underlying3 g0
   obtain ⟨k1, e1, x1, _⟩ := DataW.trod_int Tryz.underlying3 g1
   injection e0 with e0 _
   injection e1 with e1 _
   subst e0; subst e1; subst hx; subst x0; subst x1
   exact ⟨⟨k0, k1⟩, rfl, rfl, trivial⟩) h
 subst h2
 refine ⟨A, c, l, h1, h6, fun hb => ?_⟩
 rcases h7 with ⟨_, rfl⟩ | ⟨sp, h7⟩
 · exact Nat.zero_le _
 · rw [h7] at hb
   have := slice_bulk (l := (l.map actRD : List (DataW H))) (sp := sp)
   rw [List.length_map] at this
   omega
theorem open_ruints (h : DataW.trod enc Tryz.prog w base spare held fuel 23 cs = some x) :
 ∃ (A : Option Addr) (c : Nat) (l : List Int), cs = [.slice A l.length c] ∧ Sl w w.heap.size 1 A l.length (l.map (Value.int .i64)) ∧ (Rows.uptoBulk x.1 ≤ 1048576 → l.length ≤ 1048576) := by
 obtain ⟨A, len, c, l, h1, h2, _, _, _, h6, h7⟩ := open_list 1 (fun z : Int => [Value.int .i64 z]) intRD (fun _ => True) Tryz.underlying23 ruOf_int (fun _ => rfl)
  (fun n cs' y hy => by
   obtain ⟨k, e0, hy1, _⟩ := DataW.trod_int Tryz.underlying3 hy
   exact ⟨k, e0, by rw [hy1]; rfl, trivial⟩) h
 subst h2
 refine ⟨A, c, l, h1, ?_, fun hb => ?_⟩
 · have : ∀ l : List Int, l.flatMap (fun z : Int => [Value.int .i64 z]) = l.map (Value.int .i64) := fun l => by
    induction l with
    | nil => rfl
    | cons a r ih => rw [List.flatMap_cons, ih]; rfl
   rw [this] at h6
   exact h6
 · rcases h7 with ⟨_, rfl⟩ | ⟨sp, h7⟩
   · exact Nat.zero_le _
   · rw [h7] at hb
     have := slice_bulk (l := (l.map intRD : List (DataW H))) (sp := sp)
     rw [List.length_map] at this
     omega
end
structure RuD (H : Type) where
 m : RuM
 dat : DataW H
def RuDOk {H : Type} (w : World) (a : RuD H) : Prop := RuIn w w.heap.size a.m ∧ (Rows.uptoBulk a.dat ≤ 1048576 → RuSmall a.m.r)
section
variable {H : Type} {enc : TypeId × Value → H} {w : World} {base : Nat} {spare : Nat → Bool} {held : Bool} {fuel : Nat} {cs : List Value} {x : DataW H × List MemPlace}
set_option maxRecDepth 100000 in
theorem open_rurule (h : DataW.trod enc Tryz.prog w base spare held fuel 26 cs = some x) : ∃ a : RuD H, cs = cellsRu a.m ∧ x.1 = a.dat ∧ RuDOk w a := by
 obtain ⟨y, n, hx, hl, hf⟩ := trod_struct9 Tryz.underlying26 h
 rw [ruOf_rule] at hl
 obtain ⟨c0, c1, c2, c3, c4, c5, c6, c7, c8, rfl⟩ := cells_nine hl
 have g0 := hf 0 _ rfl
 have g1 := hf 1 _ rfl
 have g2 := hf 2 _ rfl
 have g3 := hf 3 _ rfl
 have g4 := hf 4 _ rfl
 have g5 := hf 5 _ rfl
 have g6 := hf 6 _ rfl
 have g7 := hf 7 _ rfl
 have g8 := hf 8 _ rfl
 dsimp only at g0 g1 g2 g3 g4 g5 g6 g7 g8
 rw [ruOf_int] at g0 g1 g5
 rw [ruOf_vars] at g2
 rw [ruOf_ints] at g3
 rw [ruOf_bool] at g4 g8
 rw [ruOf_str] at g6
 rw [ruOf_acts] at g7
 obtain ⟨k0, e0, _, _⟩ := DataW.trod_int Tryz.underlying3 g0
 obtain ⟨k1, e1, _, _⟩ := DataW.trod_int Tryz.underlying3 g1
 obtain ⟨A2, a2, l2, e2, s2, z2⟩ := open_ruvars g2
 obtain ⟨A3, a3, l3, e3, s3, z3⟩ := open_ruints g3
 obtain ⟨k4, e4, _⟩ := DataW.trod_bool Tryz.underlying4 g4
 obtain ⟨k5, e5, _, _⟩ := DataW.trod_int Tryz.underlying3 g5
 obtain ⟨k6, e6, x6, _⟩ := DataW.trod_string Tryz.underlying9 g6
 obtain ⟨A7, a7, l7, e7, s7, z7⟩ := open_ruacts g7
 obtain ⟨k8, e8, _⟩ := DataW.trod_bool Tryz.underlying4 g8
 have q0 : c0 = .int .i64 k0 := by injection e0
 have q1 : c1 = .int .i64 k1 := by injection e1
 have q2 : c2 = .slice A2 l2.length a2 := by injection e2
 have q3 : c3 = .slice A3 l3.length a3 := by injection e3
 have q4 : c4 = .bool k4 := by injection e4
 have q5 : c5 = .int .i64 k5 := by injection e5
 have q6 : c6 = .string k6 := by injection e6
 have q7 : c7 = .slice A7 l7.length a7 := by injection e7
 have q8 : c8 = .bool k8 := by injection e8
 subst q0; subst q1; subst q2; subst q3; subst q4; subst q5; subst q6; subst q7; subst q8
 refine ⟨⟨⟨⟨k0, k1, l2, l3, k4, k5, k6, l7, k8⟩, A2, a2, A3, a3, A7, a7⟩, x.1⟩, rfl, rfl, ⟨s2, s3, s7⟩, fun hb => ?_⟩
 dsimp only at hb
 rw [hx] at hb
 have b2 := z2 (bulk_agg (d := (y 2).1) (by simp) hb)
 have b3 := z3 (bulk_agg (d := (y 3).1) (by simp) hb)
 have b6 := bulk_agg (d := (y 6).1) (by simp) hb
 have b7 := z7 (bulk_agg (d := (y 7).1) (by simp) hb)
 rw [x6] at b6
 exact ⟨b2.1, b2.2, b3, bulk_str b6, b7⟩
end
structure RuArg where
 most : Int
 status : Int
 A : Option Addr
 c : Nat
 l : List RuM
def RuArg.set (a : RuArg) : RuSet := ⟨a.most, a.status, a.l.map RuM.r⟩
def RuArg.value (a : RuArg) : Value := .agg #[.int .i64 a.most, .int .i64 a.status, .slice a.A a.l.length a.c]
structure RuLies (W : World) (B : Nat) (a : RuArg) : Prop where
 sl : Sl W B 9 a.A a.l.length (a.l.flatMap cellsRu)
 all : ∀ x ∈ a.l, RuIn W B x
 cap : a.l.length ≤ a.c
theorem RuLies.keep {w w' : World} {B B' : Nat} {a : RuArg} (h : RuLies w B a) (hb : Below B w w') (hB : B ≤ B') : RuLies w' B' a := ⟨(h.sl.below hb).more hB, fun x hx => (h.all x hx).keep hb hB, h.cap⟩
structure RulesArg (W : World) (v : Value) (a : RuArg) : Prop where
 val : v = a.value
 lies : RuLies W W.heap.size a
structure RuBulk (a : RuArg) : Prop where
 len : a.l.length ≤ 1048576
 all : ∀ x ∈ a.l, RuSmall x.r
end Go.Proofs.YthfjmlcjkbgboaaGreatDoor
namespace Go.Proofs.YthfjmlcjkbgboaaGreatDoor
open Go.RowKit
def CodePost (c : Int) (w : World) (e : Ending) (w' : World) : Prop := e = .returned (.int .i64 c) ∧ Below w.heap.size w w'
theorem nameB_t {b : UInt8} (h : (97 ≤ (b.toNat : Int) ∧ (b.toNat : Int) ≤ 122) ∨ (48 ≤ (b.toNat : Int) ∧ (b.toNat : Int) ≤ 57) ∨ (b.toNat : Int) = 45 ∨ (b.toNat : Int) = 95) : nameB b = true := by
 unfold nameB
 simp only [Bool.or_eq_true, Bool.and_eq_true, decide_eq_true_eq, beq_iff_eq]
 rcases h with h | h | h | h
 · left; left; left; omega
 · left; left; right; omega
 · left; right; exact UInt8.toNat_inj.1 (by show b.toNat = 45; omega)
 · right; exact UInt8.toNat_inj.1 (by show b.toNat = 95; omega)
theorem nameB_f {b : UInt8} (h : ¬ ((97 ≤ (b.toNat : Int) ∧ (b.toNat : Int) ≤ 122) ∨ (48 ≤ (b.toNat : Int) ∧ (b.toNat : Int) ≤ 57) ∨ (b.toNat : Int) = 45 ∨ (b.toNat : Int) = 95)) : nameB b = false := by
 cases hb : nameB b with
 | false => rfl
 | true =>
  unfold nameB at hb
  simp only [Bool.or_eq_true, Bool.and_eq_true, decide_eq_true_eq, beq_iff_eq] at hb
  exfalso
  rcases hb with ((hb | hb) | hb) | hb
  · omega
  · omega
  · subst hb; exact h (.inr (.inr (.inl rfl)))
  · subst hb; exact h (.inr (.inr (.inr rfl)))
def NamRel (s : ByteArray) (i : Value) : Prop := ∃ k : Nat, k ≤ s.size ∧ i = .int .i64 k ∧ s.data.toList.all nameB = (s.data.toList.drop k).all nameB
set_option maxRecDepth 100000 in
set_option maxHeartbeats 1600000 in
theorem named_any (s : ByteArray) (w : World) (hs : s.size ≤ maxLen) :
 Calls Tryz.prog 139 #[.string s] w fun e w' => e = .returned (.bool (namedL s.data.toList)) ∧ w' = w := by
 unfold maxLen at hs
 have hL : Hid (s.data.toList.length = s.size) := by unfold Hid; simp
 go_enter Tryz.func139, Tryz.ntmps139
 go_wp2_with fail
 go_loop [7] (fun i => NamRel s i) (fun i => s.size - (intOf i).toNat)
 case atStart => exact ⟨0, Nat.zero_le _, rfl, rfl⟩
 case round =>
  obtain ⟨k, hk, rfl, hr⟩ := hrel
  have HR := Lib.hid hr
  clear hr
  by_cases hlt : k < s.size
  · have HD := Lib.hid (drop_cons s k hlt)
    have hcb := s[k].toNat_lt
    by_cases hn : (97 ≤ (s[k].toNat : Int) ∧ (s[k].toNat : Int) ≤ 122) ∨ (48 ≤ (s[k].toNat : Int) ∧ (s[k].toNat : Int) ≤ 57) ∨ (s[k].toNat : Int) = 45 ∨ (s[k].toNat : Int) = 95
    · have HN := Lib.hid (nameB_t hn)
      have HE : Hid (NamRel s (.int .i64 ((k : Int) + 1))) := ⟨k + 1, by omega, rfl, by rw [HR.out, HD.out, List.all_cons, HN.out]; rfl⟩
      rcases hn with hn | hn | hn | hn
      all_goals
       go_wp2_with fail
       exact ⟨HE.out, by simp [intOf] <;> omega⟩
    · have HN := Lib.hid (nameB_f hn)
      have n1 : (s[k].toNat : Int) ≠ 45 := fun e => hn (.inr (.inr (.inl e)))
      have n2 : (s[k].toNat : Int) ≠ 95 := fun e => hn (.inr (.inr (.inr e)))
      have n3 : (s[k].toNat : Int) < 48 ∨ (57 < (s[k].toNat : Int) ∧ (s[k].toNat : Int) < 97) ∨ 122 < (s[k].toNat : Int) := by omega
      have HF : Hid (namedL s.data.toList = false) := by unfold Hid namedL; rw [HR.out, HD.out, List.all_cons, HN.out]; rfl
      have m1 : ((s[k].toNat : Int) != 45) = true := bne_iff_ne.2 n1
      have m2 : ((s[k].toNat : Int) != 95) = true := bne_iff_ne.2 n2
      clear hn
      rcases n3 with n3 | n3 | n3
      all_goals
       go_wp2_with fail
       go_ret
       exact ⟨ret_bool HF.out.symm, rfl⟩
  · have hk' : k = s.size := by omega
    have HT : Hid (s.data.toList.all nameB = true) := by
     unfold Hid; rw [HR.out, List.drop_eq_nil_of_le (by rw [hL.out]; omega)]; rfl
    have HF : Hid (namedL s.data.toList = (decide (1 ≤ s.size) && decide (s.size ≤ 20))) := by
     unfold Hid namedL; rw [HT.out, hL.out]; rfl
    clear hk'
    by_cases h1 : 1 ≤ s.size
    · by_cases h2 : s.size ≤ 20
      · have d1 : decide ((1 : Int) ≤ (s.size : Int)) = true := by simp; omega
        have d2 : decide ((s.size : Int) ≤ 20) = true := by simp; omega
        go_wp2_with fail
        go_ret
        exact ⟨ret_bool (by rw [HF.out, decide_eq_true h1, decide_eq_true h2]; rfl), rfl⟩
      · have d1 : decide ((1 : Int) ≤ (s.size : Int)) = true := by simp; omega
        have d2 : decide ((s.size : Int) ≤ 20) = false := by simp; omega
        go_wp2_with fail
        go_ret
        exact ⟨ret_bool (by rw [HF.out, decide_eq_true h1, decide_eq_false h2]; rfl), rfl⟩
    · have d1 : decide ((1 : Int) ≤ (s.size : Int)) = false := by simp; omega
      go_wp2_with fail
      go_ret
      exact ⟨ret_bool (by rw [HF.out, decide_eq_false h1]; rfl), rfl⟩
set_option maxRecDepth 100000 in
set_option maxHeartbeats 1600000 in
theorem variable_any (v : RuVar) (w : World) (hs : v.n.size ≤ maxLen) :
 Calls Tryz.prog 98 #[.agg #[.int .i64 v.k, .int .i64 v.m, .string v.n]] w (CodePost (varC v) w) := by
 have hvc : varC v = if v.k < 1 ∨ 12 < v.k ∨ v.m < 0 ∨ 2 < v.m ∨ (v.n.data.toList ≠ [] ∧ (ofK v.k && namedL v.n.data.toList) = false) then 1 else 0 := rfl
 obtain ⟨k, m, n⟩ := v
 dsimp only at hs hvc ⊢
 have HN : Hid (∀ W, Calls Tryz.prog 139 #[.string n] W fun e w' => e = .returned (.bool (namedL n.data.toList)) ∧ w' = W) := fun W => named_any n W hs
 unfold CodePost
 have hkk : (k < 1 ∨ 12 < k) ∨ (1 ≤ k ∧ k ≤ 12 ∧ k ≠ 6 ∧ k ≠ 8 ∧ k ≠ 10) ∨ k = 6 ∨ k = 8 ∨ k = 10 := by omega
 rcases hkk with hkk | hkk
 · have q6 : (k == 6) = false := beq_eq_false_iff_ne.2 (by omega)
   have q8 : (k == 8) = false := beq_eq_false_iff_ne.2 (by omega)
   have q10 : (k == 10) = false := beq_eq_false_iff_ne.2 (by omega)
   have HF : Hid (varC ⟨k, m, n⟩ = 1) := Lib.hid (by rw [hvc, if_pos (by omega)])
   clear hvc
   rcases hkk with hkk | hkk
   · go_enter Tryz.func98, Tryz.ntmps98
     go_wp2_with fail
     go_ret
     exact ⟨ret_int HF.out.symm, (Below.refl _ _).alloc (Nat.le_refl _) _⟩
   · have hk1 : 1 ≤ k := by omega
     go_enter Tryz.func98, Tryz.ntmps98
     go_wp2_with fail
     go_ret
     exact ⟨ret_int HF.out.symm, (Below.refl _ _).alloc (Nat.le_refl _) _⟩
 · have hk1 : 1 ≤ k := by omega
   have hk2 : k ≤ 12 := by omega
   by_cases hm : m < 0
   · have HF : Hid (varC ⟨k, m, n⟩ = 1) := Lib.hid (by rw [hvc, if_pos (by omega)])
     clear hvc
     rcases hkk with hkk | rfl | rfl | rfl
     · have q6 : (k == 6) = false := beq_eq_false_iff_ne.2 (by omega)
       have q8 : (k == 8) = false := beq_eq_false_iff_ne.2 (by omega)
       have q10 : (k == 10) = false := beq_eq_false_iff_ne.2 (by omega)
       clear hkk
       go_enter Tryz.func98, Tryz.ntmps98
       go_wp2_with fail
       go_ret
       exact ⟨ret_int HF.out.symm, (Below.refl _ _).alloc (Nat.le_refl _) _⟩
     · go_enter Tryz.func98, Tryz.ntmps98
       go_wp2_with fail
       go_ret
       exact ⟨ret_int HF.out.symm, (Below.refl _ _).alloc (Nat.le_refl _) _⟩
     · go_enter Tryz.func98, Tryz.ntmps98
       go_wp2_with fail
       go_ret
       exact ⟨ret_int HF.out.symm, (Below.refl _ _).alloc (Nat.le_refl _) _⟩
     · go_enter Tryz.func98, Tryz.ntmps98
       go_wp2_with fail
       go_ret
       exact ⟨ret_int HF.out.symm, (Below.refl _ _).alloc (Nat.le_refl _) _⟩
   by_cases hm2 : 2 < m
   · have HF : Hid (varC ⟨k, m, n⟩ = 1) := Lib.hid (by rw [hvc, if_pos (by omega)])
     clear hvc
     rcases hkk with hkk | rfl | rfl | rfl
     · have q6 : (k == 6) = false := beq_eq_false_iff_ne.2 (by omega)
       have q8 : (k == 8) = false := beq_eq_false_iff_ne.2 (by omega)
       have q10 : (k == 10) = false := beq_eq_false_iff_ne.2 (by omega)
       clear hkk
       go_enter Tryz.func98, Tryz.ntmps98
       go_wp2_with fail
       go_ret
       exact ⟨ret_int HF.out.symm, (Below.refl _ _).alloc (Nat.le_refl _) _⟩
     · go_enter Tryz.func98, Tryz.ntmps98
       go_wp2_with fail
       go_ret
       exact ⟨ret_int HF.out.symm, (Below.refl _ _).alloc (Nat.le_refl _) _⟩
     · go_enter Tryz.func98, Tryz.ntmps98
       go_wp2_with fail
       go_ret
       exact ⟨ret_int HF.out.symm, (Below.refl _ _).alloc (Nat.le_refl _) _⟩
     · go_enter Tryz.func98, Tryz.ntmps98
       go_wp2_with fail
       go_ret
       exact ⟨ret_int HF.out.symm, (Below.refl _ _).alloc (Nat.le_refl _) _⟩
   by_cases hn : n.data.toList = []
   · have qe : (n.toList == []) = true := by rw [Lib.toList_data, hn]; rfl
     have qe2 : n.toList.isEmpty = true := by rw [Lib.toList_data, hn]; rfl
     have HF : Hid (varC ⟨k, m, n⟩ = 0) := Lib.hid (by rw [hvc, if_neg]; rintro (h | h | h | h | h); omega; omega; omega; omega; exact h.1 hn)
     clear hvc hn
     rcases hkk with hkk | rfl | rfl | rfl
     · have q6 : (k == 6) = false := beq_eq_false_iff_ne.2 (by omega)
       have q8 : (k == 8) = false := beq_eq_false_iff_ne.2 (by omega)
       have q10 : (k == 10) = false := beq_eq_false_iff_ne.2 (by omega)
       clear hkk
       go_enter Tryz.func98, Tryz.ntmps98
       go_wp2_with fail
       go_ret
       exact ⟨ret_int HF.out.symm, (Below.refl _ _).alloc (Nat.le_refl _) _⟩
     · go_enter Tryz.func98, Tryz.ntmps98
       go_wp2_with fail
       go_ret
       exact ⟨ret_int HF.out.symm, (Below.refl _ _).alloc (Nat.le_refl _) _⟩
     · go_enter Tryz.func98, Tryz.ntmps98
       go_wp2_with fail
       go_ret
       exact ⟨ret_int HF.out.symm, (Below.refl _ _).alloc (Nat.le_refl _) _⟩
     · go_enter Tryz.func98, Tryz.ntmps98
       go_wp2_with fail
       go_ret
       exact ⟨ret_int HF.out.symm, (Below.refl _ _).alloc (Nat.le_refl _) _⟩
   have qe : (n.toList == []) = false := by rw [Lib.toList_data]; exact beq_eq_false_iff_ne.2 hn
   have qe2 : n.toList.isEmpty = false := by rw [Lib.toList_data]; cases hh : n.data.toList with | nil => exact absurd hh hn | cons a r => rfl
   rcases hkk with hkk | hkk
   · have HF : Hid (varC ⟨k, m, n⟩ = 1) := Lib.hid (by
      rw [hvc, if_pos]
      refine .inr (.inr (.inr (.inr ⟨hn, ?_⟩)))
      have : ofK k = false := by
       unfold ofK
       rw [beq_eq_false_iff_ne.2 hkk.2.2.1, beq_eq_false_iff_ne.2 hkk.2.2.2.1, beq_eq_false_iff_ne.2 hkk.2.2.2.2]; rfl
      rw [this, Bool.false_and])
     clear hvc hn
     have q6 : (k == 6) = false := beq_eq_false_iff_ne.2 (by omega)
     have q8 : (k == 8) = false := beq_eq_false_iff_ne.2 (by omega)
     have q10 : (k == 10) = false := beq_eq_false_iff_ne.2 (by omega)
     clear hkk
     go_enter Tryz.func98, Tryz.ntmps98
     go_wp2_with fail
     go_ret
     exact ⟨ret_int HF.out.symm, (Below.refl _ _).alloc (Nat.le_refl _) _⟩
   · have hof : ofK k = true := by rcases hkk with rfl | rfl | rfl <;> rfl
     rw [hof, Bool.true_and] at hvc
     cases hb : namedL n.data.toList with
     | true =>
      rw [hb] at HN hvc
      have HF : Hid (varC ⟨k, m, n⟩ = 0) := Lib.hid (by rw [hvc, if_neg]; rintro (h | h | h | h | h); omega; omega; omega; omega; exact absurd h.2 (by decide))
      clear hvc hn hof hb
      rcases hkk with rfl | rfl | rfl
      · go_enter Tryz.func98, Tryz.ntmps98
        go_wp2_with (go_at_call 139; refine (HN.out _).mono ?_; rintro e w1 ⟨rfl, rfl⟩)
        go_ret
        exact ⟨ret_int HF.out.symm, (Below.refl _ _).alloc (Nat.le_refl _) _⟩
      · go_enter Tryz.func98, Tryz.ntmps98
        go_wp2_with (go_at_call 139; refine (HN.out _).mono ?_; rintro e w1 ⟨rfl, rfl⟩)
        go_ret
        exact ⟨ret_int HF.out.symm, (Below.refl _ _).alloc (Nat.le_refl _) _⟩
      · go_enter Tryz.func98, Tryz.ntmps98
        go_wp2_with (go_at_call 139; refine (HN.out _).mono ?_; rintro e w1 ⟨rfl, rfl⟩)
        go_ret
        exact ⟨ret_int HF.out.symm, (Below.refl _ _).alloc (Nat.le_refl _) _⟩
     | false =>
      rw [hb] at HN hvc
      have HF : Hid (varC ⟨k, m, n⟩ = 1) := Lib.hid (by rw [hvc, if_pos]; exact .inr (.inr (.inr (.inr ⟨hn, rfl⟩))))
      clear hvc hn hof hb
      rcases hkk with rfl | rfl | rfl
      · go_enter Tryz.func98, Tryz.ntmps98
        go_wp2_with (go_at_call 139; refine (HN.out _).mono ?_; rintro e w1 ⟨rfl, rfl⟩)
        go_ret
        exact ⟨ret_int HF.out.symm, (Below.refl _ _).alloc (Nat.le_refl _) _⟩
      · go_enter Tryz.func98, Tryz.ntmps98
        go_wp2_with (go_at_call 139; refine (HN.out _).mono ?_; rintro e w1 ⟨rfl, rfl⟩)
        go_ret
        exact ⟨ret_int HF.out.symm, (Below.refl _ _).alloc (Nat.le_refl _) _⟩
      · go_enter Tryz.func98, Tryz.ntmps98
        go_wp2_with (go_at_call 139; refine (HN.out _).mono ?_; rintro e w1 ⟨rfl, rfl⟩)
        go_ret
        exact ⟨ret_int HF.out.symm, (Below.refl _ _).alloc (Nat.le_refl _) _⟩
set_option maxRecDepth 100000 in
set_option maxHeartbeats 1600000 in
theorem act_any (a : RuAct) (w : World) :
 Calls Tryz.prog 101 #[.agg #[.int .i64 a.k, .int .i64 a.n]] w (CodePost (actC a) w) := by
 have hvc : actC a = if a.k < 1 ∨ 5 < a.k ∨ a.n < loA a.k ∨ hiA a.k < a.n then 1 else 0 := rfl
 obtain ⟨k, n⟩ := a
 dsimp only at hvc ⊢
 unfold CodePost
 have hkk : (k < 1 ∨ 5 < k) ∨ k = 1 ∨ k = 2 ∨ k = 3 ∨ k = 4 ∨ k = 5 := by omega
 rcases hkk with hkk | rfl | rfl | rfl | rfl | rfl
 · have HF : Hid (actC ⟨k, n⟩ = 1) := Lib.hid (by rw [hvc, if_pos (by omega)])
   have q1 : (k == 1) = false := beq_eq_false_iff_ne.2 (by omega)
   have q2 : (k == 2) = false := beq_eq_false_iff_ne.2 (by omega)
   have q3 : (k == 3) = false := beq_eq_false_iff_ne.2 (by omega)
   have q4 : (k == 4) = false := beq_eq_false_iff_ne.2 (by omega)
   have q5 : (k == 5) = false := beq_eq_false_iff_ne.2 (by omega)
   clear hvc hkk
   go_enter Tryz.func101, Tryz.ntmps101
   go_wp2_with fail
   go_ret
   exact ⟨ret_int HF.out.symm, (Below.refl _ _).alloc (Nat.le_refl _) _⟩
 · have hl : loA 1 = 0 := rfl
   have hh : hiA 1 = 0 := rfl
   rw [hl, hh] at hvc
   clear hl hh
   by_cases h1 : n < 0
   · have HF : Hid (actC ⟨1, n⟩ = 1) := Lib.hid (by rw [hvc, if_pos (by omega)])
     clear hvc
     go_enter Tryz.func101, Tryz.ntmps101
     go_wp2_with fail
     go_ret
     exact ⟨ret_int HF.out.symm, (Below.refl _ _).alloc (Nat.le_refl _) _⟩
   by_cases h2 : 0 < n
   · have HF : Hid (actC ⟨1, n⟩ = 1) := Lib.hid (by rw [hvc, if_pos (by omega)])
     clear hvc
     go_enter Tryz.func101, Tryz.ntmps101
     go_wp2_with fail
     go_ret
     exact ⟨ret_int HF.out.symm, (Below.refl _ _).alloc (Nat.le_refl _) _⟩
   · have HF : Hid (actC ⟨1, n⟩ = 0) := Lib.hid (by rw [hvc, if_neg (by omega)])
     clear hvc
     go_enter Tryz.func101, Tryz.ntmps101
     go_wp2_with fail
     go_ret
     exact ⟨ret_int HF.out.symm, (Below.refl _ _).alloc (Nat.le_refl _) _⟩
 · have hl : loA 2 = 400 := rfl
   have hh : hiA 2 = 599 := rfl
   rw [hl, hh] at hvc
   clear hl hh
   by_cases h1 : n < 400
   · have HF : Hid (actC ⟨2, n⟩ = 1) := Lib.hid (by rw [hvc, if_pos (by omega)])
     clear hvc
     go_enter Tryz.func101, Tryz.ntmps101
     go_wp2_with fail
     go_ret
     exact ⟨ret_int HF.out.symm, (Below.refl _ _).alloc (Nat.le_refl _) _⟩
   by_cases h2 : 599 < n
   · have HF : Hid (actC ⟨2, n⟩ = 1) := Lib.hid (by rw [hvc, if_pos (by omega)])
     clear hvc
     go_enter Tryz.func101, Tryz.ntmps101
     go_wp2_with fail
     go_ret
     exact ⟨ret_int HF.out.symm, (Below.refl _ _).alloc (Nat.le_refl _) _⟩
   · have HF : Hid (actC ⟨2, n⟩ = 0) := Lib.hid (by rw [hvc, if_neg (by omega)])
     clear hvc
     go_enter Tryz.func101, Tryz.ntmps101
     go_wp2_with fail
     go_ret
     exact ⟨ret_int HF.out.symm, (Below.refl _ _).alloc (Nat.le_refl _) _⟩
 · have hl : loA 3 = 1 := rfl
   have hh : hiA 3 = 1000 := rfl
   rw [hl, hh] at hvc
   clear hl hh
   by_cases h1 : n < 1
   · have HF : Hid (actC ⟨3, n⟩ = 1) := Lib.hid (by rw [hvc, if_pos (by omega)])
     clear hvc
     go_enter Tryz.func101, Tryz.ntmps101
     go_wp2_with fail
     go_ret
     exact ⟨ret_int HF.out.symm, (Below.refl _ _).alloc (Nat.le_refl _) _⟩
   by_cases h2 : 1000 < n
   · have HF : Hid (actC ⟨3, n⟩ = 1) := Lib.hid (by rw [hvc, if_pos (by omega)])
     clear hvc
     go_enter Tryz.func101, Tryz.ntmps101
     go_wp2_with fail
     go_ret
     exact ⟨ret_int HF.out.symm, (Below.refl _ _).alloc (Nat.le_refl _) _⟩
   · have HF : Hid (actC ⟨3, n⟩ = 0) := Lib.hid (by rw [hvc, if_neg (by omega)])
     clear hvc
     go_enter Tryz.func101, Tryz.ntmps101
     go_wp2_with fail
     go_ret
     exact ⟨ret_int HF.out.symm, (Below.refl _ _).alloc (Nat.le_refl _) _⟩
 · have hl : loA 4 = 1 := rfl
   have hh : hiA 4 = 9 := rfl
   rw [hl, hh] at hvc
   clear hl hh
   by_cases h1 : n < 1
   · have HF : Hid (actC ⟨4, n⟩ = 1) := Lib.hid (by rw [hvc, if_pos (by omega)])
     clear hvc
     go_enter Tryz.func101, Tryz.ntmps101
     go_wp2_with fail
     go_ret
     exact ⟨ret_int HF.out.symm, (Below.refl _ _).alloc (Nat.le_refl _) _⟩
   by_cases h2 : 9 < n
   · have HF : Hid (actC ⟨4, n⟩ = 1) := Lib.hid (by rw [hvc, if_pos (by omega)])
     clear hvc
     go_enter Tryz.func101, Tryz.ntmps101
     go_wp2_with fail
     go_ret
     exact ⟨ret_int HF.out.symm, (Below.refl _ _).alloc (Nat.le_refl _) _⟩
   · have HF : Hid (actC ⟨4, n⟩ = 0) := Lib.hid (by rw [hvc, if_neg (by omega)])
     clear hvc
     go_enter Tryz.func101, Tryz.ntmps101
     go_wp2_with fail
     go_ret
     exact ⟨ret_int HF.out.symm, (Below.refl _ _).alloc (Nat.le_refl _) _⟩
 · have hl : loA 5 = 0 := rfl
   have hh : hiA 5 = 0 := rfl
   rw [hl, hh] at hvc
   clear hl hh
   by_cases h1 : n < 0
   · have HF : Hid (actC ⟨5, n⟩ = 1) := Lib.hid (by rw [hvc, if_pos (by omega)])
     clear hvc
     go_enter Tryz.func101, Tryz.ntmps101
     go_wp2_with fail
     go_ret
     exact ⟨ret_int HF.out.symm, (Below.refl _ _).alloc (Nat.le_refl _) _⟩
   by_cases h2 : 0 < n
   · have HF : Hid (actC ⟨5, n⟩ = 1) := Lib.hid (by rw [hvc, if_pos (by omega)])
     clear hvc
     go_enter Tryz.func101, Tryz.ntmps101
     go_wp2_with fail
     go_ret
     exact ⟨ret_int HF.out.symm, (Below.refl _ _).alloc (Nat.le_refl _) _⟩
   · have HF : Hid (actC ⟨5, n⟩ = 0) := Lib.hid (by rw [hvc, if_neg (by omega)])
     clear hvc
     go_enter Tryz.func101, Tryz.ntmps101
     go_wp2_with fail
     go_ret
     exact ⟨ret_int HF.out.symm, (Below.refl _ _).alloc (Nat.le_refl _) _⟩
theorem ruV_at {w : World} {B m : Nat} {A : Option Addr} {l : List RuVar} (h : Sl w B 3 A m (l.flatMap cellsRuV)) (k : Nat) (hk : k < l.length) :
 ∃ b off, A = some ⟨b, off, none⟩ ∧ b < B ∧ w.cell? ⟨b, off + k * 3, none⟩ = some (.int .i64 l[k].k) ∧ w.cell? ⟨b, off + k * 3 + 1, none⟩ = some (.int .i64 l[k].m) ∧ w.cell? ⟨b, off + k * 3 + 2, none⟩ = some (.string l[k].n) := by
 have hl := flat_len cellsRuV 3 (fun _ => rfl) l
 obtain ⟨b, off, e, hb, hc⟩ := h.src (by omega)
 have hat : ∀ j, j < 3 → ∀ v, (cellsRuV l[k])[j]? = some v → w.cell? ⟨b, off + k * 3 + j, none⟩ = some v := fun j hj v hv => by
  have h1 := flat_at cellsRuV 3 (fun _ => rfl) l k j hk hj
  have h2 : k * 3 + j < (l.flatMap cellsRuV).length := by omega
  rw [Nat.add_assoc, hc (k * 3 + j) h2]
  rw [List.getElem?_eq_getElem h2] at h1
  rw [h1, hv]
 exact ⟨b, off, e, hb, hat 0 (by decide) _ rfl, hat 1 (by decide) _ rfl, hat 2 (by decide) _ rfl⟩
set_option maxRecDepth 100000 in
set_option maxHeartbeats 800000 in
theorem firstV_any (g : Nat) (lb : Array Value) (eg : ∀ args w, (callFunc g args).run Tryz.prog w = .ok (.enter g args) w) (f : RuVar → Int) (l : List RuVar) (A : Option Addr) (c : Nat) (w : World)
 (h : Sl w w.heap.size 3 A l.length (l.flatMap cellsRuV)) (hl : l.length ≤ 1048576)
 (hp : ∀ W, ∀ x ∈ l, Below w.heap.size w W → Calls Tryz.prog g (#[.agg #[.int .i64 x.k, .int .i64 x.m, .string x.n]] ++ lb) W (CodePost (f x) W)) :
 Calls Tryz.prog 97 #[.slice A l.length c, .func (.func g) #[] lb] w (CodePost (firstC f l) w) := by
 have HP := Lib.hid hp
 have HD : Hid (∀ k (hk : k < l.length), l.drop k = l[k] :: l.drop (k + 1)) := fun k hk => List.drop_eq_getElem_cons hk
 clear hp
 go_enter Tryz.func97, Tryz.ntmps97
 go_wp2_with fail
 go_loopw [10] (fun i wr => ∃ k : Nat, k ≤ l.length ∧ i = .int .i64 k ∧ Below w.heap.size w wr ∧ Hid (firstC f l = firstC f (l.drop k))) (fun i _ => l.length - (intOf i).toNat)
 case atStart => exact ⟨0, Nat.zero_le _, rfl, Below.refl _ _, rfl⟩
 case round =>
  obtain ⟨k, hk, rfl, hb, hr⟩ := hrel
  by_cases hlt : k < l.length
  · obtain ⟨b, off, rfl, hbB, x0, x1, x2⟩ := ruV_at (h.below hb) k hlt
    have hc := fun W hW => HP.out W l[k] (List.getElem_mem hlt) hW
    have hd := HD.out k hlt
    generalize l[k] = x at *
    obtain ⟨p, q, r⟩ := x
    dsimp only at x0 x1 x2 hc
    have HC := Lib.hid (hc _ (hb.alloc hb.size (.cells #[.int .i64 p, .int .i64 q, .string r] 41)))
    have hz := hb.size
    clear hc
    by_cases hq : f ⟨p, q, r⟩ = 0
    · have HR : Hid (firstC f l = firstC f (l.drop (k + 1))) := Lib.hid (by rw [hr.out, hd, firstC, if_neg (by rw [hq]; decide)])
      rw [hq] at HC
      clear hd hr hq
      go_wp2_with (go_at_fn g; refine HC.out.mono ?_; rintro e w1 ⟨rfl, hb1⟩)
      go_roundw
      case rel => exact ⟨k + 1, by omega, by go_num, hb.trans (below_new hb1 hz), HR⟩
      case measure => simp [intOf] <;> omega
    · have HR : Hid (firstC f l = f ⟨p, q, r⟩) := Lib.hid (by rw [hr.out, hd, firstC, if_pos hq])
      have qn : (f ⟨p, q, r⟩ == 0) = false := beq_eq_false_iff_ne.2 hq
      clear hd hr hq
      generalize f ⟨p, q, r⟩ = cd at *
      go_wp2_with (go_at_fn g; refine HC.out.mono ?_; rintro e w1 ⟨rfl, hb1⟩)
      go_ret
      exact ⟨ret_int HR.out.symm, hb.trans (below_new hb1 hz)⟩
  · obtain rfl : k = l.length := by omega
    have HR : Hid (firstC f l = 0) := Lib.hid (by rw [hr.out, List.drop_eq_nil_of_le (Nat.le_refl _)]; rfl)
    go_wp2_with fail
    go_ret
    exact ⟨ret_int HR.out.symm, hb⟩
theorem ruA_at {w : World} {B m : Nat} {A : Option Addr} {l : List RuAct} (h : Sl w B 2 A m (l.flatMap cellsRuA)) (k : Nat) (hk : k < l.length) :
 ∃ b off, A = some ⟨b, off, none⟩ ∧ b < B ∧ w.cell? ⟨b, off + k * 2, none⟩ = some (.int .i64 l[k].k) ∧ w.cell? ⟨b, off + k * 2 + 1, none⟩ = some (.int .i64 l[k].n) := by
 have hl := flat_len cellsRuA 2 (fun _ => rfl) l
 obtain ⟨b, off, e, hb, hc⟩ := h.src (by omega)
 have hat : ∀ j, j < 2 → ∀ v, (cellsRuA l[k])[j]? = some v → w.cell? ⟨b, off + k * 2 + j, none⟩ = some v := fun j hj v hv => by
  have h1 := flat_at cellsRuA 2 (fun _ => rfl) l k j hk hj
  have h2 : k * 2 + j < (l.flatMap cellsRuA).length := by omega
  rw [Nat.add_assoc, hc (k * 2 + j) h2]
  rw [List.getElem?_eq_getElem h2] at h1
  rw [h1, hv]
 exact ⟨b, off, e, hb, hat 0 (by decide) _ rfl, hat 1 (by decide) _ rfl⟩
set_option maxRecDepth 100000 in
set_option maxHeartbeats 800000 in
theorem firstA_any (g : Nat) (lb : Array Value) (eg : ∀ args w, (callFunc g args).run Tryz.prog w = .ok (.enter g args) w) (f : RuAct → Int) (l : List RuAct) (A : Option Addr) (c : Nat) (w : World)
 (h : Sl w w.heap.size 2 A l.length (l.flatMap cellsRuA)) (hl : l.length ≤ 1048576)
 (hp : ∀ W, ∀ x ∈ l, Below w.heap.size w W → Calls Tryz.prog g (#[.agg #[.int .i64 x.k, .int .i64 x.n]] ++ lb) W (CodePost (f x) W)) :
 Calls Tryz.prog 100 #[.slice A l.length c, .func (.func g) #[] lb] w (CodePost (firstC f l) w) := by
 have HP := Lib.hid hp
 have HD : Hid (∀ k (hk : k < l.length), l.drop k = l[k] :: l.drop (k + 1)) := fun k hk => List.drop_eq_getElem_cons hk
 clear hp
 go_enter Tryz.func100, Tryz.ntmps100
 go_wp2_with fail
 go_loopw [10] (fun i wr => ∃ k : Nat, k ≤ l.length ∧ i = .int .i64 k ∧ Below w.heap.size w wr ∧ Hid (firstC f l = firstC f (l.drop k))) (fun i _ => l.length - (intOf i).toNat)
 case atStart => exact ⟨0, Nat.zero_le _, rfl, Below.refl _ _, rfl⟩
 case round =>
  obtain ⟨k, hk, rfl, hb, hr⟩ := hrel
  by_cases hlt : k < l.length
  · obtain ⟨b, off, rfl, hbB, x0, x1⟩ := ruA_at (h.below hb) k hlt
    have hc := fun W hW => HP.out W l[k] (List.getElem_mem hlt) hW
    have hd := HD.out k hlt
    generalize l[k] = x at *
    obtain ⟨p, q⟩ := x
    dsimp only at x0 x1 hc
    have HC := Lib.hid (hc _ (hb.alloc hb.size (.cells #[.int .i64 p, .int .i64 q] 57)))
    have hz := hb.size
    clear hc
    by_cases hq : f ⟨p, q⟩ = 0
    · have HR : Hid (firstC f l = firstC f (l.drop (k + 1))) := Lib.hid (by rw [hr.out, hd, firstC, if_neg (by rw [hq]; decide)])
      rw [hq] at HC
      clear hd hr hq
      go_wp2_with (go_at_fn g; refine HC.out.mono ?_; rintro e w1 ⟨rfl, hb1⟩)
      go_roundw
      case rel => exact ⟨k + 1, by omega, by go_num, hb.trans (below_new hb1 hz), HR⟩
      case measure => simp [intOf] <;> omega
    · have HR : Hid (firstC f l = f ⟨p, q⟩) := Lib.hid (by rw [hr.out, hd, firstC, if_pos hq])
      have qn : (f ⟨p, q⟩ == 0) = false := beq_eq_false_iff_ne.2 hq
      clear hd hr hq
      generalize f ⟨p, q⟩ = cd at *
      go_wp2_with (go_at_fn g; refine HC.out.mono ?_; rintro e w1 ⟨rfl, hb1⟩)
      go_ret
      exact ⟨ret_int HR.out.symm, hb.trans (below_new hb1 hz)⟩
  · obtain rfl : k = l.length := by omega
    have HR : Hid (firstC f l = 0) := Lib.hid (by rw [hr.out, List.drop_eq_nil_of_le (Nat.le_refl _)]; rfl)
    go_wp2_with fail
    go_ret
    exact ⟨ret_int HR.out.symm, hb⟩
end Go.Proofs.YthfjmlcjkbgboaaGreatDoor
