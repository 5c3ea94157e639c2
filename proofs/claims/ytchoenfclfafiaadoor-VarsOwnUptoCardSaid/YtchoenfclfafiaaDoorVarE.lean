/- The walk of slices.Equal at variables (equal rows); an argument that is a list of variables opened. -/
import Derived.Test.YtchoenfclfafiaaDoorVarA
import Derived.Test.YtchoenfclfafiaaDoorOpen
import Derived.Test.YtchoenfclfafiaaDoorOpenU
import Derived.Test.YtchoenfclfafiaaDoorUnqW
import Derived.Laws.StructEq
import Derived.BigRegion
import Derived.BigQuiet
import Derived.Deep.QuietTactic
namespace Go.Proofs.YtchoenfclfafiaaDoor
open Go.RowKit Go.ChangeShapes Go.WideShapes Go.Deep

set_option maxRecDepth 100000 in
set_option maxHeartbeats 800000 in
theorem EqualQv_yes (l : List VarV) (A1 A2 : Option Addr) (c1 c2 : Nat) (w : World) (h1 : Sl w w.heap.size 3 A1 l.length (l.flatMap cellsQ)) (h2 : Sl w w.heap.size 3 A2 l.length (l.flatMap cellsQ)) (hl : l.length ≤ 4398046511104) :
    Calls Tryd.prog 10 #[.slice A1 l.length c1, .slice A2 l.length c2] w fun e w' => e = .returned (.bool true) ∧ Below w.heap.size w w' := by
  generalize hn : l.length = n at *
  have HN := Lib.hid hn
  clear hn
  go_enter Tryd.func10, Tryd.ntmps10
  go_wp2_with fail
  go_loopw [13] (fun i wr => ∃ k : Nat, k ≤ n ∧ i = .int .i64 k ∧ Below w.heap.size w wr) (fun i _ => n - (intOf i).toNat)
  case atStart => exact ⟨0, Nat.zero_le _, rfl, Below.refl _ _⟩
  case round =>
    obtain ⟨k, hk, rfl, hb⟩ := hrel
    by_cases hlt : k < n
    · have q1 : k < l.length := by rw [HN.out]; exact hlt
      obtain ⟨b, off, rfl, hbB, x0, x1, x2⟩ := var_at (h1.below hb) k q1
      obtain ⟨b', off', rfl, hbB', y0, y1, y2⟩ := var_at (h2.below hb) k q1
      generalize l[k] = X at *
      obtain ⟨p, q, r⟩ := X
      dsimp only at x0 x1 x2 y0 y1 y2
      have i1 : (k : Int) < (n : Int) := by omega
      have i2 : IntKind.i64.wrap ((k : Int) + 1) = (k : Int) + 1 := IntWalk.i64_in _ (by omega)
      have i3 : (0 : Int) ≤ (k : Int) := by omega
      have e1 : (p == p) = true := by simp
      have e2 : (q == q) = true := by simp
      have e3 : (r.toList == r.toList) = true := by simp
      have HBB := Lib.hid hb
      clear hb
      go_wp2_with fail
      go_quiet (fail)
      go_wp2_with fail
      exact ⟨⟨k + 1, by omega, rfl, below_drewN HBB.out nq⟩, by dsimp only [intOf]; omega⟩
    · obtain rfl : k = n := by omega
      go_wp2_with fail
      go_ret
      exact ⟨rfl, hb⟩

structure QArg where
  A : Option Addr
  c : Nat
  l : List VarV
structure VarsArg (W : World) (v : Value) (a : QArg) : Prop where
  val : v = .slice a.A a.l.length a.c
  sl : Sl W W.heap.size 3 a.A a.l.length (a.l.flatMap cellsQ)
def varD {H : Type} (f : VarV) : DataW H := .agg [.lit (.int .i64 f.k), .lit (.int .i64 f.m), .lit (.string f.n.data.toList)]
def VarsDat {H : Type} (a : QArg) (d : DataW H) : Prop := (d = .nil ∧ a.l = []) ∨ ∃ sp, d = .slice (a.l.map varD) sp
theorem vars_bulk {H : Type} {a : QArg} {d : DataW H} (h : VarsDat a d) (hb : Rows.uptoBulk d ≤ 1048576) : a.l.length ≤ 1048576 := by
  rcases h with ⟨_, h⟩ | ⟨sp, rfl⟩
  · rw [h]; exact Nat.zero_le _
  · have := slice_bulk (l := a.l.map fun z => (varD z : DataW H)) (sp := sp)
    rw [List.length_map] at this
    have e : (a.l.map fun f => (varD f : DataW H)) = a.l.map varD := rfl
    rw [e] at this
    omega
theorem cellsOf_intQ : Tryd.prog.cellsOf 3 = 1 := by kernel_rfl
theorem cellsOf_strQ : Tryd.prog.cellsOf 9 = 1 := by kernel_rfl
theorem cellsOf_varQ : Tryd.prog.cellsOf 26 = 3 := by kernel_rfl
theorem list_threeQ {α : Type} {l : List α} (h : l.length = 3) : ∃ a b c, l = [a, b, c] := by
  match l, h with
  | [a, b, c], _ => exact ⟨a, b, c, rfl⟩
set_option maxRecDepth 100000 in
theorem open_vars {H : Type} {enc : TypeId × Value → H} {W : World} {base b0 : Nat} {r : Reach} {spare : Nat → Bool} {held : Bool} {v : Value} {d : DataW H} {p : List MemPlace}
    (hv : Value.okWide Tryd.prog W r b0 22 v) (h : DataW.Trod enc Tryd.prog W base spare held 22 v d p) :
    ∃ a, VarsArg W v a ∧ VarsDat a d := by
  obtain ⟨a, len0, cap, rfl⟩ := okWide_slice Tryd.underlying22 hv
  obtain ⟨fuel, h⟩ := h
  obtain ⟨A, len, c, l, h1, h2, h3, _, _, h6, h7⟩ := open_list 3 cellsQ varD (fun _ => True) Tryd.underlying22 cellsOf_varQ (fun _ => rfl)
    (fun n cs' y hy => by
      obtain ⟨y0, y1, y2, n', hx, hl, h0, h1, h2⟩ := trod_struct3 Tryd.underlying26 hy
      rw [cellsOf_varQ] at hl
      obtain ⟨c0, c1, c2, rfl⟩ := list_threeQ hl
      rw [cellsOf_intQ] at h0 h1
      rw [cellsOf_strQ] at h2
      obtain ⟨s0, e0, x0, z0⟩ := DataW.trod_int Tryd.underlying3 h0
      obtain ⟨s1, e1, x1, z1⟩ := DataW.trod_int Tryd.underlying3 h1
      obtain ⟨s2, e2, x2, z2⟩ := DataW.trod_string Tryd.underlying9 h2
      injection e0 with e0 _
      injection e1 with e1 _
      injection e2 with e2 _
      subst e0; subst e1; subst e2; subst x0; subst x1; subst x2; subst hx
      exact ⟨⟨s0, s1, s2⟩, rfl, rfl, trivial⟩) h
  subst h2
  have h1 : [Value.slice a len0 cap] = [Value.slice A l.length c] := h1
  exact ⟨⟨A, c, l⟩, ⟨(List.cons.inj h1).1, h6⟩, h7⟩
end Go.Proofs.YtchoenfclfafiaaDoor
