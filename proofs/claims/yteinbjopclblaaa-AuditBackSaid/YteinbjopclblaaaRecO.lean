/- An argument that is a list of records opened. -/
import Derived.Test.YteinbjopclblaaaRecs
import Derived.Test.YteinbjopclblaaaOpenU
namespace Go.Proofs.Yteinbjopclblaaa
open Go.RowKit Go.ChangeShapes Go.WideShapes Go.Deep

section
variable {H : Type} {enc : TypeId × Value → H} {P : Program} {w : World} {base : Nat} {spare : Nat → Bool} {held : Bool}
theorem trod_struct6 {t : TypeId} {f0 f1 f2 f3 f4 f5 : Field} {fuel : Nat} {cs : List Value} {x : DataW H × List MemPlace} (ht : P.underlying t = some (.struct #[f0, f1, f2, f3, f4, f5])) (h : DataW.trod enc P w base spare held fuel t cs = some x) :
    ∃ y0 y1 y2 y3 y4 y5 n, x.1 = .agg [y0.1, y1.1, y2.1, y3.1, y4.1, y5.1] ∧ cs.length = P.cellsOf t ∧ DataW.trod enc P w base spare held n f0.type ((cs.drop f0.offset).take (P.cellsOf f0.type)) = some y0 ∧
      DataW.trod enc P w base spare held n f1.type ((cs.drop f1.offset).take (P.cellsOf f1.type)) = some y1 ∧ DataW.trod enc P w base spare held n f2.type ((cs.drop f2.offset).take (P.cellsOf f2.type)) = some y2 ∧
      DataW.trod enc P w base spare held n f3.type ((cs.drop f3.offset).take (P.cellsOf f3.type)) = some y3 ∧ DataW.trod enc P w base spare held n f4.type ((cs.drop f4.offset).take (P.cellsOf f4.type)) = some y4 ∧
      DataW.trod enc P w base spare held n f5.type ((cs.drop f5.offset).take (P.cellsOf f5.type)) = some y5 := by
  obtain ⟨xs, n, _, rfl, hl, hlen, hf⟩ := DataW.trod_struct ht h
  match xs, hlen with
  | [y0, y1, y2, y3, y4, y5], _ => exact ⟨y0, y1, y2, y3, y4, y5, n, by simp, hl, by simpa using hf 0 f0 rfl, by simpa using hf 1 f1 rfl, by simpa using hf 2 f2 rfl, by simpa using hf 3 f3 rfl, by simpa using hf 4 f4 rfl, by simpa using hf 5 f5 rfl⟩
end
theorem cells_six {α : Type} {l : List α} (h : l.length = 6) : ∃ a b c d e f, l = [a, b, c, d, e, f] := by
  match l, h with
  | [a, b, c, d, e, f], _ => exact ⟨a, b, c, d, e, f, rfl⟩
theorem cellsOf_i : Try.prog.cellsOf 3 = 1 := by kernel_rfl
theorem cellsOf_ints : Try.prog.cellsOf 49 = 1 := by kernel_rfl
theorem cellsOf_rec : Try.prog.cellsOf 51 = 6 := by kernel_rfl
structure RCD (H : Type) where
  rc : RC
  dat : DataW H
theorem open_ints_trod {H : Type} {enc : TypeId × Value → H} {w : World} {base : Nat} {spare : Nat → Bool} {held : Bool} {fuel : Nat} {cs : List Value} {x : DataW H × List MemPlace}
    (h : DataW.trod enc Try.prog w base spare held fuel 49 cs = some x) :
    ∃ (A : Option Addr) (c : Nat) (zs : List Int), cs = [.slice A zs.length c] ∧ zs.length ≤ maxLen ∧ Sl w w.heap.size 1 A zs.length (zs.map (Value.int .i64)) := by
  obtain ⟨A, len, c, l, h1, h2, h3, h4, _, h6, _⟩ := open_list 1 (fun z : Int => [Value.int .i64 z]) (fun z => (.lit (.int .i64 z) : DataW H)) (fun _ => True) Try.underlying49 cellsOf_i (fun _ => rfl)
    (fun n cs' y hy => by
      obtain ⟨k, e0, hy1, _⟩ := DataW.trod_int Try.underlying3 hy
      exact ⟨k, e0, by rw [hy1], trivial⟩) h
  subst h2
  refine ⟨A, c, l, h1, by omega, ?_⟩
  have : ∀ l : List Int, l.flatMap (fun z : Int => [Value.int .i64 z]) = l.map (Value.int .i64) := fun l => by
    induction l with
    | nil => rfl
    | cons a r ih => rw [List.flatMap_cons, ih]; rfl
  rw [this] at h6
  exact h6
/-- What such an argument tells. -/
structure RArg where
  A : Option Addr
  c : Nat
  l : List RC
structure RecsArg (W : World) (v : Value) (a : RArg) : Prop where
  val : v = .slice a.A a.l.length a.c
  sl : Sl W W.heap.size 6 a.A a.l.length (a.l.flatMap cellsR)
  all : ∀ x ∈ a.l, RcIn W W.heap.size x
def RecsDat {H : Type} (a : RArg) (d : DataW H) : Prop := (d = .nil ∧ a.l = []) ∨ ∃ dl sp, d = .slice dl sp ∧ dl.length = a.l.length
theorem records_bulk {H : Type} {a : RArg} {d : DataW H} (h : RecsDat a d) (hb : Rows.uptoBulk d ≤ 1048576) : a.l.length ≤ 1048576 := by
  rcases h with ⟨_, h⟩ | ⟨dl, sp, rfl, h⟩
  · rw [h]; exact Nat.zero_le _
  · have := slice_bulk (l := dl) (sp := sp); omega
theorem bytesOf_rec : Try.prog.bytesOf 51 = 72 := by kernel_rfl
theorem records_small {H : Type} {a : RArg} {d : DataW H} (h : RecsDat a d) (hs : (d.weights Try.prog 78).all (· ≤ reachBytes) = true) : a.l.length * 72 ≤ 140737488351232 := by
  rcases h with ⟨_, h⟩ | ⟨dl, sp, rfl, h⟩
  · rw [h]; exact Nat.zero_le _
  · have h2 := List.all_eq_true.1 hs ((dl.length + sp.length) * 72) (by simp [DataW.weights, Try.underlying78, bytesOf_rec])
    have h3 : (dl.length + sp.length) * 72 ≤ reachBytes := by simpa using h2
    have : reachBytes = 140737488351232 := by decide
    omega
set_option maxRecDepth 100000 in
theorem open_records {H : Type} {enc : TypeId × Value → H} {w : World} {base : Nat} {spare : Nat → Bool} {held : Bool} {v : Value} {d : DataW H} {p : List MemPlace} {r : Reach} {b0 : Nat}
    (hv : Value.okWide Try.prog w r b0 78 v) (h0 : DataW.Trod enc Try.prog w base spare held 78 v d p) :
    ∃ a, RecsArg w v a ∧ RecsDat a d := by
  obtain ⟨a, len0, cap, rfl⟩ := okWide_slice Try.underlying78 hv
  obtain ⟨fuel, h⟩ := h0
  obtain ⟨A, len, c, l, h1, h2, _, _, h5, h6, h7⟩ := open_list 6 (fun a : RCD H => cellsR a.rc) RCD.dat (fun a => RcIn w w.heap.size a.rc) Try.underlying78 cellsOf_rec (fun _ => rfl)
    (fun n cs' y hy => by
      obtain ⟨y0, y1, y2, y3, y4, y5, n', hx, hl, g0, g1, g2, g3, g4, g5⟩ := trod_struct6 Try.underlying51 hy
      rw [cellsOf_rec] at hl
      obtain ⟨c0, c1, c2, c3, c4, c5, rfl⟩ := cells_six hl
      rw [cellsOf_i] at g0 g1 g2 g3
      rw [cellsOf_ints] at g4
      rw [cellsOf_str] at g5
      obtain ⟨k0, e0, _, _⟩ := DataW.trod_int Try.underlying3 g0
      obtain ⟨k1, e1, _, _⟩ := DataW.trod_int Try.underlying3 g1
      obtain ⟨k2, e2, _, _⟩ := DataW.trod_int Try.underlying3 g2
      obtain ⟨k3, e3, _, _⟩ := DataW.trod_int Try.underlying3 g3
      obtain ⟨A4, c4', zs, e4, hz, hs⟩ := open_ints_trod g4
      obtain ⟨s, e5, _, _⟩ := DataW.trod_string Try.underlying9 g5
      have q0 : c0 = .int .i64 k0 := by injection e0
      have q1 : c1 = .int .i64 k1 := by injection e1
      have q2 : c2 = .int .i64 k2 := by injection e2
      have q3 : c3 = .int .i64 k3 := by injection e3
      have q4 : c4 = .slice A4 zs.length c4' := by injection e4
      have q5 : c5 = .string s := by injection e5
      subst q0; subst q1; subst q2; subst q3; subst q4; subst q5
      exact ⟨⟨⟨⟨k0, k1, k2, k3, zs, s.data.toList⟩, A4, c4'⟩, y.1⟩, rfl, rfl, hs, by unfold maxLen at hz; omega⟩) h
  subst h2
  have hflat : l.flatMap (fun a => cellsR a.rc) = (l.map RCD.rc).flatMap cellsR := by rw [List.flatMap_map]
  have hv1 : Value.slice a len0 cap = .slice A l.length c := by injection h1
  refine ⟨⟨A, c, l.map RCD.rc⟩, ⟨by rw [hv1, List.length_map], ?_, ?_⟩, ?_⟩
  · show Sl w w.heap.size 6 A (l.map RCD.rc).length ((l.map RCD.rc).flatMap cellsR)
    rw [List.length_map, ← hflat]; exact h6
  · intro x hx
    obtain ⟨y, hy, rfl⟩ := List.mem_map.1 hx
    exact h5 y hy
  · rcases h7 with ⟨e, rfl⟩ | ⟨sp, h7⟩
    · exact .inl ⟨e, rfl⟩
    · exact .inr ⟨l.map RCD.dat, sp, h7, by rw [List.length_map]; exact (List.length_map _).symm⟩
end Go.Proofs.Yteinbjopclblaaa
