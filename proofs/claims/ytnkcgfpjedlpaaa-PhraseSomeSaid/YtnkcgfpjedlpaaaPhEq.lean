/- slices.Equal at hits. -/
import Derived.Test.YtnkcgfpjedlpaaaPhHi
import Derived.Shelf.SlicesQ.Equal
namespace Go.Proofs.Ytnkcgfpjedlpaaa
open Go.RowKit Go.Shelf Go.Lib

def hitEq_lays_ren : Go.Shelf.Ren := ⟨fun | 8 => 7 | n => n, fun | 0 => 0 | 3 => 3 | 4 => 4 | 22 => 23 | 24 => 31 | n => n, fun n => n⟩
theorem hitEq_lays : SlLaysQ.n8 Try.prog hitEq_lays_ren := {
  mixed := by kernel_rfl
  f8 := ⟨Try.f7.name, by decide, Try.func7.trans (congrArg some (by kernel_rfl))⟩
  t0 := Try.underlying0
  a0 := Try.isAgg0
  z0 := Try.sizeOf0
  v0 := Try.zeroValue0
  t3 := Try.underlying3
  a3 := Try.isAgg3
  z3 := Try.sizeOf3
  v3 := Try.zeroValue3
  t4 := Try.underlying4
  a4 := Try.isAgg4
  z4 := Try.sizeOf4
  v4 := Try.zeroValue4
  t22 := Try.underlying23
  a22 := Try.isAgg23
  z22 := Try.sizeOf23
  v22 := Try.zeroValue23 }
def hitV (x : HitP) : Value := .agg (rowH.cells x).toArray
set_option maxRecDepth 100000 in
theorem run_hit_eq (a b : HitP) (w : World) : (Op.equal 31 (hitV a) (hitV b)).run Try.prog w = .ok (decide (a = b)) w := by
  have h := run_equalIn_struct (P := Try.prog) w 9999 31 #[.int .i64 (a.1 : Int), .int .i64 (a.2 : Int)] #[.int .i64 (b.1 : Int), .int .i64 (b.2 : Int)] (by kernel_rfl) (by kernel_rfl)
  unfold Op.equal hitV
  refine h.trans ?_
  have hf : (Try.prog.fieldsOf 31).toList.map (fun f => (f.name == "_", f.type, f.offset)) = [(false, 3, 0), (false, 3, 1)] := by kernel_rfl
  generalize (Try.prog.fieldsOf 31).toList = l at *
  match l, hf with
  | [], hf => cases hf
  | [_], hf => simp at hf
  | _ :: _ :: _ :: _, hf => simp at hf
  | [f0, f1], hf =>
    simp only [List.map_cons, List.map_nil, List.cons.injEq, Prod.mk.injEq, and_true] at hf
    obtain ⟨⟨n0, t0, o0⟩, n1, t1, o1⟩ := hf
    rw [fields_step 9999 0 3 f0 [f1] _ _ (.int .i64 (a.1 : Int)) (.int .i64 (b.1 : Int)) ((a.1 : Int) == (b.1 : Int)) w n0 t0 o0 plain_int rfl rfl (run_eqInt 9998 _ _ w)]
    rw [fields_step 9999 1 3 f1 [] _ _ (.int .i64 (a.2 : Int)) (.int .i64 (b.2 : Int)) ((a.2 : Int) == (b.2 : Int)) w n1 t1 o1 plain_int rfl rfl (run_eqInt 9998 _ _ w)]
    obtain ⟨a1, a2⟩ := a
    obtain ⟨b1, b2⟩ := b
    by_cases e1 : a1 = b1
    · by_cases e2 : a2 = b2
      · subst e1; subst e2; simp [Op.eqFields]
      · have : ((a2 : Int) == (b2 : Int)) = false := beq_eq_false_iff_ne.2 (by omega)
        simp [e1, e2, this]
    · have : ((a1 : Int) == (b1 : Int)) = false := beq_eq_false_iff_ne.2 (by omega)
      simp [e1, this]
set_option maxRecDepth 100000 in
theorem neqH : NeqAt Try.prog 31 (fun k => .agg (rowH.cells k).toArray) (fun a b => decide (a = b)) := by
  refine ⟨fun x y w => ?_, GuardAt.agg _ (by kernel_rfl)⟩
  have h := run_hit_eq x y w
  unfold Op.equal hitV at h
  rw [run_neq_struct]
  exact (congrArg (fun r => Result.andThen r fun b w' => Result.ok (Value.bool (!b)) w') h).trans rfl
theorem allEq_self (l : List HitP) : Lib.allEq (fun a b => decide (a = b)) l l = true := by
  rw [Lib.allEq_all _ l l rfl (fun j hj => by simp)]
theorem hits_equal {w : World} {B1 B2 : Nat} {A1 A2 : Option Addr} {c1 c2 : Nat} {l : List HitP} (hl : l.length ≤ 250000) (h1 : Sl w B1 2 A1 l.length (l.flatMap rowH.cells)) (h2 : Sl w B2 2 A2 l.length (l.flatMap rowH.cells)) :
    Calls Try.prog 7 #[.slice A1 l.length c1, .slice A2 l.length c2] w fun e w' => e = .returned (.bool true) ∧ ∃ q, w' = w.drewN q := by
  have hfl := flat_len rowH.cells 2 (fun _ => rfl) l
  rcases Nat.eq_zero_or_pos l.length with h0 | h0
  · obtain rfl : l = [] := List.eq_nil_of_length_eq_zero h0
    go_enter Try.func7, Try.ntmps7
    go_wp2_with fail
    go_loopw [13] (fun v wr => v = .int .i64 0 ∧ wr = w) (fun _ _ => 0)
    case atStart => exact ⟨rfl, rfl⟩
    case round =>
      obtain ⟨rfl, rfl⟩ := hrel
      go_wp2_with fail
      go_ret
      exact ⟨rfl, 0, rfl⟩
  · obtain ⟨b1, o1, rfl, _, hc1⟩ := h1.src (by omega)
    obtain ⟨b2, o2, rfl, _, hc2⟩ := h2.src (by omega)
    have hcell : ∀ (b o : Nat), (∀ j (h : j < (l.flatMap rowH.cells).length), w.cell? ⟨b, o + j, none⟩ = some (l.flatMap rowH.cells)[j]) → ∀ j, j < l.length → ∀ i v, (rowH.cells l[j]!)[i]? = some v → w.cell? ⟨b, o + j * 2 + i, none⟩ = some v := fun b o hc j hj i v hi => by
      have hi2 : i < 2 := (List.getElem?_eq_some_iff.1 hi).1
      have hf := flat_at rowH.cells 2 (fun _ => rfl) l j i hj hi2
      have hlt : j * 2 + i < (l.flatMap rowH.cells).length := by omega
      rw [Nat.add_assoc, hc _ hlt]
      rw [List.getElem?_eq_getElem hlt] at hf
      rw [hf]
      rw [getElem!_pos l j hj] at hi
      exact hi
    have := AnyQ.slices_Equal hitEq_lays 2 Try.isAgg31 Try.sizeOf31 rowH.cells (fun _ => rfl) (fun a b => decide (a = b)) neqH b1 o1 l.length c1 b2 o2 l.length c2 l l w (Nat.le_refl _) (Nat.le_refl _) (by omega) (by omega) (hcell b1 o1 hc1) (hcell b2 o2 hc2)
    rw [List.take_of_length_le (Nat.le_refl _), allEq_self] at this
    exact this
end Go.Proofs.Ytnkcgfpjedlpaaa
