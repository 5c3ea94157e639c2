/- slices.Equal at hits. -/
import Derived.Test.YtipkelbbfgidhaaGreatDoorPhHi
import Derived.Shelf.SlicesQ.Equal
namespace Go.Proofs.YtipkelbbfgidhaaGreatDoor
open Go.RowKit Go.Shelf Go.Lib

def hitV (x : HitP) : Value := .agg (rowH.cells x).toArray
set_option maxRecDepth 100000 in
theorem run_hit_eq (a b : HitP) (w : World) : (Op.equal 132 (hitV a) (hitV b)).run Tryz.prog w = .ok (decide (a = b)) w := by
  have h := run_equalIn_struct (P := Tryz.prog) w 9999 132 #[.int .i64 (a.1 : Int), .int .i64 (a.2 : Int)] #[.int .i64 (b.1 : Int), .int .i64 (b.2 : Int)] (by kernel_rfl) (by kernel_rfl)
  unfold Op.equal hitV
  refine h.trans ?_
  have hf : (Tryz.prog.fieldsOf 132).toList.map (fun f => (f.name == "_", f.type, f.offset)) = [(false, 3, 0), (false, 3, 1)] := by kernel_rfl
  generalize (Tryz.prog.fieldsOf 132).toList = l at *
  match l, hf with
  | [], hf => cases hf
  | [_], hf => simp at hf
  | _ :: _ :: _ :: _, hf => simp at hf
  | [f0, f1], hf =>
    simp only [List.map_cons, List.map_nil, List.cons.injEq, Prod.mk.injEq, and_true] at hf
    obtain ⟨⟨n0, t0, o0⟩, n1, t1, o1⟩ := hf
    rw [fields_step 9999 0 3 f0 [f1] _ _ (.int .i64 (a.1 : Int)) (.int .i64 (b.1 : Int)) ((a.1 : Int) == (b.1 : Int)) w n0 t0 o0 plain_int rfl rfl (run_eqInt 9998 _ _ w)]
    rw [fields_step 9999 1 3 f1 [] _ _ (.int .i64 (a.2 : Int)) (.int .i64 (b.2 : Int)) ((a.2 : Int) == (b.2 : Int)) w n1 t1 o1 plain_int rfl rfl (run_eqInt 9998 _ _ w)]
    obtain ⟨a1, a2⟩ := a
    obtain ⟨b1, b2⟩ := b
    by_cases e1 : a1 = b1
    · by_cases e2 : a2 = b2
      · subst e1; subst e2; simp [Op.eqFields]
      · have : ((a2 : Int) == (b2 : Int)) = false := beq_eq_false_iff_ne.2 (by omega)
        simp [e1, e2, this]
    · have : ((a1 : Int) == (b1 : Int)) = false := beq_eq_false_iff_ne.2 (by omega)
      simp [e1, this]
set_option maxRecDepth 100000 in
theorem neqH : NeqAt Tryz.prog 132 (fun k => .agg (rowH.cells k).toArray) (fun a b => decide (a = b)) := by
  refine ⟨fun x y w => ?_, GuardAt.agg _ (by kernel_rfl)⟩
  have h := run_hit_eq x y w
  unfold Op.equal hitV at h
  rw [run_neq_struct]
  exact (congrArg (fun r => Result.andThen r fun b w' => Result.ok (Value.bool (!b)) w') h).trans rfl
theorem allEq_self (l : List HitP) : Lib.allEq (fun a b => decide (a = b)) l l = true := by
  rw [Lib.allEq_all _ l l rfl (fun j hj => by simp)]
end Go.Proofs.YtipkelbbfgidhaaGreatDoor
