/- slices.Contains at edges. -/
import Derived.Test.YtnkcgfpjedlpaaaPhM
import Derived.Shelf.SlicesQ.Contains
namespace Go.Proofs.Ytnkcgfpjedlpaaa
open Go.RowKit Go.Shelf Go.Lib

def edgeIn_lays_ren : Go.Shelf.Ren := ⟨fun | 6 => 35 | 7 => 26 | n => n, fun | 0 => 0 | 3 => 3 | 4 => 4 | 22 => 63 | 24 => 60 | n => n, fun n => n⟩
theorem edgeIn_lays : SlLaysQ.n7 Try.prog edgeIn_lays_ren := {
  mixed := by kernel_rfl
  f6 := ⟨Try.f35.name, by decide, Try.func35.trans (congrArg some (by kernel_rfl))⟩
  f7 := ⟨Try.f26.name, by decide, Try.func26.trans (congrArg some (by kernel_rfl))⟩
  t0 := Try.underlying0
  a0 := Try.isAgg0
  z0 := Try.sizeOf0
  v0 := Try.zeroValue0
  t3 := Try.underlying3
  a3 := Try.isAgg3
  z3 := Try.sizeOf3
  v3 := Try.zeroValue3
  t4 := Try.underlying4
  a4 := Try.isAgg4
  z4 := Try.sizeOf4
  v4 := Try.zeroValue4
  t22 := Try.underlying63
  a22 := Try.isAgg63
  z22 := Try.sizeOf63
  v22 := Try.zeroValue63 }
def encK (k : EdgeK) : List Value := [.int .i64 k.1, .int .u8 k.2.toNat]
set_option maxRecDepth 100000 in
theorem eqlK : EqlAt Try.prog 60 (fun k => .agg (encK k).toArray) (fun a b => decide (a = b)) := by
  refine ⟨fun x y w => ?_, GuardAt.agg _ (by kernel_rfl)⟩
  have hS : Try.prog.underlying 60 = some (.struct (Try.prog.fieldsOf 60)) := by kernel_rfl
  have hp : Try.prog.stoodInHeld 60 = false := by kernel_rfl
  have h := run_edge_eq x y w
  unfold Op.equal keyV at h
  simp only [encK]
  rw [run_eql_struct]
  exact (congrArg (fun r => Result.andThen r fun b w' => Result.ok (Value.bool b) w') h).trans rfl
theorem edge_in (b off n c : Nat) (zs : List EdgeK) (x : EdgeK) (w : World) (hz : n ≤ zs.length) (hbig : n ≤ 9223372036854775807)
    (hc : ∀ j, j < zs.length → ∀ i v, (encK zs[j]!)[i]? = some v → w.cell? ⟨b, off + j * 2 + i, none⟩ = some v) :
    Calls Try.prog 26 #[.slice (some ⟨b, off, none⟩) n c, keyV x] w fun e w' => e = .returned (.bool ((zs.take n).any fun y => decide (x = y))) ∧ Below w.heap.size w w' := by
  have h := AnyQ.slices_Contains edgeIn_lays 2 Try.isAgg60 Try.sizeOf60 encK (fun _ => rfl) (fun a b => decide (a = b)) eqlK b off n c zs x w hz hbig hc
  exact h
end Go.Proofs.Ytnkcgfpjedlpaaa
