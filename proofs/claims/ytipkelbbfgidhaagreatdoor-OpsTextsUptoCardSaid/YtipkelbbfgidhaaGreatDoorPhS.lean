/- slices.Contains at edges. -/
import Derived.Test.YtipkelbbfgidhaaGreatDoorPhM
import Derived.Shelf.SlicesQ.Contains
namespace Go.Proofs.YtipkelbbfgidhaaGreatDoor
open Go.RowKit Go.Shelf Go.Lib

def edgeIn_lays_ren : Go.Shelf.Ren := ⟨fun | 6 => 94 | 7 => 72 | n => n, fun | 0 => 0 | 3 => 3 | 4 => 4 | 22 => 120 | 24 => 122 | n => n, fun n => n⟩
theorem edgeIn_lays : SlLaysQ.n7 Tryz.prog edgeIn_lays_ren := {
  mixed := by kernel_rfl
  f6 := ⟨Tryz.f94.name, by decide, Tryz.func94.trans (congrArg some (by kernel_rfl))⟩
  f7 := ⟨Tryz.f72.name, by decide, Tryz.func72.trans (congrArg some (by kernel_rfl))⟩
  t0 := Tryz.underlying0
  a0 := Tryz.isAgg0
  z0 := Tryz.sizeOf0
  v0 := Tryz.zeroValue0
  t3 := Tryz.underlying3
  a3 := Tryz.isAgg3
  z3 := Tryz.sizeOf3
  v3 := Tryz.zeroValue3
  t4 := Tryz.underlying4
  a4 := Tryz.isAgg4
  z4 := Tryz.sizeOf4
  v4 := Tryz.zeroValue4
  t22 := Tryz.underlying120
  a22 := Tryz.isAgg120
  z22 := Tryz.sizeOf120
  v22 := Tryz.zeroValue120 }
def encK (k : EdgeK) : List Value := [.int .i64 k.1, .int .u8 k.2.toNat]
set_option maxRecDepth 100000 in
theorem eqlK : EqlAt Tryz.prog 122 (fun k => .agg (encK k).toArray) (fun a b => decide (a = b)) := by
  refine ⟨fun x y w => ?_, GuardAt.agg _ (by kernel_rfl)⟩
  have hS : Tryz.prog.underlying 122 = some (.struct (Tryz.prog.fieldsOf 122)) := by kernel_rfl
  have hp : Tryz.prog.stoodInHeld 122 = false := by kernel_rfl
  have h := run_edge_eq x y w
  unfold Op.equal keyV at h
  simp only [encK]
  rw [run_eql_struct]
  exact (congrArg (fun r => Result.andThen r fun b w' => Result.ok (Value.bool b) w') h).trans rfl
theorem edge_in (b off n c : Nat) (zs : List EdgeK) (x : EdgeK) (w : World) (hz : n ≤ zs.length) (hbig : n ≤ 9223372036854775807)
    (hc : ∀ j, j < zs.length → ∀ i v, (encK zs[j]!)[i]? = some v → w.cell? ⟨b, off + j * 2 + i, none⟩ = some v) :
    Calls Tryz.prog 72 #[.slice (some ⟨b, off, none⟩) n c, keyV x] w fun e w' => e = .returned (.bool ((zs.take n).any fun y => decide (x = y))) ∧ Below w.heap.size w w' := by
  have h := AnyQ.slices_Contains edgeIn_lays 2 Tryz.isAgg122 Tryz.sizeOf122 encK (fun _ => rfl) (fun a b => decide (a = b)) eqlK b off n c zs x w hz hbig hc
  exact h
end Go.Proofs.YtipkelbbfgidhaaGreatDoor
