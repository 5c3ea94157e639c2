/- The walks of nets.mask, nets.Parse, nets.In. -/
import Derived.Test.YtchoenfclfafiaaDoorNetL
import Derived.Test.YtchoenfclfafiaaDoorSetN
import Derived.Test.YtchoenfclfafiaaDoorShelf
import Derived.Deep.CutRange
import Derived.Deep.QuietTactic
import Derived.BigQuiet
namespace Go.Proofs.YtchoenfclfafiaaDoor
open Go.RowKit

theorem mask_val : ∀ k : Nat, k ≤ 32 → IntKind.u32.wrap (IntKind.u64.wrap (4294967295 * 2 ^ (32 - k))) = ((4294967296 - 2 ^ (32 - k) : Nat) : Int) := by
  have h : ((List.range 33).all fun k => IntKind.u32.wrap (IntKind.u64.wrap (4294967295 * 2 ^ (32 - k))) == ((4294967296 - 2 ^ (32 - k) : Nat) : Int)) = true := by decide +kernel
  intro k hk
  exact beq_iff_eq.1 (List.all_eq_true.1 h k (List.mem_range.2 (by omega)))
set_option maxRecDepth 100000 in
set_option maxHeartbeats 800000 in
theorem mask_any (b : Int) (w : World) : Calls Tryd.prog 55 #[.int .i64 b] w fun e w' => e = .returned (.int .u32 (maskN b : Nat)) ∧ w' = w := by
  obtain ⟨k, hk⟩ : ∃ k : Nat, min (max b 0) 32 = (k : Int) := ⟨(min (max b 0) 32).toNat, by omega⟩
  have hk32 : k ≤ 32 := by omega
  have HM : Hid (((maskN b : Nat) : Int) = IntKind.u32.wrap (IntKind.u64.wrap (4294967295 * 2 ^ (32 - k)))) := by
    unfold Hid
    rw [mask_val k hk32]
    unfold maskN topN
    rw [hk]
    rfl
  have i1 : IntKind.i64.wrap (32 - (k : Int)) = 32 - (k : Int) := IntWalk.i64_in _ (by omega)
  have i2 : (32 - (k : Int)).toNat = 32 - k := by omega
  have i3 : (0 : Int) ≤ 32 - (k : Int) := by omega
  have i4 : 32 - (k : Int) ≤ 64 := by omega
  go_enter Tryd.func55, Tryd.ntmps55
  go_wp2_with fail
  go_ret
  exact ⟨ret_int (by rw [HM.out]; exact (IntKind.wrap_u32' _).symm), rfl⟩

def netV : Except Int (Nat × Int) → Value
  | .error x => .tuple #[.agg #[.int .u32 0, .int .i64 0], .int .i64 x]
  | .ok (a, b) => .tuple #[.agg #[.int .u32 (a : Int), .int .i64 b], .int .i64 0]
def NParsePost (l : List UInt8) (w : World) (e : Ending) (w' : World) : Prop := e = .returned (netV (netP l)) ∧ Below w.heap.size w w'
def NetAt (R : Nat) (a b : Int) (w : World) : Prop := w.heap[R]? = some (.cells #[.int .u32 a, .int .i64 b] 82 (0, 0))
theorem NetAt.cells {R : Nat} {a b : Int} {w : World} (h : NetAt R a b w) : w.cell? ⟨R, 0, none⟩ = some (.int .u32 a) ∧ w.cell? ⟨R, 1, none⟩ = some (.int .i64 b) :=
  ⟨cell_of_row w _ 0 _ _ _ h, cell_of_row w _ 1 _ _ _ h⟩
theorem NetAt.free {R : Nat} {a b : Int} {w : World} (h : NetAt R a b w) (j : Nat) : w.frozen? ⟨R, j, none⟩ = false := by
  unfold NetAt at h
  simp [World.frozen?, h]
theorem NetAt.below {R B : Nat} {a b : Int} {w w' : World} (h : NetAt R a b w) (hb : Below B w w') (hR : R < B) : NetAt R a b w' := (hb.block R hR).trans h
theorem NetAt.put {R : Nat} {a b : Int} {w : World} (h : NetAt R a b w) (x : Int) : NetAt R x b (w.setCell ⟨R, 0, none⟩ (.int .u32 x)) := by
  unfold NetAt at h ⊢
  simp [World.setCell, Array.getElem?_modify, h]
theorem NetAt.lt {R : Nat} {a b : Int} {w : World} (h : NetAt R a b w) : R < w.heap.size := by
  unfold NetAt at h
  rw [Array.getElem?_eq_some_iff] at h
  exact h.1
/-- A row of strings that is known whole. -/
def RowsT (w : World) (g : Nat) (ps : List ByteArray) : Prop := w.heap[g]? = some (.cells (ps.map Value.string).toArray 9 (0, 0))
theorem RowsT.cell {w : World} {g : Nat} {ps : List ByteArray} (h : RowsT w g ps) (j : Nat) (hj : j < ps.length) : w.cell? ⟨g, j, none⟩ = some (.string ps[j]) := by
  have := cell_of_row w g j _ _ (0, 0) h
  rw [this]
  simp [hj]
theorem RowsT.below {B : Nat} {w w' : World} {g : Nat} {ps : List ByteArray} (h : RowsT w g ps) (hb : Below B w w') (hg : g < B) : RowsT w' g ps := (hb.block g hg).trans h
def NRel (ls : List (List UInt8)) (b : Int) (W4 : World) (i : Value) (wr : World) : Prop :=
  ∃ (k acc : Nat), k ≤ ls.length ∧ i = .int .i64 k ∧ acc < 4294967296 ∧ Hid (numsR ls 0 = numsR (ls.drop k) acc) ∧ NetAt W4.heap.size (acc : Int) b wr ∧ Below W4.heap.size W4 wr
theorem or_step (acc n : Nat) (hn : n < 256) : bits .or .u32 (IntKind.u32.wrap ((acc : Int) * 256)) (n : Int) = (((acc * 256 + n) % 4294967296 : Nat) : Int) := by
  have e : IntKind.u32.wrap ((acc : Int) * 256) = ((acc * 256 % 4294967296 : Nat) : Int) := by rw [IntKind.wrap_u32']; omega
  rw [e, u32_or_nat _ _ (Nat.mod_lt _ (by decide)) (by omega), nat_join 8 _ _ (by simp only [Nat.reducePow]; omega) (by simp only [Nat.reducePow]; omega)]
  omega

end Go.Proofs.YtchoenfclfafiaaDoor
