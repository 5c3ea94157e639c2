/- The walk of audit's four. -/
import Derived.Test.YteinbjopclblaaaAudL
import Derived.Test.YteinbjopclblaaaMem2
namespace Go.Proofs.Yteinbjopclblaaa
open Go.RowKit

theorem fourV (n : Int) (h0 : 0 ≤ n) (h1 : n < 4294967296) : [Value.int .u8 (n / 16777216), .int .u8 (n / 65536 % 256), .int .u8 (n / 256 % 256), .int .u8 (n % 256)] = (fourL n).map byteV := by
  have e : n / 16777216 % 256 = n / 16777216 := by omega
  unfold fourL byteV
  simp only [List.map_cons, List.map_nil, byteN_toNat, e]
def FourPost (base : Nat) (v : Value) (l : List UInt8) (w : World) (e : Ending) (w' : World) : Prop :=
  ∃ v', e = .returned v' ∧ OwnB w' base v' l ∧ Below base w w' ∧ (∀ g, g < w.heap.size → v.ownBlock ≠ some g → w'.heap[g]? = w.heap[g]?) ∧ w.heap.size < w'.heap.size

set_option maxRecDepth 100000 in
set_option maxHeartbeats 800000 in
theorem four_any (n : Int) (h0 : 0 ≤ n) (h1 : n < 4294967296) (v : Value) (l : List UInt8) (w : World) (base : Nat) (hown : OwnB w base v l) (hbase : base ≤ w.heap.size) (hl : l.length ≤ 1048576) :
    Calls Try.prog 70 #[v, .int .i64 n] w (FourPost base v (l ++ fourL n) w) := by
  have HV := Lib.hid (fourV n h0 h1)
  go_enter Try.func70, Try.ntmps70
  go_wp2_with (at_builtin; refine wpList_append_bk rfl _ _ rfl base v l rfl (by exact hown) (by exact hbase) [.int .u8 (n / 16777216), .int .u8 (n / 65536 % 256), .int .u8 (n / 256 % 256), .int .u8 (n % 256)] (fourL n) HV.out 4 4 rfl rfl (by omega) ?_; intro v2 w2 hO hb hk hz)
  go_ret
  exact ⟨_, rfl, hO, hb, hk, hz⟩
end Go.Proofs.Yteinbjopclblaaa
