/- The walk of VarsNames. -/
import Derived.Test.YtchoenfclfafiaaDoorVarV
import Derived.Test.YtchoenfclfafiaaDoorOpenQ
import Derived.Test.YtchoenfclfafiaaDoorOpenG
namespace Go.Proofs.YtchoenfclfafiaaDoor
open Go.RowKit

set_option maxRecDepth 100000 in
theorem hello_any (w : World) : Calls Tryd.prog 7 #[] w fun e w' => e = .returned (.agg #[.string (ByteArray.mk #[71, 69, 84]), .string (ByteArray.mk #[47, 97, 63, 98, 61, 99]), .slice none 0 0, .string (ByteArray.mk #[])]) ∧ Below w.heap.size w w' := by
  have hb : Below w.heap.size w (w.alloc (.cells #[.string (ByteArray.mk #[71, 69, 84]), .string (ByteArray.mk #[47, 97, 63, 98, 61, 99]), .slice none 0 0, .string (ByteArray.mk #[])] 31)) := (Below.refl _ _).alloc (Nat.le_refl _) _
  go_enter Tryd.func7, Tryd.ntmps7
  go_wp2_with fail
  exact bodyPost_ret (v := .agg #[.string (ByteArray.mk #[71, 69, 84]), .string (ByteArray.mk #[47, 97, 63, 98, 61, 99]), .slice none 0 0, .string (ByteArray.mk #[])]) (by simp [results, Tryd.results7, go_sem]) rfl ⟨rfl, hb⟩
theorem only_all (l : List Pair) : onlyP l (ByteArray.mk #[]) = l := by
  unfold onlyP
  exact List.filter_eq_self.2 fun x _ => by unfold isN; rw [Lib.toList_data (ByteArray.mk #[])]; rfl
def NamRel (l : List Pair) (name : ByteArray) (W : World) (v i : Value) (wr : World) : Prop :=
  ∃ k : Nat, k ≤ l.length ∧ i = .int .i64 k ∧ v = .int .i64 ((onlyP (l.take k) name).length : Int) ∧ Below W.heap.size W wr
theorem only_len (l : List Pair) (name : ByteArray) (k : Nat) (h : k < l.length) : (onlyP (l.take (k + 1)) name).length = (onlyP (l.take k) name).length + (if isN name l[k] = true then 1 else 0) := by
  rw [onlyP_snoc l name k h, List.length_append]
  split <;> rfl

end Go.Proofs.YtchoenfclfafiaaDoor
