/- The walk of args.Form. -/
import Derived.Test.YtchoenfclfafiaaArgA
import Derived.Test.YtchoenfclfafiaaCod
import Derived.Test.YtchoenfclfafiaaShelf
namespace Go.Proofs.Ytchoenfclfafiaa
open Go.RowKit

def argP (x : List UInt8) : Pair := (bs (urlDecL (Lib.cut x [61]).1), bs (urlDecL (Lib.cut x [61]).2.1))
def accP (ps : List (List UInt8)) : List Pair := (ps.filter fun x => !x.isEmpty).map argP
def formP (l : List UInt8) : List Pair := accP (splL 38 l)
theorem formP_len (l : List UInt8) : (formP l).length ≤ l.length := by
  unfold formP accP
  rw [List.length_map]
  exact splL_some 38 l
theorem formP_append (s t : List UInt8) : formP (s ++ 38 :: t) = formP s ++ formP t := by
  unfold formP accP
  rw [splL_append, List.filter_append, List.map_append]
theorem accP_step (ps : List (List UInt8)) (k : Nat) (h : k < ps.length) : accP (ps.take (k + 1)) = accP (ps.take k) ++ (if ps[k].isEmpty then [] else [argP ps[k]]) := by
  unfold accP
  rw [List.take_succ_eq_append_getElem h, List.filter_append, List.map_append]
  congr 1
  cases ps[k] with
  | nil => rfl
  | cons b x => rfl
theorem accP_le (ps : List (List UInt8)) (k : Nat) : (accP (ps.take k)).length ≤ (accP ps).length := by
  unfold accP
  rw [List.length_map, List.length_map]
  exact ((List.take_sublist k ps).filter _).length_le
theorem accP_all (ps : List (List UInt8)) : accP (ps.take ps.length) = accP ps := by rw [List.take_length]

theorem below_undrewN {B n : Nat} {W w' : World} (hb : Below B (W.drewN n) w') : Below B W w' := ⟨hb.os, hb.tape, hb.output, hb.size, hb.block⟩
def FormRel (ps : List (List UInt8)) (most : Int) (w w1 : World) (v i : Value) (wr : World) : Prop :=
  ∃ k : Nat, k ≤ ps.length ∧ i = .int .i64 k ∧ OwnA wr (w.heap.size + 1) v (accP (ps.take k)) ∧ Hid ((accP (ps.take k)).length ≤ most.toNat) ∧ Below (w.heap.size + 1) w1 wr
def FormPost (l : List UInt8) (w : World) (e : Ending) (w' : World) : Prop :=
  ∃ v, e = .returned (.tuple #[v, .int .i64 0]) ∧ OwnA w' w.heap.size v (formP l) ∧ Below w.heap.size w w'
def FormPost2 (most : Int) (l : List UInt8) (w : World) (e : Ending) (w' : World) : Prop :=
  ((formP l).length ≤ most.toNat ∧ FormPost l w e w') ∨ (most.toNat < (formP l).length ∧ e = .returned (.tuple #[.slice none 0 0, .int .i64 2]) ∧ Below w.heap.size w w')

end Go.Proofs.Ytchoenfclfafiaa
