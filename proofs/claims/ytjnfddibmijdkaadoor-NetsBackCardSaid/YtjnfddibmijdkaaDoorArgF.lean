/- The walk of args.Form. -/
import Derived.Test.YtjnfddibmijdkaaDoorArgA
import Derived.Test.YtjnfddibmijdkaaDoorCod
import Derived.Test.YtjnfddibmijdkaaDoorShelf
namespace Go.Proofs.YtjnfddibmijdkaaDoor
open Go.RowKit

def argP (x : List UInt8) : Pair := (bs (urlDecL (Lib.cut x [61]).1), bs (urlDecL (Lib.cut x [61]).2.1))
def accP (ps : List (List UInt8)) : List Pair := (ps.filter fun x => !x.isEmpty).map argP
def formP (l : List UInt8) : List Pair := accP (splL 38 l)
theorem formP_len (l : List UInt8) : (formP l).length ≤ l.length := by
  unfold formP accP
  rw [List.length_map]
  exact splL_some 38 l
theorem formP_append (s t : List UInt8) : formP (s ++ 38 :: t) = formP s ++ formP t := by
  unfold formP accP
  rw [splL_append, List.filter_append, List.map_append]
theorem accP_step (ps : List (List UInt8)) (k : Nat) (h : k < ps.length) : accP (ps.take (k + 1)) = accP (ps.take k) ++ (if ps[k].isEmpty then [] else [argP ps[k]]) := by
  unfold accP
  rw [List.take_succ_eq_append_getElem h, List.filter_append, List.map_append]
  congr 1
  cases ps[k] with
  | nil => rfl
  | cons b x => rfl
theorem accP_le (ps : List (List UInt8)) (k : Nat) : (accP (ps.take k)).length ≤ (accP ps).length := by
  unfold accP
  rw [List.length_map, List.length_map]
  exact ((List.take_sublist k ps).filter _).length_le
theorem accP_all (ps : List (List UInt8)) : accP (ps.take ps.length) = accP ps := by rw [List.take_length]

theorem below_undrewN {B n : Nat} {W w' : World} (hb : Below B (W.drewN n) w') : Below B W w' := ⟨hb.os, hb.tape, hb.output, hb.size, hb.block⟩
end Go.Proofs.YtjnfddibmijdkaaDoor
