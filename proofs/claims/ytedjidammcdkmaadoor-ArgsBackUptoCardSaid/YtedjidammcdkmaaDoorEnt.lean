/- The walks of entity and HtmlDecode. -/
import Derived.Test.YtedjidammcdkmaaDoorCod
import Derived.Test.YtedjidammcdkmaaDoorEntL
namespace Go.Proofs.YtedjidammcdkmaaDoor
open Go.RowKit

def EntPost (r : UInt8 × Nat) (w : World) (e : Ending) (w' : World) : Prop := e = .returned (.tuple #[.int .u8 (r.1.toNat : Int), .int .i64 (r.2 : Int)]) ∧ Below w.heap.size w w'
theorem EntPost.mk {r : UInt8 × Nat} {w w' : World} {e : Ending} (a b : Int) (he : e = .returned (.tuple #[.int .u8 a, .int .i64 b])) (ha : a = (r.1.toNat : Int)) (hb : b = (r.2 : Int)) (h : Below w.heap.size w w') : EntPost r w e w' := by
  subst ha; subst hb; exact ⟨he, h⟩

theorem take_min (s : ByteArray) : (s.extract 0 (min (s.size : Int) 7).toNat).data.toList = s.data.toList.take 7 := by
  rw [Lib.extract_data, List.drop_zero, Nat.sub_zero]
  rcases Nat.lt_or_ge s.size 7 with h | h
  · rw [show (min (s.size : Int) 7).toNat = s.size by omega, List.take_of_length_le (by simp), List.take_of_length_le (by simp; omega)]
  · rw [show (min (s.size : Int) 7).toNat = 7 by omega]
theorem extract_mid (s : ByteArray) (e : Nat) : (s.extract 2 e).data.toList = (s.data.toList.take e).drop 2 := by
  rw [Lib.extract_data, List.drop_take]

end Go.Proofs.YtedjidammcdkmaaDoor
