/- The walks of coding: pair, UrlDecode, HexEncode, HexDecode. -/
import Derived.Test.YtchoenfclfafiaaUnqW
import Derived.Test.YtchoenfclfafiaaCodL
namespace Go.Proofs.Ytchoenfclfafiaa
open Go.RowKit

def UrlRel (s : ByteArray) (w : World) (v i : Value) (wr : World) : Prop :=
  ∃ (k : Nat) (acc : List UInt8), k ≤ s.size ∧ i = .int .i64 k ∧ acc.length ≤ k ∧ OwnB wr w.heap.size v acc ∧ urlDecL s.data.toList = acc ++ urlDecL (s.data.toList.drop k) ∧ Below w.heap.size w wr

theorem wrap_u8 (n : Int) (h0 : 0 ≤ n) (h1 : n ≤ 255) : ((UInt8.ofNat n.toNat).toNat : Int) = n := by
  rw [UInt8.toNat_ofNat', Nat.mod_eq_of_lt (by omega)]; omega

end Go.Proofs.Ytchoenfclfafiaa
