/- The walk of Unquote. -/
import Derived.Test.YtchoenfclfafiaaUnq
import Derived.Test.YtchoenfclfafiaaUnqM
namespace Go.Proofs.Ytchoenfclfafiaa
open Go.RowKit

def strRes (c : Int) (o : Option (List UInt8)) : Value := match o with
  | some l => .tuple #[.string (bs l), .int .i64 0]
  | none => .tuple #[.string (bs []), .int .i64 c]
def ResPost (v : Value) (w : World) (e : Ending) (w' : World) : Prop := e = .returned v ∧ Below w.heap.size w w'
theorem below_drewN {B : Nat} {a w : World} (h : Below B a w) (n : Nat) : Below B a (w.drewN n) := ⟨h.os, h.tape, h.output, h.size, h.block⟩
theorem OwnB.drewN {w : World} {base : Nat} {v : Value} {l : List UInt8} (h : OwnB w base v l) (n : Nat) : OwnB (w.drewN n) base v l := h

def UnqRel (s : ByteArray) (w : World) (v i : Value) (wr : World) : Prop :=
  ∃ (k : Nat) (acc : List UInt8), k ≤ s.size ∧ i = .int .i64 k ∧ acc.length ≤ k ∧ OwnB wr w.heap.size v acc ∧ unqAt s.data.toList = (unqAt (s.data.toList.drop k)).map (acc ++ ·) ∧ Below w.heap.size w wr

end Go.Proofs.Ytchoenfclfafiaa
