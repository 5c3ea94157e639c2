/- The walk of octet.Quote. -/
import Derived.Test.YtchoenfclfafiaaOctC
import Derived.Test.YtchoenfclfafiaaQuoteL
namespace Go.Proofs.Ytchoenfclfafiaa
open Go.RowKit

def QuoteRel (s : ByteArray) (w : World) (v i : Value) (wr : World) : Prop :=
  ∃ k : Nat, k ≤ s.size ∧ i = .int .i64 k ∧ OwnB wr w.heap.size v ((s.data.toList.take k).flatMap quoteB) ∧ Below w.heap.size w wr

end Go.Proofs.Ytchoenfclfafiaa
