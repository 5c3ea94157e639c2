/- The walks of HtmlDecode, HexEncode and HexDecode. -/
import Derived.Test.YtedjidammcdkmaaDoorEnt
namespace Go.Proofs.YtedjidammcdkmaaDoor
open Go.RowKit

def HtmlRel (s : ByteArray) (w : World) (v i : Value) (wr : World) : Prop :=
  ∃ (k : Nat) (acc : List UInt8), k ≤ s.size ∧ i = .int .i64 k ∧ acc.length ≤ k ∧ OwnB wr w.heap.size v acc ∧ htmlDecL s.data.toList = acc ++ htmlDecL (s.data.toList.drop k) ∧ Below w.heap.size w wr

theorem OwnB.below {w w' : World} {base : Nat} {v : Value} {l : List UInt8} (h : OwnB w base v l) (hb : Below w.heap.size w w') : OwnB w' base v l :=
  h.kept (row := none) ⟨hb.os, hb.tape, hb.output, hb.size, fun k hk _ => hb.block k hk⟩ (by cases hv : v.ownBlock <;> simp)

def FlatRel (f : UInt8 → List UInt8) (s : ByteArray) (w : World) (v i : Value) (wr : World) : Prop :=
  ∃ k : Nat, k ≤ s.size ∧ i = .int .i64 k ∧ OwnB wr w.heap.size v ((s.data.toList.take k).flatMap f) ∧ Below w.heap.size w wr

def HexRel (s : ByteArray) (w : World) (v i : Value) (wr : World) : Prop :=
  ∃ (k : Nat) (acc : List UInt8), k ≤ s.size ∧ i = .int .i64 k ∧ acc.length ≤ k ∧ OwnB wr w.heap.size v acc ∧ hexDecL s.data.toList = (hexDecL (s.data.toList.drop k)).map (acc ++ ·) ∧ Below w.heap.size w wr

end Go.Proofs.YtedjidammcdkmaaDoor
