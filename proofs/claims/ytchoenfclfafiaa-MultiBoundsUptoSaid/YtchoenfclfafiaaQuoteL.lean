/- Quoted words, plainly: how bytes are written, and that they are read back. -/
import Derived.Test.YtchoenfclfafiaaBase
import Derived.Lib.Bytealg
import Derived.Lib.Strings
import Derived.Lib.IndexBytes
namespace Go.Proofs.Ytchoenfclfafiaa

def qs : List UInt8 := [10, 13, 9, 32, 92]
def hexD (n : UInt8) : UInt8 := if n < 10 then n + 48 else n + 87
def quoteB (b : UInt8) : List UInt8 :=
  if b = 10 then [92, 110] else if b = 13 then [92, 114] else if b = 9 then [92, 116] else if b = 32 then [92, 115] else if b = 92 then [92, 92]
  else if b < 33 ∨ 126 < b then [92, 120, hexD (b >>> 4), hexD (b &&& 15)] else [b]
def quoteL (l : List UInt8) : List UInt8 := if l = [] then [45] else if l = [45] then [92, 45] else l.flatMap quoteB

theorem quoteB_special (b : UInt8) : (Lib.indexByte qs b = 0 ∧ quoteB b = [92, 110]) ∨ (Lib.indexByte qs b = 1 ∧ quoteB b = [92, 114]) ∨ (Lib.indexByte qs b = 2 ∧ quoteB b = [92, 116]) ∨
    (Lib.indexByte qs b = 3 ∧ quoteB b = [92, 115]) ∨ (Lib.indexByte qs b = 4 ∧ quoteB b = [92, 92]) ∨
    (Lib.indexByte qs b = -1 ∧ ((b.toNat < 33 ∨ 126 < b.toNat) ∧ quoteB b = [92, 120, hexD (b >>> 4), hexD (b &&& 15)] ∨ 33 ≤ b.toNat ∧ b.toNat ≤ 126 ∧ quoteB b = [b])) :=
  of_decide_eq_true (all_bytes (p := fun b => decide ((Lib.indexByte qs b = 0 ∧ quoteB b = [92, 110]) ∨ (Lib.indexByte qs b = 1 ∧ quoteB b = [92, 114]) ∨ (Lib.indexByte qs b = 2 ∧ quoteB b = [92, 116]) ∨
    (Lib.indexByte qs b = 3 ∧ quoteB b = [92, 115]) ∨ (Lib.indexByte qs b = 4 ∧ quoteB b = [92, 92]) ∨
    (Lib.indexByte qs b = -1 ∧ ((b.toNat < 33 ∨ 126 < b.toNat) ∧ quoteB b = [92, 120, hexD (b >>> 4), hexD (b &&& 15)] ∨ 33 ≤ b.toNat ∧ b.toNat ≤ 126 ∧ quoteB b = [b])))) (by decide +kernel) b)
theorem quoteB_len (b : UInt8) : (quoteB b).length ≤ 4 :=
  of_decide_eq_true (all_bytes (p := fun b => decide ((quoteB b).length ≤ 4)) (by decide +kernel) b)
theorem quote_len (l : List UInt8) : (l.flatMap quoteB).length ≤ 4 * l.length := by
  induction l with
  | nil => simp
  | cons b l ih => have := quoteB_len b; simp only [List.flatMap_cons, List.length_append, List.length_cons]; omega

theorem hexTab_all : ((List.range 16).all fun n => (ByteArray.mk #[48, 49, 50, 51, 52, 53, 54, 55, 56, 57, 97, 98, 99, 100, 101, 102]).data.toList[n]? == some (hexD (UInt8.ofNat n))) = true := by decide
theorem hexTab_at (n : Nat) (h : n < (ByteArray.mk #[48, 49, 50, 51, 52, 53, 54, 55, 56, 57, 97, 98, 99, 100, 101, 102]).size) :
    (ByteArray.mk #[48, 49, 50, 51, 52, 53, 54, 55, 56, 57, 97, 98, 99, 100, 101, 102])[n] = hexD (UInt8.ofNat n) := by
  have h1 := List.all_eq_true.1 hexTab_all n (List.mem_range.2 h)
  have h2 := Lib.data_getElem? (ByteArray.mk #[48, 49, 50, 51, 52, 53, 54, 55, 56, 57, 97, 98, 99, 100, 101, 102]) n h
  rw [h2] at h1
  simpa using h1
theorem hex_hi (b : UInt8) : UInt8.ofNat (((b.toNat : Int) / 16).toNat) = b >>> 4 :=
  beq_iff_eq.1 (all_bytes (p := fun b => UInt8.ofNat (((b.toNat : Int) / 16).toNat) == b >>> 4) (by decide +kernel) b)
theorem hex_lo (b : UInt8) : UInt8.ofNat (((b.toNat : Int) % 16).toNat) = b &&& 15 :=
  beq_iff_eq.1 (all_bytes (p := fun b => UInt8.ofNat (((b.toNat : Int) % 16).toNat) == b &&& 15) (by decide +kernel) b)

end Go.Proofs.Ytchoenfclfafiaa
