/- The walks of octet: digits, numbers, sequences of UTF-8. -/
import Derived.Test.YtnjjchbgnmjkjaaBase
namespace Go.Proofs.Ytnjjchbgnmjkjaa
open Go.RowKit

def digitI (b : UInt8) : Int :=
  if 48 ≤ b.toNat ∧ b.toNat ≤ 57 then (b.toNat : Int) - 48 else if 97 ≤ b.toNat ∧ b.toNat ≤ 102 then (b.toNat : Int) - 87 else if 65 ≤ b.toNat ∧ b.toNat ≤ 70 then (b.toNat : Int) - 55 else -1

end Go.Proofs.Ytnjjchbgnmjkjaa
