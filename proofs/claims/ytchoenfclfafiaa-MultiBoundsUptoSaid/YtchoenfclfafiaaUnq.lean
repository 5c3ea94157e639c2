/- The walks of escaped and Unquote. -/
import Derived.Test.YtchoenfclfafiaaQuote
import Derived.Test.YtchoenfclfafiaaUnqL
import Derived.Deep.QuietTactic
import Derived.BigQuiet
import Derived.Laws.BitsAllLaws
import Derived.Laws.BitsLemmas
namespace Go.Proofs.Ytchoenfclfafiaa
open Go.RowKit

theorem list_getD1 (s : ByteArray) (k : Nat) (hk : k + 1 < s.size) : (s.data.toList.drop 1).getD k 0 = s[k + 1] := by
  rw [List.getD_eq_getElem?_getD, List.getElem?_drop, Nat.add_comm 1 k, Lib.data_getElem? s (k + 1) hk]; rfl

theorem IndexByte_any (t : ByteArray) (b : UInt8) (W : World) : Calls Try.prog 64 #[.string t, .int .u8 b.toNat] W fun e w' => e = .returned (.int .i64 (Lib.indexByte t.data.toList b)) ∧ w' = W := by
  have := Try.strings_IndexByte t b.toNat W
  rw [toUInt8_back] at this; exact this

theorem or_hex (a b : Int) (ha : 0 ≤ a) (ha' : a ≤ 15) (hb : 0 ≤ b) (hb' : b ≤ 15) : bits .or .i64 (a * 16) b = a * 16 + b := by
  obtain ⟨a, rfl⟩ := Int.eq_ofNat_of_zero_le ha
  obtain ⟨b, rfl⟩ := Int.eq_ofNat_of_zero_le hb
  have key : ((List.range 16).all fun x => (List.range 16).all fun y => decide (bits .or .i64 ((x : Int) * 16) (y : Int) = (x : Int) * 16 + (y : Int))) = true := by decide +kernel
  have h1 := List.all_eq_true.1 key a (List.mem_range.2 (by omega))
  exact of_decide_eq_true (List.all_eq_true.1 h1 b (List.mem_range.2 (by omega)))

end Go.Proofs.Ytchoenfclfafiaa
