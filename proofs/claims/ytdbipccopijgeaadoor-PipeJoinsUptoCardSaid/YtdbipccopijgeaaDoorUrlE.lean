/- The walk of UrlEncode and of CodingJoins. -/
import Derived.Test.YtdbipccopijgeaaDoorHtml
namespace Go.Proofs.YtdbipccopijgeaaDoor
open Go.RowKit

theorem urlB_keep {b : UInt8} {c i : Int} (hc : c = (b ||| 32).toNat) (hi : i = Lib.indexByte urlSigns b) (h : (97 ≤ c ∧ c ≤ 122) ∨ (48 ≤ (b.toNat : Int) ∧ (b.toNat : Int) ≤ 57) ∨ 0 ≤ i) : urlB b = [b] := by
  subst hi; subst hc
  unfold urlB urlLet
  rw [if_pos]
  simp only [Bool.or_eq_true, Bool.and_eq_true, decide_eq_true_eq]
  omega
theorem urlB_code {b : UInt8} {c i : Int} (hc : c = (b ||| 32).toNat) (hi : i = Lib.indexByte urlSigns b) (h : ¬ ((97 ≤ c ∧ c ≤ 122) ∨ (48 ≤ (b.toNat : Int) ∧ (b.toNat : Int) ≤ 57) ∨ 0 ≤ i)) :
    urlB b = if b = 32 then [43] else [37, hexU (b >>> 4), hexU (b &&& 15)] := by
  subst hi; subst hc
  unfold urlB urlLet
  rw [if_neg]
  simp only [Bool.or_eq_true, Bool.and_eq_true, decide_eq_true_eq]
  omega

end Go.Proofs.YtdbipccopijgeaaDoor
