/- A written request is read back as it was, whatever stands behind: plainly. -/
import Derived.Test.YtnpopobeinbplaaDoorOneL
import Derived.Test.YtnpopobeinbplaaDoorFbkL
namespace Go.Proofs.YtnpopobeinbplaaDoor
open Go.RowKit

theorem print_end {h : HeadV} (hc : checkH h = 0) (hlen : (printH h).length ≤ 4096) (r : List UInt8) : ∃ i, i + 4 = (printH h).length ∧ HeadEnd (printH h ++ r) 4096 i := by
  obtain ⟨_, _, ls, hls, _⟩ := parse_ok (parse_print hc hlen)
  obtain ⟨b, hb, hsp, hok⟩ := lines_form hls
  have h4 : endL.length = 4 := rfl
  have hbl : (printH h).length = b.length + 4 := by rw [hb, List.length_append]; rfl
  refine ⟨b.length, hbl.symm, ⟨?_, ?_⟩, by omega, by rw [List.length_append]; omega⟩
  · unfold Lib.occAt
    rw [List.isPrefixOf_iff_prefix, hb, List.append_assoc, List.drop_left]
    exact ⟨r, rfl⟩
  · intro j hj
    cases hq : Lib.occAt (printH h ++ r) endL j with
    | false => rfl
    | true =>
      have h1 := occ_in hq (n := b.length + 4) (by omega)
      rw [← hbl, List.take_left] at h1
      unfold Lib.occAt at h1
      rw [List.isPrefixOf_iff_prefix] at h1
      obtain ⟨x, hx⟩ := h1
      have e : (printH h).take j ++ endL ++ x = b ++ endL := by rw [List.append_assoc, hx, List.take_append_drop, hb]
      have hx0 : x ≠ [] := by
        intro hn
        subst hn
        have := congrArg List.length hx
        rw [List.length_drop, List.length_append, List.length_nil] at this
        omega
      have := lines_no_more hx0 b e
      rw [hsp, hok] at this
      cases this
theorem one_back {h : HeadV} (hc : checkH h = 0) (hlen : (printH h).length ≤ 4096) {t more b : List UInt8} (hb : bodyR (framed h) (t ++ more) 4096 = .inr (b, t.length)) :
    oneR (printH h ++ t ++ more) 4096 4096 = .ok (⟨h, b⟩, (printH h ++ t).length) := by
  obtain ⟨i, hi, he⟩ := print_end hc hlen (t ++ more)
  rw [List.append_assoc, one_at (by decide) he, hi, List.take_left, List.drop_left, parse_print hc hlen]
  dsimp only
  rw [hb]
  dsimp only
  rw [List.length_append]
/-- What is asked: the head's bytes and the body's. -/
def bodyT (h : HeadV) (b : List UInt8) (ns : List Int) : Option (List UInt8) :=
  if (framed h).1 = 3 then some (textC (cutP ns b)) else if (framed h).1 = 1 ∧ b = [] ∨ ((framed h).1 = 2 ∧ (framed h).2.1 = (b.length : Int)) then some b else none
def askedOk (h : HeadV) (b : List UInt8) : Prop := checkH h = 0 ∧ (framed h).2.2 = 0 ∧ (printH h).length ≤ 4096 ∧ b.length ≤ 4096
theorem asked_back {h : HeadV} {b t more : List UInt8} {ns : List Int} (hk : askedOk h b) (ht : bodyT h b ns = some t) :
    oneR (printH h ++ t ++ more) 4096 4096 = .ok (⟨h, b⟩, (printH h ++ t).length) := by
  obtain ⟨hc, hf, hl, hb⟩ := hk
  refine one_back hc hl ?_
  unfold bodyT at ht
  unfold bodyR
  rw [if_neg (by rw [hf]; exact fun h => h rfl)]
  split at ht
  · rename_i h3
    cases ht
    rw [if_neg (by rw [h3]; decide), if_pos h3]
    have hj := cutP_join ns b
    have hsm : ∀ d ∈ cutP ns b, d ≠ [] ∧ d.length < 268435456 := fun d hd => ⟨cutP_some _ _ d hd, by
      obtain ⟨x, y, e⟩ := List.append_of_mem hd
      have h := congrArg List.length hj
      rw [e] at h
      simp only [List.flatten_append, List.flatten_cons, List.length_append] at h
      omega⟩
    rw [chunks_back (cutP ns b) more (max 4096 0) hsm (by rw [hj]; omega), hj]
  · rename_i h3
    split at ht
    · rename_i h12
      cases ht
      rcases h12 with ⟨h1, rfl⟩ | ⟨h2, hn⟩
      · rw [if_pos h1]; rfl
      · rw [if_neg (by rw [h2]; decide), if_neg h3, hn, if_neg (by omega), if_neg (by rw [List.length_append]; omega), Int.toNat_natCast, List.take_left]
    · cases ht
end Go.Proofs.YtnpopobeinbplaaDoor
