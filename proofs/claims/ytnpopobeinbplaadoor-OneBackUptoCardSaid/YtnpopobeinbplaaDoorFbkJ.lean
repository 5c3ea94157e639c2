/- The walk of FrameBack. -/
import Derived.Test.YtnpopobeinbplaaDoorFbkW
import Derived.Test.YtnpopobeinbplaaDoorFrmK
import Derived.Test.YtnpopobeinbplaaDoorOpenI
namespace Go.Proofs.YtnpopobeinbplaaDoor
open Go.RowKit

theorem const_text : textC (cutP [2] [97, 98, 99]) = [50, 13, 10, 97, 98, 13, 10, 49, 13, 10, 99, 13, 10, 48, 13, 10, 13, 10] := by decide
theorem cut_each : ∀ (ns : List Int) (s : List UInt8), ∀ d ∈ cutP ns s, d.length ≤ s.length := by
  intro ns s d hd
  have h := congrArg List.length (cutP_join ns s)
  obtain ⟨a, b, e⟩ := List.append_of_mem hd
  rw [e] at h
  simp only [List.flatten_append, List.flatten_cons, List.length_append] at h
  omega
theorem text_len (ds : List (List UInt8)) (h : ∀ d ∈ ds, d ≠ []) : (textC ds).length ≤ 12 * ds.flatten.length + 5 := by
  have : (ds.flatMap pieceC).length ≤ 12 * ds.flatten.length := by
    induction ds with
    | nil => simp
    | cons d ds ih =>
      have h1 := piece_len d
      have h2 : 0 < d.length := List.length_pos_iff.2 (h d (by simp))
      have h3 := ih fun x hx => h x (by simp [hx])
      simp only [List.flatMap_cons, List.flatten_cons, List.length_append]
      omega
  unfold textC
  rw [List.length_append]
  simp only [List.length_cons, List.length_nil]
  omega

end Go.Proofs.YtnpopobeinbplaaDoor
