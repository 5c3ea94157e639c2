/- Make answers a tree just where the phrases are fine and not too many. -/
import Derived.Test.YtipkelbbfgidhaaGreatDoorPhRd
namespace Go.Proofs.YtipkelbbfgidhaaGreatDoor
open Go.RowKit

def OkW (ws : List ByteArray) : Prop := GoodW ws ∧ ¬ Full (lstS ws)
theorem code_of_good {ws : List ByteArray} (h : GoodW ws) : codeW ws = 0 := by
  unfold codeW
  have h1 := h.few
  have h2 := h.some
  have h3 : anyN (fun j => decide (40 < (ws.getD j ByteArray.empty).size)) ws.length = false := (any_false _ _).2 fun j hj => by
    rw [List.getD_eq_getElem?_getD, List.getElem?_eq_getElem hj]
    have := h.short ws[j] (List.getElem_mem hj)
    simpa using this
  have h4 : Lib.containsS ws ByteArray.empty = false := by
    cases hc : Lib.containsS ws ByteArray.empty with
    | false => rfl
    | true => exact absurd rfl (h.full _ ((Lib.containsS_iff _ _).1 hc))
  rw [if_neg (by omega), if_neg (by rw [h3]; decide), if_neg (by omega), if_neg (by rw [h4]; decide)]
theorem lens_short {ws : List ByteArray} (h : GoodW ws) : ∀ v ∈ lstS ws, v.length ≤ 40 := fun v hv => by
  obtain ⟨x, hx, rfl⟩ := List.mem_map.1 hv
  have := h.short x hx
  simpa using this
section
variable {A : Option Addr} {c n : Nat} {ws : List ByteArray} {w : World}
theorem make_yes (hok : OkW ws) (hn : ws.length = n) (h : Sl w w.heap.size 1 A n (ws.map Value.string)) :
    Calls Tryz.prog 24 #[.slice A n c] w fun e w' => Below w.heap.size w w' ∧ ∃ g cap ns ss ms, e = .returned (.tuple #[.slice (some ⟨g, 0, none⟩) ms.length cap, .int .i64 0]) ∧ TreeIs w' w.heap.size ws g cap ns ss ms := by
  refine (make_any A c n ws w hn h).mono ?_
  rintro e w' ⟨hb, ⟨r, _, _, hf⟩ | ⟨_, g, cap, ns, ss, ms, rfl, hT⟩⟩
  · rcases hf with hf | hf
    · exact absurd (code_of_good hok.1) hf
    · exact absurd hf hok.2
  · exact ⟨hb, g, cap, ns, ss, ms, rfl, hT⟩
theorem make_no (hok : ¬ OkW ws) (hn : ws.length = n) (h : Sl w w.heap.size 1 A n (ws.map Value.string)) :
    Calls Tryz.prog 24 #[.slice A n c] w fun e w' => Below w.heap.size w w' ∧ ∃ r : Nat, 0 < r ∧ e = .returned (.tuple #[.slice none 0 0, .int .i64 (r : Int)]) := by
  refine (make_any A c n ws w hn h).mono ?_
  rintro e w' ⟨hb, ⟨r, hr, rfl, _⟩ | ⟨hG, g, cap, ns, ss, ms, rfl, hT⟩⟩
  · exact ⟨hb, r, hr, rfl⟩
  · exact absurd ⟨hG, lev_not_full hT.lev (lens_short hG) hT.few⟩ hok
end
end Go.Proofs.YtipkelbbfgidhaaGreatDoor
