/- phrase.check: too long, empty, or fine. -/
import Derived.Test.YtipkelbbfgidhaaGreatDoorCFS
import Derived.Test.YtipkelbbfgidhaaGreatDoorShelf
namespace Go.Proofs.YtipkelbbfgidhaaGreatDoor
open Go.RowKit

theorem longW (s : ByteArray) (W : World) : Calls Tryz.prog 70 #[.string s] W (BoolPost (decide (40 < s.size)) W) := by
  by_cases h : 40 < s.size
  · have e : decide (40 < s.size) = true := decide_eq_true h
    rw [e]
    clear e
    go_enter Tryz.func70, Tryz.ntmps70
    go_wp2_with fail
    go_ret
    exact ⟨by simp; omega, Below.refl _ _⟩
  · have e : decide (40 < s.size) = false := decide_eq_false h
    rw [e]
    clear e
    go_enter Tryz.func70, Tryz.ntmps70
    go_wp2_with fail
    go_ret
    exact ⟨by simp; omega, Below.refl _ _⟩
def codeW (ws : List ByteArray) : Nat :=
  if 30 < ws.length then 2 else if anyN (fun j => decide (40 < (ws.getD j ByteArray.empty).size)) ws.length then 2 else if ws.length = 0 then 1 else if Lib.containsS ws ByteArray.empty then 1 else 0
theorem check_calls (A : Option Addr) (c n : Nat) (ws : List ByteArray) (w : World) (hn : ws.length = n) (h : Sl w w.heap.size 1 A n (ws.map Value.string)) :
    Calls Tryz.prog 49 #[.slice A n c] w fun e w' => e = .returned (.int .i64 (codeW ws : Nat)) ∧ Below w.heap.size w w' := by
  by_cases h30 : 30 < n
  · have HC : Hid (codeW ws = 2) := by unfold codeW; rw [if_pos (by omega)]; exact Lib.hid rfl
    clear h
    go_enter Tryz.func49, Tryz.ntmps49
    go_wp2_with fail
    go_ret
    exact ⟨by rw [HC.out]; rfl, Below.refl _ _⟩
  · have hx : ∀ j, j < n → (ws.map Value.string)[j]? = some (.string (ws.getD j ByteArray.empty)) := fun j hj => by
      rw [List.getElem?_map, List.getD_eq_getElem?_getD, List.getElem?_eq_getElem (by omega)]; rfl
    have HC := Lib.hid (ContFS_any 70 #[] (enters_of Tryz.func70 (by kernel_rfl) rfl) A n c (ws.map Value.string) (fun j => .string (ws.getD j ByteArray.empty)) (fun j => decide (40 < (ws.getD j ByteArray.empty).size)) w h (by omega) hx (fun W j _ _ => longW _ W))
    by_cases hlong : anyN (fun j => decide (40 < (ws.getD j ByteArray.empty).size)) n = true
    · have HV : Hid (codeW ws = 2) := by unfold codeW; rw [hn, if_neg h30, if_pos hlong]; exact Lib.hid rfl
      rw [hlong] at HC
      clear h hx hlong
      go_enter Tryz.func49, Tryz.ntmps49
      go_wp2_with (go_at_call 69; refine HC.out.mono ?_; rintro e w1 ⟨rfl, hb⟩)
      go_ret
      exact ⟨by rw [HV.out]; rfl, hb⟩
    · have hl : anyN (fun j => decide (40 < (ws.getD j ByteArray.empty).size)) n = false := by simpa using hlong
      rw [hl] at HC
      by_cases h0 : n = 0
      · have HV : Hid (codeW ws = 1) := by unfold codeW; rw [hn, if_neg h30, if_neg hlong, if_pos h0]; exact Lib.hid rfl
        subst h0
        clear h hx hlong hl
        go_enter Tryz.func49, Tryz.ntmps49
        go_wp2_with (go_at_call 69; refine HC.out.mono ?_; rintro e w1 ⟨rfl, hb⟩)
        go_ret
        exact ⟨by rw [HV.out]; rfl, hb⟩
      · have HE : Hid (∀ w1, Below w.heap.size w w1 → Calls Tryz.prog 71 #[.slice A n c, .string ByteArray.empty] w1 fun e w' => e = .returned (.bool (Lib.containsS ws ByteArray.empty)) ∧ w' = w1) := Lib.hid fun w1 hb => by
          obtain ⟨b, off, rfl, _, hc⟩ := (h.below hb).src (by rw [List.length_map]; omega)
          have := Tryz.slices_Contains_string b off n c ws ByteArray.empty w1 (by omega) (by omega) (fun j hj => by
            rw [hc j (by rw [List.length_map]; omega), List.getElem_map, List.getD_eq_getElem?_getD, List.getElem?_eq_getElem hj]; rfl)
          rw [List.take_of_length_le (by omega)] at this
          exact this
        have HV : Hid (codeW ws = if Lib.containsS ws ByteArray.empty then 1 else 0) := by unfold codeW; rw [hn, if_neg h30, if_neg hlong, if_neg h0]; exact Lib.hid rfl
        clear h hx hlong hl
        generalize hq : Lib.containsS ws ByteArray.empty = q at HE HV
        clear hq
        cases q
        · go_enter Tryz.func49, Tryz.ntmps49
          go_wp2_with (first | (go_at_call 69; refine HC.out.mono ?_; rintro e w1 ⟨rfl, hb⟩) | (go_at_call 71; refine (HE.out _ hb).mono ?_; rintro e w2 ⟨rfl, rfl⟩))
          go_ret
          exact ⟨by rw [HV.out]; rfl, hb⟩
        · go_enter Tryz.func49, Tryz.ntmps49
          go_wp2_with (first | (go_at_call 69; refine HC.out.mono ?_; rintro e w1 ⟨rfl, hb⟩) | (go_at_call 71; refine (HE.out _ hb).mono ?_; rintro e w2 ⟨rfl, rfl⟩))
          go_ret
          exact ⟨by rw [HV.out]; rfl, hb⟩
end Go.Proofs.YtipkelbbfgidhaaGreatDoor
