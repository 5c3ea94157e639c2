/- phrase.Hits, phrase.Some of a tree that Make made; Make, whatever the phrases. -/
import Derived.Test.YtipkelbbfgidhaaGreatDoorPhEq
import Derived.Test.YtipkelbbfgidhaaGreatDoorPhG
namespace Go.Proofs.YtipkelbbfgidhaaGreatDoor
open Go.RowKit

section
variable {ws : List ByteArray} {lo g cap : Nat} {ns : List NodeP} {ss : List (List UInt8)} {ms : List NodeM} {w : World}
theorem ready_tree (hG : GoodW ws) (s : ByteArray) (hs : s.size ≤ 8192) (hT : TreeIs w lo ws g cap ns ss ms) :
    Calls Tryz.prog 53 #[.slice (some ⟨g, 0, none⟩) ms.length cap, .int .i64 (ws.length : Int), .string s] w fun e w' => e = .returned (.int .i64 0) ∧ Below w.heap.size w w' := by
  have HC := Lib.hid (check_tree ws hG.few lo g cap ns ss ms w hT)
  have d1 : decide ((8192 : Int) < (s.size : Int)) = false := by simp; omega
  clear hT
  go_enter Tryz.func53, Tryz.ntmps53
  go_wp2_with (go_at_call 78; refine HC.out.mono ?_; rintro e w1 ⟨rfl, hb⟩)
  go_ret
  exact ⟨rfl, hb⟩
def HitsOut (ws : List (List UInt8)) (s : List UInt8) (w : World) (e : Ending) (w' : World) : Prop :=
  ∃ v, e = .returned (.tuple #[v, .int .i64 0]) ∧ OwnG rowH w' w.heap.size v (hitsTo ws s s.length) ∧ Below w.heap.size w w'
theorem hitsM_all (ws : List (List UInt8)) (s : List UInt8) : hitsM ws s (-1) = hitsTo ws s s.length := by unfold hitsM; rw [if_neg (by decide)]
theorem Some_tree (hG : GoodW ws) (s : ByteArray) (hs : s.size ≤ 8192) (hT : TreeIs w lo ws g cap ns ss ms) :
    Calls Tryz.prog 26 #[.slice (some ⟨g, 0, none⟩) ms.length cap, .int .i64 (ws.length : Int), .string s] w fun e w' =>
      e = .returned (.tuple #[.bool (decide (0 < (hitsTo (lstS ws) s.data.toList s.data.toList.length).length)), .int .i64 0]) ∧ Below w.heap.size w w' := by
  have HR := Lib.hid (ready_tree hG s hs hT)
  have HH : Hid (∀ w1, Below w.heap.size w w1 → Calls Tryz.prog 54 #[.slice (some ⟨g, 0, none⟩) ms.length cap, .string s, .int .i64 1] w1 (HitsPost (lstS ws) s.data.toList 1 w1)) := Lib.hid fun w1 hb => hits_tree ws hG 1 (.inl rfl) s hs lo g cap ns ss ms w1 (hT.below hb)
  have HL : Hid (decide (0 < (hitsM (lstS ws) s.data.toList 1).length) = decide (0 < (hitsTo (lstS ws) s.data.toList s.data.toList.length).length)) := by
    unfold Hid hitsM
    rw [if_pos rfl]
    generalize hitsTo (lstS ws) s.data.toList s.data.toList.length = l
    cases l with
    | nil => rfl
    | cons y r => simp
  clear hT hG
  go_enter Tryz.func26, Tryz.ntmps26
  go_wp2_with (first | (go_at_call 53; refine HR.out.mono ?_; rintro e w1 ⟨rfl, hb⟩) | (go_at_call 54; refine (HH.out _ hb).mono ?_; rintro e w2 ⟨v, rfl, hO, hb2⟩; obtain ⟨A5, c5, rfl, _⟩ := hO.form))
  go_ret2
  exact ⟨congrArg (fun b => Ending.returned (.tuple #[.bool b, .int .i64 0])) HL.out, hb.trans (hb2.mono hb.size)⟩
end
theorem level_any : LevelC := fun ws n h1 h2 h3 A c B gm bm ga ca g cap ns ss l ats w hS hL => level_calls ws n h1 h2 h3 A c B gm bm ga ca g cap ns ss l ats w hS hL
/-- Make, whatever the phrases. -/
def MakeOut (ws : List ByteArray) (w : World) (e : Ending) (w' : World) : Prop :=
  Below w.heap.size w w' ∧ ((∃ r : Nat, 0 < r ∧ e = .returned (.tuple #[.slice none 0 0, .int .i64 (r : Int)]) ∧ (codeW ws ≠ 0 ∨ Full (lstS ws))) ∨ (GoodW ws ∧ ∃ g cap ns ss ms, e = .returned (.tuple #[.slice (some ⟨g, 0, none⟩) ms.length cap, .int .i64 0]) ∧ TreeIs w' w.heap.size ws g cap ns ss ms))
theorem make_any (A : Option Addr) (c n : Nat) (ws : List ByteArray) (w : World) (hn : ws.length = n) (h : Sl w w.heap.size 1 A n (ws.map Value.string)) :
    Calls Tryz.prog 24 #[.slice A n c] w (MakeOut ws w) := by
  by_cases h0 : codeW ws = 0
  · refine (make_good level_any A c n ws w hn h h0).mono ?_
    rintro e w' ⟨hb, ⟨rfl, hf⟩ | ⟨g, cap, ns, ss, ms, rfl, hT⟩⟩
    · exact ⟨hb, .inl ⟨2, by decide, rfl, .inr hf⟩⟩
    · exact ⟨hb, .inr ⟨good_of_code h0, g, cap, ns, ss, ms, rfl, hT⟩⟩
  · refine (make_refused A c n ws w hn h h0).mono ?_
    rintro e w' ⟨rfl, hb⟩
    exact ⟨hb, .inl ⟨codeW ws, by omega, rfl, .inl h0⟩⟩
end Go.Proofs.YtipkelbbfgidhaaGreatDoor
