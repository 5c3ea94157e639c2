/- phrase.Hits, phrase.Some of a tree that Make made; Make, whatever the phrases. -/
import Derived.Test.YtnkcgfpjedlpaaaPhEq
import Derived.Test.YtnkcgfpjedlpaaaPhG
namespace Go.Proofs.Ytnkcgfpjedlpaaa
open Go.RowKit

section
variable {ws : List ByteArray} {lo g cap : Nat} {ns : List NodeP} {ss : List (List UInt8)} {ms : List NodeM} {w : World}
theorem ready_tree (hG : GoodW ws) (s : ByteArray) (hs : s.size ≤ 8192) (hT : TreeIs w lo ws g cap ns ss ms) :
    Calls Try.prog 14 #[.slice (some ⟨g, 0, none⟩) ms.length cap, .int .i64 (ws.length : Int), .string s] w fun e w' => e = .returned (.int .i64 0) ∧ Below w.heap.size w w' := by
  have HC := Lib.hid (check_tree ws hG.few lo g cap ns ss ms w hT)
  have d1 : decide ((8192 : Int) < (s.size : Int)) = false := by simp; omega
  clear hT
  go_enter Try.func14, Try.ntmps14
  go_wp2_with (go_at_call 9; refine HC.out.mono ?_; rintro e w1 ⟨rfl, hb⟩)
  go_ret
  exact ⟨rfl, hb⟩
def HitsOut (ws : List (List UInt8)) (s : List UInt8) (w : World) (e : Ending) (w' : World) : Prop :=
  ∃ v, e = .returned (.tuple #[v, .int .i64 0]) ∧ OwnG rowH w' w.heap.size v (hitsTo ws s s.length) ∧ Below w.heap.size w w'
theorem hitsM_all (ws : List (List UInt8)) (s : List UInt8) : hitsM ws s (-1) = hitsTo ws s s.length := by unfold hitsM; rw [if_neg (by decide)]
theorem Hits_tree (hG : GoodW ws) (s : ByteArray) (hs : s.size ≤ 8192) (hT : TreeIs w lo ws g cap ns ss ms) :
    Calls Try.prog 5 #[.slice (some ⟨g, 0, none⟩) ms.length cap, .int .i64 (ws.length : Int), .string s] w (HitsOut (lstS ws) s.data.toList w) := by
  have HR := Lib.hid (ready_tree hG s hs hT)
  have HH : Hid (∀ w1, Below w.heap.size w w1 → Calls Try.prog 15 #[.slice (some ⟨g, 0, none⟩) ms.length cap, .string s, .int .i64 (-1)] w1 (HitsPost (lstS ws) s.data.toList (-1) w1)) := Lib.hid fun w1 hb => hits_tree ws hG (-1) (.inr rfl) s hs lo g cap ns ss ms w1 (hT.below hb)
  have HM := Lib.hid (hitsM_all (lstS ws) s.data.toList)
  clear hT hG
  go_enter Try.func5, Try.ntmps5
  go_wp2_with (first | (go_at_call 14; refine HR.out.mono ?_; rintro e w1 ⟨rfl, hb⟩) | (go_at_call 15; refine (HH.out _ hb).mono ?_; rintro e w2 ⟨v, rfl, hO, hb2⟩))
  go_ret2
  rw [HM.out] at hO
  exact ⟨v, rfl, hO.low hb.size, hb.trans (hb2.mono hb.size)⟩
theorem Some_tree (hG : GoodW ws) (s : ByteArray) (hs : s.size ≤ 8192) (hT : TreeIs w lo ws g cap ns ss ms) :
    Calls Try.prog 10 #[.slice (some ⟨g, 0, none⟩) ms.length cap, .int .i64 (ws.length : Int), .string s] w fun e w' =>
      e = .returned (.tuple #[.bool (decide (0 < (hitsTo (lstS ws) s.data.toList s.data.toList.length).length)), .int .i64 0]) ∧ Below w.heap.size w w' := by
  have HR := Lib.hid (ready_tree hG s hs hT)
  have HH : Hid (∀ w1, Below w.heap.size w w1 → Calls Try.prog 15 #[.slice (some ⟨g, 0, none⟩) ms.length cap, .string s, .int .i64 1] w1 (HitsPost (lstS ws) s.data.toList 1 w1)) := Lib.hid fun w1 hb => hits_tree ws hG 1 (.inl rfl) s hs lo g cap ns ss ms w1 (hT.below hb)
  have HL : Hid (decide (0 < (hitsM (lstS ws) s.data.toList 1).length) = decide (0 < (hitsTo (lstS ws) s.data.toList s.data.toList.length).length)) := by
    unfold Hid hitsM
    rw [if_pos rfl]
    generalize hitsTo (lstS ws) s.data.toList s.data.toList.length = l
    cases l with
    | nil => rfl
    | cons y r => simp
  clear hT hG
  go_enter Try.func10, Try.ntmps10
  go_wp2_with (first | (go_at_call 14; refine HR.out.mono ?_; rintro e w1 ⟨rfl, hb⟩) | (go_at_call 15; refine (HH.out _ hb).mono ?_; rintro e w2 ⟨v, rfl, hO, hb2⟩; obtain ⟨A5, c5, rfl, _⟩ := hO.form))
  go_ret2
  exact ⟨congrArg (fun b => Ending.returned (.tuple #[.bool b, .int .i64 0])) HL.out, hb.trans (hb2.mono hb.size)⟩
end
theorem level_any : LevelC := fun ws n h1 h2 h3 A c B gm bm ga ca g cap ns ss l ats w hS hL => level_calls ws n h1 h2 h3 A c B gm bm ga ca g cap ns ss l ats w hS hL
/-- Make, whatever the phrases. -/
def MakeOut (ws : List ByteArray) (w : World) (e : Ending) (w' : World) : Prop :=
  Below w.heap.size w w' ∧ ((∃ r : Nat, 0 < r ∧ e = .returned (.tuple #[.slice none 0 0, .int .i64 (r : Int)]) ∧ (codeW ws ≠ 0 ∨ Full (lstS ws))) ∨ (GoodW ws ∧ ∃ g cap ns ss ms, e = .returned (.tuple #[.slice (some ⟨g, 0, none⟩) ms.length cap, .int .i64 0]) ∧ TreeIs w' w.heap.size ws g cap ns ss ms))
theorem make_any (A : Option Addr) (c n : Nat) (ws : List ByteArray) (w : World) (hn : ws.length = n) (h : Sl w w.heap.size 1 A n (ws.map Value.string)) :
    Calls Try.prog 8 #[.slice A n c] w (MakeOut ws w) := by
  by_cases h0 : codeW ws = 0
  · refine (make_good level_any A c n ws w hn h h0).mono ?_
    rintro e w' ⟨hb, ⟨rfl, hf⟩ | ⟨g, cap, ns, ss, ms, rfl, hT⟩⟩
    · exact ⟨hb, .inl ⟨2, by decide, rfl, .inr hf⟩⟩
    · exact ⟨hb, .inr ⟨good_of_code h0, g, cap, ns, ss, ms, rfl, hT⟩⟩
  · refine (make_refused A c n ws w hn h h0).mono ?_
    rintro e w' ⟨rfl, hb⟩
    exact ⟨hb, .inl ⟨codeW ws, by omega, rfl, .inl h0⟩⟩
/-- wickkeep.tree, of phrases that are few. -/
theorem tree_any (A : Option Addr) (c n : Nat) (ws : List ByteArray) (w : World) (hn : ws.length = n) (h : Sl w w.heap.size 1 A n (ws.map Value.string)) (h0 : codeW ws = 0) (h1 : (preL (lstS ws)).length < 400) :
    Calls Try.prog 6 #[.slice A n c] w fun e w' => Below w.heap.size w w' ∧ ∃ g cap ns ss ms, e = .returned (.slice (some ⟨g, 0, none⟩) ms.length cap) ∧ TreeIs w' w.heap.size ws g cap ns ss ms := by
  have hm := make_any A c n ws w hn h
  have HM : Hid (Calls Try.prog 8 #[.slice A n c] w fun e w' => Below w.heap.size w w' ∧ ∃ g cap ns ss ms, e = .returned (.tuple #[.slice (some ⟨g, 0, none⟩) ms.length cap, .int .i64 0]) ∧ TreeIs w' w.heap.size ws g cap ns ss ms) := Lib.hid (hm.mono (by
    rintro e w' ⟨hb, ⟨r, _, _, hf⟩ | ⟨_, g, cap, ns, ss, ms, rfl, hT⟩⟩
    · rcases hf with hf | hf
      · exact absurd h0 hf
      · exact absurd hf (not_full h1)
    · exact ⟨hb, g, cap, ns, ss, ms, rfl, hT⟩))
  clear hm h h0 h1
  go_enter Try.func6, Try.ntmps6
  go_wp2_with (go_at_call 8; refine HM.out.mono ?_; rintro e w1 ⟨hb, g, cap, ns, ss, ms, rfl, hT⟩)
  go_ret
  exact ⟨hb, g, cap, ns, ss, ms, rfl, hT⟩
end Go.Proofs.Ytnkcgfpjedlpaaa
