/- The walks of wickref.SameHead (the same heads) and of HeadBack. -/
import Derived.Test.YtchoenfclfafiaaDoorHedY
import Derived.Test.YtchoenfclfafiaaDoorFldE
import Derived.Test.YtchoenfclfafiaaDoorOpen
namespace Go.Proofs.YtchoenfclfafiaaDoor
open Go.RowKit

set_option maxRecDepth 100000 in
set_option maxHeartbeats 800000 in
theorem SameHead_yes (m t : ByteArray) (l : List PairV) (A1 A2 : Option Addr) (c1 c2 : Nat) (w : World) (h1 : Sl w w.heap.size 2 A1 l.length (l.flatMap cellsV)) (h2 : Sl w w.heap.size 2 A2 l.length (l.flatMap cellsV)) (hl : l.length ≤ 4398046511104) :
    Calls Tryd.prog 26 #[.agg #[.string m, .string t, .slice A1 l.length c1], .agg #[.string m, .string t, .slice A2 l.length c2]] w fun e w' => e = .returned (.bool true) ∧ Below w.heap.size w w' := by
  have hb0 : Below w.heap.size w ((w.alloc (.cells #[.string m, .string t, .slice A1 l.length c1] 29)).alloc (.cells #[.string m, .string t, .slice A2 l.length c2] 29)) := ((Below.refl _ _).alloc (Nat.le_refl _) _).alloc (by simp) _
  have HQ := Lib.hid (EqualV_yes l A1 A2 c1 c2 _ ((h1.below hb0).more hb0.size) ((h2.below hb0).more hb0.size) hl)
  have e1 : (m.toList == m.toList) = true := by simp
  have e2 : (t.toList == t.toList) = true := by simp
  clear h1 h2
  go_enter Tryd.func26, Tryd.ntmps26
  go_wp2_with (go_at_call 51; refine HQ.out.mono ?_; rintro e w2 ⟨rfl, hb2⟩)
  go_ret
  exact ⟨rfl, hb0.trans (hb2.mono hb0.size)⟩

def hedA : HeadV := ⟨ByteArray.mk #[71, 69, 84], ByteArray.mk #[47], []⟩
theorem hedA_ok : checkH hedA = 0 := by decide +kernel
theorem hedA_print : bs (printH hedA) = ByteArray.mk #[71, 69, 84, 32, 47, 32, 72, 84, 84, 80, 47, 49, 46, 49, 13, 10, 13, 10] := rfl
theorem print_h0 (W : World) : Calls Tryd.prog 50 #[.agg #[.string (ByteArray.mk #[71, 69, 84]), .string (ByteArray.mk #[47]), .slice none 0 0]] W fun e w' => e = .returned (.tuple #[.string (ByteArray.mk #[71, 69, 84, 32, 47, 32, 72, 84, 84, 80, 47, 49, 46, 49, 13, 10, 13, 10]), .int .i64 0]) ∧ Below W.heap.size W w' := by
  refine (HPrint_any hedA none 0 W (Sl.nil _ _ _ _) (by decide) (by decide) (fun f hf => by cases hf) (by decide)).mono ?_
  rintro e w' (⟨_, rfl, hb⟩ | ⟨hc, _⟩)
  · exact ⟨by rw [hedA_print], hb⟩
  · exact absurd hedA_ok hc
theorem print_ok {h : HeadV} {A : Option Addr} {c : Nat} {W : World} (hc : checkH h = 0) (hf : Sl W W.heap.size 2 A h.fs.length (h.fs.flatMap cellsV)) (hm : h.m.size ≤ maxLen) (ht : h.t.size ≤ maxLen)
    (hs : ∀ f ∈ h.fs, f.1.size ≤ maxLen ∧ f.2.size ≤ maxLen) (hl : h.fs.length ≤ 4398046511104) :
    Calls Tryd.prog 50 #[.agg #[.string h.m, .string h.t, .slice A h.fs.length c]] W fun e w' => e = .returned (.tuple #[.string (bs (printH h)), .int .i64 0]) ∧ Below W.heap.size W w' := by
  refine (HPrint_any h A c W hf hm ht hs hl).mono ?_
  rintro e w' (⟨_, rfl, hb⟩ | ⟨hn, _⟩)
  · exact ⟨rfl, hb⟩
  · exact absurd hc hn
theorem print_no {h : HeadV} {A : Option Addr} {c : Nat} {W : World} (hc : checkH h ≠ 0) (hf : Sl W W.heap.size 2 A h.fs.length (h.fs.flatMap cellsV)) (hm : h.m.size ≤ maxLen) (ht : h.t.size ≤ maxLen)
    (hs : ∀ f ∈ h.fs, f.1.size ≤ maxLen ∧ f.2.size ≤ maxLen) (hl : h.fs.length ≤ 4398046511104) :
    Calls Tryd.prog 50 #[.agg #[.string h.m, .string h.t, .slice A h.fs.length c]] W fun e w' => e = .returned (.tuple #[.string (ByteArray.mk #[]), .int .i64 (checkH h)]) ∧ Below W.heap.size W w' := by
  refine (HPrint_any h A c W hf hm ht hs hl).mono ?_
  rintro e w' (⟨hn, _⟩ | ⟨_, rfl, hb⟩)
  · exact absurd hn hc
  · exact ⟨rfl, hb⟩
theorem parse_err_any {s : ByteArray} {x : Int} {W : World} (hp : parseH s.data.toList = .error x) (hl : LibOk W) :
    Calls Tryd.prog 58 #[.string s] W fun e w' => e = .returned (.tuple #[.agg #[.string (ByteArray.mk #[]), .string (ByteArray.mk #[]), .slice none 0 0], .int .i64 x]) ∧ Below W.heap.size W w' := by
  refine (HParse_any s W hl).mono ?_
  rintro e w' (⟨y, hy, rfl, hb⟩ | ⟨h, A, c, hy, _⟩)
  · rw [hp] at hy
    injection hy with hy
    subst hy
    exact ⟨rfl, hb⟩
  · rw [hp] at hy; cases hy
theorem parse_ok_any {s : ByteArray} {h : HeadV} {W : World} (hp : parseH s.data.toList = .ok h) (hl : LibOk W) :
    Calls Tryd.prog 58 #[.string s] W fun e w' => ∃ A c, e = .returned (.tuple #[.agg #[.string h.m, .string h.t, .slice A h.fs.length c], .int .i64 0]) ∧ OwnV w' W.heap.size (.slice A h.fs.length c) h.fs ∧ Below W.heap.size W w' := by
  refine (HParse_any s W hl).mono ?_
  rintro e w' (⟨y, hy, _⟩ | ⟨g, A, c, hy, rfl, hO, hb⟩)
  · rw [hp] at hy; cases hy
  · rw [hp] at hy
    injection hy with hy
    subst hy
    exact ⟨A, c, rfl, hO, hb⟩
theorem OwnV.sl {w : World} {base : Nat} {A : Option Addr} {n c : Nat} {l : List PairV} (h : OwnV w base (.slice A n c) l) : Sl w w.heap.size 2 A l.length (l.flatMap cellsV) := by
  obtain ⟨A', c', e, hs⟩ := h.form
  injection e with e1 e2 e3
  subst e1
  exact hs

end Go.Proofs.YtchoenfclfafiaaDoor
