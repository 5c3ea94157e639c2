/- The walk of one.Feed where it refuses. -/
import Derived.Test.YtchoenfclfafiaaDoorCutW
namespace Go.Proofs.YtchoenfclfafiaaDoor
open Go.RowKit

def FeedNo (rest : ByteArray) (x : Int) (w : World) (e : Ending) (w' : World) : Prop :=
  e = .returned (.tuple #[.agg #[.string rest, .int .i64 0], .slice none 0 0, .int .i64 x]) ∧ Below w.heap.size w w'
theorem rd_two {w : World} {g : Nat} {x y a b : Value} (hx : w.cell? ⟨g, 0, none⟩ = some x) (hy : w.cell? ⟨g, 1, none⟩ = some y) : ((w.setCell ⟨g, 0, none⟩ a).setCell ⟨g, 1, none⟩ b).cell? ⟨g, 0, none⟩ = some a ∧ ((w.setCell ⟨g, 0, none⟩ a).setCell ⟨g, 1, none⟩ b).cell? ⟨g, 1, none⟩ = some b := two_set a b hx hy
set_option maxRecDepth 100000 in
set_option maxHeartbeats 3200000 in
theorem Feed_bad (rest s : ByteArray) (H B A0 : Int) (w : World) (hb : boundsB H B A0 = false) :
    Calls Tryd.prog 17 #[.agg #[.string rest, .int .i64 0], .agg #[.int .i64 H, .int .i64 B, .int .i64 A0], .string s] w (FeedNo rest 1 w) := by
  obtain ⟨W0, hW0, hz, hbx⟩ := feed_boxes rest 0 H B A0 w
  have HBX := Lib.hid hbx
  have HW0 := Lib.hid hW0
  have hbn : bndE H B A0 = 1 := by unfold bndE; rw [hb]; rfl
  have HCK : Hid (Calls Tryd.prog 39 #[.agg #[.int .i64 H, .int .i64 B, .int .i64 A0]] W0 fun e w' => e = .returned (.int .i64 1) ∧ Below W0.heap.size W0 w') := by
    have := OCheck_any H B A0 W0
    rw [hbn] at this
    exact this
  have ⟨⟨hr0, hb0, hz0⟩, _⟩ := hbx W0 (Below.refl _ _)
  have ⟨b0, b1, b2⟩ := hb0.cells
  clear hbx hW0 hb hbn hr0 hb0 hz0
  go_enter Tryd.func17, Tryd.ntmps17
  go_upto_region 1 with fail
  rw [HW0.out]
  go_wp2_with fail
  refine HCK.out.mono ?_
  rintro e w1 ⟨rfl, hb1⟩
  have ⟨⟨hr1, _, hz1⟩, hbw⟩ := HBX.out w1 hb1
  have ⟨r0, r1⟩ := hr1.cells
  have ⟨z0, z1⟩ := hz1.cells
  have f0 := hz1.free 0
  have f1 := hz1.free 1
  have HP : Hid (FeedNo rest 1 w (.returned (.tuple #[.agg #[.string rest, .int .i64 0], .slice none 0 0, .int .i64 1])) ((w1.setCell ⟨w.heap.size + 1 + 1, 0, none⟩ (.string rest)).setCell ⟨w.heap.size + 1 + 1, 1, none⟩ (.int .i64 0))) :=
    ⟨rfl, (hbw.setCell (p := ⟨w.heap.size + 1 + 1, 0, none⟩) (by show w.heap.size ≤ w.heap.size + 1 + 1; omega) _).setCell (p := ⟨w.heap.size + 1 + 1, 1, none⟩) (by show w.heap.size ≤ w.heap.size + 1 + 1; omega) _⟩
  have TT := Lib.hid (two_set (.string rest) (.int .i64 0) z0 z1)
  clear b0 b1 b2 hr1 hz1 hb1 hbw HCK
  go_wp2_with fail
  exact bodyPost_ret (v := .tuple #[.agg #[.string rest, .int .i64 0], .slice none 0 0, .int .i64 1]) (by have t := TT.out; simp [results, Tryd.results17, go_sem, t.1, t.2]) rfl HP.out
set_option maxRecDepth 100000 in
set_option maxHeartbeats 3200000 in
theorem Feed_large (rest s : ByteArray) (H B A0 : Int) (w : World) (hb : boundsB H B A0 = true) (hr : rest.size ≤ 65536) (hs : 8192 < s.size) :
    Calls Tryd.prog 17 #[.agg #[.string rest, .int .i64 0], .agg #[.int .i64 H, .int .i64 B, .int .i64 A0], .string s] w (FeedNo rest 2 w) := by
  obtain ⟨W0, hW0, hz, hbx⟩ := feed_boxes rest 0 H B A0 w
  have HBX := Lib.hid hbx
  have HW0 := Lib.hid hW0
  have hbn : bndE H B A0 = 0 := by unfold bndE; rw [hb]; rfl
  have HCK : Hid (Calls Tryd.prog 39 #[.agg #[.int .i64 H, .int .i64 B, .int .i64 A0]] W0 fun e w' => e = .returned (.int .i64 0) ∧ Below W0.heap.size W0 w') := by
    have := OCheck_any H B A0 W0
    rw [hbn] at this
    exact this
  have ⟨⟨hr0, hb0, hz0⟩, _⟩ := hbx W0 (Below.refl _ _)
  have ⟨b0, b1, b2⟩ := hb0.cells
  have d1 : decide ((65536 : Int) < (rest.size : Int)) = false := by simp; omega
  have d2 : decide ((8192 : Int) < (s.size : Int)) = true := by simp; omega
  clear hbx hW0 hb hbn hr0 hb0 hz0 hr hs
  go_enter Tryd.func17, Tryd.ntmps17
  go_upto_region 1 with fail
  rw [HW0.out]
  go_wp2_with fail
  refine HCK.out.mono ?_
  rintro e w1 ⟨rfl, hb1⟩
  have ⟨⟨hr1, _, hz1⟩, hbw⟩ := HBX.out w1 hb1
  have ⟨r0, r1⟩ := hr1.cells
  have ⟨z0, z1⟩ := hz1.cells
  have f0 := hz1.free 0
  have f1 := hz1.free 1
  have HP : Hid (FeedNo rest 2 w (.returned (.tuple #[.agg #[.string rest, .int .i64 0], .slice none 0 0, .int .i64 2])) ((w1.setCell ⟨w.heap.size + 1 + 1, 0, none⟩ (.string rest)).setCell ⟨w.heap.size + 1 + 1, 1, none⟩ (.int .i64 0))) :=
    ⟨rfl, (hbw.setCell (p := ⟨w.heap.size + 1 + 1, 0, none⟩) (by show w.heap.size ≤ w.heap.size + 1 + 1; omega) _).setCell (p := ⟨w.heap.size + 1 + 1, 1, none⟩) (by show w.heap.size ≤ w.heap.size + 1 + 1; omega) _⟩
  have TT := Lib.hid (two_set (.string rest) (.int .i64 0) z0 z1)
  clear b0 b1 b2 hr1 hz1 hb1 hbw HCK
  go_wp2_with fail
  exact bodyPost_ret (v := .tuple #[.agg #[.string rest, .int .i64 0], .slice none 0 0, .int .i64 2]) (by have t := TT.out; simp [results, Tryd.results17, go_sem, t.1, t.2]) rfl HP.out
end Go.Proofs.YtchoenfclfafiaaDoor
