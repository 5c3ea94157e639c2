/- The walk of ArgsBack. -/
import Derived.Test.YtedjidammcdkmaaDoorArgX
import Derived.Test.YtedjidammcdkmaaDoorArgE
import Derived.Test.YtedjidammcdkmaaDoorOpenG
namespace Go.Proofs.YtedjidammcdkmaaDoor
open Go.RowKit

theorem OwnA.slK {w : World} {b n c : Nat} {A : Option Addr} {l : List Pair} (h : OwnA w b (.slice A n c) l) : Sl w w.heap.size 2 A l.length (l.flatMap cellsA) := by
  obtain ⟨A', c', e, hs⟩ := h.form
  injection e with e1 _ _
  rw [e1]; exact hs
def backC : List Pair := [(ByteArray.mk #[97, 32, 98], ByteArray.mk #[38])]
theorem back_c : bs (writeP backC) = ByteArray.mk #[97, 43, 98, 61, 37, 50, 54] := by
  have : writeP backC = [97, 43, 98, 61, 37, 50, 54] := by decide
  rw [this]; rfl

set_option maxRecDepth 100000 in
set_option maxHeartbeats 1600000 in
theorem argsBack_walk (l : List Pair) (A : Option Addr) (c : Nat) (w : World) (hA : Sl w w.heap.size 2 A l.length (l.flatMap cellsA)) (hb : bulkA l ≤ 1048576) (hl : l.length ≤ 1048576) (hlib : LibOk w) :
    Calls Tryd.prog 3 #[.slice A l.length c] w fun e w' => e = .returned (.bool true) ∧ Below w.heap.size w w' := by
  have HA : Hid (∀ W, Below w.heap.size w W → Sl W W.heap.size 2 A l.length (l.flatMap cellsA)) := fun W hb => (hA.below hb).more hb.size
  have HC1 : Hid (∀ W c, Sl W W.heap.size 2 (some ⟨w.heap.size, 0, none⟩) 1 (backC.flatMap cellsA) → Calls Tryd.prog 4 #[.slice (some ⟨w.heap.size, 0, none⟩) 1 c] W (StrPost (ByteArray.mk #[97, 43, 98, 61, 37, 50, 54]) W)) := fun W c h => by
    have := Write_any backC _ c W h (by decide) (by decide)
    rw [back_c] at this
    exact this
  have HW : Hid (∀ W, Below w.heap.size w W → Calls Tryd.prog 4 #[.slice A l.length c] W (StrPost (bs (writeP l)) W)) := fun W h => Write_any l A c W (HA.out W h) hb hl
  have hwl := write_len l
  have HF : Hid (∀ most W, Below w.heap.size w W → Calls Tryd.prog 5 #[.string (bs (writeP l)), .int .i64 most] W (FormPost2 most (writeP l) W)) := fun most W h => Form_all (bs (writeP l)) most W (hlib.below h) (by rw [bs_size]; omega)
  have HF1 : Hid (∀ W, Below w.heap.size w W → Calls Tryd.prog 5 #[.string (bs (writeP l)), .int .i64 (l.length : Int)] W fun e w' => ∃ v, e = .returned (.tuple #[v, .int .i64 0]) ∧ OwnA w' W.heap.size v l ∧ Below W.heap.size W w') := fun W h =>
    (HF.out _ W h).mono fun e w' h3 => by
      unfold FormPost2 FormPost at h3
      rw [form_write, Int.toNat_natCast] at h3
      rcases h3 with ⟨_, h3⟩ | ⟨h3, _⟩
      · exact h3
      · omega
  have HF2 : Hid (∀ W, Below w.heap.size w W → Calls Tryd.prog 5 #[.string (bs (writeP l)), .int .i64 ((l.length : Int) - 1)] W fun e w' => ∃ v r, e = .returned (.tuple #[v, .int .i64 r]) ∧ (0 < l.length → r = 2) ∧ Below W.heap.size W w') := fun W h =>
    (HF.out _ W h).mono fun e w' h3 => by
      unfold FormPost2 FormPost at h3
      rw [form_write] at h3
      rcases h3 with ⟨h4, v, h3, _, h5⟩ | ⟨_, h3, h5⟩
      · exact ⟨v, 0, h3, fun h => by omega, h5⟩
      · exact ⟨_, 2, h3, fun _ => rfl, h5⟩
  have i1 : IntKind.i64.wrap ((l.length : Int) - 1) = (l.length : Int) - 1 := IntWalk.i64_in _ (by omega)
  clear hA hb hlib hwl HF
  go_enter Tryd.func3, Tryd.ntmps3
  go_wp2_with fail
  refine (HC1.out _ _ (Sl.lit rfl (by simp) rfl rfl)).mono ?_
  rintro e w1 ⟨rfl, hb1⟩
  have hbw1 := below_new hb1 (Nat.le_refl _)
  clear hb1 HC1
  go_wp2_with fail
  refine (HW.out _ hbw1).mono ?_
  rintro e w2 ⟨rfl, hb2⟩
  have hbw2 := hbw1.trans (hb2.mono hbw1.size)
  clear hb2 hbw1
  generalize bs (writeP l) = S at *
  go_wp2_with fail
  refine (HF1.out _ hbw2).mono ?_
  rintro e w3 ⟨v3, rfl, hO3, hb3⟩
  have hbw3 := hbw2.trans (hb3.mono hbw2.size)
  clear hb3 hbw2
  go_wp2_with fail
  refine (HF2.out _ hbw3).mono ?_
  rintro e w4 ⟨v4, r4, rfl, hr4, hb4⟩
  have hbw4 := hbw3.trans (hb4.mono hbw3.size)
  have hO4 := hO3.below hb4
  obtain ⟨Am, cm, rfl, hSm⟩ := hO4.form
  have HEQ := Lib.hid (EqualA_yes l A Am c cm w4 (HA.out w4 hbw4) hSm (by omega))
  clear hO3 hO4 hSm hb4 hbw3
  go_wp2_with fail
  refine HEQ.out.mono ?_
  rintro e w5 ⟨rfl, hb5⟩
  have hbw5 := hbw4.trans (hb5.mono hbw4.size)
  clear hb5 hbw4
  rcases Nat.eq_zero_or_pos l.length with h0 | hpos
  · have q0 : ((l.length : Int) == 0) = true := by rw [h0]; rfl
    clear h0 hr4
    go_wp2_with fail
    go_ret
    exact ⟨rfl, hbw5⟩
  · obtain rfl := hr4 hpos
    have q0 : ((l.length : Int) == 0) = false := by rw [beq_eq_false_iff_ne]; omega
    clear hpos hr4
    go_wp2_with fail
    go_ret
    exact ⟨rfl, hbw5⟩
theorem argsBack_any (a : GArg) (w : World) {v : Value} (x : ArgsArg w v a) (hb : bulkA a.l ≤ 1048576 ∧ a.l.length ≤ 1048576) (hlib : LibOk w) :
    Calls Tryd.prog 3 #[.slice a.A a.l.length a.c] w fun e w' => e = .returned (.bool true) ∧ Below w.heap.size w w' :=
  argsBack_walk a.l a.A a.c w x.sl hb.1 hb.2 hlib
end Go.Proofs.YtedjidammcdkmaaDoor
