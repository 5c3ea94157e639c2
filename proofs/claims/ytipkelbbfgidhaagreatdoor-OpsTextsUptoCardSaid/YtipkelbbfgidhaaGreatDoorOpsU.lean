/- ops.Holds at phrases, and at parts of texts. -/
import Derived.Test.YtipkelbbfgidhaaGreatDoorOpsT
import Derived.Test.YtipkelbbfgidhaaGreatDoorOLower
namespace Go.Proofs.YtipkelbbfgidhaaGreatDoor
open Go.RowKit

def tstP (ws : List ByteArray) (v : ByteArray) : Bool := decide (0 < (hitsTo (lstS ws) (lowerL v.data.toList) (lowerL v.data.toList).length).length)
theorem lowB_size (v : ByteArray) : (lowB v).size = v.size := by
  unfold lowB
  rw [bs_size]
  unfold lowerL
  simp
set_option maxRecDepth 100000 in
set_option maxHeartbeats 1600000 in
theorem phrTest_any (ws : List ByteArray) (hG : GoodW ws) (v : ByteArray) (hv : v.size ≤ 8192) (gt gb : Nat) (w : World) (h : PhrAt ws gt gb w) :
    Calls Tryz.prog 25 #[.string v, .pointer (some ⟨gt, 0, none⟩), .pointer (some ⟨gb, 0, none⟩)] w fun e w' => e = .returned (.bool (tstP ws v)) ∧ Below w.heap.size w w' := by
  obtain ⟨lo, g, cap, ns, ss, ms, A, c, h1, h2, hT⟩ := h
  have HL : Hid (Calls Tryz.prog 5 #[.string v] w.drew (StrPost (lowB v) w.drew)) := Lib.hid (Lower_any v w.drew (by unfold maxLen; omega))
  have HS : Hid (∀ W, Below w.heap.size w W → Calls Tryz.prog 26 #[.slice (some ⟨g, 0, none⟩) ms.length cap, .int .i64 (ws.length : Int), .string (lowB v)] W fun e w' => e = .returned (.tuple #[.bool (tstP ws v), .int .i64 0]) ∧ Below W.heap.size W w') := Lib.hid fun W hW =>
    Some_tree hG (lowB v) (by rw [lowB_size]; exact hv) (hT.below hW)
  generalize tstP ws v = r at *
  generalize lowB v = lv at *
  generalize ws.length = n at *
  clear hT
  go_enter Tryz.func25, Tryz.ntmps25
  go_wp2_with fail
  go_region_held3 (fun w' => w'.cell? ⟨gt, 0, none⟩ = some (.slice (some ⟨g, 0, none⟩) ms.length cap) ∧ w'.cell? ⟨gb, 0, none⟩ = some (.slice A n c))
    (first | exact ⟨h1, h2⟩ | exact ⟨cell_kept hb2 h1, cell_kept hb2 h2⟩ | exact ⟨cell_kept hb4 h1, cell_kept hb4 h2⟩ | go_keep | fail "keep")
    (first
      | (go_at_call 5; (with_reducible refine (HL.out).mono ?_); rintro e w2 ⟨rfl, hb2'⟩; have hb2 : Below w.heap.size w w2 := undrew hb2')
      | (go_at_call 26; (with_reducible refine (HS.out _ hb2).mono ?_); rintro e w4 ⟨rfl, hb4'⟩; have hb4 : Below w.heap.size w w4 := hb2.trans (hb4'.mono hb2.size)) | fail "arm")
  go_wp2_with fail
  go_ret
  exact ⟨rfl, hb4⟩
set_option maxRecDepth 100000 in
set_option maxHeartbeats 1600000 in
theorem madeP_any (arg : ByteArray) (w : World) (hlib : LibOk w) (ha : arg.size ≤ 1048576) :
    Calls Tryz.prog 7 #[.int .i64 2, .string arg] w fun e w' => (OkW (phrW arg) → PhrYes (phrW arg) w e w') ∧ (¬ OkW (phrW arg) → PhrNo w e w') := by
  have hb : Below w.heap.size w ((w.alloc (.cells #[.int .i64 2] 3)).alloc (.cells #[.string arg] 9)) := ((Below.refl _ _).alloc (Nat.le_refl _) _).alloc (by simp) _
  have hp := phrases_any arg ((w.alloc (.cells #[.int .i64 2] 3)).alloc (.cells #[.string arg] 9)) (hlib.below hb) ha
  generalize phrW arg = ws at *
  by_cases hok : OkW ws
  · have HP := Lib.hid (hp.mono fun e w' h => h.1 hok)
    clear hp hlib
    go_enter Tryz.func7, Tryz.ntmps7
    go_wp2_with (go_at_call 9; apply Hid.out)
    unfold Hid
    refine HP.out.mono ?_
    rintro e w1 ⟨hb1, gt, gb, rfl, hat⟩
    unfold phrF
    have hb2 := hb.trans (hb1.mono hb.size)
    go_wp2_with fail
    go_ret2
    exact ⟨fun _ => ⟨hb2, gt, gb, rfl, hat⟩, fun h => absurd hok h⟩
  · have HP := Lib.hid (hp.mono fun e w' h => h.2 hok)
    clear hp hlib
    go_enter Tryz.func7, Tryz.ntmps7
    go_wp2_with (go_at_call 9; apply Hid.out)
    unfold Hid
    refine HP.out.mono ?_
    rintro e w1 ⟨hb1, gt, gb, r, hr, rfl⟩
    unfold phrF
    have hb2 := hb.trans (hb1.mono hb.size)
    go_wp2_with fail
    go_ret2
    exact ⟨fun h => absurd h hok, fun _ => ⟨hb2, gt, gb, r, hr, rfl⟩⟩
/-- What Holds says: the truth, and whether all went well. -/
def HeldPost (is ok : Bool) (w : World) (e : Ending) (w' : World) : Prop := ∃ r : Nat, (ok = true ↔ r = 0) ∧ e = .returned (.tuple #[.bool is, .int .i64 (r : Int)]) ∧ Below w.heap.size w w'
set_option maxRecDepth 100000 in
set_option maxHeartbeats 1600000 in
theorem holdsP_any (arg v : ByteArray) (w : World) (hlib : LibOk w) (ha : arg.size ≤ 1048576) (is ok : Bool) (hyes : OkW (phrW arg) ∧ v.size ≤ 8192 → is = tstP (phrW arg) v ∧ ok = true) (hno : ¬ (OkW (phrW arg) ∧ v.size ≤ 8192) → is = false ∧ ok = false) :
    Calls Tryz.prog 6 #[.int .i64 2, .string arg, .string v] w (HeldPost is ok w) := by
  have hp := madeP_any arg w hlib ha
  generalize phrW arg = ws at *
  by_cases hok : OkW ws
  · have HP := Lib.hid (hp.mono fun e w' h => h.1 hok)
    by_cases hbig : 8192 < v.size
    · obtain ⟨rfl, rfl⟩ := hno (fun h => by omega)
      have d0 : decide ((8192 : Int) < (v.size : Int)) = true := by simp; omega
      clear hp hlib hyes hno
      go_enter Tryz.func6, Tryz.ntmps6
      go_wp2_with (go_at_call 7; apply Hid.out)
      unfold Hid
      refine HP.out.mono ?_
      rintro e w1 ⟨hb1, gt, gb, rfl, hat⟩
      unfold phrF
      go_wp2_with fail
      go_ret2
      exact ⟨2, by decide, rfl, hb1⟩
    · obtain ⟨rfl, rfl⟩ := hyes ⟨hok, by omega⟩
      have d0 : decide ((8192 : Int) < (v.size : Int)) = false := by simp; omega
      have HT : Hid (∀ gt gb W, PhrAt ws gt gb W → Calls Tryz.prog 25 #[.string v, .pointer (some ⟨gt, 0, none⟩), .pointer (some ⟨gb, 0, none⟩)] W fun e w' => e = .returned (.bool (tstP ws v)) ∧ Below W.heap.size W w') := Lib.hid fun gt gb W hat => phrTest_any ws hok.1 v (by omega) gt gb W hat
      generalize tstP ws v = b at *
      clear hp hlib hyes hno
      go_enter Tryz.func6, Tryz.ntmps6
      go_wp2_with (go_at_call 7; apply Hid.out)
      unfold Hid
      refine HP.out.mono ?_
      rintro e w1 ⟨hb1, gt, gb, rfl, hat⟩
      have HTT := Lib.hid (HT.out gt gb w1 hat)
      unfold phrF
      go_wp2_with (go_at_call 25; apply Hid.out)
      unfold Hid
      refine HTT.out.mono ?_
      rintro e w2 ⟨rfl, hb2⟩
      go_wp2_with fail
      go_ret2
      exact ⟨0, by simp, rfl, hb1.trans (hb2.mono hb1.size)⟩
  · obtain ⟨rfl, rfl⟩ := hno (fun h => hok h.1)
    have HP := Lib.hid (hp.mono fun e w' h => h.2 hok)
    clear hp hlib hyes hno
    go_enter Tryz.func6, Tryz.ntmps6
    go_wp2_with (go_at_call 7; apply Hid.out)
    unfold Hid
    refine HP.out.mono ?_
    rintro e w1 ⟨hb1, gt, gb, r, hr, rfl⟩
    have hr2 : ((r : Int) == 0) = false := beq_eq_false_iff_ne.2 (by omega)
    unfold phrF
    go_wp2_with fail
    go_ret2
    exact ⟨r, by simp; omega, rfl, hb1⟩
theorem held_any (op : Int) (arg v : ByteArray) (w : World) (is ok : Bool) (h : Calls Tryz.prog 6 #[.int .i64 op, .string arg, .string v] w (HeldPost is ok w)) :
    Calls Tryz.prog 4 #[.int .i64 op, .string arg, .string v] w fun e w' => e = .returned (.tuple #[.bool is, .bool ok]) ∧ Below w.heap.size w w' := by
  have HH := Lib.hid h
  clear h
  go_enter Tryz.func4, Tryz.ntmps4
  go_wp2_with (go_at_call 6; apply Hid.out)
  unfold Hid
  refine HH.out.mono ?_
  rintro e w1 ⟨r, hr, rfl, hb⟩
  have hrb : ((r : Int) == 0) = ok := by
    cases ok with
    | true => rw [hr.1 rfl]; rfl
    | false => exact beq_eq_false_iff_ne.2 fun e => absurd (hr.2 (by omega)) (by decide)
  go_wp2_with fail
  go_ret2
  exact ⟨rfl, hb⟩
end Go.Proofs.YtipkelbbfgidhaaGreatDoor
