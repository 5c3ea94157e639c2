/- The walk of HeadOnce. -/
import Derived.Test.YtjnfddibmijdkaaDoorHedS
import Derived.Deep.CutRange
namespace Go.Proofs.YtjnfddibmijdkaaDoor
open Go.RowKit

def h1 : HeadV := ⟨ByteArray.mk #[65], ByteArray.mk #[98], [(ByteArray.mk #[120], ByteArray.mk #[121])]⟩
def s1 : ByteArray := ByteArray.mk #[65, 32, 98, 32, 72, 84, 84, 80, 47, 49, 46, 49, 13, 10, 120, 58, 32, 32, 121, 32, 13, 10, 13, 10]
theorem parse_h1 : parseH s1.data.toList = .ok h1 := by kernel_rfl
theorem parse_s1 {W : World} (hl : LibOk W) :
    Calls Tryd.prog 10 #[.string (ByteArray.mk #[65, 32, 98, 32, 72, 84, 84, 80, 47, 49, 46, 49, 13, 10, 120, 58, 32, 32, 121, 32, 13, 10, 13, 10])] W fun e w' => ∃ A c, e = .returned (.tuple #[.agg #[.string (ByteArray.mk #[65]), .string (ByteArray.mk #[98]), .slice A 1 c], .int .i64 0]) ∧
      (∃ b off, A = some ⟨b, off, none⟩ ∧ w'.cell? ⟨b, off + 1, none⟩ = some (.string (ByteArray.mk #[121]))) ∧ Below W.heap.size W w' := by
  refine (parse_ok_any (s := s1) parse_h1 hl).mono ?_
  rintro e w' ⟨A, c, rfl, hO, hb⟩
  obtain ⟨b, off, rfl, _, _, h⟩ := fld_at hO.sl 0 (by decide)
  exact ⟨_, c, rfl, ⟨b, off, rfl, h⟩, hb⟩
theorem parse_no {l x : List UInt8} {h : HeadV} (hp : parseH l = .ok h) (hx : x ≠ []) : ∃ e, parseH (l ++ x) = .error e ∧ (e == 0) = false := by
  cases hg : parseH (l ++ x) with
  | ok g => exact absurd hg (parse_once hp hx g)
  | error e =>
    refine ⟨e, rfl, beq_eq_false_iff_ne.2 ?_⟩
    rcases parse_err hg with h | h <;> rw [h] <;> decide

set_option maxRecDepth 100000 in
set_option maxHeartbeats 1600000 in
theorem headOnce_any (s more : ByteArray) (w : World) (_ : s.size ≤ 140737488351232) (hm : more.size ≤ 140737488351232) (hlib : LibOk w) :
    Calls Tryd.prog 4 #[.string s, .string more] w fun e w' => e = .returned (.bool true) ∧ Below w.heap.size w w' := by
  have HLB : Hid (∀ W, Below w.heap.size w W → LibOk W) := fun W hb => hlib.below hb
  have HP1 := Lib.hid (parse_s1 hlib)
  clear hlib
  cases hp : parseH s.data.toList with
  | error x =>
    have HPS : Hid (∀ W, Below w.heap.size w W → _) := fun W hb => parse_err_any (s := s) hp (HLB.out W hb)
    have q0 : (x != 0) = true := by rcases parse_err hp with h | h <;> rw [h] <;> decide
    have q1 : (x == 0) = false := by rcases parse_err hp with h | h <;> rw [h] <;> decide
    clear hp
    go_enter Tryd.func4, Tryd.ntmps4
    go_wp2_with fail
    refine HP1.out.mono ?_
    rintro e w1 ⟨A, c, rfl, ⟨b, off, rfl, hc⟩, hb1⟩
    have hb2 := hb1.alloc hb1.size (.cells #[.string (ByteArray.mk #[65]), .string (ByteArray.mk #[98]), .slice (some ⟨b, off, none⟩) 1 c] 24)
    have hlt : b < w1.heap.size := World.block_lt_of_cell? w1 _ hc
    have HPX := Lib.hid (HPS.out _ hb2)
    go_wp2_with fail
    refine HPX.out.mono ?_
    rintro e w3 ⟨rfl, hb3⟩
    have hb3 := hb2.trans (hb3.mono hb2.size)
    have hb4 := hb3.alloc hb3.size (.cells #[.string (ByteArray.mk #[]), .string (ByteArray.mk #[]), .slice none 0 0] 24)
    have HSH := Lib.hid (SameHead_yes (ByteArray.mk #[]) (ByteArray.mk #[]) [] none none 0 0 (w3.alloc (.cells #[.string (ByteArray.mk #[]), .string (ByteArray.mk #[]), .slice none 0 0] 24)) (Sl.nil _ _ _ _) (Sl.nil _ _ _ _) (by decide))
    have HB4 := Lib.hid hb4
    clear hc hb1 hb2 hb3 hb4
    go_wp2_with fail
    refine HSH.out.mono ?_
    rintro e w5 ⟨rfl, hb5⟩
    go_wp2_with fail
    go_ret
    exact ⟨rfl, HB4.out.trans (hb5.mono HB4.out.size)⟩
  | ok h =>
    have HPS : Hid (∀ W, Below w.heap.size w W → _) := fun W hb => parse_ok_any (s := s) hp (HLB.out W hb)
    obtain ⟨hsl, hck, _⟩ := parse_ok hp
    have ho := head_ok hck
    have hss : s.data.toList.length = s.size := by simp
    have hmz : h.m.size ≤ maxLen := by have := ho.short; unfold maxLen; omega
    have htz : h.t.size ≤ maxLen := by have := ho.line; unfold maxLen; omega
    have hfz : ∀ f ∈ h.fs, f.1.size ≤ maxLen ∧ f.2.size ≤ maxLen := fun f hf => by have := ho.lens f hf; unfold maxLen; omega
    have hfl : h.fs.length ≤ 4398046511104 := by have := ho.few; omega
    have HPR : Hid (∀ W A c, Sl W W.heap.size 2 A h.fs.length (h.fs.flatMap cellsV) → _) := fun W A c hsl => print_ok (c := c) hck hsl hmz htz hfz hfl
    have HCK : Hid (∀ W A c, Sl W W.heap.size 2 A h.fs.length (h.fs.flatMap cellsV) → Calls Tryd.prog 9 #[.agg #[.string h.m, .string h.t, .slice A h.fs.length c]] W fun e w' => e = .returned (.int .i64 0) ∧ Below W.heap.size W w') := fun W A c hsl => by
      have := HCheck_any h A c W hsl hmz htz hfz hfl
      rw [hck] at this
      exact this
    have HSAME : Hid (∀ W A1 A2 c1 c2, _ → _ → _) := fun W A1 A2 c1 c2 h1 h2 => SameHead_yes h.m h.t h.fs A1 A2 c1 c2 W h1 h2 hfl
    have hpl := printH_len h ho
    have HMORE : Hid (more.data.toList ≠ [] → ∃ e, (e == 0) = false ∧ ∀ W, Below w.heap.size w W → Calls Tryd.prog 10 #[.string (s ++ more)] W fun r w' => r = .returned (.tuple #[.agg #[.string (ByteArray.mk #[]), .string (ByteArray.mk #[]), .slice none 0 0], .int .i64 e]) ∧ Below W.heap.size W w') := fun hne => by
      obtain ⟨e, he, h0⟩ := parse_no hp hne
      refine ⟨e, h0, fun W hb => parse_err_any ?_ (HLB.out W hb)⟩
      rw [ByteArray.data_append, Array.toList_append]
      exact he
    have y1 : ∀ W, (Op.stringOp .add s more).run Tryd.prog W = .ok (.string (s ++ more)) W := fun W => run_string_add_sum W s more (by omega)
    have HAG : Hid ((printH h).length ≤ 4096 → ∀ W, Below w.heap.size w W → _) := fun hle W hb => parse_ok_any (s := bs (printH h)) (parse_print hck hle) (HLB.out W hb)
    have HAB : Hid (4096 < (printH h).length → ∀ W, Below w.heap.size w W → _) := fun hle W hb => parse_err_any (s := bs (printH h)) (parse_len hle) (HLB.out W hb)
    obtain ⟨Y, hY⟩ : ∃ Y, printH h = Y := ⟨_, rfl⟩
    rw [hY] at HPR HAG HAB hpl
    obtain ⟨m, t, fs⟩ := h
    dsimp only at HPS HPR HCK HSAME HAG hfl
    clear hp hsl hck ho hss hmz htz hfz hY
    go_enter Tryd.func4, Tryd.ntmps4
    go_wp2_with fail
    refine HP1.out.mono ?_
    rintro e w1 ⟨A, c, rfl, ⟨b, off, rfl, hc⟩, hb1⟩
    have hb2 := hb1.alloc hb1.size (.cells #[.string (ByteArray.mk #[65]), .string (ByteArray.mk #[98]), .slice (some ⟨b, off, none⟩) 1 c] 24)
    have hlt : b < w1.heap.size := World.block_lt_of_cell? w1 _ hc
    have HPX := Lib.hid (HPS.out _ hb2)
    go_wp2_with fail
    refine HPX.out.mono ?_
    rintro e w3 ⟨A3, c3, rfl, hO3, hb3⟩
    have hb3 := hb2.trans (hb3.mono hb2.size)
    obtain ⟨B, hBdef⟩ : ∃ B, w3.heap.size = B := ⟨_, rfl⟩
    have hbx : ∀ W, Below (w3.heap.size + 1) (w3.alloc (.cells #[.string m, .string t, .slice A3 fs.length c3] 24)) W → (W.cell? ⟨w3.heap.size, 0, none⟩ = some (.string m) ∧ W.cell? ⟨w3.heap.size, 1, none⟩ = some (.string t) ∧ W.cell? ⟨w3.heap.size, 2, none⟩ = some (.slice A3 fs.length c3)) ∧ Below w.heap.size w W ∧ Sl W W.heap.size 2 A3 fs.length (fs.flatMap cellsV) := fun W hb => by
      obtain ⟨h1, h2⟩ := box_facts hb
      exact ⟨⟨h1 0, h1 1, h1 2⟩, hb3.trans (h2.mono hb3.size), (hO3.sl.below h2).more h2.size⟩
    have HBX := Lib.hid hbx
    have hB4 : Below (w3.heap.size + 1) (w3.alloc (.cells #[.string m, .string t, .slice A3 fs.length c3] 24)) (w3.alloc (.cells #[.string m, .string t, .slice A3 fs.length c3] 24)) := Below.refl _ _
    have hz4 : w3.heap.size + 1 ≤ (w3.alloc (.cells #[.string m, .string t, .slice A3 fs.length c3] 24)).heap.size := by simp
    have HB4 := Lib.hid (And.intro hB4 hz4)
    clear hc hb1 hb2 hb3 hO3 hbx hB4 hz4 hBdef
    go_upto_if 44 with fail
    generalize hW4 : w3.alloc (.cells #[.string m, .string t, .slice A3 fs.length c3] 24) = W4 at *
    clear hW4
    go_cut [9, 10, 44] from 45 to 53 (fun _ _ _ wx => Below (w3.heap.size + 1) W4 wx)
    case first =>
      by_cases hne : more.data.toList = []
      · have q0 : more.toList.isEmpty = true := by rw [Lib.toList_data, hne]; rfl
        have q3 : (!more.toList.isEmpty) = false := by rw [q0]; rfl
        clear hne
        rw [q3]
        go_wp2_with fail
        go_meet
        exact HB4.out.1
      · have q0 : more.toList.isEmpty = false := by rw [Lib.toList_data]; cases h : more.data.toList with | nil => exact absurd h hne | cons _ _ => rfl
        have q3 : (!more.toList.isEmpty) = true := by rw [q0]; rfl
        obtain ⟨x, qx, HNO⟩ := HMORE.out hne
        have HN := Lib.hid (HNO W4 (HBX.out W4 HB4.out.1).2.1)
        clear hne HNO
        rw [q3]
        go_wp2_with fail
        refine HN.out.mono ?_
        rintro e w5 ⟨rfl, hb5⟩
        have hb6 := (HB4.out.1.trans (hb5.mono HB4.out.2)).alloc (o := .cells #[.string (ByteArray.mk #[]), .string (ByteArray.mk #[]), .slice none 0 0] 24) (Nat.le_trans HB4.out.2 hb5.size)
        have HB6 := Lib.hid hb6
        clear hb5 hb6
        go_wp2_with fail
        go_meet
        exact HB6.out
    case rest =>
      have ⟨⟨b0, b1, b2⟩, hw, hsl⟩ := HBX.out wc hcut
      have HPP := Lib.hid (HPR.out wc A3 c3 hsl)
      have hzc : w3.heap.size + 1 ≤ wc.heap.size := Nat.le_trans HB4.out.2 hcut.size
      have HC := Lib.hid hcut
      clear hw hsl hcut
      go_wp2_with fail
      refine HPP.out.mono ?_
      rintro e w6 ⟨rfl, hb6⟩
      have hb6 := HC.out.trans (hb6.mono hzc)
      have hz6 : w3.heap.size + 1 ≤ w6.heap.size := Nat.le_trans HB4.out.2 hb6.size
      have ⟨⟨d0, d1, d2⟩, hw6, hsl6⟩ := HBX.out w6 hb6
      have HCC := Lib.hid (HCK.out w6 A3 c3 hsl6)
      have HB6 := Lib.hid hb6
      clear b0 b1 b2 hw6 hsl6 hb6
      go_upto_region 14 with (go_at_call 9; refine HCC.out.mono ?_; rintro e w7 ⟨rfl, hb7⟩)
      have hb7 := HB6.out.trans (hb7.mono hz6)
      have hz7 : w3.heap.size + 1 ≤ w7.heap.size := Nat.le_trans HB4.out.2 hb7.size
      have ⟨_, hw7, _⟩ := HBX.out w7 hb7
      have HB7 := Lib.hid hb7
      clear d0 d1 d2 hb7
      by_cases hlen : Y.length ≤ 4096
      · have dl : decide ((4096 : Int) < (Y.length : Int)) = false := decide_eq_false (by omega)
        have HPG := Lib.hid (HAG.out hlen w7 hw7)
        clear hw7 hlen
        go_wp2_with fail
        refine HPG.out.mono ?_
        rintro e w8 ⟨A8, c8, rfl, hO8, hb8⟩
        have hb8 := HB7.out.trans (hb8.mono hz7)
        have hz8 : w3.heap.size < w8.heap.size := Nat.le_trans HB4.out.2 hb8.size
        have ⟨⟨f0, f1, f2⟩, _, _⟩ := HBX.out w8 hb8
        have hal : Below w8.heap.size w8 (w8.alloc (.cells #[.string m, .string t, .slice A8 fs.length c8] 24)) := (Below.refl _ _).alloc (Nat.le_refl _) _
        have hb9 := hb8.trans (hal.mono (Nat.le_trans HB4.out.2 hb8.size))
        have ⟨_, hw9, hs9⟩ := HBX.out _ hb9
        have HSM := Lib.hid (HSAME.out _ A3 A8 c3 c8 hs9 ((hO8.sl.below hal).more hal.size))
        have HW9 := Lib.hid hw9
        clear hb8 hO8 hal hb9 hs9 hw9
        go_wp2_with (go_at_call 11; refine HSM.out.mono ?_; rintro e w10 ⟨rfl, hb10⟩)
        go_ret
        exact ⟨rfl, HW9.out.trans (hb10.mono HW9.out.size)⟩
      · have dl : decide ((4096 : Int) < (Y.length : Int)) = true := decide_eq_true (by omega)
        have HPB := Lib.hid (HAB.out (by omega) w7 hw7)
        clear hw7 hlen
        go_wp2_with fail
        refine HPB.out.mono ?_
        rintro e w8 ⟨rfl, hb8⟩
        have hb8 := HB7.out.trans (hb8.mono hz7)
        have hb9 := hb8.alloc (o := .cells #[.string (ByteArray.mk #[]), .string (ByteArray.mk #[]), .slice none 0 0] 24) (Nat.le_trans HB4.out.2 hb8.size)
        have ⟨_, hw9, _⟩ := HBX.out _ hb9
        have HW9 := Lib.hid hw9
        clear hb8 hb9 hw9
        go_wp2_with fail
        go_ret
        exact ⟨rfl, HW9.out⟩
end Go.Proofs.YtjnfddibmijdkaaDoor
