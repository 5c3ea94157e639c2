/- The walks of wickref.SameHead (the same heads) and of HeadBack. -/
import Derived.Test.YtjnfddibmijdkaaDoorHedY
import Derived.Test.YtjnfddibmijdkaaDoorFldE
import Derived.Test.YtjnfddibmijdkaaDoorOpen
namespace Go.Proofs.YtjnfddibmijdkaaDoor
open Go.RowKit

set_option maxRecDepth 100000 in
set_option maxHeartbeats 800000 in
theorem SameHead_yes (m t : ByteArray) (l : List PairV) (A1 A2 : Option Addr) (c1 c2 : Nat) (w : World) (h1 : Sl w w.heap.size 2 A1 l.length (l.flatMap cellsV)) (h2 : Sl w w.heap.size 2 A2 l.length (l.flatMap cellsV)) (hl : l.length ≤ 4398046511104) :
    Calls Tryd.prog 11 #[.agg #[.string m, .string t, .slice A1 l.length c1], .agg #[.string m, .string t, .slice A2 l.length c2]] w fun e w' => e = .returned (.bool true) ∧ Below w.heap.size w w' := by
  have hb0 : Below w.heap.size w ((w.alloc (.cells #[.string m, .string t, .slice A1 l.length c1] 24)).alloc (.cells #[.string m, .string t, .slice A2 l.length c2] 24)) := ((Below.refl _ _).alloc (Nat.le_refl _) _).alloc (by simp) _
  have HQ := Lib.hid (EqualV_yes l A1 A2 c1 c2 _ ((h1.below hb0).more hb0.size) ((h2.below hb0).more hb0.size) hl)
  have e1 : (m.toList == m.toList) = true := by simp
  have e2 : (t.toList == t.toList) = true := by simp
  clear h1 h2
  go_enter Tryd.func11, Tryd.ntmps11
  go_wp2_with (go_at_call 30; refine HQ.out.mono ?_; rintro e w2 ⟨rfl, hb2⟩)
  go_ret
  exact ⟨rfl, hb0.trans (hb2.mono hb0.size)⟩

def hedA : HeadV := ⟨ByteArray.mk #[71, 69, 84], ByteArray.mk #[47], []⟩
theorem hedA_ok : checkH hedA = 0 := by decide +kernel
theorem hedA_print : bs (printH hedA) = ByteArray.mk #[71, 69, 84, 32, 47, 32, 72, 84, 84, 80, 47, 49, 46, 49, 13, 10, 13, 10] := rfl
theorem print_h0 (W : World) : Calls Tryd.prog 8 #[.agg #[.string (ByteArray.mk #[71, 69, 84]), .string (ByteArray.mk #[47]), .slice none 0 0]] W fun e w' => e = .returned (.tuple #[.string (ByteArray.mk #[71, 69, 84, 32, 47, 32, 72, 84, 84, 80, 47, 49, 46, 49, 13, 10, 13, 10]), .int .i64 0]) ∧ Below W.heap.size W w' := by
  refine (HPrint_any hedA none 0 W (Sl.nil _ _ _ _) (by decide) (by decide) (fun f hf => by cases hf) (by decide)).mono ?_
  rintro e w' (⟨_, rfl, hb⟩ | ⟨hc, _⟩)
  · exact ⟨by rw [hedA_print], hb⟩
  · exact absurd hedA_ok hc
theorem print_ok {h : HeadV} {A : Option Addr} {c : Nat} {W : World} (hc : checkH h = 0) (hf : Sl W W.heap.size 2 A h.fs.length (h.fs.flatMap cellsV)) (hm : h.m.size ≤ maxLen) (ht : h.t.size ≤ maxLen)
    (hs : ∀ f ∈ h.fs, f.1.size ≤ maxLen ∧ f.2.size ≤ maxLen) (hl : h.fs.length ≤ 4398046511104) :
    Calls Tryd.prog 8 #[.agg #[.string h.m, .string h.t, .slice A h.fs.length c]] W fun e w' => e = .returned (.tuple #[.string (bs (printH h)), .int .i64 0]) ∧ Below W.heap.size W w' := by
  refine (HPrint_any h A c W hf hm ht hs hl).mono ?_
  rintro e w' (⟨_, rfl, hb⟩ | ⟨hn, _⟩)
  · exact ⟨rfl, hb⟩
  · exact absurd hc hn
theorem print_no {h : HeadV} {A : Option Addr} {c : Nat} {W : World} (hc : checkH h ≠ 0) (hf : Sl W W.heap.size 2 A h.fs.length (h.fs.flatMap cellsV)) (hm : h.m.size ≤ maxLen) (ht : h.t.size ≤ maxLen)
    (hs : ∀ f ∈ h.fs, f.1.size ≤ maxLen ∧ f.2.size ≤ maxLen) (hl : h.fs.length ≤ 4398046511104) :
    Calls Tryd.prog 8 #[.agg #[.string h.m, .string h.t, .slice A h.fs.length c]] W fun e w' => e = .returned (.tuple #[.string (ByteArray.mk #[]), .int .i64 (checkH h)]) ∧ Below W.heap.size W w' := by
  refine (HPrint_any h A c W hf hm ht hs hl).mono ?_
  rintro e w' (⟨hn, _⟩ | ⟨_, rfl, hb⟩)
  · exact absurd hn hc
  · exact ⟨rfl, hb⟩
theorem parse_err_any {s : ByteArray} {x : Int} {W : World} (hp : parseH s.data.toList = .error x) (hl : LibOk W) :
    Calls Tryd.prog 10 #[.string s] W fun e w' => e = .returned (.tuple #[.agg #[.string (ByteArray.mk #[]), .string (ByteArray.mk #[]), .slice none 0 0], .int .i64 x]) ∧ Below W.heap.size W w' := by
  refine (HParse_any s W hl).mono ?_
  rintro e w' (⟨y, hy, rfl, hb⟩ | ⟨h, A, c, hy, _⟩)
  · rw [hp] at hy
    injection hy with hy
    subst hy
    exact ⟨rfl, hb⟩
  · rw [hp] at hy; cases hy
theorem parse_ok_any {s : ByteArray} {h : HeadV} {W : World} (hp : parseH s.data.toList = .ok h) (hl : LibOk W) :
    Calls Tryd.prog 10 #[.string s] W fun e w' => ∃ A c, e = .returned (.tuple #[.agg #[.string h.m, .string h.t, .slice A h.fs.length c], .int .i64 0]) ∧ OwnV w' W.heap.size (.slice A h.fs.length c) h.fs ∧ Below W.heap.size W w' := by
  refine (HParse_any s W hl).mono ?_
  rintro e w' (⟨y, hy, _⟩ | ⟨g, A, c, hy, rfl, hO, hb⟩)
  · rw [hp] at hy; cases hy
  · rw [hp] at hy
    injection hy with hy
    subst hy
    exact ⟨A, c, rfl, hO, hb⟩
theorem OwnV.sl {w : World} {base : Nat} {A : Option Addr} {n c : Nat} {l : List PairV} (h : OwnV w base (.slice A n c) l) : Sl w w.heap.size 2 A l.length (l.flatMap cellsV) := by
  obtain ⟨A', c', e, hs⟩ := h.form
  injection e with e1 e2 e3
  subst e1
  exact hs

set_option maxRecDepth 100000 in
set_option maxHeartbeats 1600000 in
theorem headBack_any (m t : ByteArray) (A : Option Addr) (n c : Nat) (fs : List (ByteArray × ByteArray)) (w : World) (hn : n = fs.length) {v : Value} (x : HeadArg w v m t A c fs) (hln : fs.length ≤ 4398046511104) (hlib : LibOk w) :
    Calls Tryd.prog 3 #[.agg #[.string m, .string t, .slice A n c]] w fun e w' => e = .returned (.bool true) ∧ Below w.heap.size w w' := by
  subst hn
  have hsl : Sl w w.heap.size 2 A fs.length (fs.flatMap cellsV) := x.sl
  have hbx : ∀ W, Below (w.heap.size + 1) (w.alloc (.cells #[.string m, .string t, .slice A fs.length c] 24)) W → (W.cell? ⟨w.heap.size, 0, none⟩ = some (.string m) ∧ W.cell? ⟨w.heap.size, 1, none⟩ = some (.string t) ∧ W.cell? ⟨w.heap.size, 2, none⟩ = some (.slice A fs.length c)) ∧ Below w.heap.size w W ∧ Sl W W.heap.size 2 A fs.length (fs.flatMap cellsV) ∧ LibOk W := fun W hb => by
    obtain ⟨h1, h2⟩ := box_facts hb
    exact ⟨⟨h1 0, h1 1, h1 2⟩, h2, (hsl.below h2).more h2.size, hlib.below h2⟩
  have HBX := Lib.hid hbx
  have hsz := x.sizes
  have hmz := x.msize
  have htz := x.tsize
  obtain ⟨W0, hW0⟩ : ∃ W0, w.alloc (.cells #[.string m, .string t, .slice A fs.length c] 24) = W0 := ⟨_, rfl⟩
  have hz0 : W0.heap.size = w.heap.size + 1 := by rw [← hW0]; simp
  have hz0' : w.heap.size + 1 ≤ W0.heap.size := by omega
  rw [hW0] at HBX
  have HW0 := Lib.hid hW0
  clear hsl hbx x hlib hW0 hz0
  go_enter Tryd.func3, Tryd.ntmps3
  go_upto_region 1 with fail
  rw [HW0.out]
  go_wp2_with fail
  refine (print_h0 _).mono ?_
  rintro e w1 ⟨rfl, hb1⟩
  have hb1 := hb1.mono hz0'
  have ⟨⟨b0, b1, b2⟩, _, hs1, _⟩ := HBX.out _ hb1
  by_cases hc : checkH ⟨m, t, fs⟩ = 0
  · have hp := print_ok (h := ⟨m, t, fs⟩) (c := c) hc hs1 hmz htz hsz hln
    dsimp only at hp
    have HP := Lib.hid hp
    have hpl := printH_len _ (head_ok hc)
    by_cases hlen : (printH ⟨m, t, fs⟩).length ≤ 4096
    · have hpp := parse_print hc hlen
      generalize hY : printH ⟨m, t, fs⟩ = Y at *
      have HPP := fun W => Lib.hid (parse_ok_any (s := bs Y) (W := W) hpp)
      clear hpp hp hc hs1 hY hpl
      go_wp2_with fail
      refine HP.out.mono ?_
      rintro e w2 ⟨rfl, hb2⟩
      have hb2 := hb1.trans (hb2.mono (Nat.le_trans hz0' hb1.size))
      have ⟨⟨d0, d1, d2⟩, _, hs2, hl2⟩ := HBX.out _ hb2
      have HL2 := Lib.hid hl2
      clear b0 b1 b2 hl2 hb1 hs2
      go_wp2_with fail
      refine ((HPP _).out HL2.out).mono ?_
      rintro e w3 ⟨A3, c3, rfl, hO3, hb3⟩
      have hb3 := hb2.trans (hb3.mono (Nat.le_trans hz0' hb2.size))
      have hb4 := hb3.alloc (o := .cells #[.string m, .string t, .slice A3 fs.length c3] 24) (Nat.le_trans hz0' hb3.size)
      have ⟨⟨f0, f1, f2⟩, hw4, hs4, _⟩ := HBX.out _ hb4
      have hal : Below w3.heap.size w3 (w3.alloc (.cells #[.string m, .string t, .slice A3 fs.length c3] 24)) := (Below.refl _ _).alloc (Nat.le_refl _) _
      have hs5 := (hO3.sl.below hal).more hal.size
      have HQ := Lib.hid (SameHead_yes m t fs A A3 c c3 _ hs4 hs5 hln)
      have HW4 := Lib.hid hw4
      have dl : decide ((4096 : Int) < (Y.length : Int)) = false := decide_eq_false (by omega)
      have hzz : w.heap.size < w3.heap.size := Nat.lt_of_lt_of_le (Nat.lt_succ_self _) (Nat.le_trans hz0' hb3.size)
      have ⟨⟨g0, g1, g2⟩, _, _, _⟩ := HBX.out _ hb3
      clear d0 d1 d2 hb2 hO3 hal hs5 hs4 hw4 hb4 f0 f1 f2 hb3
      go_wp2_with (go_at_call 11; refine HQ.out.mono ?_; rintro e w5 ⟨rfl, hb5⟩)
      go_ret
      exact ⟨rfl, HW4.out.trans (hb5.mono HW4.out.size)⟩
    · have hpp : parseH (printH ⟨m, t, fs⟩) = .error 5 := parse_len (by omega)
      generalize hY : printH ⟨m, t, fs⟩ = Y at *
      have HPP := fun W => Lib.hid (parse_err_any (s := bs Y) (W := W) hpp)
      clear hpp hp hc hs1 hY
      go_wp2_with fail
      refine HP.out.mono ?_
      rintro e w2 ⟨rfl, hb2⟩
      have hb2 := hb1.trans (hb2.mono (Nat.le_trans hz0' hb1.size))
      have ⟨⟨d0, d1, d2⟩, _, hs2, hl2⟩ := HBX.out _ hb2
      have HL2 := Lib.hid hl2
      clear b0 b1 b2 hl2 hb1 hs2
      go_wp2_with fail
      refine ((HPP _).out HL2.out).mono ?_
      rintro e w3 ⟨rfl, hb3⟩
      have hb3 := hb2.trans (hb3.mono (Nat.le_trans hz0' hb2.size))
      have hb4 := hb3.alloc (o := .cells #[.string (ByteArray.mk #[]), .string (ByteArray.mk #[]), .slice none 0 0] 24) (Nat.le_trans hz0' hb3.size)
      have ⟨_, hw4, _, _⟩ := HBX.out _ hb4
      have HW4 := Lib.hid hw4
      have dl : decide ((4096 : Int) < (Y.length : Int)) = true := decide_eq_true (by omega)
      clear d0 d1 d2 hb2 hw4 hb4 hb3
      go_wp2_with fail
      go_ret
      exact ⟨rfl, HW4.out⟩
  · have hp := print_no (h := ⟨m, t, fs⟩) (c := c) hc hs1 hmz htz hsz hln
    dsimp only at hp
    have HP := Lib.hid hp
    have HCK : Hid (∀ W, Below (w.heap.size + 1) W0 W → Calls Tryd.prog 9 #[.agg #[.string m, .string t, .slice A fs.length c]] W fun e w' => e = .returned (.int .i64 (checkH ⟨m, t, fs⟩)) ∧ Below W.heap.size W w') := fun W hb =>
      HCheck_any ⟨m, t, fs⟩ A c W (HBX.out W hb).2.2.1 hmz htz hsz hln
    have q0 : (checkH ⟨m, t, fs⟩ != 0) = true := bne_iff_ne.2 hc
    have q1 : (checkH ⟨m, t, fs⟩ == 0) = false := beq_eq_false_iff_ne.2 hc
    generalize checkH ⟨m, t, fs⟩ = C at *
    clear hp hc hs1
    go_wp2_with fail
    refine HP.out.mono ?_
    rintro e w2 ⟨rfl, hb2⟩
    have hb2 := hb1.trans (hb2.mono (Nat.le_trans hz0' hb1.size))
    have ⟨⟨d0, d1, d2⟩, _, hs2, hl2⟩ := HBX.out _ hb2
    have HB2 := Lib.hid hb2
    clear b0 b1 b2 hl2 hb1 hs2 hb2
    go_wp2_with (go_at_call 9; refine (HCK.out _ HB2.out).mono ?_; rintro e w3 ⟨rfl, hb3⟩)
    go_ret
    have hb3 := HB2.out.trans (hb3.mono (Nat.le_trans hz0' HB2.out.size))
    exact ⟨by simp, (HBX.out _ hb3).2.1⟩
end Go.Proofs.YtjnfddibmijdkaaDoor
