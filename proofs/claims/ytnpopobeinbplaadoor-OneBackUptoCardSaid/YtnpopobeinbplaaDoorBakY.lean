/- The walk of OneBack. -/
import Derived.Test.YtnpopobeinbplaaDoorBakW
namespace Go.Proofs.YtnpopobeinbplaaDoor
open Go.RowKit

def getX : ByteArray := ByteArray.mk #[71, 69, 84, 32, 47, 32, 72, 84, 84, 80, 47, 49, 46, 49, 13, 10, 13, 10, 120]
theorem get_ok : oneR getX.data.toList 4096 4096 = .ok (⟨⟨ByteArray.mk #[71, 69, 84], ByteArray.mk #[47], []⟩, []⟩, 18) := by kernel_rfl
set_option maxRecDepth 100000 in
set_option maxHeartbeats 3200000 in
theorem oneBack_walk (m t b : ByteArray) (fs : List PairV) (A : Option Addr) (c : Nat) (ns : List Int) (A2 : Option Addr) (c2 : Nat) (more : ByteArray) (w : World) (hf : Sl w w.heap.size 2 A fs.length (fs.flatMap cellsV)) (hA : Sl w w.heap.size 1 A2 ns.length (ns.map (Value.int .i64)))
    (hm : m.size ≤ maxLen) (ht : t.size ≤ maxLen) (hs : ∀ f ∈ fs, f.1.size ≤ maxLen ∧ f.2.size ≤ maxLen) (hl : fs.length ≤ 4398046511104) (hnl : ns.length ≤ 1048576) (hmore : more.size ≤ 140737488351232) (htz : TzOk w) (hlib : LibOk w) :
    Calls Tryd.prog 5 #[.agg #[.string m, .string t, .slice A fs.length c, .string b], .slice A2 ns.length c2, .string more] w fun e w' => e = .returned (.bool true) ∧ Below w.heap.size w w' := by
  have hbx : ∀ W, Below (w.heap.size + 1) (w.alloc (.cells #[.string m, .string t, .slice A fs.length c, .string b] 50)) W → (W.cell? ⟨w.heap.size, 0, none⟩ = some (.string m) ∧ W.cell? ⟨w.heap.size, 1, none⟩ = some (.string t) ∧ W.cell? ⟨w.heap.size, 2, none⟩ = some (.slice A fs.length c) ∧ W.cell? ⟨w.heap.size, 3, none⟩ = some (.string b)) ∧ Below w.heap.size w W ∧ Sl W W.heap.size 2 A fs.length (fs.flatMap cellsV) ∧ Sl W W.heap.size 1 A2 ns.length (ns.map (Value.int .i64)) ∧ TzOk W ∧ LibOk W := fun W hb => by
    obtain ⟨h1, h2⟩ := box_facts hb
    exact ⟨⟨h1 0, h1 1, h1 2, h1 3⟩, h2, (hf.below h2).more h2.size, (hA.below h2).more h2.size, htz.below h2, hlib.below h2⟩
  have HBX := Lib.hid hbx
  obtain ⟨W0, hW0⟩ : ∃ W0, w.alloc (.cells #[.string m, .string t, .slice A fs.length c, .string b] 50) = W0 := ⟨_, rfl⟩
  have hz0 : w.heap.size + 1 ≤ W0.heap.size := by rw [← hW0]; simp
  rw [hW0] at HBX
  have HW0 := Lib.hid hW0
  have HASK : Hid (∀ W, Below (w.heap.size + 1) W0 W → Calls Tryd.prog 22 #[.agg #[.string m, .string t, .slice A fs.length c, .string b], .slice A2 ns.length c2] W (AskedPost ⟨m, t, fs⟩ b.data.toList ns W)) := fun W h => by
    obtain ⟨_, _, h1, h2, h3, _⟩ := HBX.out W h
    exact asked_any m t b fs A c ns A2 c2 W h1 h2 hm ht hs hl hnl h3
  have HG : Hid (∀ W, LibOk W → _) := fun W h => one_ok_any (s := getX) (A0 := 40) (by decide) get_ok h (by decide)
  have HONE : Hid (∀ (T : List UInt8) W, Below (w.heap.size + 1) W0 W → askedOk ⟨m, t, fs⟩ b.data.toList → bodyT ⟨m, t, fs⟩ b.data.toList ns = some T → T.length ≤ 65536 → Calls Tryd.prog 21 #[.string (bs (printH ⟨m, t, fs⟩ ++ T) ++ more), .agg #[.int .i64 4096, .int .i64 4096, .int .i64 40]] W
      fun e w' => ∃ A c, e = .returned (.tuple #[.agg #[.string m, .string t, .slice A fs.length c, .string b], .int .i64 ((printH ⟨m, t, fs⟩ ++ T).length : Int), .int .i64 0]) ∧ OwnV w' W.heap.size (.slice A fs.length c) fs ∧ Below W.heap.size W w') := fun T W h hk hbt htl => by
    have hbk := asked_back (more := more.data.toList) hk hbt
    have hpl : (printH ⟨m, t, fs⟩).length ≤ 4096 := hk.2.2.1
    have := one_ok_any (s := bs (printH ⟨m, t, fs⟩ ++ T) ++ more) (H := 4096) (B := 4096) (A0 := 40) (q := ⟨⟨m, t, fs⟩, b.data.toList⟩) (n := (printH ⟨m, t, fs⟩ ++ T).length) (W := W) (by decide)
      (by rw [ByteArray.data_append, Array.toList_append, bs_toList]; exact hbk) (HBX.out W h).2.2.2.2.2 (by rw [ByteArray.size_append, bs_size, List.length_append]; omega)
    dsimp only at this
    rw [bs_eta] at this
    exact this
  have HPL : Hid (askedOk ⟨m, t, fs⟩ b.data.toList → (printH ⟨m, t, fs⟩).length ≤ 4096) := fun h => h.2.2.1
  clear hbx hW0 hf hA hm ht hs hnl htz hlib
  go_enter Tryd.func5, Tryd.ntmps5
  go_upto_region 1 with fail
  rw [HW0.out]
  go_wp2_with fail
  refine (wide_any _).mono ?_
  rintro e w1 ⟨rfl, hb1⟩
  have hb1 := hb1.mono hz0
  have HGX := Lib.hid (HG.out w1 (HBX.out w1 hb1).2.2.2.2.2)
  go_wp2_with fail
  refine HGX.out.mono ?_
  rintro e w2 ⟨A3, c3, rfl, _, hb2⟩
  have hb2 := hb1.trans (hb2.mono (Nat.le_trans hz0 hb1.size))
  have hz2 : w.heap.size < w2.heap.size := Nat.le_trans hz0 hb2.size
  have ⟨⟨b0, b1, b2, b3⟩, _⟩ := HBX.out w2 hb2
  have hb3 := hb2.alloc (Nat.le_trans hz0 hb2.size) (.cells #[.string (ByteArray.mk #[71, 69, 84]), .string (ByteArray.mk #[47]), .slice A3 0 c3, .string (ByteArray.mk #[])] 50)
  have HB3 := Lib.hid hb3
  clear hb1 hb2 hb3 HGX HG
  go_wp2_with fail
  refine (HASK.out _ HB3.out).mono ?_
  rintro e w4 ⟨hP, hb4⟩
  have hb5 := HB3.out.trans (hb4.mono (Nat.le_trans hz0 HB3.out.size))
  have hz5 : w.heap.size < w4.heap.size := Nat.le_trans hz0 hb5.size
  have HB5 := Lib.hid hb5
  clear hb4 hb5 b0 b1 b2 b3 HASK
  rcases hP with ⟨x, rfl⟩ | ⟨T, hk, hbt, htl, rfl⟩
  · go_wp2_with fail
    go_ret
    exact ⟨rfl, (HBX.out _ HB5.out).2.1⟩
  · have hpl := HPL.out hk
    have H1 := fun W h => Lib.hid (HONE.out T W h hk hbt htl)
    have hsz : (bs (printH ⟨m, t, fs⟩ ++ T)).size ≤ 100000 := by rw [bs_size, List.length_append]; omega
    have hln : (printH ⟨m, t, fs⟩ ++ T).length = (bs (printH ⟨m, t, fs⟩ ++ T)).size := (bs_size _).symm
    rw [hln] at H1
    generalize bs (printH ⟨m, t, fs⟩ ++ T) = S at *
    have y1 : ∀ W, (Op.stringOp .add S more).run Tryd.prog W = .ok (.string (S ++ more)) W := fun W => run_string_add_sum W S more (by omega)
    clear hk hbt htl hpl hln HONE HPL
    go_wp2_with fail
    refine (wide_any _).mono ?_
    rintro e w5 ⟨rfl, hb6⟩
    have hb6 := HB5.out.trans (hb6.mono (Nat.le_trans hz0 HB5.out.size))
    have H2 := H1 w5 hb6
    go_wp2_with fail
    refine H2.out.mono ?_
    rintro e w6 ⟨A6, c6, rfl, hO6, hb7⟩
    have hb7 := hb6.trans (hb7.mono (Nat.le_trans hz0 hb6.size))
    have hz6 : w.heap.size < w6.heap.size := Nat.le_trans hz0 hb7.size
    have ⟨⟨b0, b1, b2, b3⟩, _⟩ := HBX.out w6 hb7
    have hb8 := hb7.alloc (Nat.le_trans hz0 hb7.size) (.cells #[.string m, .string t, .slice A6 fs.length c6, .string b] 50)
    have hal : Below w6.heap.size w6 (w6.alloc (.cells #[.string m, .string t, .slice A6 fs.length c6, .string b] 50)) := (Below.refl _ _).alloc (Nat.le_refl _) _
    obtain ⟨_, hbw8, hs8, _⟩ := HBX.out _ hb8
    have HSR := Lib.hid (SameReq_yes m t b fs A6 A c6 c _ ((hO6.sl.below hal).more hal.size) hs8 hl)
    have HBW8 := Lib.hid hbw8
    clear hb6 hb7 hb8 hal hs8 hbw8 H1 H2 hO6
    go_wp2_with (go_at_call 20; (with_reducible refine HSR.out.mono ?_); rintro e w9 ⟨rfl, hb9⟩)
    go_ret
    exact ⟨rfl, HBW8.out.trans (hb9.mono HBW8.out.size)⟩
theorem oneBack_any (q : RqV) (a : IArg) (more : ByteArray) (w : World) {v v2 : Value} (x : ReqArg w v q) (hq : ReqBulk q) (y : IntsArg w v2 a) (hl : a.l.length ≤ 1048576) (hm : more.size ≤ 1048576) (hlib : LibOk w) (hdb : Lib.TabIs Tryd.prog w "math/bits.deBruijn64tab" .u8 dbTab) :
    Calls Tryd.prog 5 #[.agg #[.string q.m, .string q.t, .slice q.A q.fs.length q.c, .string q.b], .slice a.A a.l.length a.c, .string more] w fun e w' => e = .returned (.bool true) ∧ Below w.heap.size w w' :=
  oneBack_walk q.m q.t q.b q.fs q.A q.c a.l a.A a.c more w x.sl y.sl x.msize x.tsize x.sizes (by have := hq.n; omega) hl (by omega) (tz_of_tab hdb) hlib
end Go.Proofs.YtnpopobeinbplaaDoor
