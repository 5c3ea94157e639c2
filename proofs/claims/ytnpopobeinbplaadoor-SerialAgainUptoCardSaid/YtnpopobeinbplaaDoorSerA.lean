/- The walk of SerialAgain. -/
import Derived.Test.YtnpopobeinbplaaDoorSerP
import Derived.Test.YtnpopobeinbplaaDoorOneY
namespace Go.Proofs.YtnpopobeinbplaaDoor
open Go.RowKit

def litF : List PairV := [(ByteArray.mk #[67, 111, 110, 110, 101, 99, 116, 105, 111, 110], ByteArray.mk #[120, 44, 32, 121]), (ByteArray.mk #[89], ByteArray.mk #[49]), (ByteArray.mk #[122], ByteArray.mk #[50])]
theorem lit_strip : stripF litF = [(ByteArray.mk #[122], ByteArray.mk #[50])] := by kernel_rfl
/-- Handed on, read, and handed on again. -/
structure FwdBack (fh : HeadV) (b S : ByteArray) : Prop where
  one : ∀ W, LibOk W → Calls Tryd.prog 21 #[.string S, .agg #[.int .i64 4096, .int .i64 4096, .int .i64 40]] W fun e w' => ∃ A c, e = .returned (.tuple #[.agg #[.string fh.m, .string fh.t, .slice A fh.fs.length c, .string b], .int .i64 (S.size : Int), .int .i64 0]) ∧ OwnV w' W.heap.size (.slice A fh.fs.length c) fh.fs ∧ Below W.heap.size W w'
  again : ∀ A c W, LibOk W → TabOk W → Sl W W.heap.size 2 A fh.fs.length (fh.fs.flatMap cellsV) → Calls Tryd.prog 38 #[.agg #[.string fh.m, .string fh.t, .slice A fh.fs.length c, .string b]] W fun e w' => e = .returned (.tuple #[.string S, .int .i64 0]) ∧ Below W.heap.size W w'
theorem fwd_back {h : HeadV} {b : ByteArray} (hE : fwdE h b.data.toList = 0) (hm : h.m.size ≤ maxLen) (ht : h.t.size ≤ maxLen) (hbz : b.size ≤ maxLen) (hok : StripOk (fwdH h b.size).fs) (hl : (printH (fwdH h b.size)).length ≤ 4096) :
    FwdBack (fwdH h b.size) b (bs (printH (fwdH h b.size) ++ b.data.toList)) := by
  have hbl : b.data.toList.length = b.size := by simp
  have ho := fwd_ok hE
  have hb4 := ho.len
  refine ⟨fun W hlib => ?_, fun A c W hlib htab hs => ?_⟩
  · have h1 := fwd_one (more := []) ho (by rw [hbl]; exact hl)
    rw [hbl, List.append_nil] at h1
    have := one_ok_any (s := bs (printH (fwdH h b.size) ++ b.data.toList)) (H := 4096) (B := 4096) (A0 := 40) (W := W) (by decide) (by rw [bs_toList]; exact h1) hlib (by rw [bs_size, List.length_append]; omega)
    dsimp only at this
    rw [bs_eta] at this
    rw [bs_size]
    exact this
  · have h2 := fwd_twice ho
    rw [hbl] at h2
    refine (Forward_any (fwdH h b.size) b A c W hs hm ht hbz hok hlib htab).mono ?_
    rintro e w' ⟨h3, hb⟩
    rcases h3 with ⟨_, rfl⟩ | ⟨h3, _⟩
    · rw [hbl, fwd_again h b.size (by omega)]
      exact ⟨rfl, hb⟩
    · exact absurd h2 h3
theorem hd_put3 {H : Nat} {m t m' t' : ByteArray} {v : Value} {w : World} (h : HdAt H m t v w) (u : Value) : HdAt H m' t' u (((w.setCell ⟨H, 0, none⟩ (.string m')).setCell ⟨H, 1, none⟩ (.string t')).setCell ⟨H, 2, none⟩ u) := by
  unfold HdAt at *
  simp [World.setCell, Array.getElem?_modify, h]

set_option maxRecDepth 100000 in
set_option maxHeartbeats 6400000 in
theorem serialAgain_walk (m t b : ByteArray) (fs : List PairV) (A : Option Addr) (c : Nat) (w : World) (hf : Sl w w.heap.size 2 A fs.length (fs.flatMap cellsV)) (hm : m.size ≤ maxLen) (ht : t.size ≤ maxLen) (hbz : b.size ≤ maxLen) (hok : StripOk fs) (hfl : fs.length ≤ 1048577) (hlib : LibOk w) (htab : TabOk w) :
    Calls Tryd.prog 11 #[.agg #[.string m, .string t, .slice A fs.length c, .string b]] w fun e w' => e = .returned (.bool true) ∧ Below w.heap.size w w' := by
  have hbx : ∀ W, Below (w.heap.size + 1) (w.alloc (.cells #[.string m, .string t, .slice A fs.length c, .string b] 50)) W → (W.cell? ⟨w.heap.size, 0, none⟩ = some (.string m) ∧ W.cell? ⟨w.heap.size, 1, none⟩ = some (.string t) ∧ W.cell? ⟨w.heap.size, 2, none⟩ = some (.slice A fs.length c) ∧ W.cell? ⟨w.heap.size, 3, none⟩ = some (.string b)) ∧ Below w.heap.size w W ∧ Sl W W.heap.size 2 A fs.length (fs.flatMap cellsV) ∧ LibOk W ∧ TabOk W := fun W hb => by
    obtain ⟨h1, h2⟩ := box_facts hb
    exact ⟨⟨h1 0, h1 1, h1 2, h1 3⟩, h2, (hf.below h2).more h2.size, hlib.below h2, htab.below h2⟩
  have HBX := Lib.hid hbx
  obtain ⟨W0, hW0⟩ : ∃ W0, w.alloc (.cells #[.string m, .string t, .slice A fs.length c, .string b] 50) = W0 := ⟨_, rfl⟩
  have hz0 : w.heap.size + 1 ≤ W0.heap.size := by rw [← hW0]; simp
  rw [hW0] at HBX
  have HW0 := Lib.hid hW0
  have hbl : b.data.toList.length = b.size := by simp
  have HFW : Hid (∀ W, Below (w.heap.size + 1) W0 W → Calls Tryd.prog 38 #[.agg #[.string m, .string t, .slice A fs.length c, .string b]] W (FwdPost ⟨m, t, fs⟩ b.data.toList W)) := fun W h => Forward_any ⟨m, t, fs⟩ b A c W (HBX.out W h).2.2.1 hm ht hbz hok (HBX.out W h).2.2.2.1 (HBX.out W h).2.2.2.2
  have HSTR : Hid (∀ W, Below (w.heap.size + 1) W0 W → Calls Tryd.prog 37 #[.agg #[.string m, .string t, .slice A fs.length c]] W (StripPost ⟨m, t, fs⟩ W)) := fun W h => Strip_any ⟨m, t, fs⟩ A c W (HBX.out W h).2.2.1 hok (HBX.out W h).2.2.2.1
  have hsn : (stripF fs).length ≤ 4194304 := Nat.le_trans (List.length_filter_le _ _) hok.n
  have hok2 : StripOk (stripF fs) := strip_fine2 hok (fun f hf => strip_mem hf) hsn (strip_conn fs)
  have HST2 : Hid (∀ (A : Option Addr) (c : Nat) W, Sl W W.heap.size 2 A (stripF fs).length ((stripF fs).flatMap cellsV) → LibOk W → Calls Tryd.prog 37 #[.agg #[.string m, .string t, .slice A (stripF fs).length c]] W fun e w' => ∃ A c, e = .returned (.agg #[.string m, .string t, .slice A (stripF fs).length c]) ∧ OwnV w' W.heap.size (.slice A (stripF fs).length c) (stripF fs) ∧ Below W.heap.size W w') := fun A c W h1 h2 => by
    have := Strip_any ⟨m, t, stripF fs⟩ A c W h1 hok2 h2
    unfold StripPost at this
    dsimp only at this
    rw [strip_again] at this
    exact this
  have HGC : Hid (∀ (A : Option Addr) (c : Nat) W, Sl W W.heap.size 2 A (stripF fs).length ((stripF fs).flatMap cellsV) → Calls Tryd.prog 44 #[.agg #[.string m, .string t, .slice A (stripF fs).length c], .string (ByteArray.mk #[99, 111, 110, 110, 101, 99, 116, 105, 111, 110])] W (RowPost [] W)) := fun A c W h => by
    have := Get_any m t A (stripF fs).length c (stripF fs) connN W rfl h (fun f hf => by have := (hok2.sz f hf).1; unfold maxLen; omega) (by decide) (by omega)
    rw [strip_conn] at this
    exact this
  have HGT : Hid (∀ (A : Option Addr) (c : Nat) W, Sl W W.heap.size 2 A (stripF fs).length ((stripF fs).flatMap cellsV) → Calls Tryd.prog 44 #[.agg #[.string m, .string t, .slice A (stripF fs).length c], .string (ByteArray.mk #[116, 114, 97, 110, 115, 102, 101, 114, 45, 101, 110, 99, 111, 100, 105, 110, 103])] W (RowPost [] W)) := fun A c W h => by
    have := Get_any m t A (stripF fs).length c (stripF fs) tenc W rfl h (fun f hf => by have := (hok2.sz f hf).1; unfold maxLen; omega) (by decide) (by omega)
    rw [strip_tenc] at this
    exact this
  have HSH : Hid (∀ (A1 A2 : Option Addr) (c1 c2 : Nat) W, Sl W W.heap.size 2 A1 (stripF fs).length ((stripF fs).flatMap cellsV) → Sl W W.heap.size 2 A2 (stripF fs).length ((stripF fs).flatMap cellsV) → Calls Tryd.prog 39 #[.agg #[.string m, .string t, .slice A1 (stripF fs).length c1], .agg #[.string m, .string t, .slice A2 (stripF fs).length c2]] W fun e w' => e = .returned (.bool true) ∧ Below W.heap.size W w') := fun A1 A2 c1 c2 W h1 h2 => SameHead_yes m t (stripF fs) A1 A2 c1 c2 W h1 h2 (by omega)
  have hfm : ∀ n, StripOk (fwdH ⟨m, t, fs⟩ n).fs ∨ True := fun _ => .inr trivial
  have HFH : Hid (∀ n, n ≤ 4096 → StripOk (fwdH ⟨m, t, fs⟩ n).fs) := fun n hn => by
    have hl := fwd_len ⟨m, t, fs⟩ n
    have hn2 := hok.n
    refine ⟨by have : (⟨m, t, fs⟩ : HeadV).fs.length = fs.length := rfl; omega, fun f hf => ?_, by rw [drop_none (fwd_conn _ _)]; decide⟩
    rcases fwd_mem hf with h | rfl
    · exact hok.sz f h
    · have := dec_small n (by omega)
      exact ⟨by show 14 ≤ 4194304; decide, by show (bs _).size ≤ 4194304; rw [bs_size]; omega⟩
  have HM := Lib.hid (And.intro hm (And.intro ht hbz))
  have ⟨_, hbw0, _, hl0, _⟩ := HBX.out W0 (Below.refl _ _)
  have hal0 := (Below.refl W0.heap.size W0).alloc (Nat.le_refl _) (.cells (litF.flatMap cellsV).toArray 85)
  have HS1 := Lib.hid (Strip_any ⟨ByteArray.mk #[], ByteArray.mk #[], litF⟩ (some ⟨W0.heap.size, 0, none⟩) 3 (W0.alloc (.cells (litF.flatMap cellsV).toArray 85)) (Sl.lit rfl (by simp) rfl rfl) (strip_fine (by decide) (by decide)) (hl0.below hal0))
  unfold StripPost at HS1
  dsimp only at HS1
  rw [lit_strip] at HS1
  have hb0l := (Below.refl (w.heap.size + 1) W0).alloc hz0 (.cells (litF.flatMap cellsV).toArray 85)
  have HB0L := Lib.hid hb0l
  clear hbx hW0 hf hm ht hbz hok hok2 hlib htab hbw0 hl0 hal0 hb0l hfm
  go_enter Tryd.func11, Tryd.ntmps11
  go_upto_region 1 with fail
  rw [HW0.out]
  go_wp2_with fail
  refine HS1.out.mono ?_
  rintro e w2 ⟨A2, c2, rfl, hO2, hb2⟩
  have hb2 := HB0L.out.trans (hb2.mono (Nat.le_trans hz0 HB0L.out.size))
  have hs2 := OwnV.sl hO2
  have hz2 : w.heap.size < w2.heap.size := Nat.le_trans hz0 hb2.size
  have hH2 : HdAt w2.heap.size (ByteArray.mk #[]) (ByteArray.mk #[]) (.slice A2 1 c2) (w2.alloc (.cells #[.string (ByteArray.mk #[]), .string (ByteArray.mk #[]), .slice A2 1 c2] 48)) := heap_alloc_new _ _
  have hal2 := (Below.refl w2.heap.size w2).alloc (Nat.le_refl _) (.cells #[.string (ByteArray.mk #[]), .string (ByteArray.mk #[]), .slice A2 1 c2] 48)
  have hs22 := (hs2.below hal2).more hal2.size
  have hb22 := hb2.trans (hal2.mono hz2)
  have hz22 : w2.heap.size < (w2.alloc (.cells #[.string (ByteArray.mk #[]), .string (ByteArray.mk #[]), .slice A2 1 c2] 48)).heap.size := by simp
  go_upto_region 2 with fail
  generalize w2.alloc (.cells #[.string (ByteArray.mk #[]), .string (ByteArray.mk #[]), .slice A2 1 c2] 48) = W2 at *
  have ⟨p0, p1, p2⟩ := hH2.cells
  have hal3 := (Below.refl W2.heap.size W2).alloc (Nat.le_refl _) (.cells #[.string (ByteArray.mk #[122]), .string (ByteArray.mk #[50])] 85)
  have HEQ := Lib.hid (EqualV_yes [(ByteArray.mk #[122], ByteArray.mk #[50])] A2 (some ⟨W2.heap.size, 0, none⟩) c2 1 (W2.alloc (.cells #[.string (ByteArray.mk #[122]), .string (ByteArray.mk #[50])] 85)) ((hs22.below hal3).more hal3.size) (Sl.lit rfl (by simp) rfl rfl) (by decide))
  have HB22 := Lib.hid hb22
  have HH2 := Lib.hid hH2
  clear hO2 hb2 hs2 hal2 hs22 hb22 hal3 HS1 HB0L hH2
  go_wp2_with fail
  refine HEQ.out.mono ?_
  rintro e w3 ⟨rfl, hb3⟩
  have hb3 := below_new hb3 (Nat.le_refl _)
  have hH3 := (hb3.block _ hz22).trans HH2.out
  have hB3 := HB22.out.trans (hb3.mono (Nat.le_trans hz0 HB22.out.size))
  have hz33 : w2.heap.size < w3.heap.size := Nat.lt_of_lt_of_le hz22 hb3.size
  have ⟨⟨b0, b1, b2, b3⟩, _⟩ := HBX.out w3 hB3
  have HS4 := Lib.hid (HSTR.out w3 hB3)
  have HH3 := Lib.hid hH3
  have HB3 := Lib.hid hB3
  clear hb3 hH3 hB3 p0 p1 p2 HEQ HB22 HH2 HSTR
  go_wp2_with fail
  refine HS4.out.mono ?_
  rintro e w4 ⟨A4, c4, rfl, hO4, hb4⟩
  dsimp only at hO4
  have hH4 : HdAt w2.heap.size (ByteArray.mk #[]) (ByteArray.mk #[]) (.slice A2 1 c2) w4 := (hb4.block _ hz33).trans HH3.out
  have hb4 := HB3.out.trans (hb4.mono (Nat.le_trans hz0 HB3.out.size))
  have ⟨p0, p1, p2⟩ := hH4.cells
  have f0 := hH4.free 0
  have f1 := hH4.free 1
  have f2 := hH4.free 2
  go_upto_region 5 with fail
  obtain ⟨W5, hW5⟩ : ∃ W5, (((w4.setCell ⟨w2.heap.size, 0, none⟩ (.string m)).setCell ⟨w2.heap.size, 1, none⟩ (.string t)).setCell ⟨w2.heap.size, 2, none⟩ (.slice A4 (stripF fs).length c4)) = W5 := ⟨_, rfl⟩
  have hH5 : HdAt w2.heap.size m t (.slice A4 (stripF fs).length c4) W5 := by rw [← hW5]; exact hd_put3 hH4 _
  have hs5 : Sl W5 W5.heap.size 2 A4 (stripF fs).length ((stripF fs).flatMap cellsV) := by
    rw [← hW5]
    refine OwnV.sl (hO4.keep fun g hg => ?_)
    have hne : g ≠ w2.heap.size := fun e => by have := (World.ownsRow.lt hO4 g hg).1; omega
    rw [Below.heap_setCell _ _ _ _ hne, Below.heap_setCell _ _ _ _ hne, Below.heap_setCell _ _ _ _ hne]
  have hb5 : Below (w.heap.size + 1) W0 W5 := by
    rw [← hW5]
    exact ((hb4.setCell (p := ⟨w2.heap.size, 0, none⟩) hz2 _).setCell (p := ⟨w2.heap.size, 1, none⟩) hz2 _).setCell (p := ⟨w2.heap.size, 2, none⟩) hz2 _
  have HW5 := Lib.hid hW5
  rw [HW5.out]
  have HS5 : Hid (∀ W, Below W5.heap.size W5 W → Sl W W.heap.size 2 A4 (stripF fs).length ((stripF fs).flatMap cellsV)) := fun W h => (hs5.below h).more h.size
  have HH5 : Hid (∀ W, Below W5.heap.size W5 W → W.cell? ⟨w2.heap.size, 0, none⟩ = some (.string m) ∧ W.cell? ⟨w2.heap.size, 1, none⟩ = some (.string t) ∧ W.cell? ⟨w2.heap.size, 2, none⟩ = some (.slice A4 (stripF fs).length c4)) := fun W h => ⟨cell_kept h hH5.cells.1, cell_kept h hH5.cells.2.1, cell_kept h hH5.cells.2.2⟩
  have HL5 : Hid (∀ W, Below W5.heap.size W5 W → LibOk W) := fun W h => (HBX.out W5 hb5).2.2.2.1.below h
  have HB5 := Lib.hid hb5
  have ⟨h0, h1, h2⟩ := HH5.out W5 (Below.refl _ _)
  clear hO4 hH4 hb4 p0 p1 p2 f0 f1 f2 b0 b1 b2 b3 hW5 HW5 hH5 hs5 hb5 HH3 HB3 HS4
  go_cut [41] from 25 to 41 (fun s41 wx => s41 = .bool false ∧ Below W5.heap.size W5 wx)
  case first =>
    generalize stripF fs = SF at *
    go_region_held3 (fun w' => w'.cell? ⟨w2.heap.size, 0, none⟩ = some (.string m) ∧ w'.cell? ⟨w2.heap.size, 1, none⟩ = some (.string t) ∧ w'.cell? ⟨w2.heap.size, 2, none⟩ = some (.slice A4 SF.length c4))
      (first | exact HH5.out _ hb9d | exact HH5.out _ hb9c | exact HH5.out _ hb9b | exact HH5.out _ hb9a | exact HH5.out _ (Below.refl _ _) | exact HH5.out _ (Below.refl _ _).drew | go_keep)
      (first
        | (go_at_call 37; (with_reducible refine (HST2.out A4 c4 _ ?_ ?_).mono ?_); (first | exact HS5.out _ (Below.refl _ _) | exact HS5.out _ (Below.refl _ _).drew); (first | exact HL5.out _ (Below.refl _ _) | exact HL5.out _ (Below.refl _ _).drew); rintro e w9a ⟨A9, c9, rfl, hO9, hb9⟩; have hb9a : Below W5.heap.size W5 w9a := (by first | exact hb9 | exact undrew hb9); have hs9 := OwnV.sl hO9)
        | (go_at_call 39; (with_reducible refine (HSH.out A9 A4 c9 c4 w9a hs9 (HS5.out _ hb9a)).mono ?_); rintro e w9b ⟨rfl, hb9⟩; have hb9b : Below W5.heap.size W5 w9b := hb9a.trans (hb9.mono hb9a.size))
        | (go_at_call 44; (with_reducible refine (HGC.out A4 c4 w9b (HS5.out _ hb9b)).mono ?_); rintro e w9c ⟨v9, rfl, hO9c, hb9⟩; obtain ⟨A9c, c9c, rfl, _⟩ := hO9c.form; have hb9c : Below W5.heap.size W5 w9c := hb9b.trans (hb9.mono hb9b.size))
        | (go_at_call 44; (with_reducible refine (HGT.out A4 c4 w9c (HS5.out _ hb9c)).mono ?_); rintro e w9d ⟨v9d, rfl, hO9d, hb9⟩; obtain ⟨A9d, c9d, rfl, _⟩ := hO9d.form; have hb9d : Below W5.heap.size W5 w9d := hb9c.trans (hb9.mono hb9c.size)))
    all_goals (go_wp2_with fail; go_meet)
    all_goals exact ⟨rfl, hb9d⟩
  case rest =>
    obtain ⟨rfl, hbc⟩ := hcut
    have hBc := HB5.out.trans (hbc.mono (Nat.le_trans hz0 HB5.out.size))
    have ⟨⟨b0, b1, b2, b3⟩, _⟩ := HBX.out wc hBc
    have hzc : w.heap.size < wc.heap.size := Nat.le_trans hz0 hBc.size
    have HF := Lib.hid (HFW.out wc hBc)
    have HBc := Lib.hid hBc
    clear hbc hBc h0 h1 h2 HS5 HH5 HL5 HB5 HST2 HGC HGT HSH hsn
    go_wp2_with fail
    refine HF.out.mono ?_
    rintro e w6 ⟨hP, hb6⟩
    have hB6 := HBc.out.trans (hb6.mono (Nat.le_trans hz0 HBc.out.size))
    clear b0 b1 b2 b3
    have ⟨⟨b0, b1, b2, b3⟩, hbw6, _⟩ := HBX.out w6 hB6
    have HB6 := Lib.hid hB6
    have HBW6 := Lib.hid hbw6
    clear hb6 hB6 hbw6 HF HBc
    rcases hP with ⟨hE, rfl⟩ | ⟨hE, rfl⟩
    · have hb4 := (fwd_ok hE).len
      rw [hbl] at hb4 ⊢
      have hSz : (bs (printH (fwdH ⟨m, t, fs⟩ b.size) ++ b.data.toList)).size = (printH (fwdH ⟨m, t, fs⟩ b.size)).length + b.size := by rw [bs_size, List.length_append, hbl]
      have hpl := printH_len _ (head_ok (fwd_ok hE).out)
      rw [hbl] at hpl
      by_cases hlen : (printH (fwdH ⟨m, t, fs⟩ b.size)).length ≤ 4096
      · have HX := Lib.hid (fwd_back hE HM.out.1 HM.out.2.1 HM.out.2.2 (HFH.out b.size hb4) hlen)
        have hfm : (fwdH ⟨m, t, fs⟩ b.size).m = m := rfl
        have hft : (fwdH ⟨m, t, fs⟩ b.size).t = t := rfl
        generalize bs (printH (fwdH ⟨m, t, fs⟩ b.size) ++ b.data.toList) = S at *
        generalize (printH (fwdH ⟨m, t, fs⟩ b.size)).length = pn at *
        generalize fwdH ⟨m, t, fs⟩ b.size = fh at *
        have i9 : IntKind.i64.wrap ((S.size : Int) - (b.size : Int)) = (pn : Int) := by rw [IntWalk.i64_in _ (by omega)]; omega
        have d9 : decide ((4096 : Int) < (pn : Int)) = false := decide_eq_false (by omega)
        have HONE := HX.out.one
        have HAG := HX.out.again
        rw [hfm, hft] at HONE HAG
        have HONE := Lib.hid HONE
        have HAG := Lib.hid HAG
        clear hE hSz hpl hlen HX hfm hft HFH HFW HM hb4
        go_wp2_with fail
        refine (wide_any _).mono ?_
        rintro e w7 ⟨rfl, hb7⟩
        have hB7 := HB6.out.trans (hb7.mono (Nat.le_trans hz0 HB6.out.size))
        have HO7 := Lib.hid (HONE.out w7 (HBX.out w7 hB7).2.2.2.1)
        go_wp2_with fail
        refine HO7.out.mono ?_
        rintro e w8 ⟨A8, c8, rfl, hO8, hb8⟩
        have hB8 := hB7.trans (hb8.mono (Nat.le_trans hz0 hB7.size))
        have hal8 := (Below.refl w8.heap.size w8).alloc (Nat.le_refl _) (.cells #[.string m, .string t, .slice A8 fh.fs.length c8, .string b] 50)
        have hB9 := hB8.trans (hal8.mono (Nat.le_trans hz0 hB8.size))
        obtain ⟨_, hbw9, _, hl9, ht9⟩ := HBX.out _ hB9
        have HA9 := Lib.hid (HAG.out A8 c8 _ hl9 ht9 (((OwnV.sl hO8).below hal8).more hal8.size))
        have HBW9 := Lib.hid hbw9
        clear hb7 hB7 hb8 hB8 hal8 hB9 hbw9 hl9 ht9 hO8 HO7 HONE HAG b0 b1 b2 b3
        go_wp2_with fail
        refine HA9.out.mono ?_
        rintro e w9 ⟨rfl, hb9⟩
        go_wp2_with fail
        go_ret
        exact ⟨by simp, HBW9.out.trans (hb9.mono HBW9.out.size)⟩
      · generalize bs (printH (fwdH ⟨m, t, fs⟩ b.size) ++ b.data.toList) = S at *
        generalize (printH (fwdH ⟨m, t, fs⟩ b.size)).length = pn at *
        have i9 : IntKind.i64.wrap ((S.size : Int) - (b.size : Int)) = (pn : Int) := by rw [IntWalk.i64_in _ (by omega)]; omega
        have d9 : decide ((4096 : Int) < (pn : Int)) = true := decide_eq_true (by omega)
        clear hE hSz hpl hlen HFH HFW HM hb4
        go_wp2_with fail
        go_ret
        exact ⟨rfl, HBW6.out⟩
    · have q0 : (fwdE ⟨m, t, fs⟩ b.data.toList != 0) = true := bne_iff_ne.2 hE
      generalize fwdE ⟨m, t, fs⟩ b.data.toList = E at *
      clear hE HFH HFW HM
      go_wp2_with fail
      go_ret
      exact ⟨rfl, HBW6.out⟩
theorem serialAgain_any (q : RqV) (w : World) {v : Value} (x : ReqArg w v q) (hq : ReqSum q) (hlib : LibOk w) (ht : Lib.TabIs Tryd.prog w "internal/strconv.uint64pow10" .u64 Lib.pow10Tab) :
    Calls Tryd.prog 11 #[.agg #[.string q.m, .string q.t, .slice q.A q.fs.length q.c, .string q.b]] w fun e w' => e = .returned (.bool true) ∧ Below w.heap.size w w' :=
  serialAgain_walk q.m q.t q.b q.fs q.A q.c w x.sl x.msize x.tsize x.bsize (strip_fine (by have := hq.n; omega) hq.sum) (by have := hq.n; omega) hlib (TabOk.of ht)
end Go.Proofs.YtnpopobeinbplaaDoor
