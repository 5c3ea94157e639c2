/- The walk of SerialOne. -/
import Derived.Test.YtnpopobeinbplaaDoorSerP
import Derived.Test.YtnpopobeinbplaaDoorOneY
import Derived.Deep.RegionHeld3
import Derived.Deep.CutRange
namespace Go.Proofs.YtnpopobeinbplaaDoor
open Go.RowKit

set_option maxRecDepth 100000 in
theorem hello_req (w : World) : Calls Tryd.prog 24 #[] w fun e w' => e = .returned (.agg #[.string (ByteArray.mk #[71, 69, 84]), .string (ByteArray.mk #[47, 97, 63, 98, 61, 99]), .slice none 0 0, .string (ByteArray.mk #[])]) ∧ Below w.heap.size w w' := by
  have hb : Below w.heap.size w (w.alloc (.cells #[.string (ByteArray.mk #[71, 69, 84]), .string (ByteArray.mk #[47, 97, 63, 98, 61, 99]), .slice none 0 0, .string (ByteArray.mk #[])] 50)) := (Below.refl _ _).alloc (Nat.le_refl _) _
  go_enter Tryd.func24, Tryd.ntmps24
  go_wp2_with fail
  exact bodyPost_ret (v := .agg #[.string (ByteArray.mk #[71, 69, 84]), .string (ByteArray.mk #[47, 97, 63, 98, 61, 99]), .slice none 0 0, .string (ByteArray.mk #[])]) (by simp [results, Tryd.results24, go_sem]) rfl ⟨rfl, hb⟩
def helloH : HeadV := ⟨ByteArray.mk #[71, 69, 84], ByteArray.mk #[47, 97, 63, 98, 61, 99], []⟩
theorem hello_zero : fwdE helloH [] = 0 := by kernel_rfl
theorem hello_text : bs (printH (fwdH helloH 0) ++ []) = ByteArray.mk #[71, 69, 84, 32, 47, 97, 63, 98, 61, 99, 32, 72, 84, 84, 80, 47, 49, 46, 49, 13, 10, 13, 10] := by kernel_rfl
theorem one_fwd {h : HeadV} {b more : ByteArray} (hE : fwdE h b.data.toList = 0) (hl : (printH (fwdH h b.size)).length ≤ 4096) (hmore : more.size ≤ 4194304) (W : World) (hlib : LibOk W) :
    Calls Tryd.prog 21 #[.string (bs (printH (fwdH h b.size) ++ b.data.toList) ++ more), .agg #[.int .i64 4096, .int .i64 4096, .int .i64 40]] W fun e w' => ∃ A c, e = .returned (.tuple #[.agg #[.string h.m, .string h.t, .slice A (fwdH h b.size).fs.length c, .string b], .int .i64 ((bs (printH (fwdH h b.size) ++ b.data.toList)).size : Int), .int .i64 0]) ∧ OwnV w' W.heap.size (.slice A (fwdH h b.size).fs.length c) (fwdH h b.size).fs ∧ Below W.heap.size W w' := by
  have hbl : b.data.toList.length = b.size := by simp
  have ho := fwd_ok hE
  have hb4 := ho.len
  have h1 := fwd_one (more := more.data.toList) ho (by rw [hbl]; exact hl)
  rw [hbl] at h1
  have := one_ok_any (s := bs (printH (fwdH h b.size) ++ b.data.toList) ++ more) (H := 4096) (B := 4096) (A0 := 40) (W := W) (by decide) (by rw [ByteArray.data_append, Array.toList_append, bs_toList]; exact h1) hlib (by rw [ByteArray.size_append, bs_size, List.length_append]; omega)
  dsimp only at this
  rw [bs_eta] at this
  rw [bs_size]
  exact this
theorem OwnV.front {w : World} {base n c : Nat} {A : Option Addr} {l m : List PairV} (h : OwnV w base (.slice A n c) (l ++ m)) : Sl w w.heap.size 2 A l.length (l.flatMap cellsV) := by
  have hs := OwnV.sl h
  refine ⟨by rw [cellsV_len], fun hp => ?_⟩
  obtain ⟨b, off, e, hb, hc⟩ := hs.src (by rw [List.flatMap_append, List.length_append]; omega)
  refine ⟨b, off, e, hb, fun j hj => ?_⟩
  have hj2 : j < ((l ++ m).flatMap cellsV).length := by rw [List.flatMap_append, List.length_append]; omega
  rw [hc j hj2]
  congr 1
  simp only [List.flatMap_append]
  exact List.getElem_append_left hj
theorem OwnV.cap {w : World} {base n c : Nat} {A : Option Addr} {l : List PairV} (h : OwnV w base (.slice A n c) l) : n = l.length ∧ l.length ≤ c := by
  rcases h.2 with ⟨h1, h2⟩ | ⟨g, cap, cur, h1, _, _, h3, _⟩
  · injection h1 with e1 e2 e3
    omega
  · injection h1 with e1 e2 e3
    omega
theorem cl_lower : bs (lowerL clN.data.toList) = ByteArray.mk #[99, 111, 110, 116, 101, 110, 116, 45, 108, 101, 110, 103, 116, 104] := by rfl
set_option maxRecDepth 100000 in
set_option maxHeartbeats 6400000 in
theorem serialOne_walk (m t b more : ByteArray) (fs : List PairV) (A : Option Addr) (c : Nat) (w : World) (hf : Sl w w.heap.size 2 A fs.length (fs.flatMap cellsV)) (hm : m.size ≤ maxLen) (ht : t.size ≤ maxLen) (hbz : b.size ≤ maxLen) (hmore : more.size ≤ 4194304) (hok : StripOk fs) (hfl : fs.length ≤ 1048577) (hlib : LibOk w) (htab : TabOk w) :
    Calls Tryd.prog 10 #[.agg #[.string m, .string t, .slice A fs.length c, .string b], .string more] w fun e w' => e = .returned (.bool true) ∧ Below w.heap.size w w' := by
  have hbx : ∀ W, Below (w.heap.size + 1) (w.alloc (.cells #[.string m, .string t, .slice A fs.length c, .string b] 50)) W → (W.cell? ⟨w.heap.size, 0, none⟩ = some (.string m) ∧ W.cell? ⟨w.heap.size, 1, none⟩ = some (.string t) ∧ W.cell? ⟨w.heap.size, 2, none⟩ = some (.slice A fs.length c) ∧ W.cell? ⟨w.heap.size, 3, none⟩ = some (.string b)) ∧ Below w.heap.size w W ∧ Sl W W.heap.size 2 A fs.length (fs.flatMap cellsV) ∧ LibOk W ∧ TabOk W := fun W hb => by
    obtain ⟨h1, h2⟩ := box_facts hb
    exact ⟨⟨h1 0, h1 1, h1 2, h1 3⟩, h2, (hf.below h2).more h2.size, hlib.below h2, htab.below h2⟩
  have HBX := Lib.hid hbx
  obtain ⟨W0, hW0⟩ : ∃ W0, w.alloc (.cells #[.string m, .string t, .slice A fs.length c, .string b] 50) = W0 := ⟨_, rfl⟩
  have hz0 : w.heap.size + 1 ≤ W0.heap.size := by rw [← hW0]; simp
  rw [hW0] at HBX
  have HW0 := Lib.hid hW0
  have hbl : b.data.toList.length = b.size := by simp
  have HFW : Hid (∀ W, Below (w.heap.size + 1) W0 W → Calls Tryd.prog 38 #[.agg #[.string m, .string t, .slice A fs.length c, .string b]] W (FwdPost ⟨m, t, fs⟩ b.data.toList W)) := fun W h => Forward_any ⟨m, t, fs⟩ b A c W (HBX.out W h).2.2.1 hm ht hbz hok (HBX.out W h).2.2.2.1 (HBX.out W h).2.2.2.2
  have HSTR : Hid (∀ W, Below (w.heap.size + 1) W0 W → Calls Tryd.prog 37 #[.agg #[.string m, .string t, .slice A fs.length c]] W (StripPost ⟨m, t, fs⟩ W)) := fun W h => Strip_any ⟨m, t, fs⟩ A c W (HBX.out W h).2.2.1 hok (HBX.out W h).2.2.2.1
  have hsn : (stripF fs).length ≤ 1048577 := Nat.le_trans (List.length_filter_le _ _) hfl
  have HHE : Hid (∀ W, LibOk W → TabOk W → Calls Tryd.prog 38 #[.agg #[.string (ByteArray.mk #[71, 69, 84]), .string (ByteArray.mk #[47, 97, 63, 98, 61, 99]), .slice none 0 0, .string (ByteArray.mk #[])]] W fun e w' => e = .returned (.tuple #[.string (ByteArray.mk #[71, 69, 84, 32, 47, 97, 63, 98, 61, 99, 32, 72, 84, 84, 80, 47, 49, 46, 49, 13, 10, 13, 10]), .int .i64 0]) ∧ Below W.heap.size W w') := fun W h1 h2 => by
    refine (Forward_any helloH (ByteArray.mk #[]) none 0 W (Sl.nil _ _ _ _) (by decide) (by decide) (by decide) (strip_fine (by decide) (by decide)) h1 h2).mono ?_
    rintro e w' ⟨h3, hb⟩
    rcases h3 with ⟨_, rfl⟩ | ⟨h3, _⟩
    · exact ⟨by rw [← hello_text]; rfl, hb⟩
    · exact absurd hello_zero h3
  have HFP : Hid (∀ n, (fwdH ⟨m, t, fs⟩ n).fs = stripF fs ∨ (fwdH ⟨m, t, fs⟩ n).fs = stripF fs ++ [clB n]) := fun n => (fwd_parts ⟨m, t, fs⟩ n).elim (fun h => .inl h.1) (fun h => .inr h.1)
  clear hbx hW0 hf hm ht hbz hok hlib htab
  go_enter Tryd.func10, Tryd.ntmps10
  go_upto_region 1 with fail
  rw [HW0.out]
  go_wp2_with fail
  refine (hello_req _).mono ?_
  rintro e w1 ⟨rfl, hb1⟩
  have hb1 := hb1.mono hz0
  have HE1 := Lib.hid (HHE.out w1 (HBX.out w1 hb1).2.2.2.1 (HBX.out w1 hb1).2.2.2.2)
  go_wp2_with fail
  refine HE1.out.mono ?_
  rintro e w2 ⟨rfl, hb2⟩
  have hb2 := hb1.trans (hb2.mono (Nat.le_trans hz0 hb1.size))
  have ⟨⟨b0, b1, b2, b3⟩, _⟩ := HBX.out w2 hb2
  have HF := Lib.hid (HFW.out w2 hb2)
  have HB2 := Lib.hid hb2
  clear hb1 hb2 HE1 HHE HFW
  go_wp2_with fail
  refine HF.out.mono ?_
  rintro e w6 ⟨hP, hb6⟩
  have hB6 := HB2.out.trans (hb6.mono (Nat.le_trans hz0 HB2.out.size))
  clear b0 b1 b2 b3
  have ⟨⟨b0, b1, b2, b3⟩, hbw6, _⟩ := HBX.out w6 hB6
  have HB6 := Lib.hid hB6
  have HBW6 := Lib.hid hbw6
  clear hb6 hB6 hbw6 HF HB2
  rcases hP with ⟨hE, rfl⟩ | ⟨hE, rfl⟩
  · have hb4 := (fwd_ok hE).len
    rw [hbl] at hb4 ⊢
    have hSz : (bs (printH (fwdH ⟨m, t, fs⟩ b.size) ++ b.data.toList)).size = (printH (fwdH ⟨m, t, fs⟩ b.size)).length + b.size := by rw [bs_size, List.length_append, hbl]
    have hpl := printH_len _ (head_ok (fwd_ok hE).out)
    rw [hbl] at hpl
    by_cases hlen : (printH (fwdH ⟨m, t, fs⟩ b.size)).length ≤ 4096
    · have HX := Lib.hid (one_fwd (more := more) hE hlen hmore)
      dsimp only at HX
      have hfp := HFP.out b.size
      generalize bs (printH (fwdH ⟨m, t, fs⟩ b.size) ++ b.data.toList) = S at *
      generalize (printH (fwdH ⟨m, t, fs⟩ b.size)).length = pn at *
      generalize (fwdH ⟨m, t, fs⟩ b.size).fs = gs at *
      have i9 : IntKind.i64.wrap ((S.size : Int) - (b.size : Int)) = (pn : Int) := by rw [IntWalk.i64_in _ (by omega)]; omega
      have d9 : decide ((4096 : Int) < (pn : Int)) = false := decide_eq_false (by omega)
      have y1 : ∀ W, (Op.stringOp .add S more).run Tryd.prog W = .ok (.string (S ++ more)) W := fun W => run_string_add_sum W S more (by omega)
      clear hE hSz hpl hlen hb4 HFP
      go_wp2_with fail
      refine (wide_any _).mono ?_
      rintro e w7 ⟨rfl, hb7⟩
      have hB7 := HB6.out.trans (hb7.mono (Nat.le_trans hz0 HB6.out.size))
      have HO7 := Lib.hid (HX.out w7 (HBX.out w7 hB7).2.2.2.1)
      go_wp2_with fail
      refine HO7.out.mono ?_
      rintro e w8 ⟨A8, c8, rfl, hO8, hb8⟩
      have hB8 := hB7.trans (hb8.mono (Nat.le_trans hz0 hB7.size))
      have hz8 : w.heap.size < w8.heap.size := Nat.le_trans hz0 hB8.size
      clear b0 b1 b2 b3
      have ⟨⟨b0, b1, b2, b3⟩, _⟩ := HBX.out w8 hB8
      have HO8 := Lib.hid hO8
      have HB8 := Lib.hid hB8
      clear hb7 hB7 hb8 hB8 HO7 HX
      have hrow : (w8.alloc (.cells #[.string m, .string t, .slice A8 gs.length c8, .string b] 50)).heap[w8.heap.size]? = some (.cells #[.string m, .string t, .slice A8 gs.length c8, .string b] 50 (0, 0)) := heap_alloc_new _ _
      have hal8 := (Below.refl w8.heap.size w8).alloc (Nat.le_refl _) (.cells #[.string m, .string t, .slice A8 gs.length c8, .string b] 50)
      have hO9 := hO8.below hal8
      have hB9 := HB8.out.trans (hal8.mono hz8)
      go_upto_region 12 with fail
      generalize w8.alloc (.cells #[.string m, .string t, .slice A8 gs.length c8, .string b] 50) = W9 at *
      have h2 : W9.cell? ⟨w8.heap.size, 2, none⟩ = some (.slice A8 gs.length c8) := cell_of_row W9 _ 2 _ _ _ hrow
      clear b0 b1 b2 b3
      have ⟨⟨b0, b1, b2, b3⟩, _⟩ := HBX.out W9 hB9
      have HS9 : Hid (∀ W, Below W9.heap.size W9 W → W.cell? ⟨w8.heap.size, 2, none⟩ = some (.slice A8 gs.length c8) ∧ W.cell? ⟨w.heap.size, 0, none⟩ = some (.string m) ∧ W.cell? ⟨w.heap.size, 1, none⟩ = some (.string t) ∧ W.cell? ⟨w.heap.size, 2, none⟩ = some (.slice A fs.length c)) := fun W h => ⟨cell_kept h h2, cell_kept h b0, cell_kept h b1, cell_kept h b2⟩
      have HSTX : Hid (∀ W, Below W9.heap.size W9 W → Calls Tryd.prog 37 #[.agg #[.string m, .string t, .slice A fs.length c]] W (StripPost ⟨m, t, fs⟩ W)) := fun W h => HSTR.out W (hB9.trans (h.mono (Nat.le_trans hz0 hB9.size)))
      have HO9 : Hid (∀ W, Below W9.heap.size W9 W → OwnV W w7.heap.size (.slice A8 gs.length c8) gs) := fun W h => hO9.below h
      have HBW9 : Hid (∀ W, Below W9.heap.size W9 W → Below w.heap.size w W) := fun W h => (HBX.out W (hB9.trans (h.mono (Nat.le_trans hz0 hB9.size)))).2.1
      clear hrow hal8 hO9 hO8 hB9 HO8 HSTR
      have yf : ∀ (A : Option Addr) (n c : Nat) W, (Instr.field 48 (.agg #[.string m, .string t, .slice A n c]) 2).run Tryd.prog W = .ok (.slice A n c) W := fun _ _ _ _ => by kernel_rfl
      go_cut [11, 12] from 82 to 88 (fun s11 s12 wx => s12 = .slice A8 gs.length c8 ∧ ∃ A c, s11 = .slice A (stripF fs).length c ∧ Sl wx wx.heap.size 2 A (stripF fs).length ((stripF fs).flatMap cellsV) ∧ Below W9.heap.size W9 wx)
      case first =>
        go_region_held3 (fun w' => w'.cell? ⟨w8.heap.size, 2, none⟩ = some (.slice A8 gs.length c8) ∧ w'.cell? ⟨w.heap.size, 0, none⟩ = some (.string m) ∧ w'.cell? ⟨w.heap.size, 1, none⟩ = some (.string t) ∧ w'.cell? ⟨w.heap.size, 2, none⟩ = some (.slice A fs.length c))
          (first | exact HS9.out _ hb9a | exact HS9.out _ (Below.refl _ _) | exact HS9.out _ (Below.refl _ _).drew | go_keep)
          (first | (go_at_call 37; (with_reducible refine (HSTX.out _ ?_).mono ?_); (first | exact Below.refl _ _ | exact (Below.refl _ _).drew); rintro e w9 ⟨A9, c9, rfl, hO10, hb9⟩; have hb9a : Below W9.heap.size W9 w9 := (by first | exact hb9 | exact undrew hb9); have hs9 := OwnV.sl hO10))
        all_goals (go_wp2_with fail; go_meet)
        all_goals exact ⟨rfl, A9, c9, rfl, hs9, hb9a⟩
      case rest =>
        obtain ⟨rfl, A9, c9, rfl, hs9, hb9⟩ := hcut
        have hOc := HO9.out wc hb9
        have HBWc := Lib.hid (HBW9.out wc hb9)
        have HCL := fun W => Lib.hid (Lower_any clN W (by decide))
        rw [cl_lower] at HCL
        have iw : IntKind.i64.wrap (((stripF fs).length : Int) + 1) = ((stripF fs).length : Int) + 1 := IntWalk.i64_in _ (by omega)
        rcases hfp with rfl | rfl
        · have HEQ := Lib.hid (EqualV_yes (stripF fs) A8 A9 c8 c9 wc (OwnV.sl hOc) hs9 (by omega))
          have q1 : (((stripF fs).length : Int) == ((stripF fs).length : Int) + 1) = false := beq_eq_false_iff_ne.2 (by omega)
          generalize stripF fs = SF at *
          clear hs9 hb9 hOc HO9 HBW9 HS9 b0 b1 b2 b3 h2 hfl
          go_wp2_with (go_at_call 43; (with_reducible refine HEQ.out.mono ?_); rintro e w10 ⟨rfl, hb10⟩)
          go_ret
          exact ⟨rfl, HBWc.out.trans (hb10.mono HBWc.out.size)⟩
        · have hlen : (stripF fs ++ [clB b.size]).length = (stripF fs).length + 1 := by rw [List.length_append]; rfl
          obtain ⟨_, hcap⟩ := OwnV.cap hOc
          have hfr := OwnV.front hOc
          obtain ⟨b9, o9, rfl, _, z0, z1⟩ := fld_at (OwnV.sl hOc) (stripF fs).length (by rw [hlen]; exact Nat.lt_succ_self _)
          have y0 : wc.cell? ⟨b9, o9 + (stripF fs).length * 2, none⟩ = some (.string clN) := by
            rw [List.getElem_append_right (Nat.le_refl _)] at z0
            simpa [clB] using z0
          clear z0 z1
          rw [hlen] at hcap ⊢
          have HEQ : Hid (∀ W, Below wc.heap.size wc W → Calls Tryd.prog 43 #[.slice (some ⟨b9, o9, none⟩) (stripF fs).length c8, .slice A9 (stripF fs).length c9] W fun e w' => e = .returned (.bool true) ∧ Below W.heap.size W w') := fun W h =>
            EqualV_yes (stripF fs) (some ⟨b9, o9, none⟩) A9 c8 c9 W ((hfr.below h).more h.size) ((hs9.below h).more h.size) (by omega)
          generalize stripF fs = SF at *
          have i3 : IntKind.i64.wrap ((SF.length : Int) + 1 - 1) = (SF.length : Int) := by rw [IntWalk.i64_in _ (by omega)]; omega
          have i4 : (0 : Int) ≤ (SF.length : Int) := by omega
          have i5 : (SF.length : Int) < (SF.length : Int) + 1 := by omega
          have i6 : (SF.length : Int) ≤ (c8 : Int) := by omega
          clear hs9 hb9 hOc hfr HO9 HBW9 HS9 b0 b1 b2 b3 h2 hfl hlen
          go_wp2_with (first
            | (go_at_call 42; (with_reducible refine (HCL _).out.mono ?_); rintro e w10 ⟨rfl, hb10⟩)
            | (go_at_call 43; (with_reducible refine (HEQ.out _ hb10).mono ?_); rintro e w11 ⟨rfl, hb11⟩))
          go_ret
          exact ⟨rfl, HBWc.out.trans ((hb10.trans (hb11.mono hb10.size)).mono HBWc.out.size)⟩
    · generalize bs (printH (fwdH ⟨m, t, fs⟩ b.size) ++ b.data.toList) = S at *
      generalize (printH (fwdH ⟨m, t, fs⟩ b.size)).length = pn at *
      have i9 : IntKind.i64.wrap ((S.size : Int) - (b.size : Int)) = (pn : Int) := by rw [IntWalk.i64_in _ (by omega)]; omega
      have d9 : decide ((4096 : Int) < (pn : Int)) = true := decide_eq_true (by omega)
      clear hE hSz hpl hlen hb4 HFP
      go_wp2_with fail
      go_ret
      exact ⟨rfl, HBW6.out⟩
  · have q0 : (fwdE ⟨m, t, fs⟩ b.data.toList != 0) = true := bne_iff_ne.2 hE
    generalize fwdE ⟨m, t, fs⟩ b.data.toList = E at *
    clear hE HFP
    go_wp2_with fail
    go_ret
    exact ⟨by simp, HBW6.out⟩
theorem serialOne_any (q : RqV) (more : ByteArray) (w : World) {v : Value} (x : ReqArg w v q) (hq : ReqSum q) (hm : more.size ≤ 1048576) (hlib : LibOk w) (ht : Lib.TabIs Tryd.prog w "internal/strconv.uint64pow10" .u64 Lib.pow10Tab) :
    Calls Tryd.prog 10 #[.agg #[.string q.m, .string q.t, .slice q.A q.fs.length q.c, .string q.b], .string more] w fun e w' => e = .returned (.bool true) ∧ Below w.heap.size w w' :=
  serialOne_walk q.m q.t q.b more q.fs q.A q.c w x.sl x.msize x.tsize x.bsize (by omega) (strip_fine (by have := hq.n; omega) hq.sum) (by have := hq.n; omega) hlib (TabOk.of ht)
end Go.Proofs.YtnpopobeinbplaaDoor
