/- Part 15 of the proof: lemmas and walks that the last texts use. -/
import Derived.Test.YthfjmlcjkbgboaaGreatDoorM04
import Derived.Test.YthfjmlcjkbgboaaGreatDoorM12
import Derived.Test.YthfjmlcjkbgboaaGreatDoorM13
import Derived.Test.YthfjmlcjkbgboaaGreatDoorM14
import Derived.Deep.CutRange
import Derived.Laws.Concat
import Derived.Laws.IdiomStrings
namespace Go.Proofs.YthfjmlcjkbgboaaGreatDoor
open Go.RowKit
theorem LX.star {w : World} {p : Nat → Prop} {t : Tree} {A : Option Addr} {c b c1 : Nat} (h : LX w p t (cellsX t.kind t.set A t.kids.length c)) (hb : p b) (hp : PutX w b (cellsX t.kind t.set A t.kids.length c)) :
    LX w p (stT t) (cellsX 6 .zero (some ⟨b, 0, none⟩) 1 c1) := by
  unfold stT
  rw [LX]
  refine ⟨_, _, rfl, zero_wfR, ?_⟩
  rw [LXK]
  refine ⟨b, 0, _, rfl, hb, rfl, fun j hj => ?_, h, LXK.nil _ _ _⟩
  rw [Nat.zero_add, cell_of_row w b j _ _ _ hp]
  simp [List.getElem?_eq_getElem hj]
theorem fill6_alloc {W : World} {k : Nat} (o : Obj) (a b c d e f : Value) (hk : k < W.heap.size) : fill6 (W.alloc o) k a b c d e f = (fill6 W k a b c d e f).alloc o := by
  have hz : ∀ (V : World) (p : Addr) (u : Value), (V.setCell p u).heap.size = V.heap.size := fun V p u => by simp [World.setCell]
  unfold fill6
  rw [World.setCell_alloc_past _ _ _ _ hk]
  rw [World.setCell_alloc_past _ _ _ _ (by rw [hz]; exact hk)]
  rw [World.setCell_alloc_past _ _ _ _ (by rw [hz, hz]; exact hk)]
  rw [World.setCell_alloc_past _ _ _ _ (by rw [hz, hz, hz]; exact hk)]
  rw [World.setCell_alloc_past _ _ _ _ (by rw [hz, hz, hz, hz]; exact hk)]
  rw [World.setCell_alloc_past _ _ _ _ (by rw [hz, hz, hz, hz, hz]; exact hk)]
def PiRel (g : Nat) (s : ByteArray) (w : World) (k op : Nat) (R : TR) (wr : World) : Prop :=
  ∃ (x : TR) (A : Option Addr) (c : Nat), FewT x.1 ∧ fixI (pieceS s.data.toList) (leftT s.data.toList) x = R ∧ x.2.pos ≤ s.size ∧ x.2.op = op ∧ OutSt g s w k x A c wr
set_option maxRecDepth 100000 in
set_option maxHeartbeats 6400000 in
theorem piece_any (s : ByteArray) (op : Nat) (AF : RS → TR) (hs : s.size ≤ 4096) (hA : GoodF s.data.toList AF) (hC : ReadsT 283 s op (atomR s.data.toList AF)) :
    ReadsT 253 s op (pieceR s.data.toList AF) := by
  intro g r w h hp hop
  have hsl : s.data.toList.length = s.size := by simp
  have hg := h.lt
  obtain ⟨W0, hW0⟩ : ∃ W0, w.alloc (.cells #[.int .i64 0, .int .u64 0, .int .u64 0, .int .u64 0, .int .u64 0, .slice none 0 0] 217) = W0 := ⟨_, rfl⟩
  have hb0 : Below w.heap.size w W0 := by rw [← hW0]; exact (Below.refl _ _).alloc (Nat.le_refl _) _
  have hz0 : ZeroX W0 w.heap.size := by rw [← hW0]; exact ZeroX.new w
  have hs1 : w.heap.size < W0.heap.size := hz0.lt
  have HC1 := Lib.hid (hC g r W0 (h.below hb0) hp hop)
  have HS1 : Hid (ZeroX W0 w.heap.size ∧ w.grownBy W0 (some g)) := ⟨hz0, only_low (grown_refl w _) hb0⟩
  have HRR : Hid (fixI (pieceS s.data.toList) (leftT s.data.toList) (atomR s.data.toList AF r) = pieceR s.data.toList AF r) := rfl
  have hga := (good_atom hA (r := r) (by omega)).1
  have HFW := Lib.hid hga.few
  have HPR := Lib.hid hga.step
  generalize hR : pieceR s.data.toList AF r = R at *
  generalize hx0 : atomR s.data.toList AF r = x0 at *
  have HW0 := Lib.hid hW0
  clear h hC hb0 hW0 hz0 hR hx0 hga hA
  go_enter Tryz.func253, Tryz.ntmps253
  go_upto_region 1 with fail
  rw [HW0.out]
  go_wp2_with (go_at_call 283; apply Hid.out)
  unfold Hid
  refine HC1.out.mono ?_
  rintro e w2 ⟨A, c, rfl, hn2, h2⟩
  have HO : Hid (OutSt g s w w2.heap.size x0 A c (w2.alloc (.cells #[.int .i64 x0.1.kind, .int .u64 x0.1.set.a, .int .u64 x0.1.set.b, .int .u64 x0.1.set.c, .int .u64 x0.1.set.d, .slice A x0.1.kids.length c] 217))) :=
    OutSt.start hg (HS1.out.1.grown h2.2 (by omega)) (only_trans HS1.out.2 h2.2) hs1 hn2 h2.1 h2.2.size
  have hxp : x0.2.pos ≤ s.size := by have := HPR.out.inn; omega
  have hxo : x0.2.op = op := HPR.out.op.trans hop
  clear hn2 h2 HPR HC1 HS1
  unfold argX
  go_upto_region 3 with fail
  generalize w2.alloc (.cells #[.int .i64 x0.1.kind, .int .u64 x0.1.set.a, .int .u64 x0.1.set.b, .int .u64 x0.1.set.c, .int .u64 x0.1.set.d, .slice A x0.1.kids.length c] 217) = W3 at *
  generalize w2.heap.size = k at *
  have HS : Hid (PiRel g s w k op R W3) := ⟨x0, A, c, HFW.out, HRR.out, hxp, hxo, HO.out⟩
  clear HO hxp hxo HRR HFW
  go_loopw [7] (fun _ wr => PiRel g s w k op R wr) (fun _ wr => leftM g s.size wr)
  case atStart => exact HS.out
  case round =>
    obtain ⟨x, A, c, hfw, hx, hxp, hxo, hO⟩ := hrel
    have HM := Lib.hid (leftM_eq hO.rd)
    have HO := Lib.hid hO
    have hwk := hO.far
    have hin : InR s.data.toList x := by unfold InR; omega
    have HFW := Lib.hid hfw
    have HTK : Hid (∀ (b : Int) W, OutSt g s w k x A c W → Calls Tryz.prog 226 #[.pointer (some ⟨g, 0, none⟩), .int .i64 b] W fun e w' => e = .returned (.bool (decide (nextR s.data.toList x.2 = b))) ∧ OutSt g s w k (x.1, if nextR s.data.toList x.2 = b then onR x.2 else x.2) A c w') := fun b W hW =>
      (take_any g s x.2 b W hW.rd hxp hs).mono (fun e w' ⟨h1, h2⟩ => by
        have hcall := hW.call hg h2
        unfold takeR at h1 hcall
        by_cases hb : nextR s.data.toList x.2 = b
        · rw [if_pos hb] at h1 hcall
          rw [if_pos hb]
          exact ⟨by rw [h1, decide_eq_true hb], hcall⟩
        · rw [if_neg hb] at h1 hcall
          rw [if_neg hb]
          exact ⟨by rw [h1, decide_eq_false hb], hcall⟩)
    have HFIN : Hid (∀ (t' : Tree) A7 c7 w7, pieceS s.data.toList x = some (t', onR x.2) → OutSt g s w k (x.1, onR x.2) A c w7 → LX w7 (fun b => w.heap.size < b ∧ b ≠ k ∧ b < w7.heap.size) t' (cellsX t'.kind t'.set A7 t'.kids.length c7) →
        PiRel g s w k op R (fill6 w7 k (.int .i64 t'.kind) (.int .u64 t'.set.a) (.int .u64 t'.set.b) (.int .u64 t'.set.c) (.int .u64 t'.set.d) (.slice A7 t'.kids.length c7)) ∧ leftM g s.size (fill6 w7 k (.int .i64 t'.kind) (.int .u64 t'.set.a) (.int .u64 t'.set.b) (.int .u64 t'.set.c) (.int .u64 t'.set.d) (.slice A7 t'.kids.length c7)) < leftM g s.size wr) := fun t' A7 c7 w7 hst h7 hl7 => by
      have hp := h7.put hg t' A7 c7 hl7
      have hf := pieceS_falls s.data.toList
      have hgd := pieceS_cases hst
      obtain ⟨_, _, _, _, hfew, _⟩ := hgd
      have hk := hf.keep x _ hin hst
      refine ⟨⟨_, A7, c7, hfew hfw, by rw [← hx]; exact (fixI_some hf hin hst).symm, ?_, hxo, hp⟩, ?_⟩
      · have : (onR x.2).pos ≤ s.data.toList.length := hk
        show (onR x.2).pos ≤ s.size
        omega
      · rw [HM.out, leftM_eq hp.rd]; exact hf.less x _ hin hst
    have HX := Lib.hid hx
    have HTY : Hid (∀ (b : Int) W, nextR s.data.toList x.2 = b → OutSt g s w k x A c W → Calls Tryz.prog 226 #[.pointer (some ⟨g, 0, none⟩), .int .i64 b] W fun e w' => e = .returned (.bool true) ∧ OutSt g s w k (x.1, onR x.2) A c w') := fun b W hb hW =>
      (HTK.out b W hW).mono fun e w' ⟨h1, h2⟩ => ⟨by rw [h1, decide_eq_true hb], by rw [if_pos hb] at h2; exact h2⟩
    have HTN : Hid (∀ (b : Int) W, nextR s.data.toList x.2 ≠ b → OutSt g s w k x A c W → Calls Tryz.prog 226 #[.pointer (some ⟨g, 0, none⟩), .int .i64 b] W fun e w' => e = .returned (.bool false) ∧ OutSt g s w k x A c w') := fun b W hb hW =>
      (HTK.out b W hW).mono fun e w' ⟨h1, h2⟩ => ⟨by rw [h1, decide_eq_false hb], by rw [if_neg hb] at h2; exact h2⟩
    clear hx hO hin HTK
    by_cases h42 : nextR s.data.toList x.2 = 42
    · have HT := Lib.hid (HTY.out 42 wr h42 HO.out)
      have HST : Hid (pieceS s.data.toList x = some (stT x.1, onR x.2)) := by unfold Hid pieceS; rw [if_pos h42]
      clear h42
      go_wp2_with (go_at_call 226; apply Hid.out)
      unfold Hid
      refine HT.out.mono ?_
      rintro e w4 ⟨rfl, h4⟩
      have ⟨o0, o1, o2, o3, o4, o5⟩ := (show PutX w4 k [.int .i64 x.1.kind, .int .u64 x.1.set.a, .int .u64 x.1.set.b, .int .u64 x.1.set.c, .int .u64 x.1.set.d, .slice A x.1.kids.length c] from h4.out).cells
      have f0 := h4.out.free 0
      have f1 := h4.out.free 1
      have f2 := h4.out.free 2
      have f3 := h4.out.free 3
      have f4 := h4.out.free 4
      have f5 := h4.out.free 5
      have hk4 : k < w4.heap.size := h4.out.lt
      have h5 := h4.low hg ((Below.refl w4.heap.size w4).alloc (Nat.le_refl _) (.cells #[.int .i64 x.1.kind, .int .u64 x.1.set.a, .int .u64 x.1.set.b, .int .u64 x.1.set.c, .int .u64 x.1.set.d, .slice A x.1.kids.length c] 217))
      have hl5 := LX.star (c1 := 1) h5.tree (b := w4.heap.size) ⟨by omega, by omega, by rw [World.size_alloc]; omega⟩ (PutX.new w4 _)
      have hxx := HFIN.out (stT x.1) _ 1 _ HST.out h5 hl5
      rw [fill6_alloc _ _ _ _ _ _ _ hk4] at hxx
      have HXX := Lib.hid hxx
      clear hxx
      clear h4 h5 hl5
      go_wp2_with fail
      go_roundw
      case measure => exact HXX.out.2
      case rel => exact HXX.out.1
    have HN1 := Lib.hid (HTN.out 42 wr h42 HO.out)
    go_wp2_with (go_at_call 226; apply Hid.out)
    unfold Hid
    refine HN1.out.mono ?_
    rintro e w4 ⟨rfl, h4⟩
    by_cases h63 : nextR s.data.toList x.2 = 63
    · have HT := Lib.hid (HTY.out 63 w4 h63 h4)
      have HST : Hid (pieceS s.data.toList x = some (orT x.1 emT, onR x.2)) := by unfold Hid pieceS; rw [if_neg h42, if_pos h63]
      clear h42 h63 h4
      go_wp2_with (go_at_call 226; apply Hid.out)
      unfold Hid
      refine HT.out.mono ?_
      rintro e w5 ⟨rfl, h5⟩
      have ⟨o0, o1, o2, o3, o4, o5⟩ := (show PutX w5 k [.int .i64 x.1.kind, .int .u64 x.1.set.a, .int .u64 x.1.set.b, .int .u64 x.1.set.c, .int .u64 x.1.set.d, .slice A x.1.kids.length c] from h5.out).cells
      have f0 := h5.out.free 0
      have f1 := h5.out.free 1
      have f2 := h5.out.free 2
      have f3 := h5.out.free 3
      have f4 := h5.out.free 4
      have f5 := h5.out.free 5
      have HTW : Hid (Calls Tryz.prog 227 #[.int .i64 5, .agg #[.int .i64 x.1.kind, .int .u64 x.1.set.a, .int .u64 x.1.set.b, .int .u64 x.1.set.c, .int .u64 x.1.set.d, .slice A x.1.kids.length c], .agg #[.int .i64 2, .int .u64 0, .int .u64 0, .int .u64 0, .int .u64 0, .slice none 0 0]] w5 (TwoPost 5 x.1 emT (fun b => w.heap.size < b ∧ b ≠ k ∧ b < w5.heap.size) w5)) :=
        twoX_any 5 x.1 emT A none c 0 _ w5 (fun b hb => hb.2.2) h5.tree (LX.leaf _ _ _ _ _ _ zero_wfR)
      have H5 := Lib.hid h5
      have hk5 : k < w5.heap.size := h5.out.lt
      clear h5
      go_wp2_with (go_at_call 227; apply Hid.out)
      unfold Hid
      refine HTW.out.mono ?_
      rintro e w6 ⟨A6, c6, rfl, hl6, hb6⟩
      have h6 := H5.out.low hg hb6
      have hsz6 := hb6.size
      have HXX := Lib.hid (HFIN.out (orT x.1 emT) A6 c6 w6 HST.out h6 (LX.keep (fun b hb => by rcases hb with hb | hb; exact ⟨hb.1, hb.2.1, by have := hb.2.2; omega⟩; exact ⟨by have := hb.1; omega, by have := hb.1; omega, hb.2⟩) (fun _ _ _ => rfl) _ _ hl6))
      have ⟨o0, o1, o2, o3, o4, o5⟩ := (show PutX w6 k [.int .i64 x.1.kind, .int .u64 x.1.set.a, .int .u64 x.1.set.b, .int .u64 x.1.set.c, .int .u64 x.1.set.d, .slice A x.1.kids.length c] from h6.out).cells
      have f0 := h6.out.free 0
      have f1 := h6.out.free 1
      have f2 := h6.out.free 2
      have f3 := h6.out.free 3
      have f4 := h6.out.free 4
      have f5 := h6.out.free 5
      clear hl6 hb6 h6
      unfold argX
      go_wp2_with fail
      go_roundw
      case measure => exact HXX.out.2
      case rel => exact HXX.out.1
    have HN2 := Lib.hid (HTN.out 63 w4 h63 h4)
    clear h4
    go_wp2_with (go_at_call 226; apply Hid.out)
    unfold Hid
    refine HN2.out.mono ?_
    rintro e w5 ⟨rfl, h5⟩
    by_cases h43 : nextR s.data.toList x.2 = 43
    · have HT := Lib.hid (HTY.out 43 w5 h43 h5)
      have HST : Hid (pieceS s.data.toList x = some (jnT x.1 (stT (againT x.1)), onR x.2)) := by unfold Hid pieceS; rw [if_neg h42, if_neg h63, if_pos h43]
      clear h42 h63 h43 h5
      go_wp2_with (go_at_call 226; apply Hid.out)
      unfold Hid
      refine HT.out.mono ?_
      rintro e w6 ⟨rfl, h6⟩
      have HLT := Lib.hid (fun (W : World) (hW : Below w6.heap.size w6 W) => (h6.low hg hW).lt)
      have H6 := Lib.hid h6
      have hk6 : k < w6.heap.size := h6.out.lt
      have ⟨o0, o1, o2, o3, o4, o5⟩ := (show PutX w6 k [.int .i64 x.1.kind, .int .u64 x.1.set.a, .int .u64 x.1.set.b, .int .u64 x.1.set.c, .int .u64 x.1.set.d, .slice A x.1.kids.length c] from h6.out).cells
      have hal6 : Below w6.heap.size w6 (w6.alloc (.cells #[.int .i64 2, .int .u64 0, .int .u64 0, .int .u64 0, .int .u64 0, .slice none 0 0] 217)) := (Below.refl _ _).alloc (Nat.le_refl _) _
      have HSZ : Hid (Calls Tryz.prog 284 #[.agg #[.int .i64 x.1.kind, .int .u64 x.1.set.a, .int .u64 x.1.set.b, .int .u64 x.1.set.c, .int .u64 x.1.set.d, .slice A x.1.kids.length c], .int .i64 0] (w6.alloc (.cells #[.int .i64 2, .int .u64 0, .int .u64 0, .int .u64 0, .int .u64 0, .slice none 0 0] 217)) fun e w' => e = .returned (.int .i64 (sizeT x.1 0)) ∧ Below w6.heap.size w6 w' ∧ PutX w' w6.heap.size [.int .i64 2, .int .u64 0, .int .u64 0, .int .u64 0, .int .u64 0, .slice none 0 0]) :=
        (size_any x.1 hfw A c (w6.alloc (.cells #[.int .i64 2, .int .u64 0, .int .u64 0, .int .u64 0, .int .u64 0, .slice none 0 0] 217)) 0 (HLT.out _ hal6) (by decide) (by decide)).mono (fun e w' ⟨h1, h2⟩ => ⟨h1, hal6.trans (h2.mono hal6.size), (h2.block _ (PutX.new w6 [.int .i64 2, .int .u64 0, .int .u64 0, .int .u64 0, .int .u64 0, .slice none 0 0]).lt).trans (PutX.new w6 [.int .i64 2, .int .u64 0, .int .u64 0, .int .u64 0, .int .u64 0, .slice none 0 0])⟩)
      have HZT := sizeT_le x.1 0 (by decide)
      clear h6 hal6
      go_upto_region 9 with fail
      go_wp2_with (go_at_call 284; apply Hid.out)
      unfold Hid
      refine HSZ.out.mono ?_
      rintro e w7 ⟨rfl, hb7, hp7⟩
      have H7 := Lib.hid (And.intro hb7 hp7)
      have hk7 : k < w7.heap.size := Nat.lt_of_lt_of_le hk6 hb7.size
      have hka : w6.heap.size < w7.heap.size := hp7.lt
      have ho7 := H6.out.low hg hb7
      have ⟨o0, o1, o2, o3, o4, o5⟩ := (show PutX w7 k [.int .i64 x.1.kind, .int .u64 x.1.set.a, .int .u64 x.1.set.b, .int .u64 x.1.set.c, .int .u64 x.1.set.d, .slice A x.1.kids.length c] from ho7.out).cells
      have ⟨b0, b1, b2, b3, b4, b5⟩ := hp7.cells
      have e0 := hp7.free 0
      have e1 := hp7.free 1
      have e2 := hp7.free 2
      have e3 := hp7.free 3
      have e4 := hp7.free 4
      have e5 := hp7.free 5
      clear ho7 hb7 hp7 HSZ
      go_upto_if 26 with fail
      obtain ⟨cz, hcz⟩ : ∃ cz, decide (sizeT x.1 0 ≤ 80) = cz := ⟨_, rfl⟩
      rw [hcz]
      have HCZ := Lib.hid hcz
      clear hcz
      go_cut [3] from 7 to 33 (fun v3 wx => v3 = .pointer (some ⟨k, 0, none⟩) ∧ ∃ (A8 : Option Addr) (c8 : Nat), Below w6.heap.size w6 wx ∧ PutX wx w6.heap.size [.int .i64 (againT x.1).kind, .int .u64 (againT x.1).set.a, .int .u64 (againT x.1).set.b, .int .u64 (againT x.1).set.c, .int .u64 (againT x.1).set.d, .slice A8 (againT x.1).kids.length c8] ∧ LX wx (fun b => w.heap.size < b ∧ b ≠ k ∧ b < wx.heap.size) (againT x.1) (cellsX (againT x.1).kind (againT x.1).set A8 (againT x.1).kids.length c8))
      case first =>
        cases cz with
        | true =>
          have hz : sizeT x.1 0 ≤ 80 := of_decide_eq_true HCZ.out
          have HAG : Hid (againT x.1 = x.1) := by unfold Hid againT; rw [if_pos hz]
          have HCP : Hid (Calls Tryz.prog 285 #[.agg #[.int .i64 x.1.kind, .int .u64 x.1.set.a, .int .u64 x.1.set.b, .int .u64 x.1.set.c, .int .u64 x.1.set.d, .slice A x.1.kids.length c]] w7 fun e w' => ∃ A' c', e = .returned (.agg #[.int .i64 x.1.kind, .int .u64 x.1.set.a, .int .u64 x.1.set.b, .int .u64 x.1.set.c, .int .u64 x.1.set.d, .slice A' x.1.kids.length c']) ∧ NewX w7 w' x.1 A' c' ∧ Below w7.heap.size w7 w') := copy_any x.1 hfw A c w7 (HLT.out w7 H7.out.1)
          clear hz
          go_wp2_with (go_at_call 285; apply Hid.out)
          unfold Hid
          refine HCP.out.mono ?_
          rintro e w8 ⟨A8, c8, rfl, hn8, hb8⟩
          have hp8 : PutX w8 w6.heap.size [.int .i64 2, .int .u64 0, .int .u64 0, .int .u64 0, .int .u64 0, .slice none 0 0] := (hb8.block _ hka).trans H7.out.2
          have HX8 := Lib.hid (hp8.fill rfl (.int .i64 x.1.kind) (.int .u64 x.1.set.a) (.int .u64 x.1.set.b) (.int .u64 x.1.set.c) (.int .u64 x.1.set.d) (.slice A8 x.1.kids.length c8))
          have hb9 : Below w6.heap.size w8 (fill6 w8 w6.heap.size (.int .i64 x.1.kind) (.int .u64 x.1.set.a) (.int .u64 x.1.set.b) (.int .u64 x.1.set.c) (.int .u64 x.1.set.d) (.slice A8 x.1.kids.length c8)) := fill6_below (Below.refl _ _) (Nat.le_refl _) _ _ _ _ _ _
          have HB8 : Hid (Below w6.heap.size w6 (fill6 w8 w6.heap.size (.int .i64 x.1.kind) (.int .u64 x.1.set.a) (.int .u64 x.1.set.b) (.int .u64 x.1.set.c) (.int .u64 x.1.set.d) (.slice A8 x.1.kids.length c8))) := (H7.out.1.trans (hb8.mono (Nat.le_of_lt hka))).trans hb9
          have hot : ∀ i, i ≠ w6.heap.size → (fill6 w8 w6.heap.size (.int .i64 x.1.kind) (.int .u64 x.1.set.a) (.int .u64 x.1.set.b) (.int .u64 x.1.set.c) (.int .u64 x.1.set.d) (.slice A8 x.1.kids.length c8)).heap[i]? = w8.heap[i]? := fun i hi => by
            unfold fill6
            rw [Below.heap_setCell _ _ _ _ hi, Below.heap_setCell _ _ _ _ hi, Below.heap_setCell _ _ _ _ hi, Below.heap_setCell _ _ _ _ hi, Below.heap_setCell _ _ _ _ hi, Below.heap_setCell _ _ _ _ hi]
          have HL8 : Hid (LX (fill6 w8 w6.heap.size (.int .i64 x.1.kind) (.int .u64 x.1.set.a) (.int .u64 x.1.set.b) (.int .u64 x.1.set.c) (.int .u64 x.1.set.d) (.slice A8 x.1.kids.length c8)) (fun b => w.heap.size < b ∧ b ≠ k ∧ b < (fill6 w8 w6.heap.size (.int .i64 x.1.kind) (.int .u64 x.1.set.a) (.int .u64 x.1.set.b) (.int .u64 x.1.set.c) (.int .u64 x.1.set.d) (.slice A8 x.1.kids.length c8)).heap.size) x.1 (cellsX x.1.kind x.1.set A8 x.1.kids.length c8)) :=
            LX.keep (fun b hb => ⟨by have := hb.1; omega, by have := hb.1; omega, Nat.lt_of_lt_of_le hb.2 hb9.size⟩) (fun b o hb => by simp only [World.cell?, hot b (show b ≠ w6.heap.size by have := hb.1; omega)]) _ _ hn8
          have ⟨b0, b1, b2, b3, b4, b5⟩ := hp8.cells
          have e0 := hp8.free 0
          have e1 := hp8.free 1
          have e2 := hp8.free 2
          have e3 := hp8.free 3
          have e4 := hp8.free 4
          have e5 := hp8.free 5
          clear hp8 hb9 hot hn8 hb8
          go_wp2_with fail
          go_meet
          exact ⟨rfl, A8, c8, HB8.out, by rw [HAG.out]; exact HX8.out, by rw [HAG.out]; exact HL8.out⟩
        | false =>
          have hz : ¬ sizeT x.1 0 ≤ 80 := of_decide_eq_false HCZ.out
          have HAG : Hid (againT x.1 = emT) := by unfold Hid againT; rw [if_neg hz]
          clear hz
          go_wp2_with fail
          go_meet
          exact ⟨rfl, none, 0, H7.out.1, by rw [HAG.out]; exact H7.out.2, by rw [HAG.out]; exact LX.leaf _ _ _ _ _ _ zero_wfR⟩
      case rest =>
        obtain ⟨rfl, A8, c8, hb8, hp8, hl8⟩ := hcut
        obtain ⟨ta, hta⟩ : ∃ ta, againT x.1 = ta := ⟨_, rfl⟩
        rw [hta] at hp8 hl8 HST
        have ho8 := H6.out.low hg hb8
        have hk8 : k < wc.heap.size := ho8.out.lt
        have hka8 : w6.heap.size < wc.heap.size := hp8.lt
        have ⟨o0, o1, o2, o3, o4, o5⟩ := (show PutX wc k [.int .i64 x.1.kind, .int .u64 x.1.set.a, .int .u64 x.1.set.b, .int .u64 x.1.set.c, .int .u64 x.1.set.d, .slice A x.1.kids.length c] from ho8.out).cells
        have ⟨b0, b1, b2, b3, b4, b5⟩ := hp8.cells
        have hal9 : Below wc.heap.size wc (wc.alloc (.cells #[.int .i64 ta.kind, .int .u64 ta.set.a, .int .u64 ta.set.b, .int .u64 ta.set.c, .int .u64 ta.set.d, .slice A8 ta.kids.length c8] 217)) := (Below.refl _ _).alloc (Nat.le_refl _) _
        have h9 := ho8.low hg hal9
        have hl9 : LX (wc.alloc (.cells #[.int .i64 ta.kind, .int .u64 ta.set.a, .int .u64 ta.set.b, .int .u64 ta.set.c, .int .u64 ta.set.d, .slice A8 ta.kids.length c8] 217)) (fun b => w.heap.size < b ∧ b ≠ k ∧ b < (wc.alloc (.cells #[.int .i64 ta.kind, .int .u64 ta.set.a, .int .u64 ta.set.b, .int .u64 ta.set.c, .int .u64 ta.set.d, .slice A8 ta.kids.length c8] 217)).heap.size) ta (cellsX ta.kind ta.set A8 ta.kids.length c8) :=
          LX.keep (fun b hb => ⟨hb.1, hb.2.1, Nat.lt_of_lt_of_le hb.2.2 hal9.size⟩) (fun b o hb => hal9.cell (p := ⟨b, o, none⟩) hb.2.2) _ _ hl8
        have hst9 := LX.star (c1 := 1) hl9 (b := wc.heap.size) ⟨by omega, by omega, by rw [World.size_alloc]; omega⟩ (PutX.new wc _)
        have HTW : Hid (Calls Tryz.prog 227 #[.int .i64 4, .agg #[.int .i64 x.1.kind, .int .u64 x.1.set.a, .int .u64 x.1.set.b, .int .u64 x.1.set.c, .int .u64 x.1.set.d, .slice A x.1.kids.length c], .agg #[.int .i64 6, .int .u64 0, .int .u64 0, .int .u64 0, .int .u64 0, .slice (some ⟨wc.heap.size, 0, none⟩) 1 1]] (wc.alloc (.cells #[.int .i64 ta.kind, .int .u64 ta.set.a, .int .u64 ta.set.b, .int .u64 ta.set.c, .int .u64 ta.set.d, .slice A8 ta.kids.length c8] 217)) (TwoPost 4 x.1 (stT ta) (fun b => w.heap.size < b ∧ b ≠ k ∧ b < (wc.alloc (.cells #[.int .i64 ta.kind, .int .u64 ta.set.a, .int .u64 ta.set.b, .int .u64 ta.set.c, .int .u64 ta.set.d, .slice A8 ta.kids.length c8] 217)).heap.size) (wc.alloc (.cells #[.int .i64 ta.kind, .int .u64 ta.set.a, .int .u64 ta.set.b, .int .u64 ta.set.c, .int .u64 ta.set.d, .slice A8 ta.kids.length c8] 217)))) :=
          twoX_any 4 x.1 (stT ta) A (some ⟨wc.heap.size, 0, none⟩) c 1 _ _ (fun b hb => hb.2.2) h9.tree hst9
        have H9 := Lib.hid h9
        clear hb8 hp8 hl8 ho8 hal9 h9 hl9 hst9 hta
        go_wp2_with (go_at_call 227; apply Hid.out)
        unfold Hid
        refine HTW.out.mono ?_
        rintro e w10 ⟨A10, c10, rfl, hl10, hb10⟩
        have h10 := H9.out.low hg hb10
        have hsz10 := hb10.size
        have hk9 := H9.out.out.lt
        have HXX := Lib.hid (HFIN.out (jnT x.1 (stT ta)) A10 c10 w10 HST.out h10 (LX.keep (fun b hb => by rcases hb with hb | hb; exact ⟨hb.1, hb.2.1, by have := hb.2.2; omega⟩; exact ⟨by have := hb.1; omega, by have := hb.1; omega, hb.2⟩) (fun _ _ _ => rfl) _ _ hl10))
        have ⟨o0, o1, o2, o3, o4, o5⟩ := (show PutX w10 k [.int .i64 x.1.kind, .int .u64 x.1.set.a, .int .u64 x.1.set.b, .int .u64 x.1.set.c, .int .u64 x.1.set.d, .slice A x.1.kids.length c] from h10.out).cells
        have f0 := h10.out.free 0
        have f1 := h10.out.free 1
        have f2 := h10.out.free 2
        have f3 := h10.out.free 3
        have f4 := h10.out.free 4
        have f5 := h10.out.free 5
        clear hl10 hb10 h10 hsz10 hk9
        unfold argX
        go_wp2_with fail
        go_roundw
        case measure => exact HXX.out.2
        case rel => exact HXX.out.1
    · have HN3 := Lib.hid (HTN.out 43 w5 h43 h5)
      have HRX : Hid (R = x) := by
        unfold Hid
        rw [← HX.out]
        exact fixI_none (pieceS_falls s.data.toList) (show InR s.data.toList x by unfold InR; omega) (by unfold pieceS; rw [if_neg h42, if_neg h63, if_neg h43])
      clear h42 h63 h43 h5
      go_wp2_with (go_at_call 226; apply Hid.out)
      unfold Hid
      refine HN3.out.mono ?_
      rintro e w6 ⟨rfl, h6⟩
      have HD := Lib.hid (OutSt.done hg h6)
      have ⟨o0, o1, o2, o3, o4, o5⟩ := (show PutX w6 k [.int .i64 x.1.kind, .int .u64 x.1.set.a, .int .u64 x.1.set.b, .int .u64 x.1.set.c, .int .u64 x.1.set.d, .slice A x.1.kids.length c] from h6.out).cells
      have ⟨z0, z1, z2, z3, z4, z5⟩ := h6.zero.cells
      have y0 := h6.zero.free 0
      have y1 := h6.zero.free 1
      have y2 := h6.zero.free 2
      have y3 := h6.zero.free 3
      have y4 := h6.zero.free 4
      have y5 := h6.zero.free 5
      clear h6
      go_wp2_with fail
      obtain ⟨d1, d2, d3⟩ := HD.out
      have ⟨s0, s1, s2, s3, s4, s5⟩ := (show PutX _ w.heap.size [_, _, _, _, _, _] from d1).cells
      unfold fill6 at s0 s1 s2 s3 s4 s5
      exact bodyPost_ret (v := argX x.1 A c) (by simp [results, Tryz.results253, go_sem, s0, s1, s2, s3, s4, s5, argX]) rfl (by rw [HRX.out]; exact ⟨A, c, rfl, d2, d3⟩)
end Go.Proofs.YthfjmlcjkbgboaaGreatDoor
namespace Go.Proofs.YthfjmlcjkbgboaaGreatDoor
open Go.RowKit
theorem setF_wf (f : Nat → Bool) : (setF f).Wf := by
  have h : ∀ j, word64 ((wdF f j : Nat) : Int) := fun j => by have := wdF_lt f j; unfold word64; omega
  exact ⟨h 0, h 1, h 2, h 3⟩
end Go.Proofs.YthfjmlcjkbgboaaGreatDoor
