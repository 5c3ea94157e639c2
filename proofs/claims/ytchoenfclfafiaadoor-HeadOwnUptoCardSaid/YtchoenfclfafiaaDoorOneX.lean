/- The walks of one.one and one.One. -/
import Derived.Test.YtchoenfclfafiaaDoorOneW
namespace Go.Proofs.YtchoenfclfafiaaDoor
open Go.RowKit

def zReq : Value := .agg #[.string (ByteArray.mk #[]), .string (ByteArray.mk #[]), .slice none 0 0, .string (ByteArray.mk #[])]
def reqV (q : ReqV) (A : Option Addr) (c : Nat) : Value := .agg #[.string q.h.m, .string q.h.t, .slice A q.h.fs.length c, .string (bs q.b)]
def OnePost (l : List UInt8) (H B : Int) (w : World) (e : Ending) (w' : World) : Prop :=
  (∃ x, oneR l H B = .error x ∧ e = .returned (.tuple #[zReq, .int .i64 0, .int .i64 x]) ∧ Below w.heap.size w w') ∨
  ∃ q n A c, oneR l H B = .ok (q, n) ∧ e = .returned (.tuple #[reqV q A c, .int .i64 (n : Int), .int .i64 0]) ∧ OwnV w' w.heap.size (.slice A q.h.fs.length c) q.h.fs ∧ Below w.heap.size w w'
theorem four_set {w : World} {g : Nat} {x' y' z' u' : Value} (x y z u : Value) (h0 : w.cell? ⟨g, 0, none⟩ = some x') (h1 : w.cell? ⟨g, 1, none⟩ = some y') (h2 : w.cell? ⟨g, 2, none⟩ = some z') (h3 : w.cell? ⟨g, 3, none⟩ = some u') :
    ((((w.setCell ⟨g, 0, none⟩ x).setCell ⟨g, 1, none⟩ y).setCell ⟨g, 2, none⟩ z).setCell ⟨g, 3, none⟩ u).cell? ⟨g, 0, none⟩ = some x ∧ ((((w.setCell ⟨g, 0, none⟩ x).setCell ⟨g, 1, none⟩ y).setCell ⟨g, 2, none⟩ z).setCell ⟨g, 3, none⟩ u).cell? ⟨g, 1, none⟩ = some y ∧
    ((((w.setCell ⟨g, 0, none⟩ x).setCell ⟨g, 1, none⟩ y).setCell ⟨g, 2, none⟩ z).setCell ⟨g, 3, none⟩ u).cell? ⟨g, 2, none⟩ = some z ∧ ((((w.setCell ⟨g, 0, none⟩ x).setCell ⟨g, 1, none⟩ y).setCell ⟨g, 2, none⟩ z).setCell ⟨g, 3, none⟩ u).cell? ⟨g, 3, none⟩ = some u := by
  have n0 : (⟨g, 3, none⟩ : Addr) ≠ ⟨g, 0, none⟩ := by intro e; cases e
  have n1 : (⟨g, 3, none⟩ : Addr) ≠ ⟨g, 1, none⟩ := by intro e; cases e
  have n2 : (⟨g, 3, none⟩ : Addr) ≠ ⟨g, 2, none⟩ := by intro e; cases e
  have ⟨t0, t1, t2⟩ := three_set x y z h0 h1 h2
  refine ⟨?_, ?_, ?_, ?_⟩
  · rw [World.cell?_setCell_other _ _ _ _ n0]; exact t0
  · rw [World.cell?_setCell_other _ _ _ _ n1]; exact t1
  · rw [World.cell?_setCell_other _ _ _ _ n2]; exact t2
  · exact World.cell?_setCell_same _ _ _ ((World.cell?_setCell_other _ _ _ _ (Ne.symm n2)).trans ((World.cell?_setCell_other _ _ _ _ (Ne.symm n1)).trans ((World.cell?_setCell_other _ _ _ _ (Ne.symm n0)).trans h3)))
/-- The result's block. -/
def ReqAt (R : Nat) (w : World) : Prop := w.heap[R]? = some (.cells #[.string (ByteArray.mk #[]), .string (ByteArray.mk #[]), .slice none 0 0, .string (ByteArray.mk #[])] 31 (0, 0))
theorem ReqAt.cells {R : Nat} {w : World} (h : ReqAt R w) : w.cell? ⟨R, 0, none⟩ = some (.string (ByteArray.mk #[])) ∧ w.cell? ⟨R, 1, none⟩ = some (.string (ByteArray.mk #[])) ∧ w.cell? ⟨R, 2, none⟩ = some (.slice none 0 0) ∧ w.cell? ⟨R, 3, none⟩ = some (.string (ByteArray.mk #[])) :=
  ⟨cell_of_row w _ 0 _ _ _ h, cell_of_row w _ 1 _ _ _ h, cell_of_row w _ 2 _ _ _ h, cell_of_row w _ 3 _ _ _ h⟩
theorem ReqAt.free {R : Nat} {w : World} (h : ReqAt R w) (j : Nat) : w.frozen? ⟨R, j, none⟩ = false := by
  unfold ReqAt at h
  simp [World.frozen?, h]
theorem ReqAt.below {R B : Nat} {w w' : World} (h : ReqAt R w) (hb : Below B w w') (hR : R < B) : ReqAt R w' := (hb.block R hR).trans h
def putReq (w : World) (R : Nat) (x y z u : Value) : World := (((w.setCell ⟨R, 0, none⟩ x).setCell ⟨R, 1, none⟩ y).setCell ⟨R, 2, none⟩ z).setCell ⟨R, 3, none⟩ u
theorem putReq_below {w0 w : World} {B R : Nat} (hb : Below B w0 w) (hR : B ≤ R) (x y z u : Value) : Below B w0 (putReq w R x y z u) :=
  (((hb.setCell (p := ⟨R, 0, none⟩) hR _).setCell (p := ⟨R, 1, none⟩) hR _).setCell (p := ⟨R, 2, none⟩) hR _).setCell (p := ⟨R, 3, none⟩) hR _
theorem putReq_heap {w : World} {R g : Nat} (hne : g ≠ R) (x y z u : Value) : (putReq w R x y z u).heap[g]? = w.heap[g]? := by
  unfold putReq
  rw [Below.heap_setCell _ _ _ _ hne, Below.heap_setCell _ _ _ _ hne, Below.heap_setCell _ _ _ _ hne, Below.heap_setCell _ _ _ _ hne]

set_option maxRecDepth 100000 in
set_option maxHeartbeats 3200000 in
theorem one_any (s : ByteArray) (H B A0 : Int) (w : World) (hH : 0 ≤ H ∧ H ≤ 4096) (hB : 0 ≤ B ∧ B ≤ 4096) (hlib : LibOk w) (hs : s.size ≤ 4611686018427387904) :
    Calls Tryd.prog 40 #[.string s, .agg #[.int .i64 H, .int .i64 B, .int .i64 A0]] w (OnePost s.data.toList H B w) := by
  have hsl : s.data.toList.length = s.size := by simp
  obtain ⟨W0, hW0⟩ : ∃ W0, (w.alloc (.cells #[.int .i64 H, .int .i64 B, .int .i64 A0] 47)).alloc (.cells #[.string (ByteArray.mk #[]), .string (ByteArray.mk #[]), .slice none 0 0, .string (ByteArray.mk #[])] 31) = W0 := ⟨_, rfl⟩
  have hal : Below (w.heap.size + 1) (w.alloc (.cells #[.int .i64 H, .int .i64 B, .int .i64 A0] 47)) W0 := by rw [← hW0]; exact (Below.refl _ _).alloc (by simp) _
  have hr0 : ReqAt (w.heap.size + 1) W0 := by
    rw [← hW0]
    have := heap_alloc_new (w.alloc (.cells #[.int .i64 H, .int .i64 B, .int .i64 A0] 47)) (.cells #[.string (ByteArray.mk #[]), .string (ByteArray.mk #[]), .slice none 0 0, .string (ByteArray.mk #[])] 31)
    rw [World.size_alloc] at this
    exact this
  have hz0 : w.heap.size + 2 ≤ W0.heap.size := by rw [← hW0]; simp
  have hbx : ∀ W, Below (w.heap.size + 2) W0 W → (W.cell? ⟨w.heap.size, 0, none⟩ = some (.int .i64 H) ∧ W.cell? ⟨w.heap.size, 1, none⟩ = some (.int .i64 B)) ∧ ReqAt (w.heap.size + 1) W ∧ Below w.heap.size w W := fun W hb => by
    obtain ⟨h1, h2⟩ := box_facts (hal.trans (hb.mono (Nat.le_succ _)))
    exact ⟨⟨h1 0, h1 1⟩, hr0.below hb (Nat.lt_succ_self _), h2⟩
  have HBX := Lib.hid hbx
  have HLB : Hid (∀ W, Below w.heap.size w W → LibOk W) := fun W hb => hlib.below hb
  have HERR : Hid (∀ x W, oneR s.data.toList H B = .error x → Below (w.heap.size + 2) W0 W → OnePost s.data.toList H B w (.returned (.tuple #[.agg #[.string (ByteArray.mk #[]), .string (ByteArray.mk #[]), .slice none 0 0, .string (ByteArray.mk #[])], .int .i64 0, .int .i64 x]))
      ((((W.setCell ⟨w.heap.size + 1, 0, none⟩ (.string (ByteArray.mk #[]))).setCell ⟨w.heap.size + 1, 1, none⟩ (.string (ByteArray.mk #[]))).setCell ⟨w.heap.size + 1, 2, none⟩ (.slice none 0 0)).setCell ⟨w.heap.size + 1, 3, none⟩ (.string (ByteArray.mk #[])))) := fun x W h hb =>
    .inl ⟨x, h, rfl, putReq_below (hbx W hb).2.2 (Nat.le_succ _) _ _ _ _⟩
  have hb00 : Below (w.heap.size + 2) W0 W0 := Below.refl _ _
  have ⟨⟨b0, b1⟩, hR0, hw0⟩ := hbx W0 hb00
  obtain ⟨m0, hm0⟩ := HLB.out W0 hw0
  obtain ⟨p, hp⟩ : ∃ p : Nat, min (s.size : Int) H = (p : Int) := ⟨(min (s.size : Int) H).toNat, by omega⟩
  have hcut : (s.extract 0 p).data.toList = cutAt s.data.toList H := by
    unfold cutAt
    rw [Lib.extract_data, hsl, hp]
    simp
  have hps : (s.extract 0 p).size ≤ 4096 := by rw [ByteArray.size_extract]; omega
  have hix := Tryd.strings_Index (s.extract 0 p) (ByteArray.mk #[13, 10, 13, 10]) m0 W0 (by omega) hm0
  rw [hcut, show (ByteArray.mk #[13, 10, 13, 10]).data.toList = endL from rfl] at hix
  have hige := Lib.index_ge (cutAt s.data.toList H) endL
  have HW0 := Lib.hid hW0
  have pi1 : (0 : Int) ≤ (p : Int) := by omega
  have pi2 : (p : Int) ≤ (s.size : Int) := by omega
  clear hW0 hal hbx hr0 hlib hm0 hw0 hcut hps
  by_cases hneg : Lib.index (cutAt s.data.toList H) endL < 0
  · have hm1 : Lib.index (cutAt s.data.toList H) endL = -1 := by omega
    rw [hm1] at hix
    have HIX := Lib.hid hix
    have r0 := hR0.cells.1
    have r1 := hR0.cells.2.1
    have r2 := hR0.cells.2.2.1
    have r3 := hR0.cells.2.2.2
    have f0 := hR0.free 0
    have f1 := hR0.free 1
    have f2 := hR0.free 2
    have f3 := hR0.free 3
    by_cases hfull : H ≤ (s.size : Int)
    · have HP := Lib.hid (HERR.out 5 W0 (by unfold oneR; rw [if_pos hneg, if_pos (by omega)]) hb00)
      have d1 : decide (H ≤ (s.size : Int)) = true := decide_eq_true hfull
      clear hix hige hneg hm1 hfull hR0 HERR hsl hH hB
      go_enter Tryd.func40, Tryd.ntmps40
      go_upto_region 1 with fail
      rw [HW0.out]
      go_wp2_with fail
      refine HIX.out.mono ?_
      rintro e w1 ⟨rfl, rfl⟩
      go_wp2_with fail
      have t := four_set (.string (ByteArray.mk #[])) (.string (ByteArray.mk #[])) (.slice none 0 0) (.string (ByteArray.mk #[])) r0 r1 r2 r3
      exact bodyPost_ret (v := .tuple #[.agg #[.string (ByteArray.mk #[]), .string (ByteArray.mk #[]), .slice none 0 0, .string (ByteArray.mk #[])], .int .i64 0, .int .i64 5]) (by simp [results, Tryd.results40, go_sem, t.1, t.2.1, t.2.2.1, t.2.2.2]) rfl HP.out
    · have HP := Lib.hid (HERR.out 7 W0 (by unfold oneR; rw [if_pos hneg, if_neg (by omega)]) hb00)
      have d1 : decide (H ≤ (s.size : Int)) = false := decide_eq_false hfull
      clear hix hige hneg hm1 hfull hR0 HERR hsl hH hB
      go_enter Tryd.func40, Tryd.ntmps40
      go_upto_region 1 with fail
      rw [HW0.out]
      go_wp2_with fail
      refine HIX.out.mono ?_
      rintro e w1 ⟨rfl, rfl⟩
      go_wp2_with fail
      have t := four_set (.string (ByteArray.mk #[])) (.string (ByteArray.mk #[])) (.slice none 0 0) (.string (ByteArray.mk #[])) r0 r1 r2 r3
      exact bodyPost_ret (v := .tuple #[.agg #[.string (ByteArray.mk #[]), .string (ByteArray.mk #[]), .slice none 0 0, .string (ByteArray.mk #[])], .int .i64 0, .int .i64 7]) (by simp [results, Tryd.results40, go_sem, t.1, t.2.1, t.2.2.1, t.2.2.2]) rfl HP.out
  · obtain ⟨i, hi⟩ : ∃ i : Nat, Lib.index (cutAt s.data.toList H) endL = (i : Int) := ⟨(Lib.index (cutAt s.data.toList H) endL).toNat, by omega⟩
    have he := (headEnd_iff hH.1).1 hi
    have HAT := Lib.hid (one_at (B := B) hH.1 he)
    have hlen := he.len
    have hfit := he.fits
    rw [hsl] at hlen
    rw [hi] at hix
    have HIX := Lib.hid hix
    have hx1 : (s.extract 0 (i + 4)).data.toList = s.data.toList.take (i + 4) := by rw [Lib.extract_data]; simp
    have hx2 : (s.extract (i + 4) s.size).data.toList = s.data.toList.drop (i + 4) := Lib.extract_to_end s (i + 4)
    have hx2s : (s.extract (i + 4) s.size).size ≤ 4611686018427387904 := by rw [ByteArray.size_extract]; omega
    have k1 : (0 : Int) ≤ (i : Int) := by omega
    have k2 : ((i + 4 : Nat) : Int) = (i : Int) + 4 := by omega
    have k3 : (i : Int) + 4 ≤ (s.size : Int) := by omega
    have k4 : ((i : Int) + 4).toNat = i + 4 := by rw [← k2]; exact Int.toNat_natCast _
    have d0 : decide ((i : Int) < 0) = false := decide_eq_false (by omega)
    have i7 : IntKind.i64.wrap ((i : Int) + 4) = (i : Int) + 4 := IntWalk.i64_in _ (by omega)
    have hpp := HParse_any (s.extract 0 (i + 4)) W0 (HLB.out W0 (HBX.out W0 hb00).2.2)
    rw [hx1] at hpp
    unfold HParsePost zHead at hpp
    rw [← hx2] at HAT
    have HPP := Lib.hid hpp
    clear hix hige hneg hi hpp hx1 hx2
    go_enter Tryd.func40, Tryd.ntmps40
    go_upto_region 1 with fail
    rw [HW0.out]
    go_wp2_with fail
    refine HIX.out.mono ?_
    rintro e w1 ⟨rfl, rfl⟩
    go_wp2_with fail
    refine HPP.out.mono ?_
    rintro e w2 (⟨x, hx, rfl, hb2⟩ | ⟨h, A, c, hx, rfl, hO2, hb2⟩)
    · have hb3 := (hb00.trans (hb2.mono hz0)).alloc (o := .cells #[.string (ByteArray.mk #[]), .string (ByteArray.mk #[]), .slice none 0 0] 29) (Nat.le_trans hz0 hb2.size)
      have HP := Lib.hid (HERR.out x _ (by rw [HAT.out, hx]) hb3)
      have ⟨_, hRR, _⟩ := HBX.out _ hb3
      have q0 : (x != 0) = true := by rcases parse_err hx with h | h <;> rw [h] <;> decide
      have r0 := hRR.cells.1
      have r1 := hRR.cells.2.1
      have r2 := hRR.cells.2.2.1
      have r3 := hRR.cells.2.2.2
      have f0 := hRR.free 0
      have f1 := hRR.free 1
      have f2 := hRR.free 2
      have f3 := hRR.free 3
      clear hx hb2 hb3 hRR
      go_wp2_with fail
      have t := four_set (.string (ByteArray.mk #[])) (.string (ByteArray.mk #[])) (.slice none 0 0) (.string (ByteArray.mk #[])) r0 r1 r2 r3
      exact bodyPost_ret (v := .tuple #[.agg #[.string (ByteArray.mk #[]), .string (ByteArray.mk #[]), .slice none 0 0, .string (ByteArray.mk #[])], .int .i64 0, .int .i64 x]) (by simp [results, Tryd.results40, go_sem, t.1, t.2.1, t.2.2.1, t.2.2.2]) rfl HP.out
    · have hck := (parse_ok hx).2.1
      have ho := head_ok hck
      have hb3 := (hb00.trans (hb2.mono hz0)).alloc (o := .cells #[.string h.m, .string h.t, .slice A h.fs.length c] 29) (Nat.le_trans hz0 hb2.size)
      have hal : Below w2.heap.size w2 (w2.alloc (.cells #[.string h.m, .string h.t, .slice A h.fs.length c] 29)) := (Below.refl _ _).alloc (Nat.le_refl _) _
      have hO3 := hO2.below hal
      have hH3 : HdAt w2.heap.size h.m h.t (.slice A h.fs.length c) (w2.alloc (.cells #[.string h.m, .string h.t, .slice A h.fs.length c] 29)) := heap_alloc_new w2 _
      have hzz : w.heap.size + 2 ≤ w2.heap.size := Nat.le_trans hz0 hb2.size
      have HBD : Hid (∀ W, Below w2.heap.size w2 W → OwnV W w1.heap.size (.slice A h.fs.length c) h.fs → Calls Tryd.prog 59 #[.agg #[.string h.m, .string h.t, .slice A h.fs.length c], .string (s.extract (i + 4) s.size), .int .i64 B] W fun e w' => e = .returned (toldV (bodyR (framed h) (s.extract (i + 4) s.size).data.toList B)) ∧ Below W.heap.size W w') := fun W _ hO =>
        OBody_any h A c (s.extract (i + 4) s.size) B W hO.sl (fun f hf => by have := ho.lens f hf; unfold maxLen; omega) (by have := ho.few; omega) hx2s (by omega)
      have HAT2 : Hid (oneR s.data.toList H B = match bodyR (framed h) (s.extract (i + 4) s.size).data.toList B with
        | .inl e => .error e
        | .inr (t, k) => .ok (⟨h, t⟩, i + 4 + k)) := by unfold Hid; rw [HAT.out, hx]; dsimp only; cases bodyR (framed h) (s.extract (i + 4) s.size).data.toList B <;> rfl
      have hbl : ∀ t k, bodyR (framed h) (s.extract (i + 4) s.size).data.toList B = .inr (t, k) → k ≤ s.size := fun t k hq => by
        have := (body_len hB.1 hq).2
        simp only [Array.length_toList, ByteArray.size_data, ByteArray.size_extract] at this
        omega
      have HBL := Lib.hid hbl
      have hne : ∀ x, bodyR (framed h) (s.extract (i + 4) s.size).data.toList B = .inl x → (x != 0) = true := fun x hq => bne_iff_ne.2 (body_ne hq)
      have HNE := Lib.hid hne
      have HPOK : Hid (∀ q n W, oneR s.data.toList H B = .ok (q, n) → Below (w.heap.size + 2) w1 W → OwnV W w1.heap.size (.slice A q.h.fs.length c) q.h.fs → OnePost s.data.toList H B w (.returned (.tuple #[.agg #[.string q.h.m, .string q.h.t, .slice A q.h.fs.length c, .string (bs q.b)], .int .i64 (n : Int), .int .i64 0]))
          ((((W.setCell ⟨w.heap.size + 1, 0, none⟩ (.string q.h.m)).setCell ⟨w.heap.size + 1, 1, none⟩ (.string q.h.t)).setCell ⟨w.heap.size + 1, 2, none⟩ (.slice A q.h.fs.length c)).setCell ⟨w.heap.size + 1, 3, none⟩ (.string (bs q.b)))) := fun q n W hq hb hO => by
        refine .inr ⟨q, n, A, c, hq, rfl, ?_, putReq_below (HBX.out W hb).2.2 (Nat.le_succ _) _ _ _ _⟩
        refine (hO.keep fun g hg => ?_).low (Nat.le_of_lt (Nat.lt_of_lt_of_le (Nat.lt_succ_of_lt (Nat.lt_succ_self _)) hz0))
        exact putReq_heap (fun e => by have := (World.ownsRow.lt hO g hg).1; omega) _ _ _ _
      obtain ⟨m, t, fs⟩ := h
      dsimp only at hO2 hO3 hH3 HBD
      clear b0 b1
      go_wp2_with fail
      generalize w2.alloc (.cells #[.string m, .string t, .slice A fs.length c] 29) = W3 at *
      have ⟨h0, h1, h2⟩ := hH3.cells
      have ⟨⟨b3, b4⟩, _, _⟩ := HBX.out W3 hb3
      have HB3 := Lib.hid hb3
      have HH3 := Lib.hid hH3
      have HO3 := Lib.hid hO3
      have HAL := Lib.hid hal
      have hz3 : w2.heap.size < W3.heap.size := by
        have := hH3
        unfold HdAt at this
        rw [Array.getElem?_eq_some_iff] at this
        exact this.1
      have kk : (i : Int) + 4 ≤ (s.size : Int) := k3
      have kz : (0 : Int) ≤ (i : Int) + 4 := by omega
      clear hO2 hb2 hb3 hck ho hx hO3 hH3 hal hbl hne
      cases hq : bodyR (framed ⟨m, t, fs⟩) (s.extract (i + 4) s.size).data.toList B with
      | inl x =>
        rw [hq] at HBD HAT2
        have q0 := HNE.out x hq
        unfold toldV at HBD
        dsimp only at HBD HAT2
        clear hq HPOK HBL HNE
        go_region_held3 (fun w' => w'.cell? ⟨w2.heap.size, 0, none⟩ = some (.string m) ∧ w'.cell? ⟨w2.heap.size, 1, none⟩ = some (.string t) ∧ w'.cell? ⟨w2.heap.size, 2, none⟩ = some (.slice A fs.length c) ∧ w'.cell? ⟨w.heap.size, 1, none⟩ = some (.int .i64 B))
          (first | exact hS8 | go_keep)
          (first | (go_at_call 59; (with_reducible refine (HBD.out _ ?_ ?_).mono ?_); (first | exact HAL.out | exact HAL.out.drew); (first | exact HO3.out); rintro e w5 ⟨rfl, hb5⟩; have hb5' : Below W3.heap.size W3 w5 := (by first | exact hb5 | exact undrew hb5); have hS8 : w5.cell? ⟨w2.heap.size, 0, none⟩ = some (.string m) ∧ w5.cell? ⟨w2.heap.size, 1, none⟩ = some (.string t) ∧ w5.cell? ⟨w2.heap.size, 2, none⟩ = some (.slice A fs.length c) ∧ w5.cell? ⟨w.heap.size, 1, none⟩ = some (.int .i64 B) := ⟨cell_kept hb5' h0, cell_kept hb5' h1, cell_kept hb5' h2, cell_kept hb5' b4⟩))
        have hb6 := HB3.out.trans (hb5'.mono (Nat.le_trans (Nat.le_trans hzz (Nat.le_of_lt hz3)) (Nat.le_refl _)))
        have HP := Lib.hid (HERR.out x _ HAT2.out hb6)
        have ⟨_, hRR, _⟩ := HBX.out _ hb6
        have r0 := hRR.cells.1
        have r1 := hRR.cells.2.1
        have r2 := hRR.cells.2.2.1
        have r3 := hRR.cells.2.2.2
        have f0 := hRR.free 0
        have f1 := hRR.free 1
        have f2 := hRR.free 2
        have f3 := hRR.free 3
        clear h0 h1 h2 b3 b4 hS8 hb5 hb5' hb6 hRR
        go_wp2_with fail
        have t := four_set (.string (ByteArray.mk #[])) (.string (ByteArray.mk #[])) (.slice none 0 0) (.string (ByteArray.mk #[])) r0 r1 r2 r3
        exact bodyPost_ret (v := .tuple #[.agg #[.string (ByteArray.mk #[]), .string (ByteArray.mk #[]), .slice none 0 0, .string (ByteArray.mk #[])], .int .i64 0, .int .i64 x]) (by simp [results, Tryd.results40, go_sem, t.1, t.2.1, t.2.2.1, t.2.2.2]) rfl HP.out
      | inr p =>
        obtain ⟨tt, k⟩ := p
        rw [hq] at HBD HAT2
        have hkz := HBL.out tt k hq
        unfold toldV at HBD
        dsimp only at HBD HAT2
        have ia : IntKind.i64.wrap ((i : Int) + 4 + (k : Int)) = (i : Int) + 4 + (k : Int) := IntWalk.i64_in _ (by omega)
        have ib : ((i + 4 + k : Nat) : Int) = (i : Int) + 4 + (k : Int) := by omega
        clear hq HBL HNE HERR
        go_region_held3 (fun w' => w'.cell? ⟨w2.heap.size, 0, none⟩ = some (.string m) ∧ w'.cell? ⟨w2.heap.size, 1, none⟩ = some (.string t) ∧ w'.cell? ⟨w2.heap.size, 2, none⟩ = some (.slice A fs.length c) ∧ w'.cell? ⟨w.heap.size, 1, none⟩ = some (.int .i64 B))
          (first | exact hS8 | go_keep)
          (first | (go_at_call 59; (with_reducible refine (HBD.out _ ?_ ?_).mono ?_); (first | exact HAL.out | exact HAL.out.drew); (first | exact HO3.out); rintro e w5 ⟨rfl, hb5⟩; have hb5' : Below W3.heap.size W3 w5 := (by first | exact hb5 | exact undrew hb5); have hS8 : w5.cell? ⟨w2.heap.size, 0, none⟩ = some (.string m) ∧ w5.cell? ⟨w2.heap.size, 1, none⟩ = some (.string t) ∧ w5.cell? ⟨w2.heap.size, 2, none⟩ = some (.slice A fs.length c) ∧ w5.cell? ⟨w.heap.size, 1, none⟩ = some (.int .i64 B) := ⟨cell_kept hb5' h0, cell_kept hb5' h1, cell_kept hb5' h2, cell_kept hb5' b4⟩))
        have hb6 := HB3.out.trans (hb5'.mono (Nat.le_trans (Nat.le_trans hzz (Nat.le_of_lt hz3)) (Nat.le_refl _)))
        have HO5 : OwnV w5 w1.heap.size (.slice A fs.length c) fs := HO3.out.below hb5'
        have HP := Lib.hid (HPOK.out _ _ w5 HAT2.out hb6 HO5)
        dsimp only at HP
        rw [ib] at HP
        have ⟨_, hRR, _⟩ := HBX.out _ hb6
        have r0 := hRR.cells.1
        have r1 := hRR.cells.2.1
        have r2 := hRR.cells.2.2.1
        have r3 := hRR.cells.2.2.2
        have f0 := hRR.free 0
        have f1 := hRR.free 1
        have f2 := hRR.free 2
        have f3 := hRR.free 3
        obtain ⟨g0, g1, g2, _⟩ := hS8
        clear h0 h1 h2 b3 b4 hb5 hb5' hb6 hRR HO5
        go_wp2_with fail
        have t' := four_set (.string m) (.string t) (.slice A fs.length c) (.string (bs tt)) r0 r1 r2 r3
        exact bodyPost_ret (v := .tuple #[.agg #[.string m, .string t, .slice A fs.length c, .string (bs tt)], .int .i64 ((i : Int) + 4 + (k : Int)), .int .i64 0]) (by simp [results, Tryd.results40, go_sem, t'.1, t'.2.1, t'.2.2.1, t'.2.2.2]) rfl HP.out
end Go.Proofs.YtchoenfclfafiaaDoor
