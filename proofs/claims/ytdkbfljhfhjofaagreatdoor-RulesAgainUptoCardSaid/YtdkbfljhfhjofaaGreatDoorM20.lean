/- Part 20 of the proof: lemmas and walks that the last texts use. -/
import Derived.Test.YtdkbfljhfhjofaaGreatDoorM19
import Derived.Deep.Cut
import Derived.Deep.RegionWith
namespace Go.Proofs.YtdkbfljhfhjofaaGreatDoor
section
open Go.RowKit
/-- A function of the reader that hands back a tree: what it reads, at so many open brackets. -/
def ReadsT (f : Nat) (s : ByteArray) (op : Nat) (P : RS → TR) : Prop :=
  ∀ (g : Nat) (q : RS) (W : World), RdAt g s q W → q.pos ≤ s.size → q.op = op → Calls Tryz.prog f #[.pointer (some ⟨g, 0, none⟩)] W (TxPost g s (P q) W)
def leftM (g n : Nat) (w : World) : Nat := match w.cell? ⟨g, 3, none⟩, w.cell? ⟨g, 1, none⟩ with
  | some (.int _ e), some (.int _ p) => if e = 0 then n - p.toNat + 1 else 0
  | _, _ => 0
theorem leftM_eq {g : Nat} {s : ByteArray} {r : RS} {w : World} (h : RdAt g s r w) : leftM g s.size w = leftC s.data.toList r := by
  obtain ⟨_, c1, _, c3⟩ := h.cells
  have hsl : s.data.toList.length = s.size := by simp
  unfold leftM leftC
  rw [c3, c1, hsl]
  rfl
/-- The variable begins. -/
theorem OutSt.start {g : Nat} {s : ByteArray} {w w1 w2 : World} {x : TR} {A : Option Addr} {c : Nat} (_ : g < w.heap.size) (hz : ZeroX w2 w.heap.size) (hf : w.grownBy w2 (some g)) (hsz : w.heap.size < w1.heap.size)
    (hn : NewX w1 w2 x.1 A c) (hr : RdAt g s x.2 w2) (h12 : w1.heap.size ≤ w2.heap.size) :
    OutSt g s w w2.heap.size x A c (w2.alloc (.cells (cellsX x.1.kind x.1.set A x.1.kids.length c).toArray 153)) := by
  have hal : Below w2.heap.size w2 (w2.alloc (.cells (cellsX x.1.kind x.1.set A x.1.kids.length c).toArray 153)) := (Below.refl _ _).alloc (Nat.le_refl _) _
  refine ⟨hr.below hal, PutX.new w2 _, LX.keep (fun b hb => ⟨Nat.lt_of_lt_of_le hsz hb.1, ?_, ?_⟩) (fun b o hb => hal.cell (p := ⟨b, o, none⟩) hb.2) _ _ hn, (hal.block _ hz.lt).trans hz, only_trans hf (only_low (grown_refl w2 _) hal), by omega⟩
  · have := hb.2; omega
  · have := hb.2; have := hal.size; omega
def RoRel (g : Nat) (s : ByteArray) (w : World) (k op : Nat) (step : TR → Option TR) (R : TR) (wr : World) : Prop :=
  ∃ (x : TR) (A : Option Addr) (c : Nat), fixI step (leftT s.data.toList) x = R ∧ x.2.pos ≤ s.size ∧ x.2.op = op ∧ OutSt g s w k x A c wr
set_option maxRecDepth 100000 in
set_option maxHeartbeats 6400000 in
theorem row_any (s : ByteArray) (op : Nat) (P : RS → TR) (_ : s.size ≤ 4096) (hP : PieceF s.data.toList P) (hC : ReadsT 201 s op P) :
    ReadsT 167 s op (rowR s.data.toList P) := by
  intro g r w h hp hop
  have hsl : s.data.toList.length = s.size := by simp
  have hg := h.lt
  have HCC := Lib.hid hC
  have HPP := Lib.hid hP
  obtain ⟨W0, hW0⟩ : ∃ W0, w.alloc (.cells #[.int .i64 0, .int .u64 0, .int .u64 0, .int .u64 0, .int .u64 0, .slice none 0 0] 153) = W0 := ⟨_, rfl⟩
  have hb0 : Below w.heap.size w W0 := by rw [← hW0]; exact (Below.refl _ _).alloc (Nat.le_refl _) _
  have hz0 : ZeroX W0 w.heap.size := by rw [← hW0]; exact ZeroX.new w
  have hsz0 : w.heap.size < W0.heap.size := hz0.lt
  have hr0 := h.below hb0
  have HE0 := Lib.hid (rends_any g s r W0 hr0 hp)
  have HF0 : Hid (w.grownBy W0 (some g)) := only_low (grown_refl w _) hb0
  have HZ0 := Lib.hid hz0
  have HR : Hid (rowR s.data.toList P r = if endsR s.data.toList r = true then (emT, r) else fixI (rowS s.data.toList P) (leftT s.data.toList) (P r)) := rfl
  have HPR := Lib.hid (hP r (by omega)).1.step
  generalize hR : rowR s.data.toList P r = R at *
  have HW0 := Lib.hid hW0
  clear h hC hP hb0 hW0 hr0 hz0 hR
  go_enter Tryz.func167, Tryz.ntmps167
  go_upto_region 1 with fail
  rw [HW0.out]
  cases hends : endsR s.data.toList r with
  | true =>
    rw [hends] at HE0 HR
    have HRR : Hid (R = (emT, r)) := by unfold Hid; rw [HR.out]; rfl
    go_wp2_with (go_at_call 200; apply Hid.out)
    unfold Hid
    refine HE0.out.mono ?_
    rintro e w1 ⟨rfl, h1⟩
    have hz1 := HZ0.out.grown h1.2 (by omega)
    have HX := Lib.hid (hz1.fill (.int .i64 2) (.int .u64 0) (.int .u64 0) (.int .u64 0) (.int .u64 0) (.slice none 0 0))
    have hb6 : Below w.heap.size w1 (fill6 w1 w.heap.size (.int .i64 2) (.int .u64 0) (.int .u64 0) (.int .u64 0) (.int .u64 0) (.slice none 0 0)) := fill6_below (Below.refl _ _) (Nat.le_refl _) _ _ _ _ _ _
    have HEND : Hid (RdEnd g s r w (fill6 w1 w.heap.size (.int .i64 2) (.int .u64 0) (.int .u64 0) (.int .u64 0) (.int .u64 0) (.slice none 0 0))) := ⟨(hb6.block g hg).trans h1.1, grown_set (only_trans HF0.out h1.2) (Nat.le_refl _) hb6⟩
    have ⟨z0, z1, z2, z3, z4, z5⟩ := hz1.cells
    have y0 := hz1.free 0
    have y1 := hz1.free 1
    have y2 := hz1.free 2
    have y3 := hz1.free 3
    have y4 := hz1.free 4
    have y5 := hz1.free 5
    clear h1 hb6 hz1
    go_wp2_with fail
    have ⟨s0, s1, s2, s3, s4, s5⟩ := HX.out.cells
    unfold fill6 at s0 s1 s2 s3 s4 s5
    exact bodyPost_ret (v := argX emT none 0) (by simp [results, Tryz.results167, go_sem, s0, s1, s2, s3, s4, s5, argX, emT, Tree.kind, Tree.set, Tree.kids, Set4.zero]) rfl (by rw [HRR.out]; exact ⟨none, 0, rfl, LX.leaf _ _ _ _ _ _ zero_wfR, HEND.out⟩)
  | false =>
    rw [hends] at HE0 HR
    have HRR : Hid (fixI (rowS s.data.toList P) (leftT s.data.toList) (P r) = R) := by unfold Hid; rw [HR.out]; rfl
    go_wp2_with (go_at_call 200; apply Hid.out)
    unfold Hid
    refine HE0.out.mono ?_
    rintro e w1 ⟨rfl, h1⟩
    have HC1 := Lib.hid (HCC.out g r w1 h1.1 hp hop)
    have hz1 := HZ0.out.grown h1.2 (by omega)
    have hf1 := only_trans HF0.out h1.2
    have hs1 : w.heap.size < w1.heap.size := hz1.lt
    have HS1 := Lib.hid (And.intro hz1 hf1)
    clear h1 hz1 hf1
    go_wp2_with (go_at_call 201; apply Hid.out)
    unfold Hid
    refine HC1.out.mono ?_
    rintro e w2 ⟨A, c, rfl, hn2, h2⟩
    have HO : Hid (OutSt g s w w2.heap.size (P r) A c (w2.alloc (.cells #[.int .i64 (P r).1.kind, .int .u64 (P r).1.set.a, .int .u64 (P r).1.set.b, .int .u64 (P r).1.set.c, .int .u64 (P r).1.set.d, .slice A (P r).1.kids.length c] 153))) :=
      OutSt.start hg (HS1.out.1.grown h2.2 (by omega)) (only_trans HS1.out.2 h2.2) hs1 hn2 h2.1 h2.2.size
    have hxp : (P r).2.pos ≤ s.size := by have := HPR.out.inn; omega
    have hxo : (P r).2.op = op := HPR.out.op.trans hop
    clear hn2 h2 HPR HC1 HS1 HR
    generalize P r = x at *
    unfold argX
    go_upto_region 4 with fail
    generalize w2.alloc (.cells #[.int .i64 x.1.kind, .int .u64 x.1.set.a, .int .u64 x.1.set.b, .int .u64 x.1.set.c, .int .u64 x.1.set.d, .slice A x.1.kids.length c] 153) = W3 at *
    generalize w2.heap.size = k at *
    have HS : Hid (RoRel g s w k op (rowS s.data.toList P) R W3) := ⟨x, A, c, HRR.out, hxp, hxo, HO.out⟩
    clear HO hxp hxo HRR hends
    go_loopw [9] (fun _ wr => RoRel g s w k op (rowS s.data.toList P) R wr) (fun _ wr => leftM g s.size wr)
    case atStart => exact HS.out
    case round =>
      obtain ⟨x, A, c, hx, hxp, hxo, hO⟩ := hrel
      have HM := Lib.hid (leftM_eq hO.rd)
      have HE := Lib.hid (rends_any g s x.2 wr hO.rd hxp)
      have HO := Lib.hid hO
      have hin : InR s.data.toList x := by unfold InR; omega
      cases hends : endsR s.data.toList x.2 with
      | true =>
        rw [hends] at HE
        have HRX : Hid (R = x) := by
          unfold Hid
          rw [← hx, fixI_none (rowS_falls HPP.out) hin (by unfold rowS; rw [hends]; rfl)]
        clear hx hO HM hin hends
        go_wp2_with (go_at_call 200; apply Hid.out)
        unfold Hid
        refine HE.out.mono ?_
        rintro e w4 ⟨rfl, h4⟩
        have h5 := HO.out.call hg h4
        have HD := Lib.hid (OutSt.done hg h5)
        have ⟨o0, o1, o2, o3, o4, o5⟩ := (show PutX w4 k [_, _, _, _, _, _] from h5.out).cells
        have ⟨z0, z1, z2, z3, z4, z5⟩ := h5.zero.cells
        have y0 := h5.zero.free 0
        have y1 := h5.zero.free 1
        have y2 := h5.zero.free 2
        have y3 := h5.zero.free 3
        have y4 := h5.zero.free 4
        have y5 := h5.zero.free 5
        clear h4 h5
        go_wp2_with fail
        obtain ⟨d1, d2, d3⟩ := HD.out
        have ⟨s0, s1, s2, s3, s4, s5⟩ := (show PutX _ w.heap.size [_, _, _, _, _, _] from d1).cells
        unfold fill6 at s0 s1 s2 s3 s4 s5
        exact bodyPost_ret (v := argX x.1 A c) (by simp [results, Tryz.results167, go_sem, s0, s1, s2, s3, s4, s5, argX]) rfl (by rw [HRX.out]; exact ⟨A, c, rfl, d2, d3⟩)
      | false =>
        rw [hends] at HE
        have HST : Hid (rowS s.data.toList P x = some (jnT x.1 (P x.2).1, (P x.2).2)) := by unfold Hid rowS; rw [hends]; rfl
        have HNX : Hid (fixI (rowS s.data.toList P) (leftT s.data.toList) (jnT x.1 (P x.2).1, (P x.2).2) = R) := by unfold Hid; rw [← hx]; exact (fixI_some (rowS_falls HPP.out) hin HST.out).symm
        have HLS : Hid (leftC s.data.toList (P x.2).2 < leftC s.data.toList x.2) := (rowS_falls HPP.out).less x (jnT x.1 (P x.2).1, (P x.2).2) hin HST.out
        have HPS := Lib.hid (HPP.out x.2 hin).1.step
        clear hx hO hin hends
        go_wp2_with (go_at_call 200; apply Hid.out)
        unfold Hid
        refine HE.out.mono ?_
        rintro e w4 ⟨rfl, h4⟩
        have h5 := HO.out.call hg h4
        have HPC : Hid (∀ W, Below w4.heap.size w4 W → Calls Tryz.prog 201 #[.pointer (some ⟨g, 0, none⟩)] W (TxPost g s (P x.2) W)) := fun W hW => HCC.out g x.2 W (h5.rd.below hW) hxp hxo
        have H5 := Lib.hid h5
        have ⟨o0, o1, o2, o3, o4, o5⟩ := (show PutX w4 k [_, _, _, _, _, _] from h5.out).cells
        have f0 := h5.out.free 0
        have f1 := h5.out.free 1
        have f2 := h5.out.free 2
        have f3 := h5.out.free 3
        have f4 := h5.out.free 4
        have f5 := h5.out.free 5
        clear h4 h5
        have hk5 : k < w4.heap.size := H5.out.out.lt
        have hwk : w.heap.size < k := H5.out.far
        obtain ⟨y, hy⟩ : ∃ y, P x.2 = y := ⟨_, rfl⟩
        rw [hy] at HPC HST HNX HLS HPS
        have HTW : Hid (∀ (A4 : Option Addr) (c4 : Nat) (W w6 : World), Below w4.heap.size w4 W → NewX W w6 y.1 A4 c4 → RdEnd g s y.2 W w6 →
            OutSt g s w k (x.1, y.2) A c w6 ∧ Calls Tryz.prog 169 #[.int .i64 4, .agg #[.int .i64 x.1.kind, .int .u64 x.1.set.a, .int .u64 x.1.set.b, .int .u64 x.1.set.c, .int .u64 x.1.set.d, .slice A x.1.kids.length c], .agg #[.int .i64 y.1.kind, .int .u64 y.1.set.a, .int .u64 y.1.set.b, .int .u64 y.1.set.c, .int .u64 y.1.set.d, .slice A4 y.1.kids.length c4]] w6
              (fun e w7 => ∃ A7 c7, e = .returned (argX (jnT x.1 y.1) A7 c7) ∧ OutSt g s w k (x.1, y.2) A c w7 ∧ LX w7 (fun b => w.heap.size < b ∧ b ≠ k ∧ b < w7.heap.size) (jnT x.1 y.1) (cellsX 4 .zero A7 2 c7))) := fun A4 c4 W w6 hW hn h6 => by
          have hO6 := (H5.out.low hg hW).call hg h6
          refine ⟨hO6, (twoX_any 4 x.1 y.1 A A4 c c4 (fun b => w.heap.size < b ∧ b ≠ k ∧ b < w6.heap.size) w6 (fun b hb => hb.2.2) hO6.tree (LX.keep (fun b hb => ⟨by have := hb.1; have := hW.size; omega, by have := hb.1; have := hW.size; omega, hb.2⟩) (fun _ _ _ => rfl) _ _ hn)).mono ?_⟩
          rintro e w7 ⟨A7, c7, rfl, hl7, hb7⟩
          refine ⟨A7, c7, rfl, hO6.low hg hb7, LX.keep (fun b hb => ?_) (fun _ _ _ => rfl) _ _ hl7⟩
          have h1 := hO6.out.lt
          have h2 := hb7.size
          rcases hb with hb | hb
          · exact ⟨hb.1, hb.2.1, by omega⟩
          · have := hb.1; have := hb.2; exact ⟨by omega, by omega, hb.2⟩
        have HFIN : Hid (∀ A7 c7 w7, OutSt g s w k (x.1, y.2) A c w7 → LX w7 (fun b => w.heap.size < b ∧ b ≠ k ∧ b < w7.heap.size) (jnT x.1 y.1) (cellsX 4 .zero A7 2 c7) →
            RoRel g s w k op (rowS s.data.toList P) R (fill6 w7 k (.int .i64 (jnT x.1 y.1).kind) (.int .u64 (jnT x.1 y.1).set.a) (.int .u64 (jnT x.1 y.1).set.b) (.int .u64 (jnT x.1 y.1).set.c) (.int .u64 (jnT x.1 y.1).set.d) (.slice A7 (jnT x.1 y.1).kids.length c7)) ∧
            leftM g s.size (fill6 w7 k (.int .i64 (jnT x.1 y.1).kind) (.int .u64 (jnT x.1 y.1).set.a) (.int .u64 (jnT x.1 y.1).set.b) (.int .u64 (jnT x.1 y.1).set.c) (.int .u64 (jnT x.1 y.1).set.d) (.slice A7 (jnT x.1 y.1).kids.length c7)) < leftM g s.size wr) := fun A7 c7 w7 h7 hl7 => by
          have hp := h7.put hg (jnT x.1 y.1) A7 c7 hl7
          refine ⟨⟨_, A7, c7, HNX.out, ?_, ?_, hp⟩, ?_⟩
          · have := HPS.out.inn; show y.2.pos ≤ _; omega
          · exact HPS.out.op.trans hxo
          · rw [HM.out]; rw [leftM_eq hp.rd]; exact HLS.out
        clear hy HM HPS HLS HNX HST
        go_upto_region 5 with fail
        go_region_with (first
          | (go_at_call 201; (with_reducible refine (HPC.out _ ?_).mono ?_); (first | exact Below.refl _ _ | exact (Below.refl _ _).drew); rintro e w6 ⟨A4, c4, rfl, hn6, h6⟩; obtain ⟨hO6, hT6⟩ := HTW.out A4 c4 _ w6 (by first | exact Below.refl _ _ | exact (Below.refl _ _).drew) hn6 h6; have HT6 := Lib.hid hT6; have ⟨o0, o1, o2, o3, o4, o5⟩ := (show PutX w6 k [_, _, _, _, _, _] from hO6.out).cells; clear hn6 h6 hT6 hO6; unfold argX)
          | (go_at_call 169; (refine HT6.out.mono ?_); rintro e w7 ⟨A7, c7, rfl, hO7, hl7⟩; have f0 := hO7.out.free 0; have f1 := hO7.out.free 1; have f2 := hO7.out.free 2; have f3 := hO7.out.free 3; have f4 := hO7.out.free 4; have f5 := hO7.out.free 5; have ⟨o0, o1, o2, o3, o4, o5⟩ := (show PutX w7 k [_, _, _, _, _, _] from hO7.out).cells; have HX7 := Lib.hid (HFIN.out A7 c7 w7 hO7 hl7); clear hO7 hl7; unfold argX))
        all_goals go_roundw
        all_goals first
          | exact HX7.out.2
          | ((repeat apply Exists.intro); exact ⟨HX7.out.1, rfl⟩)
          | fail "row"
end
section
open Go.RowKit
set_option maxRecDepth 100000 in
set_option maxHeartbeats 6400000 in
theorem alt_any (s : ByteArray) (op : Nat) (P : RS → TR) (hs : s.size ≤ 4096) (hP : GoodF s.data.toList P) (hC : ReadsT 167 s op P) :
    ReadsT 125 s op (altR s.data.toList P) := by
  intro g r w h hp hop
  have hsl : s.data.toList.length = s.size := by simp
  have hg := h.lt
  have HCC := Lib.hid hC
  have HPP := Lib.hid hP
  obtain ⟨W0, hW0⟩ : ∃ W0, w.alloc (.cells #[.int .i64 0, .int .u64 0, .int .u64 0, .int .u64 0, .int .u64 0, .slice none 0 0] 153) = W0 := ⟨_, rfl⟩
  have hb0 : Below w.heap.size w W0 := by rw [← hW0]; exact (Below.refl _ _).alloc (Nat.le_refl _) _
  have hz0 : ZeroX W0 w.heap.size := by rw [← hW0]; exact ZeroX.new w
  have hs1 : w.heap.size < W0.heap.size := hz0.lt
  have HC1 := Lib.hid (hC g r W0 (h.below hb0) hp hop)
  have HS1 : Hid (ZeroX W0 w.heap.size ∧ w.grownBy W0 (some g)) := ⟨hz0, only_low (grown_refl w _) hb0⟩
  have HRR : Hid (fixI (altS s.data.toList P) (leftT s.data.toList) (P r) = altR s.data.toList P r) := rfl
  have HPR := Lib.hid (hP r (by omega)).step
  generalize hR : altR s.data.toList P r = R at *
  have HW0 := Lib.hid hW0
  clear h hC hP hb0 hW0 hz0 hR
  go_enter Tryz.func125, Tryz.ntmps125
  go_upto_region 1 with fail
  rw [HW0.out]
  go_wp2_with (go_at_call 167; apply Hid.out)
  unfold Hid
  refine HC1.out.mono ?_
  rintro e w2 ⟨A, c, rfl, hn2, h2⟩
  have HO : Hid (OutSt g s w w2.heap.size (P r) A c (w2.alloc (.cells #[.int .i64 (P r).1.kind, .int .u64 (P r).1.set.a, .int .u64 (P r).1.set.b, .int .u64 (P r).1.set.c, .int .u64 (P r).1.set.d, .slice A (P r).1.kids.length c] 153))) :=
    OutSt.start hg (HS1.out.1.grown h2.2 (by omega)) (only_trans HS1.out.2 h2.2) hs1 hn2 h2.1 h2.2.size
  have hxp : (P r).2.pos ≤ s.size := by have := HPR.out.inn; omega
  have hxo : (P r).2.op = op := HPR.out.op.trans hop
  clear hn2 h2 HPR HC1 HS1
  generalize P r = x at *
  unfold argX
  go_upto_region 2 with fail
  generalize w2.alloc (.cells #[.int .i64 x.1.kind, .int .u64 x.1.set.a, .int .u64 x.1.set.b, .int .u64 x.1.set.c, .int .u64 x.1.set.d, .slice A x.1.kids.length c] 153) = W3 at *
  generalize w2.heap.size = k at *
  have HS : Hid (RoRel g s w k op (altS s.data.toList P) R W3) := ⟨x, A, c, HRR.out, hxp, hxo, HO.out⟩
  clear HO hxp hxo HRR
  go_loopw [6] (fun _ wr => RoRel g s w k op (altS s.data.toList P) R wr) (fun _ wr => leftM g s.size wr)
  case atStart => exact HS.out
  case round =>
    obtain ⟨x, A, c, hx, hxp, hxo, hO⟩ := hrel
    have HM := Lib.hid (leftM_eq hO.rd)
    have HE := Lib.hid (take_any g s x.2 124 wr hO.rd hxp hs)
    have HO := Lib.hid hO
    have hin : InR s.data.toList x := by unfold InR; omega
    by_cases hends : nextR s.data.toList x.2 = 124
    rotate_left
    · have ht : takeR s.data.toList x.2 124 = (false, x.2) := by unfold takeR; rw [if_neg hends]
      rw [ht] at HE
      have HRX : Hid (R = x) := by
        unfold Hid
        rw [← hx, fixI_none (altS_falls HPP.out) hin (by unfold altS; rw [if_neg hends])]
      clear hx hO HM hin hends ht
      go_wp2_with (go_at_call 168; apply Hid.out)
      unfold Hid
      refine HE.out.mono ?_
      rintro e w4 ⟨rfl, h4⟩
      have h5 := HO.out.call hg h4
      have HD := Lib.hid (OutSt.done hg h5)
      have ⟨o0, o1, o2, o3, o4, o5⟩ := (show PutX w4 k [_, _, _, _, _, _] from h5.out).cells
      have ⟨z0, z1, z2, z3, z4, z5⟩ := h5.zero.cells
      have y0 := h5.zero.free 0
      have y1 := h5.zero.free 1
      have y2 := h5.zero.free 2
      have y3 := h5.zero.free 3
      have y4 := h5.zero.free 4
      have y5 := h5.zero.free 5
      clear h4 h5
      go_wp2_with fail
      obtain ⟨d1, d2, d3⟩ := HD.out
      have ⟨s0, s1, s2, s3, s4, s5⟩ := (show PutX _ w.heap.size [_, _, _, _, _, _] from d1).cells
      unfold fill6 at s0 s1 s2 s3 s4 s5
      exact bodyPost_ret (v := argX x.1 A c) (by simp [results, Tryz.results125, go_sem, s0, s1, s2, s3, s4, s5, argX]) rfl (by rw [HRX.out]; exact ⟨A, c, rfl, d2, d3⟩)
    · have ht : takeR s.data.toList x.2 124 = (true, onR x.2) := by unfold takeR; rw [if_pos hends]; rfl
      rw [ht] at HE
      have hon : (onR x.2).pos ≤ s.data.toList.length := (on_step hends (by decide)).1.inn
      have hop2 : (onR x.2).pos ≤ s.size := by omega
      have HST : Hid (altS s.data.toList P x = some (orT x.1 (P (onR x.2)).1, (P (onR x.2)).2)) := by unfold Hid altS; rw [if_pos hends]
      have HNX : Hid (fixI (altS s.data.toList P) (leftT s.data.toList) (orT x.1 (P (onR x.2)).1, (P (onR x.2)).2) = R) := by unfold Hid; rw [← hx]; exact (fixI_some (altS_falls HPP.out) hin HST.out).symm
      have HLS : Hid (leftC s.data.toList (P (onR x.2)).2 < leftC s.data.toList x.2) := (altS_falls HPP.out).less x (orT x.1 (P (onR x.2)).1, (P (onR x.2)).2) hin HST.out
      have HPS := Lib.hid (HPP.out (onR x.2) hon).step
      clear hx hO hin hends ht
      go_wp2_with (go_at_call 168; apply Hid.out)
      unfold Hid
      refine HE.out.mono ?_
      rintro e w4 ⟨rfl, h4⟩
      have h5 := HO.out.call hg h4
      have HPC : Hid (∀ W, Below w4.heap.size w4 W → Calls Tryz.prog 167 #[.pointer (some ⟨g, 0, none⟩)] W (TxPost g s (P (onR x.2)) W)) := fun W hW => HCC.out g (onR x.2) W (h5.rd.below hW) hop2 hxo
      have H5 := Lib.hid h5
      have ⟨o0, o1, o2, o3, o4, o5⟩ := (show PutX w4 k [_, _, _, _, _, _] from h5.out).cells
      have f0 := h5.out.free 0
      have f1 := h5.out.free 1
      have f2 := h5.out.free 2
      have f3 := h5.out.free 3
      have f4 := h5.out.free 4
      have f5 := h5.out.free 5
      clear h4 h5
      have hk5 : k < w4.heap.size := H5.out.out.lt
      have hwk : w.heap.size < k := H5.out.far
      obtain ⟨y, hy⟩ : ∃ y, P (onR x.2) = y := ⟨_, rfl⟩
      rw [hy] at HPC HST HNX HLS HPS
      have HTW : Hid (∀ (A4 : Option Addr) (c4 : Nat) (W w6 : World), Below w4.heap.size w4 W → NewX W w6 y.1 A4 c4 → RdEnd g s y.2 W w6 →
          OutSt g s w k (x.1, y.2) A c w6 ∧ Calls Tryz.prog 169 #[.int .i64 5, .agg #[.int .i64 x.1.kind, .int .u64 x.1.set.a, .int .u64 x.1.set.b, .int .u64 x.1.set.c, .int .u64 x.1.set.d, .slice A x.1.kids.length c], .agg #[.int .i64 y.1.kind, .int .u64 y.1.set.a, .int .u64 y.1.set.b, .int .u64 y.1.set.c, .int .u64 y.1.set.d, .slice A4 y.1.kids.length c4]] w6
            (fun e w7 => ∃ A7 c7, e = .returned (argX (orT x.1 y.1) A7 c7) ∧ OutSt g s w k (x.1, y.2) A c w7 ∧ LX w7 (fun b => w.heap.size < b ∧ b ≠ k ∧ b < w7.heap.size) (orT x.1 y.1) (cellsX 5 .zero A7 2 c7))) := fun A4 c4 W w6 hW hn h6 => by
        have hO6 := (H5.out.low hg hW).call hg h6
        refine ⟨hO6, (twoX_any 5 x.1 y.1 A A4 c c4 (fun b => w.heap.size < b ∧ b ≠ k ∧ b < w6.heap.size) w6 (fun b hb => hb.2.2) hO6.tree (LX.keep (fun b hb => ⟨by have := hb.1; have := hW.size; omega, by have := hb.1; have := hW.size; omega, hb.2⟩) (fun _ _ _ => rfl) _ _ hn)).mono ?_⟩
        rintro e w7 ⟨A7, c7, rfl, hl7, hb7⟩
        refine ⟨A7, c7, rfl, hO6.low hg hb7, LX.keep (fun b hb => ?_) (fun _ _ _ => rfl) _ _ hl7⟩
        have h1 := hO6.out.lt
        have h2 := hb7.size
        rcases hb with hb | hb
        · exact ⟨hb.1, hb.2.1, by omega⟩
        · have := hb.1; have := hb.2; exact ⟨by omega, by omega, hb.2⟩
      have HFIN : Hid (∀ A7 c7 w7, OutSt g s w k (x.1, y.2) A c w7 → LX w7 (fun b => w.heap.size < b ∧ b ≠ k ∧ b < w7.heap.size) (orT x.1 y.1) (cellsX 5 .zero A7 2 c7) →
          RoRel g s w k op (altS s.data.toList P) R (fill6 w7 k (.int .i64 (orT x.1 y.1).kind) (.int .u64 (orT x.1 y.1).set.a) (.int .u64 (orT x.1 y.1).set.b) (.int .u64 (orT x.1 y.1).set.c) (.int .u64 (orT x.1 y.1).set.d) (.slice A7 (orT x.1 y.1).kids.length c7)) ∧
          leftM g s.size (fill6 w7 k (.int .i64 (orT x.1 y.1).kind) (.int .u64 (orT x.1 y.1).set.a) (.int .u64 (orT x.1 y.1).set.b) (.int .u64 (orT x.1 y.1).set.c) (.int .u64 (orT x.1 y.1).set.d) (.slice A7 (orT x.1 y.1).kids.length c7)) < leftM g s.size wr) := fun A7 c7 w7 h7 hl7 => by
        have hp := h7.put hg (orT x.1 y.1) A7 c7 hl7
        refine ⟨⟨_, A7, c7, HNX.out, ?_, ?_, hp⟩, ?_⟩
        · have := HPS.out.inn; show y.2.pos ≤ _; omega
        · exact HPS.out.op.trans hxo
        · rw [HM.out]; rw [leftM_eq hp.rd]; exact HLS.out
      clear hy HM HPS HLS HNX HST
      go_upto_region 3 with fail
      go_region_with (first
        | (go_at_call 167; (with_reducible refine (HPC.out _ ?_).mono ?_); (first | exact Below.refl _ _ | exact (Below.refl _ _).drew); rintro e w6 ⟨A4, c4, rfl, hn6, h6⟩; obtain ⟨hO6, hT6⟩ := HTW.out A4 c4 _ w6 (by first | exact Below.refl _ _ | exact (Below.refl _ _).drew) hn6 h6; have HT6 := Lib.hid hT6; have ⟨o0, o1, o2, o3, o4, o5⟩ := (show PutX w6 k [_, _, _, _, _, _] from hO6.out).cells; clear hn6 h6 hT6 hO6; unfold argX)
        | (go_at_call 169; (refine HT6.out.mono ?_); rintro e w7 ⟨A7, c7, rfl, hO7, hl7⟩; have f0 := hO7.out.free 0; have f1 := hO7.out.free 1; have f2 := hO7.out.free 2; have f3 := hO7.out.free 3; have f4 := hO7.out.free 4; have f5 := hO7.out.free 5; have ⟨o0, o1, o2, o3, o4, o5⟩ := (show PutX w7 k [_, _, _, _, _, _] from hO7.out).cells; have HX7 := Lib.hid (HFIN.out A7 c7 w7 hO7 hl7); clear hO7 hl7; unfold argX))
      all_goals go_roundw
      all_goals first
        | exact HX7.out.2
        | ((repeat apply Exists.intro); exact ⟨HX7.out.1, rfl⟩)
        | fail "row"
end
end Go.Proofs.YtdkbfljhfhjofaaGreatDoor
