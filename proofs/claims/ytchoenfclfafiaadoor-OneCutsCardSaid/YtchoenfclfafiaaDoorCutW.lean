/- The walk of one.Feed. -/
import Derived.Test.YtchoenfclfafiaaDoorRqsA
import Derived.Test.YtchoenfclfafiaaDoorCutL
namespace Go.Proofs.YtchoenfclfafiaaDoor
open Go.RowKit

theorem OwnQ.other {w w' : World} {base : Nat} {v : Value} {l : List RqC} (h : OwnQ w base v l) {G : Nat} {cs : Array Value} {fz : Nat × Nat} (hG : w.heap[G]? = some (.cells cs 51 fz)) (hk : ∀ g, g ≠ G → w'.heap[g]? = w.heap[g]?) : OwnQ w' base v l := by
  refine ⟨⟨h.row.1, ?_⟩, fun x hx => ⟨(h.all x hx).own.keep fun g hg => ?_, (h.all x hx).few⟩⟩
  · rcases h.row.2 with h0 | ⟨g, cap, cur, h1, h2, h3, h4⟩
    · exact .inl h0
    · refine .inr ⟨g, cap, cur, h1, h2, (hk g fun e => ?_).trans h3, h4⟩
      exact own_apart h.row hG (by decide) (by rw [h1, ← e]; rfl)
  · exact hk g fun e => own_apart (h.all x hx).own hG (by decide) (by rw [← e]; exact hg)
def strSz : Value → Nat
  | .string s => s.size
  | _ => 0
def RdAt (g : Nat) (rest : ByteArray) (over : Int) (w : World) : Prop := w.heap[g]? = some (.cells #[.string rest, .int .i64 over] 51 (0, 0))
theorem RdAt.cells {g : Nat} {rest : ByteArray} {over : Int} {w : World} (h : RdAt g rest over w) : w.cell? ⟨g, 0, none⟩ = some (.string rest) ∧ w.cell? ⟨g, 1, none⟩ = some (.int .i64 over) := ⟨cell_of_row w g 0 _ _ _ h, cell_of_row w g 1 _ _ _ h⟩
theorem RdAt.free {g : Nat} {rest : ByteArray} {over : Int} {w : World} (h : RdAt g rest over w) (j : Nat) : w.frozen? ⟨g, j, none⟩ = false := by
  unfold RdAt at h
  simp [World.frozen?, h]
def BdAt (g : Nat) (H B A0 : Int) (w : World) : Prop := w.heap[g]? = some (.cells #[.int .i64 H, .int .i64 B, .int .i64 A0] 47 (0, 0))
theorem BdAt.cells {g : Nat} {H B A0 : Int} {w : World} (h : BdAt g H B A0 w) : w.cell? ⟨g, 0, none⟩ = some (.int .i64 H) ∧ w.cell? ⟨g, 1, none⟩ = some (.int .i64 B) ∧ w.cell? ⟨g, 2, none⟩ = some (.int .i64 A0) := ⟨cell_of_row w g 0 _ _ _ h, cell_of_row w g 1 _ _ _ h, cell_of_row w g 2 _ _ _ h⟩
/-- The three boxes of a feeding. -/
structure FeedBx (g : Nat) (rest : ByteArray) (over H B A0 : Int) (w : World) : Prop where
  r : RdAt g rest over w
  b : BdAt (g + 1) H B A0 w
  z : RdAt (g + 1 + 1) (ByteArray.mk #[]) 0 w
theorem feed_boxes (rest : ByteArray) (over H B A0 : Int) (w : World) : ∃ W0, ((w.alloc (.cells #[.string rest, .int .i64 over] 51)).alloc (.cells #[.int .i64 H, .int .i64 B, .int .i64 A0] 47)).alloc (.cells #[.string (ByteArray.mk #[]), .int .i64 0] 51) = W0 ∧
    w.heap.size + 3 ≤ W0.heap.size ∧ ∀ W, Below W0.heap.size W0 W → FeedBx w.heap.size rest over H B A0 W ∧ Below w.heap.size w W := by
  refine ⟨_, rfl, by simp, fun W hb => ?_⟩
  have e0 := heap_alloc_new w (.cells #[.string rest, .int .i64 over] 51)
  have e1 := heap_alloc_new (w.alloc (.cells #[.string rest, .int .i64 over] 51)) (.cells #[.int .i64 H, .int .i64 B, .int .i64 A0] 47)
  have e2 := heap_alloc_new ((w.alloc (.cells #[.string rest, .int .i64 over] 51)).alloc (.cells #[.int .i64 H, .int .i64 B, .int .i64 A0] 47)) (.cells #[.string (ByteArray.mk #[]), .int .i64 0] 51)
  rw [World.size_alloc] at e1
  rw [World.size_alloc, World.size_alloc] at e2
  have hw : Below w.heap.size w (((w.alloc (.cells #[.string rest, .int .i64 over] 51)).alloc (.cells #[.int .i64 H, .int .i64 B, .int .i64 A0] 47)).alloc (.cells #[.string (ByteArray.mk #[]), .int .i64 0] 51)) :=
    (((Below.refl _ _).alloc (Nat.le_refl _) _).alloc (by simp) _).alloc (by first | (simp; done) | (simp; omega)) _
  exact ⟨⟨(hb.block _ (by first | (simp; done) | (simp; omega))).trans ((Below.heap_alloc _ _ _ (by first | (simp; done) | (simp; omega))).trans ((Below.heap_alloc _ _ _ (by simp)).trans e0)), (hb.block _ (by first | (simp; done) | (simp; omega))).trans ((Below.heap_alloc _ _ _ (by simp)).trans e1), (hb.block _ (by simp)).trans e2⟩,
    hw.trans (hb.mono hw.size)⟩
def putRd (w : World) (g : Nat) (a b : Value) : World := ((w.setCell ⟨g, 0, none⟩ a).setCell ⟨g, 1, none⟩ b).alloc (.cells #[.string (ByteArray.mk #[]), .string (ByteArray.mk #[]), .slice none 0 0, .string (ByteArray.mk #[])] 31)
theorem putRd_two {w : World} {g : Nat} {x y : Value} (a b : Value) (h0 : w.cell? ⟨g, 0, none⟩ = some x) (h1 : w.cell? ⟨g, 1, none⟩ = some y) : (putRd w g a b).cell? ⟨g, 0, none⟩ = some a ∧ (putRd w g a b).cell? ⟨g, 1, none⟩ = some b := by
  have h := two_set a b h0 h1
  have hb := (Below.refl ((w.setCell ⟨g, 0, none⟩ a).setCell ⟨g, 1, none⟩ b).heap.size ((w.setCell ⟨g, 0, none⟩ a).setCell ⟨g, 1, none⟩ b)).alloc (Nat.le_refl _) (.cells #[.string (ByteArray.mk #[]), .string (ByteArray.mk #[]), .slice none 0 0, .string (ByteArray.mk #[])] 31)
  exact ⟨cell_kept hb h.1, cell_kept hb h.2⟩
def FeedPost (F : FedR) (w : World) (e : Ending) (w' : World) : Prop :=
  ∃ xs v, e = .returned (.tuple #[.agg #[.string (bs F.rest), .int .i64 F.e], v, .int .i64 F.e]) ∧ xs.map RqC.q = F.qs ∧ OwnQ w' w.heap.size v xs ∧ Below w.heap.size w w'
def FdRel (F : FedR) (H B : Int) (W0 : World) (v2 v10 : Value) (wr : World) : Prop :=
  ∃ (xs : List RqC) (s : ByteArray), v2 = .string s ∧ s.size ≤ 131072 ∧ xs.length + s.size ≤ 131072 ∧ OwnQ wr W0.heap.size v10 xs ∧ F = ⟨xs.map RqC.q ++ (feedL s.data.toList H B).qs, (feedL s.data.toList H B).e, (feedL s.data.toList H B).rest⟩ ∧ Below W0.heap.size W0 wr

set_option maxRecDepth 100000 in
set_option maxHeartbeats 3200000 in
theorem Feed_good (rest s : ByteArray) (H B A0 : Int) (w : World) (hb : boundsB H B A0 = true) (hr : rest.size ≤ 65536) (hs : s.size ≤ 8192) (hlib : LibOk w) :
    Calls Tryd.prog 17 #[.agg #[.string rest, .int .i64 0], .agg #[.int .i64 H, .int .i64 B, .int .i64 A0], .string s] w (FeedPost (feedL (rest ++ s).data.toList H B) w) := by
  obtain ⟨W0, hW0, hz, hbx⟩ := feed_boxes rest 0 H B A0 w
  have HBX := Lib.hid hbx
  have HW0 := Lib.hid hW0
  obtain ⟨hH, hB⟩ := bounds_in hb
  have hH0 : 0 ≤ H := by omega
  have hB0 : 0 ≤ B := hB.1
  have HL : Hid (∀ W, Below W0.heap.size W0 W → LibOk W) := fun W h => hlib.below (hbx W h).2
  have hbn : bndE H B A0 = 0 := by unfold bndE; rw [hb]; rfl
  have HCK : Hid (Calls Tryd.prog 39 #[.agg #[.int .i64 H, .int .i64 B, .int .i64 A0]] W0 fun e w' => e = .returned (.int .i64 0) ∧ Below W0.heap.size W0 w') := by
    have := OCheck_any H B A0 W0
    rw [hbn] at this
    exact this
  have HONE : Hid (∀ (s : ByteArray) W, s.size ≤ 131072 → Below W0.heap.size W0 W → Calls Tryd.prog 40 #[.string s, .agg #[.int .i64 H, .int .i64 B, .int .i64 A0]] W (OnePost s.data.toList H B W)) := fun s W h1 h2 => one_any s H B A0 W ⟨hH0, hH.2⟩ hB (HL.out W h2) (by omega)
  have y1 : ∀ W, (Op.stringOp .add rest s).run Tryd.prog W = .ok (.string (rest ++ s)) W := fun W => run_string_add_sum W rest s (by omega)
  have hts : (rest ++ s).size ≤ 131072 := by rw [ByteArray.size_append]; omega
  have ⟨⟨hr0, hb0, hz0⟩, _⟩ := hbx W0 (Below.refl _ _)
  have ⟨r0, r1⟩ := hr0.cells
  have ⟨b0, b1, b2⟩ := hb0.cells
  generalize hT : rest ++ s = T at *
  obtain ⟨F, hF⟩ : ∃ F, feedL T.data.toList H B = F := ⟨_, rfl⟩
  rw [hF]
  have HSTART : Hid (∀ W, Below W0.heap.size W0 W → FdRel F H B W0 (.string T) (.slice none 0 0) W) := fun W h => ⟨[], T, rfl, hts, by simpa using hts, OwnQ.nil _ _, by rw [← hF]; rfl, h⟩
  have hw2 : w.heap.size < W0.heap.size := by omega
  have hw3 : w.heap.size + 1 < W0.heap.size := by omega
  have hw4 : w.heap.size + 1 + 1 < W0.heap.size := by omega
  clear hbx hW0 hlib hb hbn hH hB hr0 hb0 hz0 hF
  go_enter Tryd.func17, Tryd.ntmps17
  go_upto_region 1 with fail
  rw [HW0.out]
  go_wp2_with fail
  refine HCK.out.mono ?_
  rintro e w1 ⟨rfl, hb1⟩
  have ⟨⟨hr1, hbb1, hz1⟩, _⟩ := HBX.out w1 hb1
  clear r0 r1 b0 b1 b2
  have ⟨r0, r1⟩ := hr1.cells
  have HB1 := Lib.hid hb1
  clear hr1 hbb1 hz1 hb1 HCK
  go_wp2_with fail
  go_loopw [2, 10] (fun v2 v10 wr => FdRel F H B W0 v2 v10 wr) (fun v2 _ _ => strSz v2)
  case atStart => exact HSTART.out _ HB1.out
  case round =>
    obtain ⟨xs, u, rfl, hu, hxu, hO, hF, hb⟩ := hrel
    have ⟨⟨_, hbb, hzz⟩, _⟩ := HBX.out wr hb
    have ⟨b0, b1, b2⟩ := hbb.cells
    have hzr := hb.size
    have hON := HONE.out u wr hu hb
    obtain ⟨Ao, co, rfl, _⟩ := hO.form
    have HO := Lib.hid hO
    have HB := Lib.hid hb
    clear hbb hzz hO hb
    go_wp2_with fail
    refine hON.mono ?_
    rintro e w2 hP
    rcases hP with ⟨x, hx, rfl, hb2⟩ | ⟨q, n, A, c, hx, rfl, hOf, hb2⟩
    · have hB2 := HB.out.trans (hb2.mono hzr)
      have ⟨⟨_, _, hzz⟩, hbw⟩ := HBX.out w2 hB2
      have hO2 := HO.out.below hb2
      have hz2 := hB2.size
      have ⟨z0, z1⟩ := hzz.cells
      have f0 := hzz.free 0
      have f1 := hzz.free 1
      have HOUT : Hid (∀ (a : Value) (b : Value), OwnQ (putRd w2 (w.heap.size + 1 + 1) a b) w.heap.size (.slice Ao xs.length co) xs ∧ Below w.heap.size w (putRd w2 (w.heap.size + 1 + 1) a b)) := fun a b => by
        have hq : OwnQ ((w2.setCell ⟨w.heap.size + 1 + 1, 0, none⟩ a).setCell ⟨w.heap.size + 1 + 1, 1, none⟩ b) w.heap.size (.slice Ao xs.length co) xs :=
          (hO2.low (by omega)).other hzz fun g hg => by rw [Below.heap_setCell _ _ _ _ hg, Below.heap_setCell _ _ _ _ hg]
        have hw : Below w.heap.size w ((w2.setCell ⟨w.heap.size + 1 + 1, 0, none⟩ a).setCell ⟨w.heap.size + 1 + 1, 1, none⟩ b) :=
          (hbw.setCell (p := ⟨w.heap.size + 1 + 1, 0, none⟩) (by show w.heap.size ≤ w.heap.size + 1 + 1; omega) _).setCell (p := ⟨w.heap.size + 1 + 1, 1, none⟩) (by show w.heap.size ≤ w.heap.size + 1 + 1; omega) _
        exact ⟨hq.below ((Below.refl _ _).alloc (Nat.le_refl _) _), hw.alloc hw.size _⟩
      have hzz2 : w.heap.size + 1 + 1 < w2.heap.size := by omega
      unfold zReq
      by_cases h7 : x = 7
      · subst h7
        rw [feed_more hx] at hF
        have HP : Hid (FeedPost F w (.returned (.tuple #[.agg #[.string u, .int .i64 0], .slice Ao xs.length co, .int .i64 0])) (putRd w2 (w.heap.size + 1 + 1) (.string u) (.int .i64 0))) := by
          refine ⟨xs, _, ?_, ?_, (HOUT.out _ _).1, (HOUT.out _ _).2⟩
          · rw [hF]; dsimp only; rw [bs_eta]
          · rw [hF]; simp
        have TT := Lib.hid (putRd_two (.string u) (.int .i64 0) z0 z1)
        clear hF hx hO2 hb2 hB2 hbw hzz HOUT hON
        go_wp2_with fail
        exact bodyPost_ret (v := .tuple #[.agg #[.string u, .int .i64 0], .slice Ao xs.length co, .int .i64 0]) (by have t := TT.out; unfold putRd at t; simp [results, Tryd.results17, go_sem, t.1, t.2]) rfl HP.out
      · rw [feed_err hx h7] at hF
        have HP : Hid (FeedPost F w (.returned (.tuple #[.agg #[.string (ByteArray.mk #[]), .int .i64 x], .slice Ao xs.length co, .int .i64 x])) (putRd w2 (w.heap.size + 1 + 1) (.string (ByteArray.mk #[])) (.int .i64 x))) := by
          refine ⟨xs, _, ?_, ?_, (HOUT.out _ _).1, (HOUT.out _ _).2⟩
          · rw [hF]; rfl
          · rw [hF]; simp
        have TT := Lib.hid (putRd_two (.string (ByteArray.mk #[])) (.int .i64 x) z0 z1)
        have q7 : (x == 7) = false := beq_eq_false_iff_ne.2 h7
        have q0 : (x != 0) = true := bne_iff_ne.2 (one_ne hx)
        clear hF hx hO2 hb2 hB2 hbw hzz HOUT hON h7
        go_wp2_with fail
        exact bodyPost_ret (v := .tuple #[.agg #[.string (ByteArray.mk #[]), .int .i64 x], .slice Ao xs.length co, .int .i64 x]) (by have t := TT.out; unfold putRd at t; simp [results, Tryd.results17, go_sem, t.1, t.2]) rfl HP.out
    · have hB2 := HB.out.trans (hb2.mono hzr)
      have hO2 := HO.out.below hb2
      have hz2 := hB2.size
      obtain ⟨_, hn1, hn2⟩ := one_len hH0 hB0 hx
      have hul : u.data.toList.length = u.size := by simp
      rw [hul] at hn2
      have hfew : q.h.fs.length ≤ 4398046511104 := by
        obtain ⟨i, k, _, hp, _, _⟩ := one_ok hH0 hx
        have := (head_ok (parse_ok hp).2.1).few
        omega
      have hal := (Below.refl w2.heap.size w2).alloc (Nat.le_refl _) (.cells (cellsRq ⟨q, A, c⟩).toArray 31)
      have hO3 := hO2.below hal
      have hIn : InQ (w2.alloc (.cells (cellsRq ⟨q, A, c⟩).toArray 31)) ⟨q, A, c⟩ := ⟨(hOf.low (Nat.zero_le _)).below hal, hfew⟩
      have hB3 := hB2.trans (hal.mono hz2)
      have hz3 := hB3.size
      have hFN : F = ⟨(xs ++ [(⟨q, A, c⟩ : RqC)]).map RqC.q ++ (feedL (u.extract n u.size).data.toList H B).qs, (feedL (u.extract n u.size).data.toList H B).e, (feedL (u.extract n u.size).data.toList H B).rest⟩ := by
        have ed : (u.extract n u.size).data.toList = u.data.toList.drop n := Lib.extract_to_end u n
        rw [hF, feed_ok hH0 hB0 hx, ed, List.map_append]
        simp
      have hex : (u.extract n u.size).size = u.size - n := by rw [ByteArray.size_extract]; omega
      have HFN := Lib.hid hFN
      have HO3 := Lib.hid hO3
      have HIN := Lib.hid hIn
      have HB3 := Lib.hid hB3
      have i3 : (0 : Int) ≤ (n : Int) := by omega
      have i4 : (n : Int) ≤ (u.size : Int) := by omega
      have hxl : xs.length ≤ 4194304 := by omega
      obtain ⟨⟨m, t, fs⟩, bd⟩ := q
      dsimp only [cellsRq] at *
      unfold reqV
      dsimp only
      generalize hbb2 : bs bd = bb at *
      clear hF hx hO2 hb2 hB2 hal hON hOf hO3 hIn hB3 hFN
      go_wp2_with (at_builtin; apply Hid.out)
      unfold Hid
      refine wpList_append_q rfl (.tmp 59) (.tmp 61) rfl W0.heap.size (.slice Ao xs.length co) xs rfl (by exact HO3.out) (by exact hz3) _ ⟨⟨⟨m, t, fs⟩, bd⟩, A, c⟩ (by rw [← hbb2]; rfl) (by exact HIN.out) (w2.heap.size + 1) (by rw [World.size_alloc]) 1 rfl hxl ?_
      intro v5 w5 hO5 hb5 hz5
      have hN : FdRel F H B W0 (.string (u.extract n u.size)) v5 w5 := ⟨xs ++ [⟨⟨⟨m, t, fs⟩, bd⟩, A, c⟩], u.extract n u.size, rfl, by omega, by rw [List.length_append, List.length_singleton]; omega, hO5, HFN.out, HB3.out.trans hb5⟩
      have HN := Lib.hid hN
      clear hN hO5 hb5
      go_wp2_with fail
      go_roundw
      case rel => exact HN.out
      case measure => simp only [strSz]; omega
end Go.Proofs.YtchoenfclfafiaaDoor
