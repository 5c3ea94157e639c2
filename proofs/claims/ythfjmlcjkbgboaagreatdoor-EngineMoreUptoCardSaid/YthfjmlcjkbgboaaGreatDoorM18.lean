/- Part 18 of the proof: lemmas and walks that the last texts use. -/
import Derived.Test.YthfjmlcjkbgboaaGreatDoorM05
import Derived.Test.YthfjmlcjkbgboaaGreatDoorM07
import Derived.Test.YthfjmlcjkbgboaaGreatDoorM08
import Derived.Test.YthfjmlcjkbgboaaGreatDoorM13
import Derived.Test.YthfjmlcjkbgboaaGreatDoorM17
namespace Go.Proofs.YthfjmlcjkbgboaaGreatDoor
open Go.RowKit
theorem alt_all (s : ByteArray) (hs : s.size ≤ 4096) : ∀ d op, op + d = 20 → ReadsT 182 s op (altD s.data.toList (d + 1))
  | 0, op, h => alt_any s op _ hs (good_rowD _ 0) (row_any s op _ hs (good_pieceD _ 0) (piece_any s op _ hs (good_altD _ 0) (atom_any s op _ hs (by omega) (good_altD _ 0) fun h1 => absurd h1 (by omega))))
  | d + 1, op, h => alt_any s op _ hs (good_rowD _ (d + 1)) (row_any s op _ hs (good_pieceD _ (d + 1)) (piece_any s op _ hs (good_altD _ (d + 1)) (atom_any s op _ hs (by omega) (good_altD _ (d + 1)) fun _ => alt_all s hs d (op + 1) (by omega))))
def startR : RS := ⟨0, 0, 0⟩
def topT (s : List UInt8) : TR := altD s 21 startR
def topR (s : List UInt8) : RS := if (topT s).2.e = 0 ∧ (topT s).2.pos < s.length then failR (topT s).2 3 else (topT s).2
/-- What Parse answers: a tree, a place, an error. -/
def parseP (s : List UInt8) : Tree × Nat × Int :=
  if 200 < s.length then (kT 0, 0, 2) else if (topR s).e ≠ 0 then (kT 0, (topR s).pos, (topR s).e) else if checkT (topT s).1 ≠ 0 then (kT 0, s.length, checkT (topT s).1) else ((topT s).1, 0, 0)
def PaPost (P : Tree × Nat × Int) (w : World) (e : Ending) (w' : World) : Prop :=
  ∃ A c, e = .returned (.tuple #[argX P.1 A c, .int .i64 P.2.1, .int .i64 P.2.2]) ∧ NewX w w' P.1 A c ∧ Below w.heap.size w w'
theorem NewX.drew {w W : World} {t : Tree} {A : Option Addr} {c : Nat} (h : NewX w W t A c) : NewX w W.drew t A c := by
  have hk : ∀ b o, Fresh w.heap.size W.heap.size b → W.drew.cell? ⟨b, o, none⟩ = W.cell? ⟨b, o, none⟩ := fun _ _ _ => rfl
  have hp : ∀ b, Fresh w.heap.size W.heap.size b → Fresh w.heap.size W.drew.heap.size b := fun _ h => h
  exact LX.keep hp hk _ _ h
structure PaSt (s : ByteArray) (w : World) (k : Nat) (x : TR) (A : Option Addr) (c : Nat) (wr : World) : Prop where
  rd : RdAt (w.heap.size + 1) s x.2 wr
  zero : ZeroX wr w.heap.size
  out : PutX wr k (cellsX x.1.kind x.1.set A x.1.kids.length c)
  tree : LX wr (fun b => w.heap.size + 1 < b ∧ b < wr.heap.size) x.1 (cellsX x.1.kind x.1.set A x.1.kids.length c)
  low : Below w.heap.size w wr
  far : w.heap.size + 1 < k
theorem below_row {a w w' : World} {B g : Nat} (h : Below B a w) (hB : B ≤ w.heap.size) (hg : w.grownBy w' (some g)) (hBg : B ≤ g) : Below B a w' :=
  ⟨hg.os.trans h.os, hg.tape.trans h.tape, hg.output.trans h.output, Nat.le_trans h.size hg.size, fun i hi => (hg.block i (by omega) (fun e => by have := Option.some.inj e; omega)).trans (h.block i hi)⟩
theorem PaSt.call {s : ByteArray} {w : World} {k : Nat} {x : TR} {q : RS} {A : Option Addr} {c : Nat} {wr w' : World} (h : PaSt s w k x A c wr) (e : RdEnd (w.heap.size + 1) s q wr w') : PaSt s w k (x.1, q) A c w' :=
  ⟨e.1, h.zero.grown e.2 (by omega), h.out.grown e.2 (by have := h.far; omega),
    LX.keep (fun b hb => ⟨hb.1, Nat.lt_of_lt_of_le hb.2 e.2.size⟩) (fun b o hb => cell_grown e.2 hb.2 (by have := hb.1; omega)) _ _ h.tree,
    below_row h.low h.low.size e.2 (Nat.le_succ _), h.far⟩
theorem PaSt.more {s : ByteArray} {w : World} {k : Nat} {x : TR} {A : Option Addr} {c : Nat} {wr w' : World} (h : PaSt s w k x A c wr) (hb : Below wr.heap.size wr w') : PaSt s w k x A c w' := h.call (rd_end h.rd hb)
/-- The result's block is filled. -/
theorem pa_end {w wr : World} {t : Tree} {A : Option Addr} {c : Nat} (hz : ZeroX wr w.heap.size) (hf : Below w.heap.size w wr) (ht : LX wr (fun b => w.heap.size < b ∧ b < wr.heap.size) t (cellsX t.kind t.set A t.kids.length c)) :
    PutX (fill6 wr w.heap.size (.int .i64 t.kind) (.int .u64 t.set.a) (.int .u64 t.set.b) (.int .u64 t.set.c) (.int .u64 t.set.d) (.slice A t.kids.length c)) w.heap.size (cellsX t.kind t.set A t.kids.length c) ∧
    NewX w (fill6 wr w.heap.size (.int .i64 t.kind) (.int .u64 t.set.a) (.int .u64 t.set.b) (.int .u64 t.set.c) (.int .u64 t.set.d) (.slice A t.kids.length c)) t A c ∧
    Below w.heap.size w (fill6 wr w.heap.size (.int .i64 t.kind) (.int .u64 t.set.a) (.int .u64 t.set.b) (.int .u64 t.set.c) (.int .u64 t.set.d) (.slice A t.kids.length c)) := by
  have hb : Below w.heap.size wr (fill6 wr w.heap.size (.int .i64 t.kind) (.int .u64 t.set.a) (.int .u64 t.set.b) (.int .u64 t.set.c) (.int .u64 t.set.d) (.slice A t.kids.length c)) := fill6_below (Below.refl _ _) (Nat.le_refl _) _ _ _ _ _ _
  have hot : ∀ i, i ≠ w.heap.size → (fill6 wr w.heap.size (.int .i64 t.kind) (.int .u64 t.set.a) (.int .u64 t.set.b) (.int .u64 t.set.c) (.int .u64 t.set.d) (.slice A t.kids.length c)).heap[i]? = wr.heap[i]? := fun i hi => by
    unfold fill6
    rw [Below.heap_setCell _ _ _ _ hi, Below.heap_setCell _ _ _ _ hi, Below.heap_setCell _ _ _ _ hi, Below.heap_setCell _ _ _ _ hi, Below.heap_setCell _ _ _ _ hi, Below.heap_setCell _ _ _ _ hi]
  refine ⟨hz.fill _ _ _ _ _ _, LX.keep (fun b hb2 => ⟨Nat.le_of_lt hb2.1, Nat.lt_of_lt_of_le hb2.2 hb.size⟩) (fun b o hb2 => ?_) _ _ ht, hf.trans hb⟩
  simp only [World.cell?, hot b (show b ≠ w.heap.size by have := hb2.1; omega)]
set_option maxRecDepth 100000 in
set_option maxHeartbeats 3200000 in
theorem Parse_any (s : ByteArray) (w : World) (hsz : s.size ≤ maxLen) : Calls Tryz.prog 140 #[.string s] w (PaPost (parseP s.data.toList) w) := by
  have hsl : s.data.toList.length = s.size := by simp
  obtain ⟨W0, hW0⟩ : ∃ W0, w.alloc (.cells #[.int .i64 0, .int .u64 0, .int .u64 0, .int .u64 0, .int .u64 0, .slice none 0 0] 217) = W0 := ⟨_, rfl⟩
  have hb0 : Below w.heap.size w W0 := by rw [← hW0]; exact (Below.refl _ _).alloc (Nat.le_refl _) _
  have hz0 : ZeroX W0 w.heap.size := by rw [← hW0]; exact ZeroX.new w
  have hs0 : W0.heap.size = w.heap.size + 1 := by rw [← hW0]; simp
  have HW0 := Lib.hid hW0
  unfold maxLen at hsz
  have HP : Hid (parseP s.data.toList = if 200 < s.data.toList.length then (kT 0, 0, 2) else if (topR s.data.toList).e ≠ 0 then (kT 0, (topR s.data.toList).pos, (topR s.data.toList).e) else if checkT (topT s.data.toList).1 ≠ 0 then (kT 0, s.data.toList.length, checkT (topT s.data.toList).1) else ((topT s.data.toList).1, 0, 0)) := rfl
  obtain ⟨P, hPP⟩ : ∃ P, parseP s.data.toList = P := ⟨_, rfl⟩
  rw [hPP] at HP ⊢
  rw [hsl] at HP
  clear hPP hW0
  by_cases h200 : 200 < s.size
  · have d0 : decide ((200 : Int) < (s.size : Int)) = true := decide_eq_true (by omega)
    have HPR : Hid (P = (kT 0, 0, 2)) := by unfold Hid; rw [HP.out, if_pos h200]
    have HD : Hid (PutX (fill6 W0 w.heap.size (.int .i64 0) (.int .u64 0) (.int .u64 0) (.int .u64 0) (.int .u64 0) (.slice none 0 0)) w.heap.size [.int .i64 0, .int .u64 0, .int .u64 0, .int .u64 0, .int .u64 0, .slice none 0 0] ∧
        NewX w (fill6 W0 w.heap.size (.int .i64 0) (.int .u64 0) (.int .u64 0) (.int .u64 0) (.int .u64 0) (.slice none 0 0)) (kT 0) none 0 ∧ Below w.heap.size w (fill6 W0 w.heap.size (.int .i64 0) (.int .u64 0) (.int .u64 0) (.int .u64 0) (.int .u64 0) (.slice none 0 0))) :=
      pa_end (t := kT 0) hz0 hb0 (LX.leaf _ _ _ _ _ _ zero_wfR)
    have ⟨z0, z1, z2, z3, z4, z5⟩ := hz0.cells
    have y0 := hz0.free 0
    have y1 := hz0.free 1
    have y2 := hz0.free 2
    have y3 := hz0.free 3
    have y4 := hz0.free 4
    have y5 := hz0.free 5
    clear HP hb0 hz0 hs0 hsl
    go_enter Tryz.func140, Tryz.ntmps140
    go_upto_region 1 with fail
    rw [HW0.out]
    go_wp2_with fail
    obtain ⟨d1, d2, d3⟩ := HD.out
    have ⟨s0, s1, s2, s3, s4, s5⟩ := d1.cells
    unfold fill6 at s0 s1 s2 s3 s4 s5
    exact bodyPost_ret (v := .tuple #[argX (kT 0) none 0, .int .i64 0, .int .i64 2]) (by simp [results, Tryz.results140, go_sem, s0, s1, s2, s3, s4, s5, argX, kT, Tree.kind, Tree.set, Tree.kids, Set4.zero]) rfl (by rw [HPR.out]; exact ⟨none, 0, rfl, d2, d3⟩)
  · have d0 : decide ((200 : Int) < (s.size : Int)) = false := decide_eq_false (by omega)
    have hs : s.size ≤ 4096 := by omega
    have HP2 : Hid (P = if (topR s.data.toList).e ≠ 0 then (kT 0, (topR s.data.toList).pos, (topR s.data.toList).e) else if checkT (topT s.data.toList).1 ≠ 0 then (kT 0, s.size, checkT (topT s.data.toList).1) else ((topT s.data.toList).1, 0, 0)) := by unfold Hid; rw [HP.out, if_neg h200]
    obtain ⟨W1, hW1⟩ : ∃ W1, W0.alloc (.cells #[.string s, .int .i64 0, .int .i64 0, .int .i64 0] 256) = W1 := ⟨_, rfl⟩
    have hr1 : RdAt (w.heap.size + 1) s startR W1 := by rw [← hW1, ← hs0]; exact heap_alloc_new W0 _
    have hb1 : Below w.heap.size w W1 := by rw [← hW1]; exact hb0.alloc (by omega) _
    have hz1 : ZeroX W1 w.heap.size := by rw [← hW1]; exact (Below.heap_alloc _ _ _ (by omega)).trans hz0
    have hs1 : W1.heap.size = w.heap.size + 1 + 1 := by rw [← hW1, World.size_alloc, hs0]
    have hga := good_altD s.data.toList 21 startR (Nat.zero_le _)
    have HAL : Hid (Calls Tryz.prog 182 #[.pointer (some ⟨w.heap.size + 1, 0, none⟩)] W1 (TxPost (w.heap.size + 1) s (topT s.data.toList) W1)) := alt_all s hs 20 0 rfl (w.heap.size + 1) startR W1 hr1 (Nat.zero_le _) rfl
    have HTR : Hid (topR s.data.toList = if (topT s.data.toList).2.e = 0 ∧ (topT s.data.toList).2.pos < s.size then failR (topT s.data.toList).2 3 else (topT s.data.toList).2) := by unfold Hid topR; rw [hsl]
    have hTT : altD s.data.toList 21 startR = topT s.data.toList := rfl
    rw [hTT] at hga
    obtain ⟨T, hT⟩ : ∃ T, topT s.data.toList = T := ⟨_, rfl⟩
    rw [hT] at hga HAL HTR HP2
    have hTp : T.2.pos ≤ s.size := by have := hga.step.inn; omega
    have HGA := Lib.hid hga
    have HS1 := Lib.hid (And.intro hz1 (And.intro hb1 hs1))
    have HW1 := Lib.hid hW1
    clear HP hb0 hz0 hr1 hb1 hz1 hs1 hga hTT hT hW1
    obtain ⟨Q, hQ⟩ : ∃ Q, topR s.data.toList = Q := ⟨_, rfl⟩
    rw [hQ] at HTR HP2
    clear hQ
    go_enter Tryz.func140, Tryz.ntmps140
    go_upto_region 1 with fail
    rw [HW0.out]
    go_upto_region 4 with fail
    -- WAYS
    rw [HW1.out]
    go_wp2_with (go_at_call 182; apply Hid.out)
    unfold Hid
    refine HAL.out.mono ?_
    rintro e w2 ⟨A, c, rfl, hn2, h2⟩
    have hs1 := HS1.out.2.2
    have HPS : Hid (PaSt s w w2.heap.size T A c (w2.alloc (.cells #[.int .i64 T.1.kind, .int .u64 T.1.set.a, .int .u64 T.1.set.b, .int .u64 T.1.set.c, .int .u64 T.1.set.d, .slice A T.1.kids.length c] 217))) := by
      have hal : Below w2.heap.size w2 (w2.alloc (.cells #[.int .i64 T.1.kind, .int .u64 T.1.set.a, .int .u64 T.1.set.b, .int .u64 T.1.set.c, .int .u64 T.1.set.d, .slice A T.1.kids.length c] 217)) := (Below.refl _ _).alloc (Nat.le_refl _) _
      have h12 := h2.2.size
      have hz2 := HS1.out.1.grown h2.2 (by omega)
      exact ⟨h2.1.below hal, (hal.block _ hz2.lt).trans hz2, PutX.new w2 _, LX.keep (fun b hb => ⟨by have := hb.1; omega, by have := hb.2; have := hal.size; omega⟩) (fun b o hb => hal.cell (p := ⟨b, o, none⟩) hb.2) _ _ hn2,
        (below_row HS1.out.2.1 HS1.out.2.1.size h2.2 (Nat.le_succ _)).trans (hal.mono (by omega)), by omega⟩
    clear hn2 h2 hs1 HS1 hs0
    unfold argX
    go_upto_region 5 with fail
    generalize w2.alloc (.cells #[.int .i64 T.1.kind, .int .u64 T.1.set.a, .int .u64 T.1.set.b, .int .u64 T.1.set.c, .int .u64 T.1.set.d, .slice A T.1.kids.length c] 217) = W3 at *
    generalize w2.heap.size = k at *
    have ⟨c0, c1, c2, c3⟩ := HPS.out.rd.cells
    by_cases he : T.2.e = 0
    · have d1 : (T.2.e == 0) = true := by rw [he]; rfl
      by_cases hl : T.2.pos < s.size
      · have d2 : decide ((T.2.pos : Int) < (s.size : Int)) = true := decide_eq_true (by omega)
        obtain ⟨qq, hqq⟩ : ∃ qq : RS, failR T.2 3 = qq := ⟨_, rfl⟩
        have hQ : Q = qq := by rw [HTR.out, if_pos ⟨he, hl⟩, hqq]
        have hQe : qq.e = 3 := by rw [← hqq]; unfold failR; rw [if_pos he]
        have HPR : Hid (P = (kT 0, qq.pos, qq.e)) := by unfold Hid; rw [HP2.out, hQ, if_pos (by rw [hQe]; decide)]
        have d3 : (qq.e != 0) = true := by rw [hQe]; rfl
        have HFL : Hid (Calls Tryz.prog 183 #[.pointer (some ⟨w.heap.size + 1, 0, none⟩), .int .i64 3] W3 fun e w' => e = .returned (.tuple #[]) ∧ PaSt s w k (T.1, qq) A c w') :=
          (fail_any (w.heap.size + 1) s T.2 3 W3 HPS.out.rd).mono (fun e w' ⟨h1, h2⟩ => ⟨h1, by rw [hqq] at h2; exact HPS.out.call h2⟩)
        clear hQ hQe hqq
        go_wp2_with (go_at_call 183; apply Hid.out)
        unfold Hid
        refine HFL.out.mono ?_
        rintro e w4 ⟨rfl, h4⟩
        have ⟨c0, c1, c2, c3⟩ := h4.rd.cells
        have HD : Hid (PutX (fill6 w4 w.heap.size (.int .i64 0) (.int .u64 0) (.int .u64 0) (.int .u64 0) (.int .u64 0) (.slice none 0 0)) w.heap.size [.int .i64 0, .int .u64 0, .int .u64 0, .int .u64 0, .int .u64 0, .slice none 0 0] ∧ NewX w (fill6 w4 w.heap.size (.int .i64 0) (.int .u64 0) (.int .u64 0) (.int .u64 0) (.int .u64 0) (.slice none 0 0)) (kT 0) none 0 ∧ Below w.heap.size w (fill6 w4 w.heap.size (.int .i64 0) (.int .u64 0) (.int .u64 0) (.int .u64 0) (.int .u64 0) (.slice none 0 0))) := pa_end (t := (kT 0)) (A := none) (c := 0) h4.zero h4.low (LX.leaf _ _ _ _ _ _ zero_wfR)
        have ⟨z0, z1, z2, z3, z4, z5⟩ := h4.zero.cells
        have y0 := h4.zero.free 0
        have y1 := h4.zero.free 1
        have y2 := h4.zero.free 2
        have y3 := h4.zero.free 3
        have y4 := h4.zero.free 4
        have y5 := h4.zero.free 5
        go_upto_region 8 with fail
        go_region
        obtain ⟨d1, d2, d3⟩ := HD.out
        have ⟨s0, s1, s2, s3, s4, s5⟩ := d1.cells
        unfold fill6 at s0 s1 s2 s3 s4 s5
        have HDD := Lib.hid (And.intro (NewX.drew d2) d3.drew)
        clear d1 d2 d3 z0 z1 z2 z3 z4 z5 y0 y1 y2 y3 y4 y5 c0 c1 c2 c3
        go_wp2_with fail
        exact bodyPost_ret (v := .tuple #[argX (kT 0) none 0, .int .i64 qq.pos, .int .i64 qq.e]) (by simp [results, Tryz.results140, go_sem, s0, s1, s2, s3, s4, s5, argX, kT, Tree.kind, Tree.set, Tree.kids, Set4.zero]) rfl (by rw [HPR.out]; exact ⟨none, 0, rfl, HDD.out.1, HDD.out.2⟩)
      · have d2 : decide ((T.2.pos : Int) < (s.size : Int)) = false := decide_eq_false (by omega)
        have hQ : Q = T.2 := by rw [HTR.out, if_neg (fun h => hl h.2)]
        have d3 : (T.2.e != 0) = false := by rw [he]; rfl
        have HP3 : Hid (P = if checkT T.1 ≠ 0 then (kT 0, s.size, checkT T.1) else (T.1, 0, 0)) := by unfold Hid; rw [HP2.out, hQ, if_neg (fun h => h he)]
        have hl2 : s.size ≤ T.2.pos := by omega
        clear hQ he hl
        have HCK : Hid (Calls Tryz.prog 184 #[.agg #[.int .i64 T.1.kind, .int .u64 T.1.set.a, .int .u64 T.1.set.b, .int .u64 T.1.set.c, .int .u64 T.1.set.d, .slice A T.1.kids.length c]] W3 fun e w' => e = .returned (.int .i64 (checkT T.1)) ∧ PaSt s w k T A c w') :=
          (Check_any2 T.1 (cellsX T.1.kind T.1.set A T.1.kids.length c) W3 (LX.lt (fun _ hb => hb.2) _ _ HPS.out.tree)).mono (fun e w' ⟨h1, h2⟩ => ⟨h1, HPS.out.more h2⟩)
        have ⟨o0, o1, o2, o3, o4, o5⟩ := (show PutX W3 k [_, _, _, _, _, _] from HPS.out.out).cells
        go_wp2_with (go_at_call 184; apply Hid.out)
        unfold Hid
        refine HCK.out.mono ?_
        rintro e w4 ⟨rfl, h4⟩
        clear c0 c1 c2 c3 o0 o1 o2 o3 o4 o5 HCK d1 d2 d3
        by_cases hce : checkT T.1 = 0
        · have d4 : (checkT T.1 != 0) = false := by rw [hce]; rfl
          have HPR : Hid (P = (T.1, 0, 0)) := by unfold Hid; rw [HP3.out, if_neg (fun h => h hce)]
          have HD : Hid (PutX (fill6 w4 w.heap.size (.int .i64 T.1.kind) (.int .u64 T.1.set.a) (.int .u64 T.1.set.b) (.int .u64 T.1.set.c) (.int .u64 T.1.set.d) (.slice A T.1.kids.length c)) w.heap.size [.int .i64 T.1.kind, .int .u64 T.1.set.a, .int .u64 T.1.set.b, .int .u64 T.1.set.c, .int .u64 T.1.set.d, .slice A T.1.kids.length c] ∧ NewX w (fill6 w4 w.heap.size (.int .i64 T.1.kind) (.int .u64 T.1.set.a) (.int .u64 T.1.set.b) (.int .u64 T.1.set.c) (.int .u64 T.1.set.d) (.slice A T.1.kids.length c)) T.1 A c ∧ Below w.heap.size w (fill6 w4 w.heap.size (.int .i64 T.1.kind) (.int .u64 T.1.set.a) (.int .u64 T.1.set.b) (.int .u64 T.1.set.c) (.int .u64 T.1.set.d) (.slice A T.1.kids.length c))) := pa_end (t := T.1) (A := A) (c := c) h4.zero h4.low (LX.keep (fun b hb => ⟨by have := hb.1; omega, hb.2⟩) (fun _ _ _ => rfl) _ _ h4.tree)
          have ⟨z0, z1, z2, z3, z4, z5⟩ := h4.zero.cells
          have y0 := h4.zero.free 0
          have y1 := h4.zero.free 1
          have y2 := h4.zero.free 2
          have y3 := h4.zero.free 3
          have y4 := h4.zero.free 4
          have y5 := h4.zero.free 5
          have ⟨o0, o1, o2, o3, o4, o5⟩ := (show PutX w4 k [_, _, _, _, _, _] from h4.out).cells
          clear h4 hce
          go_wp2_with fail
          obtain ⟨d1, d2, d3⟩ := HD.out
          have ⟨s0, s1, s2, s3, s4, s5⟩ := d1.cells
          unfold fill6 at s0 s1 s2 s3 s4 s5
          exact bodyPost_ret (v := .tuple #[argX T.1 A c, .int .i64 0, .int .i64 0]) (by simp [results, Tryz.results140, go_sem, s0, s1, s2, s3, s4, s5, argX]) rfl (by rw [HPR.out]; exact ⟨A, c, rfl, d2, d3⟩)
        · have d4 : (checkT T.1 != 0) = true := bne_iff_ne.2 hce
          have HPR : Hid (P = (kT 0, s.size, checkT T.1)) := by unfold Hid; rw [HP3.out, if_pos hce]
          have HD : Hid (PutX (fill6 w4 w.heap.size (.int .i64 0) (.int .u64 0) (.int .u64 0) (.int .u64 0) (.int .u64 0) (.slice none 0 0)) w.heap.size [.int .i64 0, .int .u64 0, .int .u64 0, .int .u64 0, .int .u64 0, .slice none 0 0] ∧ NewX w (fill6 w4 w.heap.size (.int .i64 0) (.int .u64 0) (.int .u64 0) (.int .u64 0) (.int .u64 0) (.slice none 0 0)) (kT 0) none 0 ∧ Below w.heap.size w (fill6 w4 w.heap.size (.int .i64 0) (.int .u64 0) (.int .u64 0) (.int .u64 0) (.int .u64 0) (.slice none 0 0))) := pa_end (t := (kT 0)) (A := none) (c := 0) h4.zero h4.low (LX.leaf _ _ _ _ _ _ zero_wfR)
          have ⟨z0, z1, z2, z3, z4, z5⟩ := h4.zero.cells
          have y0 := h4.zero.free 0
          have y1 := h4.zero.free 1
          have y2 := h4.zero.free 2
          have y3 := h4.zero.free 3
          have y4 := h4.zero.free 4
          have y5 := h4.zero.free 5
          clear h4 hce
          generalize checkT T.1 = ce at *
          go_wp2_with fail
          obtain ⟨d1, d2, d3⟩ := HD.out
          have ⟨s0, s1, s2, s3, s4, s5⟩ := d1.cells
          unfold fill6 at s0 s1 s2 s3 s4 s5
          exact bodyPost_ret (v := .tuple #[argX (kT 0) none 0, .int .i64 s.size, .int .i64 ce]) (by simp [results, Tryz.results140, go_sem, s0, s1, s2, s3, s4, s5, argX, kT, Tree.kind, Tree.set, Tree.kids, Set4.zero]) rfl (by rw [HPR.out]; exact ⟨none, 0, rfl, d2, d3⟩)
    · obtain ⟨qq, hqq⟩ : ∃ qq : RS, T.2 = qq := ⟨_, rfl⟩
      have h4 : PaSt s w k (T.1, qq) A c W3 := by rw [← hqq]; exact HPS.out
      have hQ : Q = T.2 := by rw [HTR.out, if_neg (fun h => he h.1)]
      have HPR : Hid (P = (kT 0, qq.pos, qq.e)) := by unfold Hid; rw [HP2.out, hQ, if_pos he, hqq]
      rw [hqq] at he
      have d1 : (qq.e == 0) = false := beq_eq_false_iff_ne.2 he
      have d3 : (qq.e != 0) = true := bne_iff_ne.2 he
      clear hQ he c0 c1 c2 c3 hqq HPS
      have ⟨c0, c1, c2, c3⟩ := h4.rd.cells
      have HD : Hid (PutX (fill6 W3 w.heap.size (.int .i64 0) (.int .u64 0) (.int .u64 0) (.int .u64 0) (.int .u64 0) (.slice none 0 0)) w.heap.size [.int .i64 0, .int .u64 0, .int .u64 0, .int .u64 0, .int .u64 0, .slice none 0 0] ∧ NewX w (fill6 W3 w.heap.size (.int .i64 0) (.int .u64 0) (.int .u64 0) (.int .u64 0) (.int .u64 0) (.slice none 0 0)) (kT 0) none 0 ∧ Below w.heap.size w (fill6 W3 w.heap.size (.int .i64 0) (.int .u64 0) (.int .u64 0) (.int .u64 0) (.int .u64 0) (.slice none 0 0))) := pa_end (t := (kT 0)) (A := none) (c := 0) h4.zero h4.low (LX.leaf _ _ _ _ _ _ zero_wfR)
      have ⟨z0, z1, z2, z3, z4, z5⟩ := h4.zero.cells
      have y0 := h4.zero.free 0
      have y1 := h4.zero.free 1
      have y2 := h4.zero.free 2
      have y3 := h4.zero.free 3
      have y4 := h4.zero.free 4
      have y5 := h4.zero.free 5
      go_upto_region 8 with fail
      go_region
      obtain ⟨d1, d2, d3⟩ := HD.out
      have ⟨s0, s1, s2, s3, s4, s5⟩ := d1.cells
      unfold fill6 at s0 s1 s2 s3 s4 s5
      have HDD := Lib.hid (And.intro (NewX.drew d2) d3.drew)
      clear d1 d2 d3 z0 z1 z2 z3 z4 z5 y0 y1 y2 y3 y4 y5 c0 c1 c2 c3
      go_wp2_with fail
      exact bodyPost_ret (v := .tuple #[argX (kT 0) none 0, .int .i64 qq.pos, .int .i64 qq.e]) (by simp [results, Tryz.results140, go_sem, s0, s1, s2, s3, s4, s5, argX, kT, Tree.kind, Tree.set, Tree.kids, Set4.zero]) rfl (by rw [HPR.out]; exact ⟨none, 0, rfl, HDD.out.1, HDD.out.2⟩)
end Go.Proofs.YthfjmlcjkbgboaaGreatDoor
namespace Go.Proofs.YthfjmlcjkbgboaaGreatDoor
open Go.RowKit
theorem alt_list (p la lb : List Ins) (x y x' y' : Ins) : ((p ++ [x] ++ la ++ [y]).set p.length x' ++ lb).set (p ++ [x] ++ la).length y' = p ++ (x' :: (la ++ y' :: lb)) := by
  have h1 : (p ++ [x] ++ la ++ [y]).set p.length x' = p ++ (x' :: la) ++ [y] := by
    rw [List.append_assoc, List.append_assoc, List.set_append_right _ _ (Nat.le_refl _), Nat.sub_self]
    simp
  have h2 : (p ++ [x] ++ la).length = (p ++ (x' :: la)).length := by simp
  rw [h1, h2, List.append_assoc, List.set_append_right _ _ (Nat.le_refl _), Nat.sub_self]
  simp
theorem alt_at (p la lb : List Ins) (x y x' : Ins) (h : (p ++ [x] ++ la).length < ((p ++ [x] ++ la ++ [y]).set p.length x' ++ lb).length) : ((p ++ [x] ++ la ++ [y]).set p.length x' ++ lb)[(p ++ [x] ++ la).length] = y := by
  rw [List.getElem_append_left (by simp), List.getElem_set_ne (by simp)]
  simp
set_option maxRecDepth 100000 in
set_option maxHeartbeats 1600000 in
theorem code_alt (S : Set4) (ta tb : Tree) (iha : CodeC ta) (ihb : CodeC tb) : CodeC (.node 5 S [ta, tb]) := by
  intro A c w B v p hB hk hO hn
  obtain ⟨bb, off, ca, cb, rfl, hbb, hca, hla, hcb, hlb⟩ := LK.two hk
  obtain ⟨A1, c1, rfl, _, _⟩ := hla.parts
  obtain ⟨A2, c2, rfl, _, _⟩ := hlb.parts
  have HA := Lib.hid (iha.call hla)
  have HB := Lib.hid (ihb.call hlb)
  have HY := Lib.hid fun W hb => six_below hcb (W := W) hb hbb
  have HX := Lib.hid fun W hb => (six_below hca (W := W) hb hbb).six
  simp only [nodes, nodesL] at hn
  obtain ⟨A0, c0, rfl, _⟩ := hO.form
  have hO2 : ∀ o, OwnP (w.alloc o) B (.slice A0 p.length c0) p := fun o => hO.below ((Below.refl _ _).alloc (Nat.le_refl _) o)
  have HBX : Hid (∀ k a b c d A n q W, Keeps (w.alloc (boxX k a b c d A n q)) W → _) := fun k a b c d A n q W h => (box_keeps h).1
  unfold boxX at HBX
  unfold argX at HA HB ⊢
  obtain ⟨a, b, c', d⟩ := S
  dsimp only [Tree.kind, Tree.set, Tree.kids, List.length_nil, List.length_cons] at HBX ⊢
  clear hk iha ihb hla hlb hcb
  have hHA := Lib.hid hO
  have i1 : IntKind.i64.wrap ((p.length : Int) + 1) = (p.length : Int) + 1 := IntWalk.i64_in _ (by omega)
  go_enter Tryz.func185, Tryz.ntmps185
  obtain ⟨x0, x1, x2, x3, x4, x5⟩ := hca.six
  clear hca
  have hq1 : bb < w.heap.size := by omega
  go_wp2_with fail
  have hbA : ∀ o, B ≤ (w.alloc o).heap.size := fun o => by simp; omega
  have HS := Lib.hid fun W hk hb => And.intro (HBX.out 5 a b c' d (some ⟨bb, off, none⟩) 2 c W hk) (HX.out W hb)
  go_region_held3 (fun w' => w'.cell? ⟨w.heap.size, 5, none⟩ = some (.slice (some ⟨bb, off, none⟩) 2 c) ∧ w'.cell? ⟨bb, off, none⟩ = some (.int .i64 ta.kind) ∧ w'.cell? ⟨bb, off + 1, none⟩ = some (.int .u64 ta.set.a) ∧ w'.cell? ⟨bb, off + 2, none⟩ = some (.int .u64 ta.set.b) ∧
      w'.cell? ⟨bb, off + 3, none⟩ = some (.int .u64 ta.set.c) ∧ w'.cell? ⟨bb, off + 4, none⟩ = some (.int .u64 ta.set.d) ∧ w'.cell? ⟨bb, off + 5, none⟩ = some (.slice A1 ta.kids.length c1))
    (first | exact HS.out _ (hkk8.trans hk1) (hbb8.trans hb1) | exact HS.out _ hkk8 hbb8 | go_keep)
    (first
      | (refine step_append_p rfl (.tmp 48) (.tmp 52) rfl B (.slice A0 p.length c0) p rfl (hO2 _).drew (hbA _) _ ⟨2, (p.length : Int) + 1, 0, .zero⟩ rfl (w.heap.size + 1) (by simp) 1 rfl (by omega) ?_; intro v8 w8 hO8 hb8 hk8 hz8; have hkk8 := Keeps.undrew (Keeps.own (hO2 _).drew hk8); have hbb8 : Below B w w8 := ((Below.refl B w).alloc hB _).drew.trans hb8)
      | (go_at_call 185; (with_reducible refine (HA.out w8 v8 (p ++ [⟨2, (p.length : Int) + 1, 0, .zero⟩]) (Nat.le_trans hB hbb8.size) hbb8 hO8 (by rw [List.length_append, List.length_singleton]; omega)).mono ?_); rintro e w1 ⟨v1, la, rfl, hc1, hO1, hb1, hk1, hz1⟩))
  rw [List.length_append, List.length_singleton] at hc1
  have hll := code_len hc1
  have hbw1 := hbb8.trans hb1
  have hkw1 := hkk8.trans hk1
  have HS0 := fun W hk hb => And.intro (HBX.out 5 a b c' d (some ⟨bb, off, none⟩) 2 c W hk) ((HY.out W hb).six)
  clear HA HS HX HBX HY hb1 hk1 hb8 hk8 x0 x1 x2 x3 x4 x5 hO8 hbA
  have hzz := hbw1.size
  have hB1 : B ≤ w1.heap.size := Nat.le_trans hB hbw1.size
  have hbl1 : bb < w1.heap.size := by omega
  obtain ⟨A1', c1', rfl, _⟩ := hO1.form
  have HL1 := Lib.hid (alt_list p la)
  have HL2 := Lib.hid (alt_at p la)
  have HM2 := Lib.hid (star_at p la ⟨2, (p.length : Int) + 1, 0, .zero⟩ ⟨3, 0, 0, .zero⟩)
  have HM4 : Hid ((p ++ [(⟨2, (p.length : Int) + 1, 0, .zero⟩ : Ins)] ++ la).length = p.length + 1 + la.length) := Lib.hid (by simp; omega)
  have HL1' := Lib.hid fun lb x' y' => HL1.out lb ⟨2, (p.length : Int) + 1, 0, .zero⟩ ⟨3, 0, 0, .zero⟩ x' y'
  have HL2' := Lib.hid fun lb x' => HL2.out lb ⟨2, (p.length : Int) + 1, 0, .zero⟩ ⟨3, 0, 0, .zero⟩ x'
  clear HL1 HL2
  generalize hM : p ++ [(⟨2, (p.length : Int) + 1, 0, .zero⟩ : Ins)] ++ la = M at HL1' HL2' HM2 HM4 hO1
  have HM3 : Hid ((M ++ [(⟨3, 0, 0, .zero⟩ : Ins)]).length = p.length + 1 + la.length + 1) := Lib.hid (by rw [List.length_append, List.length_singleton, HM4.out])
  generalize hL : M ++ [(⟨3, 0, 0, .zero⟩ : Ins)] = L at HL1' HL2' HM2 HM3
  have HHB := Lib.hid HS0
  go_wp2_with (at_builtin; refine wpList_append_p rfl _ _ rfl B _ M rfl hO1 hB1 _ ⟨3, 0, 0, .zero⟩ rfl w1.heap.size rfl 1 rfl (by rw [HM4.out]; omega) ?_; intro v2 w2 hO3 hb2 hk2 hz2; rw [hL] at hO3; have hL1 : p.length < L.length := (by rw [HM3.out]; omega); have hL2 : (p.length : Int) < (L.length : Int) := (by omega); obtain ⟨gq, cq, rfl, hgb, hgl⟩ := hO3.head (by omega); have ⟨⟨_, hq2⟩, _, hf2⟩ := hO3.ab p.length hL1; have hst := hO3.setAB p.length hL1 2 (by decide) (.int .i64 (L.length : Int)) ⟨2, (p.length : Int) + 1, (L.length : Int), .zero⟩ (by rw [HM2.out]; rfl); have hkw2 := (hkw1.trans (Keeps.own hO1 hk2)).trans (Keeps.only hO3 hst.2); have hbw2 := (hbw1.trans hb2).setCell hgb (.int .i64 (L.length : Int)) (p := ⟨gq, p.length * 7 + 2, none⟩); have ⟨f5, y0, y1, y2, y3, y4, y5⟩ := HHB.out _ hkw2 hbw2)
  have hB3 : B ≤ (w2.setCell ⟨gq, p.length * 7 + 2, none⟩ (.int .i64 (L.length : Int))).heap.size := Nat.le_trans hB hbw2.size
  have hz3 : w1.heap.size < (w2.setCell ⟨gq, p.length * 7 + 2, none⟩ (.int .i64 (L.length : Int))).heap.size := by simpa using hz2
  have HN3 : Hid ((L.set p.length ⟨2, (p.length : Int) + 1, (L.length : Int), .zero⟩).length = p.length + 1 + la.length + 1) := Lib.hid (List.length_set.trans HM3.out)
  refine (HB.out _ _ (L.set p.length ⟨2, (p.length : Int) + 1, (L.length : Int), .zero⟩) hB3 hbw2 hst.1 (by rw [HN3.out]; omega)).mono ?_
  rintro e w4 ⟨v4, lb, rfl, hc3, hO4, hb4, hk4, hz4⟩
  have hlb := code_len hc3
  have hbw4 := hbw2.trans hb4
  have hkw4 := hkw2.trans hk4
  have HN1 := Lib.hid fun y' => HL1'.out lb ⟨2, (p.length : Int) + 1, (L.length : Int), .zero⟩ y'
  have HN2 := Lib.hid (HL2'.out lb ⟨2, (p.length : Int) + 1, (L.length : Int), .zero⟩)
  have HN4 : Hid ((L.set p.length ⟨2, (p.length : Int) + 1, (L.length : Int), .zero⟩ ++ lb).length = p.length + 1 + la.length + 1 + lb.length) := Lib.hid (by rw [List.length_append, HN3.out])
  rw [HN3.out] at hc3
  clear HB HL1' HL2' HM2 HHB f5 y0 y1 y2 y3 y4 y5 hst hb4 hk4 hkw2 hbw2 hO3 hkw1 hbw1
  generalize L.set p.length ⟨2, (p.length : Int) + 1, (L.length : Int), .zero⟩ ++ lb = N at HN1 HN2 HN4 hO4
  have hJ : M.length < N.length := by rw [HN4.out, HM4.out]; omega
  have hJ2 : (M.length : Int) < (N.length : Int) := by omega
  obtain ⟨gn, cn, rfl, hgnb, hgnl⟩ := hO4.head (by omega)
  have ⟨⟨hq3, _⟩, hf3, _⟩ := hO4.ab M.length hJ
  have hst := hO4.setAB M.length hJ 1 (by decide) (.int .i64 (N.length : Int)) ⟨3, (N.length : Int), 0, .zero⟩ (by rw [HN2.out]; rfl)
  go_wp2_with fail
  go_ret
  rw [HN1.out] at hst
  refine ⟨_, _, rfl, .alt _ _ _ _ _ _ hc1 hc3, ?_, hbw4.setCell hgnb _, ((Keeps.alloc _ _).trans hkw4).trans (Keeps.only hO4 hst.2), by simp; omega⟩
  have h := hst.1
  rw [HN4.out, HM3.out] at h ⊢
  exact h
end Go.Proofs.YthfjmlcjkbgboaaGreatDoor
namespace Go.Proofs.YthfjmlcjkbgboaaGreatDoor
open Go.RowKit
theorem code_all (t : Tree) (h : Fine t) : CodeC t := by
  match t, h with
  | .node k S ts, h =>
    have hsh := fine_shape h
    match k, ts, hsh with
    | _, _, .none => exact code_app 1 S _ (.inl ⟨.inl rfl, rfl⟩) fun _ => .none _ _
    | _, _, .empty => exact code_empty S
    | _, _, .byte => exact code_app 3 S _ (.inl ⟨.inr rfl, rfl⟩) fun _ => .byte _ _
    | _, _, .cat a b ha hb => exact code_cat S a b (code_all a ha) (code_all b hb)
    | _, _, .alt a b ha hb => exact code_alt S a b (code_all a ha) (code_all b hb)
    | _, _, .star a ha => exact code_star S a (code_all a ha)
    | _, _, .begin => exact code_app 7 S _ (.inr (.inl ⟨rfl, rfl⟩)) fun _ => .begin _ _
    | _, _, .finish => exact code_app 8 S _ (.inr (.inr ⟨rfl, rfl⟩)) fun _ => .finish _ _
termination_by SizeOf.sizeOf t
mutual
theorem chk_nodes : ∀ (t : Tree) (deep n : Int), (chk t deep n).2 = 0 → (chk t deep n).1 = n + nodes t ∧ n + nodes t ≤ 80
  | .node k s ts, deep, n, h => by
    rw [chk] at h ⊢
    by_cases c1 : 80 < n + 1
    · rw [if_pos c1] at h; exact absurd (show (2 : Int) = 0 from h) (by decide)
    · rw [if_neg c1] at h ⊢
      by_cases c2 : 20 < deep
      · rw [if_pos c2] at h; exact absurd (show (11 : Int) = 0 from h) (by decide)
      · rw [if_neg c2] at h ⊢
        cases c3 : badT k s ts.length with
        | true => rw [c3, if_pos rfl] at h; exact absurd (show (1 : Int) = 0 from h) (by decide)
        | false =>
          rw [c3, if_neg (by decide)] at h
          rw [if_neg (by decide)]
          have := chkL_nodes ts _ _ h
          rw [nodes]
          exact ⟨by rw [this.1]; omega, by have := this.2 (by omega); omega⟩
theorem chkL_nodes : ∀ (ts : List Tree) (deep n : Int), (chkL ts deep n).2 = 0 → (chkL ts deep n).1 = n + nodesL ts ∧ (n ≤ 80 → n + nodesL ts ≤ 80)
  | [], _, _, _ => by rw [chkL, nodesL]; exact ⟨by simp, fun h => by simpa using h⟩
  | t :: ts, deep, n, h => by
    rw [chkL] at h ⊢
    by_cases c : (chk t deep n).2 ≠ 0
    · rw [if_pos c] at h; exact absurd h c
    · rw [if_neg c] at h ⊢
      have h1 := chk_nodes t deep n (Classical.not_not.1 c)
      have h2 := chkL_nodes ts _ _ h
      rw [nodesL]
      rw [h1.1] at h2 ⊢
      exact ⟨by rw [h2.1]; omega, fun _ => by have := h2.2 h1.2; omega⟩
end
def TMakePost (t : Tree) (w : World) (e : Ending) (w' : World) : Prop :=
  ∃ v, e = .returned (.tuple #[v, .int .i64 (checkT t)]) ∧ (checkT t ≠ 0 → v = .slice none 0 0) ∧ (checkT t = 0 → ∃ l, Code t 0 l ∧ l.length ≤ 160 ∧ OwnP w' w.heap.size v (l ++ [⟨6, 0, 0, .zero⟩])) ∧ Below w.heap.size w w'
set_option maxRecDepth 100000 in
set_option maxHeartbeats 1600000 in
theorem Make_any (t : Tree) (A : Option Addr) (c : Nat) (w : World) (h : LT w w.heap.size t (cellsX t.kind t.set A t.kids.length c)) :
    Calls Tryz.prog 141 #[argX t A c] w (TMakePost t w) := by
  have HCK : Hid (∀ W, Below w.heap.size w W → Calls Tryz.prog 184 #[argX t A c] W fun e w' => e = .returned (.int .i64 (checkT t)) ∧ Below W.heap.size W w') := fun W hb => Check_any2 t _ W ((h.below hb).more hb.size)
  have HCD : Hid (checkT t = 0 → ∀ W, Below w.heap.size w W → Calls Tryz.prog 185 #[.slice none 0 0, argX t A c] W (TCodePost t [] w.heap.size W)) := fun hc W hb => by
    have hn := (chk_nodes t 1 0 hc).2
    obtain ⟨A', c', e, _, hk⟩ := h.parts
    exact (code_all t (chk_fine t 1 0 hc)).call h W _ [] hb.size hb (OwnP.nil _ _) (by simp; omega)
  have HLN : Hid (∀ l, checkT t = 0 → Code t 0 l → l.length ≤ 160) := fun l hc hl => by
    have hn := (chk_nodes t 1 0 hc).2
    have := code_len hl
    omega
  clear h
  unfold argX at HCK HCD ⊢
  go_enter Tryz.func141, Tryz.ntmps141
  go_wp2_with fail
  refine (HCK.out _ ((Below.refl _ _).alloc (Nat.le_refl _) _)).mono ?_
  rintro e w1 ⟨rfl, hb1⟩
  have hbw : Below w.heap.size w w1 := ((Below.refl _ _).alloc (Nat.le_refl _) _).trans (hb1.mono (by simp))
  by_cases hc : checkT t = 0
  · have qc : (checkT t != 0) = false := by rw [hc]; rfl
    obtain ⟨⟨f0, f1, f2, f3, f4, f5⟩, _⟩ := box_six hb1
    go_wp2_with fail
    refine (HCD.out hc _ hbw).mono ?_
    rintro e w2 ⟨v2, l, rfl, hcl, hO2, hb2, _, _⟩
    have hll := HLN.out l hc hcl
    have hbw2 := hbw.trans hb2
    have hz2 := hbw2.size
    obtain ⟨A2, c2, rfl, _⟩ := hO2.form
    clear f0 f1 f2 f3 f4 f5
    go_wp2_with (at_builtin; refine wpList_append_p rfl (.tmp 11) (.tmp 13) rfl w.heap.size (.slice A2 ([] ++ l).length c2) ([] ++ l) rfl hO2 hz2 _ ⟨6, 0, 0, .zero⟩ rfl w2.heap.size rfl 1 rfl (by simp; omega) ?_; intro v3 w3 hO3 hb3 hk3 hz3)
    exact bodyPost_ret (v := .tuple #[v3, .int .i64 0]) (by simp [results, Tryz.results141, go_sem]) rfl ⟨v3, by rw [hc], fun h => absurd hc h, fun _ => ⟨l, hcl, hll, hO3⟩, hbw2.trans hb3⟩
  · have qc : (checkT t != 0) = true := by simpa using hc
    go_wp2_with fail
    exact bodyPost_ret (v := .tuple #[.slice none 0 0, .int .i64 (checkT t)]) (by simp [results, Tryz.results141, go_sem]) rfl ⟨_, rfl, fun _ => rfl, fun h => absurd h hc, hbw⟩
end Go.Proofs.YthfjmlcjkbgboaaGreatDoor
