/- Part 16 of the proof: lemmas and walks that the last texts use. -/
import Derived.Test.YthfjmlcjkbgboaaGreatDoorM13
import Derived.Test.YthfjmlcjkbgboaaGreatDoorM15
namespace Go.Proofs.YthfjmlcjkbgboaaGreatDoor
open Go.RowKit
/-- Where a class stands: the reader, the set so far (its block k), the result's block. -/
structure ClSt (g : Nat) (s : ByteArray) (w : World) (k : Nat) (q : RS) (F : Nat → Bool) (wr : World) : Prop where
  rd : RdAt g s q wr
  four : FourW wr k (setF F)
  zero : ZeroX wr w.heap.size
  frame : w.grownBy wr (some g)
  far : w.heap.size < k
theorem ClSt.call {g : Nat} {s : ByteArray} {w : World} {k : Nat} {q q' : RS} {F : Nat → Bool} {wr w' : World} (hg : g < w.heap.size) (h : ClSt g s w k q F wr) (e : RdEnd g s q' wr w') : ClSt g s w k q' F w' :=
  ⟨e.1, h.four.grown e.2 (by have := h.far; omega), h.zero.grown e.2 (by omega), only_trans h.frame e.2, h.far⟩
theorem ClSt.low {g : Nat} {s : ByteArray} {w : World} {k : Nat} {q : RS} {F : Nat → Bool} {wr w' : World} (h : ClSt g s w k q F wr) (hb : Below wr.heap.size wr w') : ClSt g s w k q F w' :=
  ⟨h.rd.below hb, h.four.below hb h.four.lt, (hb.block _ h.zero.lt).trans h.zero, only_trans h.frame (only_low (grown_refl wr _) hb), h.far⟩
theorem ClSt.put {g : Nat} {s : ByteArray} {w : World} {k : Nat} {q : RS} {F : Nat → Bool} {wr : World} (hg : g < w.heap.size) (h : ClSt g s w k q F wr) (F' : Nat → Bool) : ClSt g s w k q F' (fill4 wr k (setF F')) := by
  have h1 := h.far
  have hb : Below k wr (fill4 wr k (setF F')) := fill4_below (Below.refl _ _) (Nat.le_refl _) _
  have hf := fill4_four h.four (setF F')
  exact ⟨(hb.block g (by omega)).trans h.rd, hf, (hb.block _ (by omega)).trans h.zero, grown_set h.frame (by omega) hb, h1⟩
theorem ClSt.rest {g : Nat} {s : ByteArray} {w : World} {k : Nat} {q q' : RS} {F : Nat → Bool} {wr w' : World} (h : ClSt g s w k q F wr) (hr : RdAt g s q' w') (hb : wr.grownBy w' (some g)) (hg : g < w.heap.size) : ClSt g s w k q' F w' := h.call hg ⟨hr, hb⟩
def ClRel (g : Nat) (s : ByteArray) (R : (Nat → Bool) × RS) (w : World) (k : Nat) (v5 : Value) (wr : World) : Prop :=
  ∃ (n : Nat) (q : RS) (F : Nat → Bool), v5 = .int .i64 n ∧ loopL s.data.toList q (decide (n = 0)) F = R ∧ q.pos ≤ s.size ∧ n + leftC s.data.toList q ≤ s.size + 1 ∧ ClSt g s w k q F wr
set_option maxRecDepth 100000 in
set_option maxHeartbeats 6400000 in
theorem class_any (g : Nat) (s : ByteArray) (r : RS) (w : World) (h : RdAt g s r w) (hp : r.pos ≤ s.size) (hs : s.size ≤ 4096) :
    Calls Tryz.prog 311 #[.pointer (some ⟨g, 0, none⟩)] w (TxPost g s (byT (classR s.data.toList r).1, (classR s.data.toList r).2) w) := by
  have hsl : s.data.toList.length = s.size := by simp
  have hg := h.lt
  obtain ⟨W0, hW0⟩ : ∃ W0, w.alloc (.cells #[.int .i64 0, .int .u64 0, .int .u64 0, .int .u64 0, .int .u64 0, .slice none 0 0] 217) = W0 := ⟨_, rfl⟩
  have hb0 : Below w.heap.size w W0 := by rw [← hW0]; exact (Below.refl _ _).alloc (Nat.le_refl _) _
  have hz0 : ZeroX W0 w.heap.size := by rw [← hW0]; exact ZeroX.new w
  have hsz0 : W0.heap.size = w.heap.size + 1 := by rw [← hW0]; simp
  have hr0 := h.below hb0
  have HT0 := Lib.hid (take_any g s r 94 W0 hr0 hp hs)
  have ht := take_step (s := s.data.toList) (r := r) (by omega) (b := 94) (by decide)
  have HC0 : Hid (∀ w1, RdEnd g s (takeR s.data.toList r 94).2 W0 w1 → ClSt g s w w1.heap.size (takeR s.data.toList r 94).2 (fun _ => false) (w1.alloc (.cells #[.int .u64 0, .int .u64 0, .int .u64 0, .int .u64 0] 214))) := by
    intro w1 h1
    have hsz := h1.2.size
    have hal : Below w1.heap.size w1 (w1.alloc (.cells #[.int .u64 0, .int .u64 0, .int .u64 0, .int .u64 0] 214)) := (Below.refl _ _).alloc (Nat.le_refl _) _
    exact ⟨h1.1.below hal, FourW.new w1, (hal.block _ (by omega)).trans (hz0.grown h1.2 (by omega)), only_trans (only_low (grown_refl w _) hb0) (only_low h1.2 (hal.mono hsz)), by omega⟩
  have HCL : Hid (classR s.data.toList r = (classF s.data.toList r, (takeR s.data.toList (classE s.data.toList r) 93).2)) := rfl
  have HLE : Hid (classE s.data.toList r = if setF (classF s.data.toList r) = .zero then failR (loopL s.data.toList (takeR s.data.toList r 94).2 true fun _ => false).2 3 else (loopL s.data.toList (takeR s.data.toList r 94).2 true fun _ => false).2) := rfl
  have HLF : Hid (classF s.data.toList r = fun x => if (takeR s.data.toList r 94).1 = true then !(loopL s.data.toList (takeR s.data.toList r 94).2 true fun _ => false).1 x else (loopL s.data.toList (takeR s.data.toList r 94).2 true fun _ => false).1 x) := rfl
  have hr1 : (takeR s.data.toList r 94).2.pos ≤ s.size := by have := ht.1.inn; omega
  have HLS := Lib.hid (loop_step (s := s.data.toList) _ (takeR s.data.toList r 94).2 true (fun _ => false) (Nat.le_refl _) (by omega)).inn
  generalize hCL : classR s.data.toList r = CL at *
  generalize hLE : classE s.data.toList r = LE at *
  generalize hLF : classF s.data.toList r = LF at *
  generalize hL : loopL s.data.toList (takeR s.data.toList r 94).2 true (fun _ => false) = L at *
  have HL := Lib.hid hL
  generalize takeR s.data.toList r 94 = T at *
  have HW0 := Lib.hid hW0
  clear h hb0 hz0 hsz0 hr0 ht hW0 hCL hLE hLF hL
  go_enter Tryz.func311, Tryz.ntmps311
  go_upto_region 1 with fail
  rw [HW0.out]
  go_wp2_with (go_at_call 226; apply Hid.out)
  unfold Hid
  refine HT0.out.mono ?_
  rintro e w1 ⟨rfl, h1⟩
  have HC := Lib.hid (HC0.out w1 h1)
  clear h1 HC0
  go_upto_region 3 with fail
  generalize hW1 : w1.alloc (.cells #[.int .u64 0, .int .u64 0, .int .u64 0, .int .u64 0] 214) = W1 at *
  clear hW1
  generalize w1.heap.size = k at *
  have HS : Hid (ClRel g s L w k (.int .i64 (0 : Nat)) W1) := ⟨0, T.2, fun _ => false, rfl, HL.out, hr1, by unfold leftC; split <;> omega, HC.out⟩
  clear HC
  go_wp2_with fail
  go_loopw [5] (fun v5 wr => ClRel g s L w k v5 wr) (fun v5 _ => s.size + 2 - (intOf v5).toNat)
  case atStart => exact HS.out
  case round =>
    obtain ⟨n, q, F, rfl, hLq, hq, hn, hC⟩ := hrel
    have hLE2 := loop_eq (s := s.data.toList) (r := q) (first := decide (n = 0)) (F := F) (by omega)
    rw [hLq] at hLE2
    have HLQ := Lib.hid hLE2
    have HCS := Lib.hid hC
    have ⟨c0, c1, c2, c3⟩ := hC.rd.cells
    have HNX := Lib.hid (next_quiet g s q wr hC.rd hq)
    have hst := round_step (s := s.data.toList) (r := q) (by omega)
    have hless := fun he => left_less (s := s.data.toList) (r := q) (by omega) he
    have HRS := Lib.hid (And.intro hst hless)
    -- ROUND
    clear hLE2 hLq hC hst hless
    by_cases he : q.e = 0
    · have d1 : (q.e == 0) = true := by rw [he]; rfl
      by_cases h0 : n = 0
      · have d2 : ((n : Int) == 0) = true := by rw [h0]; rfl
        have hcc : q.e = 0 ∧ (decide (n = 0) = true ∨ nextR s.data.toList q ≠ 93) := ⟨he, .inl (decide_eq_true h0)⟩
        clear he h0
        go_upto_region 6 with fail
        have hC2 := HCS.out
        obtain ⟨w2, rfl⟩ : ∃ w2 : World, w2 = wr := ⟨_, rfl⟩
        clear c0 c1 c2 c3 HCS d1 d2
        have hLN : loopL s.data.toList (roundC s.data.toList q).2 false (fun x => F x || (roundC s.data.toList q).1 x) = L := by rw [HLQ.out, if_pos hcc]
        have hn1 : n ≤ s.size := by unfold leftC at hn; rw [if_pos hcc.1] at hn; omega
        have HEND : Hid (∀ W, ClSt g s w k (roundC s.data.toList q).2 (fun x => F x || (roundC s.data.toList q).1 x) W → ClRel g s L w k (.int .i64 ((n : Int) + 1)) W) := fun W hW =>
          ⟨n + 1, _, _, by rw [Int.natCast_succ], by rw [decide_eq_false (by omega)]; exact hLN, by have := HRS.out.1.1.inn; omega, by have := HRS.out.2 hcc.1; omega, hW⟩
        have i7 : IntKind.i64.wrap ((n : Int) + 1) = (n : Int) + 1 := IntWalk.i64_in _ (by omega)
        have hkk := hC2.four.lt
        obtain ⟨SF, hSF⟩ : ∃ SF, setF F = SF := ⟨_, rfl⟩
        have HUN : Hid (∀ (f : Nat → Bool) (Sf : Set4) (qq : RS) W, setF f = Sf → ClSt g s w k qq F W → Calls Tryz.prog 318 #[.agg #[.int .u64 SF.a, .int .u64 SF.b, .int .u64 SF.c, .int .u64 SF.d], .agg #[.int .u64 Sf.a, .int .u64 Sf.b, .int .u64 Sf.c, .int .u64 Sf.d]] W fun e w' => ∃ Su, e = .returned (.agg #[.int .u64 Su.a, .int .u64 Su.b, .int .u64 Su.c, .int .u64 Su.d]) ∧ setF (fun x => F x || f x) = Su ∧ ClSt g s w k qq F w') := fun f Sf qq W hf hW => by
          have := union_any F f W
          rw [hf, hSF] at this
          exact this.mono (fun e w' ⟨h1, h2⟩ => ⟨_, h1, rfl, hW.low h2⟩)
        have hgs := group_step (s := s.data.toList) (r := q) (by omega)
        cases hgr : (groupR s.data.toList q).1 with
        | some f =>
          have hrc : roundC s.data.toList q = (f, (groupR s.data.toList q).2) := by unfold roundC; rw [hgr]
          obtain ⟨Sf, hSf⟩ : ∃ Sf, setF f = Sf := ⟨_, rfl⟩
          have HG : Hid (Calls Tryz.prog 312 #[.pointer (some ⟨g, 0, none⟩)] w2 fun e w' => e = .returned (.tuple #[.agg #[.int .u64 Sf.a, .int .u64 Sf.b, .int .u64 Sf.c, .int .u64 Sf.d], .bool true]) ∧ ClSt g s w k (groupR s.data.toList q).2 F w') :=
            (group_any g s q w2 hC2.rd hq hs).mono (fun e w' ⟨h1, h2⟩ => ⟨by rw [h1, hgr]; dsimp only; rw [hSf]; rfl, hC2.call hg h2⟩)
          rw [hrc] at HEND
          clear hLN hgs hgr hrc HLQ HRS HNX
          go_wp2_with (go_at_call 312; apply Hid.out)
          unfold Hid
          refine HG.out.mono ?_
          rintro e w3 ⟨rfl, hC3⟩
          have hC4 := hC3.low ((Below.refl w3.heap.size w3).alloc (Nat.le_refl _) (.cells #[.int .u64 Sf.a, .int .u64 Sf.b, .int .u64 Sf.c, .int .u64 Sf.d] 214))
          have hF4 : FourW (w3.alloc (.cells #[.int .u64 Sf.a, .int .u64 Sf.b, .int .u64 Sf.c, .int .u64 Sf.d] 214)) w3.heap.size Sf := heap_alloc_new w3 _
          go_upto_region 8 with fail
          generalize w3.alloc (.cells #[.int .u64 Sf.a, .int .u64 Sf.b, .int .u64 Sf.c, .int .u64 Sf.d] 214) = W4 at *
          have ⟨c0, c1, c2, c3⟩ := (show FourW W4 k SF from by rw [← hSF]; exact hC4.four).cells
          have ⟨d0, d1, d2, d3⟩ := hF4.cells
          have HU := Lib.hid (HUN.out f Sf _ W4 hSf hC4)
          clear hC4 hF4 hC3
          go_wp2_with (go_at_call 318; apply Hid.out)
          unfold Hid
          refine HU.out.mono ?_
          rintro e w5 ⟨Su, rfl, hSu, hC5⟩
          have HPUT := Lib.hid (HEND.out _ (hC5.put hg (fun x => F x || f x)))
          rw [hSu] at HPUT
          have ⟨c0, c1, c2, c3⟩ := (show FourW w5 k SF from by rw [← hSF]; exact hC5.four).cells
          have f0 := hC5.four.free 0
          have f1 := hC5.four.free 1
          have f2 := hC5.four.free 2
          have f3 := hC5.four.free 3
          clear hC5 hSu HEND HUN hSf
          go_wp2_with fail
          exact ⟨HPUT.out, by dsimp only [intOf]; omega⟩
        | none =>
          have hgq : (groupR s.data.toList q).2 = q := hgs.2.1 hgr
          have hch := char_step (s := s.data.toList) (r := q) (by omega)
          obtain ⟨C, hC⟩ : ∃ C, charR s.data.toList q = C := ⟨_, rfl⟩
          rw [hC] at hch
          have hlo2 : 0 ≤ C.1 ∧ C.1 < 256 := ⟨by omega, by omega⟩
          have htk := take_step (s := s.data.toList) (r := C.2) hch.1.inn (b := 45) (by decide)
          obtain ⟨T2, hT2⟩ : ∃ T2, takeR s.data.toList C.2 45 = T2 := ⟨_, rfl⟩
          rw [hT2] at htk
          have hdh := char_step (s := s.data.toList) (r := T2.2) htk.1.inn
          obtain ⟨D, hD⟩ : ∃ D, charR s.data.toList T2.2 = D := ⟨_, rfl⟩
          rw [hD] at hdh
          have hhi2 : 0 ≤ D.1 ∧ D.1 < 256 := ⟨by omega, by omega⟩
          have hp1 : C.2.pos ≤ s.size := by have := hch.1.inn; omega
          have hp2 : T2.2.pos ≤ s.size := by have := htk.1.inn; omega
          have HRC : Hid (roundC s.data.toList q = if T2.1 = true then (rgF C.1.toNat D.1.toNat, if D.1 < C.1 ∧ D.2.e = 0 then failR { D.2 with pos := T2.2.pos } 3 else D.2) else (rgF C.1.toNat C.1.toNat, T2.2)) := by
            unfold Hid roundC
            rw [hgr]
            dsimp only
            rw [hC, hT2, hD]
          have HG : Hid (Calls Tryz.prog 312 #[.pointer (some ⟨g, 0, none⟩)] w2 fun e w' => e = .returned (.tuple #[.agg #[.int .u64 0, .int .u64 0, .int .u64 0, .int .u64 0], .bool false]) ∧ ClSt g s w k q F w') :=
            (group_any g s q w2 hC2.rd hq hs).mono (fun e w' ⟨h1, h2⟩ => ⟨by rw [h1, hgr]; rfl, by rw [← hgq]; exact hC2.call hg h2⟩)
          have HCH : Hid (∀ W, ClSt g s w k q F W → Calls Tryz.prog 313 #[.pointer (some ⟨g, 0, none⟩)] W fun e w' => e = .returned (.int .i64 C.1) ∧ ClSt g s w k C.2 F w') := fun W hW =>
            (rchar_any g s q W hW.rd hq hs).mono (fun e w' ⟨h1, h2⟩ => ⟨by rw [h1, hC], by rw [hC] at h2; exact hW.call hg h2⟩)
          have HTK : Hid (∀ W, ClSt g s w k C.2 F W → Calls Tryz.prog 226 #[.pointer (some ⟨g, 0, none⟩), .int .i64 45] W fun e w' => e = .returned (.bool T2.1) ∧ ClSt g s w k T2.2 F w') := fun W hW =>
            (take_any g s C.2 45 W hW.rd hp1 hs).mono (fun e w' ⟨h1, h2⟩ => ⟨by rw [h1, hT2], by rw [hT2] at h2; exact hW.call hg h2⟩)
          have HCD : Hid (∀ W, ClSt g s w k T2.2 F W → Calls Tryz.prog 313 #[.pointer (some ⟨g, 0, none⟩)] W fun e w' => e = .returned (.int .i64 D.1) ∧ ClSt g s w k D.2 F w') := fun W hW =>
            (rchar_any g s T2.2 W hW.rd hp2 hs).mono (fun e w' ⟨h1, h2⟩ => ⟨by rw [h1, hD], by rw [hD] at h2; exact hW.call hg h2⟩)
          have HFL : Hid (∀ (qq : RS) W, ClSt g s w k qq F W → Calls Tryz.prog 183 #[.pointer (some ⟨g, 0, none⟩), .int .i64 3] W fun e w' => e = .returned (.tuple #[]) ∧ ClSt g s w k (failR qq 3) F w') := fun qq W hW =>
            (fail_any g s qq 3 W hW.rd).mono (fun e w' ⟨h1, h2⟩ => ⟨h1, hW.call hg h2⟩)
          clear hLN hgs hgr hgq hch hC htk hT2 hdh hD HLQ HRS HNX
          go_wp2_with (go_at_call 312; apply Hid.out)
          unfold Hid
          refine HG.out.mono ?_
          rintro e w3 ⟨rfl, hC3⟩
          have HC4 := Lib.hid (hC3.low ((Below.refl w3.heap.size w3).alloc (Nat.le_refl _) (.cells #[.int .u64 0, .int .u64 0, .int .u64 0, .int .u64 0] 214)))
          clear hC3
          go_upto_region 9 with fail
          generalize w3.alloc (.cells #[.int .u64 0, .int .u64 0, .int .u64 0, .int .u64 0] 214) = W4 at *
          have HCH1 := Lib.hid (HCH.out W4 HC4.out)
          go_wp2_with (go_at_call 313; apply Hid.out)
          unfold Hid
          refine HCH1.out.mono ?_
          rintro e w5 ⟨rfl, hC5⟩
          have HTK1 := Lib.hid (HTK.out w5 hC5)
          clear hC5 HCH HCH1 HTK HC4
          go_wp2_with (go_at_call 226; apply Hid.out)
          unfold Hid
          refine HTK1.out.mono ?_
          rintro e w6 ⟨rfl, hC6⟩
          have HC6 := Lib.hid hC6
          have ⟨c0, c1, c2, c3⟩ := hC6.rd.cells
          clear hC6 HTK1
          go_upto_if 42 with fail
          obtain ⟨ct, hct⟩ : ∃ ct, T2.1 = ct := ⟨_, rfl⟩
          rw [hct]
          rw [hct] at HRC
          have HCT := Lib.hid hct
          clear hct
          go_cut [8, 9] from 13 to 69 (fun v8 v9 wx => v8 = .int .i64 C.1 ∧ v9 = .int .i64 (if ct = true then D.1 else C.1) ∧ ClSt g s w k (roundC s.data.toList q).2 F wx)
          case first =>
            cases ct with
            | true =>
              rw [if_pos rfl] at HRC
              have HCD1 := Lib.hid (HCD.out w6 HC6.out)
              go_wp2_with (go_at_call 313; apply Hid.out)
              unfold Hid
              refine HCD1.out.mono ?_
              rintro e w7 ⟨rfl, hC7⟩
              have HC7 := Lib.hid hC7
              have ⟨c0, c1, c2, c3⟩ := hC7.rd.cells
              have f1 := hC7.rd.free 1
              clear hC7 HCD1 HCD
              by_cases hlt : D.1 < C.1
              · have d1 : decide (D.1 < C.1) = true := decide_eq_true hlt
                by_cases hde : D.2.e = 0
                · have d2 : (D.2.e == 0) = true := by rw [hde]; rfl
                  rw [if_pos ⟨hlt, hde⟩] at HRC
                  have hrd8 : RdEnd g s { D.2 with pos := T2.2.pos } w7 (w7.setCell ⟨g, 1, none⟩ (.int .i64 (T2.2.pos : Nat))) := ⟨HC7.out.rd.setPos _, only_setCell (grown_refl w7 _) 1 _⟩
                  have HC8 := Lib.hid (HFL.out _ _ (HC7.out.call hg hrd8))
                  clear hrd8 hlt hde
                  go_wp2_with (go_at_call 183; apply Hid.out)
                  unfold Hid
                  refine HC8.out.mono ?_
                  rintro e w8 ⟨rfl, hC8⟩
                  go_wp2_with fail
                  go_meet
                  exact ⟨rfl, rfl, by rw [HRC.out]; exact hC8⟩
                · have d2 : (D.2.e == 0) = false := beq_eq_false_iff_ne.2 hde
                  rw [if_neg (fun h => hde h.2)] at HRC
                  clear hlt hde
                  go_wp2_with fail
                  go_meet
                  exact ⟨rfl, rfl, by rw [HRC.out]; exact HC7.out⟩
              · have d1 : decide (D.1 < C.1) = false := decide_eq_false hlt
                rw [if_neg (fun h => hlt h.1)] at HRC
                clear hlt
                go_wp2_with fail
                go_meet
                exact ⟨rfl, rfl, by rw [HRC.out]; exact HC7.out⟩
            | false =>
              rw [if_neg (by decide)] at HRC
              go_wp2_with fail
              go_meet
              exact ⟨rfl, rfl, by rw [HRC.out]; exact HC6.out⟩
          case rest =>
            obtain ⟨rfl, rfl, hC8⟩ := hcut
            obtain ⟨lo, hlo⟩ : ∃ lo : Nat, C.1 = lo := ⟨C.1.toNat, by omega⟩
            obtain ⟨hv, hhv⟩ : ∃ hv : Nat, (if ct = true then D.1 else C.1) = hv := ⟨(if ct = true then D.1 else C.1).toNat, by cases ct; exact (Int.toNat_of_nonneg hlo2.1).symm; exact (Int.toNat_of_nonneg hhi2.1).symm⟩
            have hv2 : hv < 256 := by have : ((hv : Nat) : Int) < 256 := by (rw [← hhv]; cases ct; exact hlo2.2; exact hhi2.2)
                                      omega
            have hrf : (roundC s.data.toList q).1 = rgF lo hv := by
              rw [HRC.out]
              have e1 : C.1.toNat = lo := by omega
              have e2 : (if ct = true then D.1 else C.1).toNat = hv := by omega
              cases ct
              · have e3 : C.1.toNat = hv := e2
                rw [if_neg (by decide)]; show rgF C.1.toNat C.1.toNat = _; rw [← e1, ← e3]
              · have e3 : D.1.toNat = hv := e2
                rw [if_pos rfl]; show rgF C.1.toNat D.1.toNat = _; rw [← e1, ← e3]
            rw [hhv, hlo]
            rw [hrf] at HEND
            obtain ⟨Q, hQ⟩ : ∃ Q, (roundC s.data.toList q).2 = Q := ⟨_, rfl⟩
            rw [hQ] at hC8 HEND
            obtain ⟨Sr, hSr⟩ : ∃ Sr, setF (rgF lo hv) = Sr := ⟨_, rfl⟩
            have HRG : Hid (∀ W, Below wc.heap.size wc W → Calls Tryz.prog 193 #[.int .i64 (lo : Int), .int .i64 (hv : Int)] W fun e w' => e = .returned (.agg #[.int .u64 Sr.a, .int .u64 Sr.b, .int .u64 Sr.c, .int .u64 Sr.d]) ∧ ClSt g s w k Q F w') := fun W hW => by
              have := Range_all lo hv hv2 W
              rw [hSr] at this
              exact this.mono (fun e w' ⟨h1, h2⟩ => ⟨h1, (hC8.low hW).low h2⟩)
            have ⟨c0, c1, c2, c3⟩ := (show FourW wc k SF from by rw [← hSF]; exact hC8.four).cells
            clear HCD HFL HCT HRC hhv hrf hQ HC6 hlo hlo2 hhi2
            go_upto_region 17 with fail
            go_region_with (first
              | (go_at_call 193; (with_reducible refine (HRG.out _ ?_).mono ?_); (first | exact Below.refl _ _ | exact (Below.refl _ _).drew); rintro e w8 ⟨rfl, hC9⟩; have HC9 := Lib.hid hC9; have ⟨c0, c1, c2, c3⟩ := (show FourW w8 k SF from by rw [← hSF]; exact hC9.four).cells; clear hC9)
              | (go_at_call 318; (refine (HUN.out (rgF lo hv) Sr Q w8 hSr HC9.out).mono ?_); rintro e w9 ⟨Su, rfl, hSu, hC10⟩; have HPUT := Lib.hid (HEND.out _ (hC10.put hg (fun x => F x || rgF lo hv x))); rw [hSu] at HPUT; have ⟨c0, c1, c2, c3⟩ := (show FourW w9 k SF from by rw [← hSF]; exact hC10.four).cells; have f0 := hC10.four.free 0; have f1 := hC10.four.free 1; have f2 := hC10.four.free 2; have f3 := hC10.four.free 3; clear hC10 hSu))
            all_goals
              clear HRG HUN hC8
              go_wp2_with fail
              go_roundw
              case measure => dsimp only [intOf]; omega
              case rel => exact HPUT.out
      · have d2 : ((n : Int) == 0) = false := beq_eq_false_iff_ne.2 (by omega)
        by_cases h9 : nextR s.data.toList q = 93
        · have d3 : (nextR s.data.toList q != 93) = false := by rw [h9]; rfl
          have hcc : ¬ (q.e = 0 ∧ (decide (n = 0) = true ∨ nextR s.data.toList q ≠ 93)) := fun h => by rcases h.2 with h | h; exact h0 (of_decide_eq_true h); exact h h9
          clear he h0 h9
          go_wp2_with (go_at_call 254; apply Hid.out)
          unfold Hid
          refine HNX.out.mono ?_
          rintro e w9 ⟨rfl, m, rfl⟩
          have hC2 := HCS.out.low (below_drewN (Below.refl _ _) m)
          go_upto_region 18 with fail
          generalize wr.drewN m = w2 at *
          clear c0 c1 c2 c3 HCS d1 d2 d3
          have hLX : L = (F, q) := by rw [HLQ.out, if_neg hcc]
          have HFL : Hid (∀ (qq : RS) (G : Nat → Bool) W, ClSt g s w k qq G W → Calls Tryz.prog 183 #[.pointer (some ⟨g, 0, none⟩), .int .i64 3] W fun e w' => e = .returned (.tuple #[]) ∧ ClSt g s w k (failR qq 3) G w') := fun qq G W hW =>
            (fail_any g s qq 3 W hW.rd).mono (fun e w' ⟨h1, h2⟩ => ⟨h1, hW.call hg h2⟩)
          clear HRS HNX hn
          rw [hLX] at HLE HLF HLS
          obtain ⟨ct, hct⟩ : ∃ ct, T.1 = ct := ⟨_, rfl⟩
          rw [hct] at HLF
          obtain ⟨SF, hSF⟩ : ∃ SF, setF F = SF := ⟨_, rfl⟩
          have HSF := Lib.hid hSF
          obtain ⟨SL, hSL⟩ : ∃ SL, setF LF = SL := ⟨_, rfl⟩
          have HSL := Lib.hid hSL
          rw [hSL] at HLE
          have hset : SL = if ct = true then setF (fun x => !F x) else SF := by
            rw [← hSL, HLF.out]
            cases ct
            · rw [if_neg (by decide)]; rw [← hSF]; rfl
            · rw [if_pos rfl]; rfl
          have HSET := Lib.hid hset
          have HC2 := Lib.hid hC2
          have hkw := hC2.far
          clear hSF hSL hset hC2
          go_upto_if 70 with fail
          rw [hct]
          clear hct
          go_cut [4] from 70 to 81 (fun v4 wx => v4 = .pointer (some ⟨k, 0, none⟩) ∧ ClSt g s w k q LF wx)
          case first =>
            have ⟨c0, c1, c2, c3⟩ := (show FourW w2 k SF from by rw [← HSF.out]; exact HC2.out.four).cells
            cases ct with
            | true =>
              have HNT : Hid (Calls Tryz.prog 309 #[.agg #[.int .u64 SF.a, .int .u64 SF.b, .int .u64 SF.c, .int .u64 SF.d]] w2 fun e w' => e = .returned (.agg #[.int .u64 SL.a, .int .u64 SL.b, .int .u64 SL.c, .int .u64 SL.d]) ∧ Below w2.heap.size w2 w') := by
                have := rnot_any F w2
                rw [HSF.out] at this
                have e2 := HSET.out
                rw [if_pos rfl] at e2
                rw [← e2] at this
                exact this
              go_wp2_with (go_at_call 309; apply Hid.out)
              unfold Hid
              refine HNT.out.mono ?_
              rintro e w3 ⟨rfl, hb3⟩
              have h3 := HC2.out.low hb3
              have ⟨c0, c1, c2, c3⟩ := (show FourW w3 k SF from by rw [← HSF.out]; exact h3.four).cells
              have f0 := h3.four.free 0
              have f1 := h3.four.free 1
              have f2 := h3.four.free 2
              have f3 := h3.four.free 3
              have HP := Lib.hid (h3.put hg LF)
              rw [HSL.out] at HP
              clear hb3 h3
              go_wp2_with fail
              go_meet
              exact ⟨rfl, HP.out⟩
            | false =>
              have HCL2 : Hid (ClSt g s w k q LF w2) := by
                have e2 := HSET.out
                rw [if_neg (by decide)] at e2
                exact ⟨HC2.out.rd, by rw [HSL.out, e2, ← HSF.out]; exact HC2.out.four, HC2.out.zero, HC2.out.frame, HC2.out.far⟩
              clear c0 c1 c2 c3
              go_wp2_with fail
              go_meet
              exact ⟨rfl, HCL2.out⟩
          case rest =>
            obtain ⟨rfl, hC3⟩ := hcut
            have HC3 := Lib.hid hC3
            have ⟨c0, c1, c2, c3⟩ := (show FourW wc k SL from by rw [← HSL.out]; exact hC3.four).cells
            have hse : ∀ W, _ := fun W => run_set_eql SL Set4.zero W
            unfold setV Set4.zero at hse
            dsimp only at hse
            clear hC3 HC2 HSET
            go_upto_if 75 with fail
            obtain ⟨cz, hcz⟩ : ∃ cz, sameB SL ⟨0, 0, 0, 0⟩ = cz := ⟨_, rfl⟩
            rw [hcz]
            have HCZ : Hid (decide (SL = Set4.zero) = cz) := hcz
            clear hcz hse
            go_cut [4] from 73 to 81 (fun v4 wx => v4 = .pointer (some ⟨k, 0, none⟩) ∧ ClSt g s w k LE LF wx)
            case first =>
              cases cz with
              | true =>
                have hz : SL = Set4.zero := of_decide_eq_true HCZ.out
                have HLE2 : Hid (LE = failR q 3) := by unfold Hid; rw [HLE.out, if_pos hz]
                have HF1 := Lib.hid (HFL.out q LF wc HC3.out)
                clear hz
                go_wp2_with (go_at_call 183; apply Hid.out)
                unfold Hid
                refine HF1.out.mono ?_
                rintro e w4 ⟨rfl, h4⟩
                go_wp2_with fail
                go_meet
                exact ⟨rfl, by rw [HLE2.out]; exact h4⟩
              | false =>
                have hz : ¬ SL = Set4.zero := of_decide_eq_false HCZ.out
                have HLE2 : Hid (LE = q) := by unfold Hid; rw [HLE.out, if_neg hz]
                clear hz
                go_wp2_with fail
                go_meet
                exact ⟨rfl, by rw [HLE2.out]; exact HC3.out⟩
            case rest =>
              obtain ⟨rfl, hC4⟩ := hcut
              have hlp : LE.pos ≤ s.size := by
                have h1 : (failR q 3).pos = q.pos := (failR_facts q 3 (by decide)).1
                have h2 : LE.pos = q.pos := by rw [HLE.out]; split; exact h1; rfl
                omega
              have HT4 : Hid (Calls Tryz.prog 226 #[.pointer (some ⟨g, 0, none⟩), .int .i64 93] wc fun e w' => e = .returned (.bool (takeR s.data.toList LE 93).1) ∧ ClSt g s w k (takeR s.data.toList LE 93).2 LF w') :=
                (take_any g s LE 93 wc hC4.rd hlp hs).mono (fun e w' ⟨h1, h2⟩ => ⟨h1, hC4.call hg h2⟩)
              clear hC4 HC3 hlp
              go_wp2_with (go_at_call 226; apply Hid.out)
              unfold Hid
              refine HT4.out.mono ?_
              rintro e w5 ⟨rfl, h5⟩
              have ⟨c0, c1, c2, c3⟩ := (show FourW w5 k SL from by rw [← HSL.out]; exact h5.four).cells
              have ⟨z0, z1, z2, z3, z4, z5⟩ := h5.zero.cells
              have y0 := h5.zero.free 0
              have y1 := h5.zero.free 1
              have y2 := h5.zero.free 2
              have y3 := h5.zero.free 3
              have y4 := h5.zero.free 4
              have y5 := h5.zero.free 5
              have HX := Lib.hid (h5.zero.fill (.int .i64 3) (.int .u64 SL.a) (.int .u64 SL.b) (.int .u64 SL.c) (.int .u64 SL.d) (.slice none 0 0))
              have hb6 : Below w.heap.size w5 (fill6 w5 w.heap.size (.int .i64 3) (.int .u64 SL.a) (.int .u64 SL.b) (.int .u64 SL.c) (.int .u64 SL.d) (.slice none 0 0)) := fill6_below (Below.refl _ _) (Nat.le_refl _) _ _ _ _ _ _
              have HENDR : Hid (RdEnd g s CL.2 w (fill6 w5 w.heap.size (.int .i64 3) (.int .u64 SL.a) (.int .u64 SL.b) (.int .u64 SL.c) (.int .u64 SL.d) (.slice none 0 0))) := by
                unfold Hid
                rw [HCL.out]
                exact ⟨(hb6.block g hg).trans h5.rd, grown_set h5.frame (Nat.le_refl _) hb6⟩
              have HBY : Hid (byT CL.1 = .node 3 SL []) := by unfold Hid; rw [HCL.out]; unfold byT; rw [HSL.out]
              have hwf : SL.Wf := by rw [← HSL.out]; exact setF_wf LF
              clear h5 hb6 HT4
              go_wp2_with fail
              have ⟨s0, s1, s2, s3, s4, s5⟩ := HX.out.cells
              unfold fill6 at s0 s1 s2 s3 s4 s5
              exact bodyPost_ret (v := argX (.node 3 SL []) none 0) (by simp [results, Tryz.results311, go_sem, s0, s1, s2, s3, s4, s5, argX, Tree.kind, Tree.set, Tree.kids]) rfl (by rw [HBY.out]; exact ⟨none, 0, rfl, LX.leaf _ _ _ _ _ _ hwf, HENDR.out⟩)
        · have d3 : (nextR s.data.toList q != 93) = true := bne_iff_ne.2 h9
          have hcc : q.e = 0 ∧ (decide (n = 0) = true ∨ nextR s.data.toList q ≠ 93) := ⟨he, .inr h9⟩
          clear he h0 h9
          go_wp2_with (go_at_call 254; apply Hid.out)
          unfold Hid
          refine HNX.out.mono ?_
          rintro e w9 ⟨rfl, m, rfl⟩
          have hC2 := HCS.out.low (below_drewN (Below.refl _ _) m)
          go_upto_region 6 with fail
          generalize wr.drewN m = w2 at *
          clear c0 c1 c2 c3 HCS d1 d2 d3
          have hLN : loopL s.data.toList (roundC s.data.toList q).2 false (fun x => F x || (roundC s.data.toList q).1 x) = L := by rw [HLQ.out, if_pos hcc]
          have hn1 : n ≤ s.size := by unfold leftC at hn; rw [if_pos hcc.1] at hn; omega
          have HEND : Hid (∀ W, ClSt g s w k (roundC s.data.toList q).2 (fun x => F x || (roundC s.data.toList q).1 x) W → ClRel g s L w k (.int .i64 ((n : Int) + 1)) W) := fun W hW =>
            ⟨n + 1, _, _, by rw [Int.natCast_succ], by rw [decide_eq_false (by omega)]; exact hLN, by have := HRS.out.1.1.inn; omega, by have := HRS.out.2 hcc.1; omega, hW⟩
          have i7 : IntKind.i64.wrap ((n : Int) + 1) = (n : Int) + 1 := IntWalk.i64_in _ (by omega)
          have hkk := hC2.four.lt
          obtain ⟨SF, hSF⟩ : ∃ SF, setF F = SF := ⟨_, rfl⟩
          have HUN : Hid (∀ (f : Nat → Bool) (Sf : Set4) (qq : RS) W, setF f = Sf → ClSt g s w k qq F W → Calls Tryz.prog 318 #[.agg #[.int .u64 SF.a, .int .u64 SF.b, .int .u64 SF.c, .int .u64 SF.d], .agg #[.int .u64 Sf.a, .int .u64 Sf.b, .int .u64 Sf.c, .int .u64 Sf.d]] W fun e w' => ∃ Su, e = .returned (.agg #[.int .u64 Su.a, .int .u64 Su.b, .int .u64 Su.c, .int .u64 Su.d]) ∧ setF (fun x => F x || f x) = Su ∧ ClSt g s w k qq F w') := fun f Sf qq W hf hW => by
            have := union_any F f W
            rw [hf, hSF] at this
            exact this.mono (fun e w' ⟨h1, h2⟩ => ⟨_, h1, rfl, hW.low h2⟩)
          have hgs := group_step (s := s.data.toList) (r := q) (by omega)
          cases hgr : (groupR s.data.toList q).1 with
          | some f =>
            have hrc : roundC s.data.toList q = (f, (groupR s.data.toList q).2) := by unfold roundC; rw [hgr]
            obtain ⟨Sf, hSf⟩ : ∃ Sf, setF f = Sf := ⟨_, rfl⟩
            have HG : Hid (Calls Tryz.prog 312 #[.pointer (some ⟨g, 0, none⟩)] w2 fun e w' => e = .returned (.tuple #[.agg #[.int .u64 Sf.a, .int .u64 Sf.b, .int .u64 Sf.c, .int .u64 Sf.d], .bool true]) ∧ ClSt g s w k (groupR s.data.toList q).2 F w') :=
              (group_any g s q w2 hC2.rd hq hs).mono (fun e w' ⟨h1, h2⟩ => ⟨by rw [h1, hgr]; dsimp only; rw [hSf]; rfl, hC2.call hg h2⟩)
            rw [hrc] at HEND
            clear hLN hgs hgr hrc HLQ HRS HNX
            go_wp2_with (go_at_call 312; apply Hid.out)
            unfold Hid
            refine HG.out.mono ?_
            rintro e w3 ⟨rfl, hC3⟩
            have hC4 := hC3.low ((Below.refl w3.heap.size w3).alloc (Nat.le_refl _) (.cells #[.int .u64 Sf.a, .int .u64 Sf.b, .int .u64 Sf.c, .int .u64 Sf.d] 214))
            have hF4 : FourW (w3.alloc (.cells #[.int .u64 Sf.a, .int .u64 Sf.b, .int .u64 Sf.c, .int .u64 Sf.d] 214)) w3.heap.size Sf := heap_alloc_new w3 _
            go_upto_region 8 with fail
            generalize w3.alloc (.cells #[.int .u64 Sf.a, .int .u64 Sf.b, .int .u64 Sf.c, .int .u64 Sf.d] 214) = W4 at *
            have ⟨c0, c1, c2, c3⟩ := (show FourW W4 k SF from by rw [← hSF]; exact hC4.four).cells
            have ⟨d0, d1, d2, d3⟩ := hF4.cells
            have HU := Lib.hid (HUN.out f Sf _ W4 hSf hC4)
            clear hC4 hF4 hC3
            go_wp2_with (go_at_call 318; apply Hid.out)
            unfold Hid
            refine HU.out.mono ?_
            rintro e w5 ⟨Su, rfl, hSu, hC5⟩
            have HPUT := Lib.hid (HEND.out _ (hC5.put hg (fun x => F x || f x)))
            rw [hSu] at HPUT
            have ⟨c0, c1, c2, c3⟩ := (show FourW w5 k SF from by rw [← hSF]; exact hC5.four).cells
            have f0 := hC5.four.free 0
            have f1 := hC5.four.free 1
            have f2 := hC5.four.free 2
            have f3 := hC5.four.free 3
            clear hC5 hSu HEND HUN hSf
            go_wp2_with fail
            exact ⟨HPUT.out, by dsimp only [intOf]; omega⟩
          | none =>
            have hgq : (groupR s.data.toList q).2 = q := hgs.2.1 hgr
            have hch := char_step (s := s.data.toList) (r := q) (by omega)
            obtain ⟨C, hC⟩ : ∃ C, charR s.data.toList q = C := ⟨_, rfl⟩
            rw [hC] at hch
            have hlo2 : 0 ≤ C.1 ∧ C.1 < 256 := ⟨by omega, by omega⟩
            have htk := take_step (s := s.data.toList) (r := C.2) hch.1.inn (b := 45) (by decide)
            obtain ⟨T2, hT2⟩ : ∃ T2, takeR s.data.toList C.2 45 = T2 := ⟨_, rfl⟩
            rw [hT2] at htk
            have hdh := char_step (s := s.data.toList) (r := T2.2) htk.1.inn
            obtain ⟨D, hD⟩ : ∃ D, charR s.data.toList T2.2 = D := ⟨_, rfl⟩
            rw [hD] at hdh
            have hhi2 : 0 ≤ D.1 ∧ D.1 < 256 := ⟨by omega, by omega⟩
            have hp1 : C.2.pos ≤ s.size := by have := hch.1.inn; omega
            have hp2 : T2.2.pos ≤ s.size := by have := htk.1.inn; omega
            have HRC : Hid (roundC s.data.toList q = if T2.1 = true then (rgF C.1.toNat D.1.toNat, if D.1 < C.1 ∧ D.2.e = 0 then failR { D.2 with pos := T2.2.pos } 3 else D.2) else (rgF C.1.toNat C.1.toNat, T2.2)) := by
              unfold Hid roundC
              rw [hgr]
              dsimp only
              rw [hC, hT2, hD]
            have HG : Hid (Calls Tryz.prog 312 #[.pointer (some ⟨g, 0, none⟩)] w2 fun e w' => e = .returned (.tuple #[.agg #[.int .u64 0, .int .u64 0, .int .u64 0, .int .u64 0], .bool false]) ∧ ClSt g s w k q F w') :=
              (group_any g s q w2 hC2.rd hq hs).mono (fun e w' ⟨h1, h2⟩ => ⟨by rw [h1, hgr]; rfl, by rw [← hgq]; exact hC2.call hg h2⟩)
            have HCH : Hid (∀ W, ClSt g s w k q F W → Calls Tryz.prog 313 #[.pointer (some ⟨g, 0, none⟩)] W fun e w' => e = .returned (.int .i64 C.1) ∧ ClSt g s w k C.2 F w') := fun W hW =>
              (rchar_any g s q W hW.rd hq hs).mono (fun e w' ⟨h1, h2⟩ => ⟨by rw [h1, hC], by rw [hC] at h2; exact hW.call hg h2⟩)
            have HTK : Hid (∀ W, ClSt g s w k C.2 F W → Calls Tryz.prog 226 #[.pointer (some ⟨g, 0, none⟩), .int .i64 45] W fun e w' => e = .returned (.bool T2.1) ∧ ClSt g s w k T2.2 F w') := fun W hW =>
              (take_any g s C.2 45 W hW.rd hp1 hs).mono (fun e w' ⟨h1, h2⟩ => ⟨by rw [h1, hT2], by rw [hT2] at h2; exact hW.call hg h2⟩)
            have HCD : Hid (∀ W, ClSt g s w k T2.2 F W → Calls Tryz.prog 313 #[.pointer (some ⟨g, 0, none⟩)] W fun e w' => e = .returned (.int .i64 D.1) ∧ ClSt g s w k D.2 F w') := fun W hW =>
              (rchar_any g s T2.2 W hW.rd hp2 hs).mono (fun e w' ⟨h1, h2⟩ => ⟨by rw [h1, hD], by rw [hD] at h2; exact hW.call hg h2⟩)
            have HFL : Hid (∀ (qq : RS) W, ClSt g s w k qq F W → Calls Tryz.prog 183 #[.pointer (some ⟨g, 0, none⟩), .int .i64 3] W fun e w' => e = .returned (.tuple #[]) ∧ ClSt g s w k (failR qq 3) F w') := fun qq W hW =>
              (fail_any g s qq 3 W hW.rd).mono (fun e w' ⟨h1, h2⟩ => ⟨h1, hW.call hg h2⟩)
            clear hLN hgs hgr hgq hch hC htk hT2 hdh hD HLQ HRS HNX
            go_wp2_with (go_at_call 312; apply Hid.out)
            unfold Hid
            refine HG.out.mono ?_
            rintro e w3 ⟨rfl, hC3⟩
            have HC4 := Lib.hid (hC3.low ((Below.refl w3.heap.size w3).alloc (Nat.le_refl _) (.cells #[.int .u64 0, .int .u64 0, .int .u64 0, .int .u64 0] 214)))
            clear hC3
            go_upto_region 9 with fail
            generalize w3.alloc (.cells #[.int .u64 0, .int .u64 0, .int .u64 0, .int .u64 0] 214) = W4 at *
            have HCH1 := Lib.hid (HCH.out W4 HC4.out)
            go_wp2_with (go_at_call 313; apply Hid.out)
            unfold Hid
            refine HCH1.out.mono ?_
            rintro e w5 ⟨rfl, hC5⟩
            have HTK1 := Lib.hid (HTK.out w5 hC5)
            clear hC5 HCH HCH1 HTK HC4
            go_wp2_with (go_at_call 226; apply Hid.out)
            unfold Hid
            refine HTK1.out.mono ?_
            rintro e w6 ⟨rfl, hC6⟩
            have HC6 := Lib.hid hC6
            have ⟨c0, c1, c2, c3⟩ := hC6.rd.cells
            clear hC6 HTK1
            go_upto_if 42 with fail
            obtain ⟨ct, hct⟩ : ∃ ct, T2.1 = ct := ⟨_, rfl⟩
            rw [hct]
            rw [hct] at HRC
            have HCT := Lib.hid hct
            clear hct
            go_cut [8, 9] from 13 to 69 (fun v8 v9 wx => v8 = .int .i64 C.1 ∧ v9 = .int .i64 (if ct = true then D.1 else C.1) ∧ ClSt g s w k (roundC s.data.toList q).2 F wx)
            case first =>
              cases ct with
              | true =>
                rw [if_pos rfl] at HRC
                have HCD1 := Lib.hid (HCD.out w6 HC6.out)
                go_wp2_with (go_at_call 313; apply Hid.out)
                unfold Hid
                refine HCD1.out.mono ?_
                rintro e w7 ⟨rfl, hC7⟩
                have HC7 := Lib.hid hC7
                have ⟨c0, c1, c2, c3⟩ := hC7.rd.cells
                have f1 := hC7.rd.free 1
                clear hC7 HCD1 HCD
                by_cases hlt : D.1 < C.1
                · have d1 : decide (D.1 < C.1) = true := decide_eq_true hlt
                  by_cases hde : D.2.e = 0
                  · have d2 : (D.2.e == 0) = true := by rw [hde]; rfl
                    rw [if_pos ⟨hlt, hde⟩] at HRC
                    have hrd8 : RdEnd g s { D.2 with pos := T2.2.pos } w7 (w7.setCell ⟨g, 1, none⟩ (.int .i64 (T2.2.pos : Nat))) := ⟨HC7.out.rd.setPos _, only_setCell (grown_refl w7 _) 1 _⟩
                    have HC8 := Lib.hid (HFL.out _ _ (HC7.out.call hg hrd8))
                    clear hrd8 hlt hde
                    go_wp2_with (go_at_call 183; apply Hid.out)
                    unfold Hid
                    refine HC8.out.mono ?_
                    rintro e w8 ⟨rfl, hC8⟩
                    go_wp2_with fail
                    go_meet
                    exact ⟨rfl, rfl, by rw [HRC.out]; exact hC8⟩
                  · have d2 : (D.2.e == 0) = false := beq_eq_false_iff_ne.2 hde
                    rw [if_neg (fun h => hde h.2)] at HRC
                    clear hlt hde
                    go_wp2_with fail
                    go_meet
                    exact ⟨rfl, rfl, by rw [HRC.out]; exact HC7.out⟩
                · have d1 : decide (D.1 < C.1) = false := decide_eq_false hlt
                  rw [if_neg (fun h => hlt h.1)] at HRC
                  clear hlt
                  go_wp2_with fail
                  go_meet
                  exact ⟨rfl, rfl, by rw [HRC.out]; exact HC7.out⟩
              | false =>
                rw [if_neg (by decide)] at HRC
                go_wp2_with fail
                go_meet
                exact ⟨rfl, rfl, by rw [HRC.out]; exact HC6.out⟩
            case rest =>
              obtain ⟨rfl, rfl, hC8⟩ := hcut
              obtain ⟨lo, hlo⟩ : ∃ lo : Nat, C.1 = lo := ⟨C.1.toNat, by omega⟩
              obtain ⟨hv, hhv⟩ : ∃ hv : Nat, (if ct = true then D.1 else C.1) = hv := ⟨(if ct = true then D.1 else C.1).toNat, by cases ct; exact (Int.toNat_of_nonneg hlo2.1).symm; exact (Int.toNat_of_nonneg hhi2.1).symm⟩
              have hv2 : hv < 256 := by have : ((hv : Nat) : Int) < 256 := by (rw [← hhv]; cases ct; exact hlo2.2; exact hhi2.2)
                                        omega
              have hrf : (roundC s.data.toList q).1 = rgF lo hv := by
                rw [HRC.out]
                have e1 : C.1.toNat = lo := by omega
                have e2 : (if ct = true then D.1 else C.1).toNat = hv := by omega
                cases ct
                · have e3 : C.1.toNat = hv := e2
                  rw [if_neg (by decide)]; show rgF C.1.toNat C.1.toNat = _; rw [← e1, ← e3]
                · have e3 : D.1.toNat = hv := e2
                  rw [if_pos rfl]; show rgF C.1.toNat D.1.toNat = _; rw [← e1, ← e3]
              rw [hhv, hlo]
              rw [hrf] at HEND
              obtain ⟨Q, hQ⟩ : ∃ Q, (roundC s.data.toList q).2 = Q := ⟨_, rfl⟩
              rw [hQ] at hC8 HEND
              obtain ⟨Sr, hSr⟩ : ∃ Sr, setF (rgF lo hv) = Sr := ⟨_, rfl⟩
              have HRG : Hid (∀ W, Below wc.heap.size wc W → Calls Tryz.prog 193 #[.int .i64 (lo : Int), .int .i64 (hv : Int)] W fun e w' => e = .returned (.agg #[.int .u64 Sr.a, .int .u64 Sr.b, .int .u64 Sr.c, .int .u64 Sr.d]) ∧ ClSt g s w k Q F w') := fun W hW => by
                have := Range_all lo hv hv2 W
                rw [hSr] at this
                exact this.mono (fun e w' ⟨h1, h2⟩ => ⟨h1, (hC8.low hW).low h2⟩)
              have ⟨c0, c1, c2, c3⟩ := (show FourW wc k SF from by rw [← hSF]; exact hC8.four).cells
              clear HCD HFL HCT HRC hhv hrf hQ HC6 hlo hlo2 hhi2
              go_upto_region 17 with fail
              go_region_with (first
                | (go_at_call 193; (with_reducible refine (HRG.out _ ?_).mono ?_); (first | exact Below.refl _ _ | exact (Below.refl _ _).drew); rintro e w8 ⟨rfl, hC9⟩; have HC9 := Lib.hid hC9; have ⟨c0, c1, c2, c3⟩ := (show FourW w8 k SF from by rw [← hSF]; exact hC9.four).cells; clear hC9)
                | (go_at_call 318; (refine (HUN.out (rgF lo hv) Sr Q w8 hSr HC9.out).mono ?_); rintro e w9 ⟨Su, rfl, hSu, hC10⟩; have HPUT := Lib.hid (HEND.out _ (hC10.put hg (fun x => F x || rgF lo hv x))); rw [hSu] at HPUT; have ⟨c0, c1, c2, c3⟩ := (show FourW w9 k SF from by rw [← hSF]; exact hC10.four).cells; have f0 := hC10.four.free 0; have f1 := hC10.four.free 1; have f2 := hC10.four.free 2; have f3 := hC10.four.free 3; clear hC10 hSu))
              all_goals
                clear HRG HUN hC8
                go_wp2_with fail
                go_roundw
                case measure => dsimp only [intOf]; omega
                case rel => exact HPUT.out
    · have d1 : (q.e == 0) = false := beq_eq_false_iff_ne.2 he
      have hcc : ¬ (q.e = 0 ∧ (decide (n = 0) = true ∨ nextR s.data.toList q ≠ 93)) := fun h => he h.1
      clear he
      go_upto_region 18 with fail
      have hC2 := HCS.out
      obtain ⟨w2, rfl⟩ : ∃ w2 : World, w2 = wr := ⟨_, rfl⟩
      clear c0 c1 c2 c3 HCS d1
      have hLX : L = (F, q) := by rw [HLQ.out, if_neg hcc]
      have HFL : Hid (∀ (qq : RS) (G : Nat → Bool) W, ClSt g s w k qq G W → Calls Tryz.prog 183 #[.pointer (some ⟨g, 0, none⟩), .int .i64 3] W fun e w' => e = .returned (.tuple #[]) ∧ ClSt g s w k (failR qq 3) G w') := fun qq G W hW =>
        (fail_any g s qq 3 W hW.rd).mono (fun e w' ⟨h1, h2⟩ => ⟨h1, hW.call hg h2⟩)
      clear HRS HNX hn
      rw [hLX] at HLE HLF HLS
      obtain ⟨ct, hct⟩ : ∃ ct, T.1 = ct := ⟨_, rfl⟩
      rw [hct] at HLF
      obtain ⟨SF, hSF⟩ : ∃ SF, setF F = SF := ⟨_, rfl⟩
      have HSF := Lib.hid hSF
      obtain ⟨SL, hSL⟩ : ∃ SL, setF LF = SL := ⟨_, rfl⟩
      have HSL := Lib.hid hSL
      rw [hSL] at HLE
      have hset : SL = if ct = true then setF (fun x => !F x) else SF := by
        rw [← hSL, HLF.out]
        cases ct
        · rw [if_neg (by decide)]; rw [← hSF]; rfl
        · rw [if_pos rfl]; rfl
      have HSET := Lib.hid hset
      have HC2 := Lib.hid hC2
      have hkw := hC2.far
      clear hSF hSL hset hC2
      go_upto_if 70 with fail
      rw [hct]
      clear hct
      go_cut [4] from 70 to 81 (fun v4 wx => v4 = .pointer (some ⟨k, 0, none⟩) ∧ ClSt g s w k q LF wx)
      case first =>
        have ⟨c0, c1, c2, c3⟩ := (show FourW w2 k SF from by rw [← HSF.out]; exact HC2.out.four).cells
        cases ct with
        | true =>
          have HNT : Hid (Calls Tryz.prog 309 #[.agg #[.int .u64 SF.a, .int .u64 SF.b, .int .u64 SF.c, .int .u64 SF.d]] w2 fun e w' => e = .returned (.agg #[.int .u64 SL.a, .int .u64 SL.b, .int .u64 SL.c, .int .u64 SL.d]) ∧ Below w2.heap.size w2 w') := by
            have := rnot_any F w2
            rw [HSF.out] at this
            have e2 := HSET.out
            rw [if_pos rfl] at e2
            rw [← e2] at this
            exact this
          go_wp2_with (go_at_call 309; apply Hid.out)
          unfold Hid
          refine HNT.out.mono ?_
          rintro e w3 ⟨rfl, hb3⟩
          have h3 := HC2.out.low hb3
          have ⟨c0, c1, c2, c3⟩ := (show FourW w3 k SF from by rw [← HSF.out]; exact h3.four).cells
          have f0 := h3.four.free 0
          have f1 := h3.four.free 1
          have f2 := h3.four.free 2
          have f3 := h3.four.free 3
          have HP := Lib.hid (h3.put hg LF)
          rw [HSL.out] at HP
          clear hb3 h3
          go_wp2_with fail
          go_meet
          exact ⟨rfl, HP.out⟩
        | false =>
          have HCL2 : Hid (ClSt g s w k q LF w2) := by
            have e2 := HSET.out
            rw [if_neg (by decide)] at e2
            exact ⟨HC2.out.rd, by rw [HSL.out, e2, ← HSF.out]; exact HC2.out.four, HC2.out.zero, HC2.out.frame, HC2.out.far⟩
          clear c0 c1 c2 c3
          go_wp2_with fail
          go_meet
          exact ⟨rfl, HCL2.out⟩
      case rest =>
        obtain ⟨rfl, hC3⟩ := hcut
        have HC3 := Lib.hid hC3
        have ⟨c0, c1, c2, c3⟩ := (show FourW wc k SL from by rw [← HSL.out]; exact hC3.four).cells
        have hse : ∀ W, _ := fun W => run_set_eql SL Set4.zero W
        unfold setV Set4.zero at hse
        dsimp only at hse
        clear hC3 HC2 HSET
        go_upto_if 75 with fail
        obtain ⟨cz, hcz⟩ : ∃ cz, sameB SL ⟨0, 0, 0, 0⟩ = cz := ⟨_, rfl⟩
        rw [hcz]
        have HCZ : Hid (decide (SL = Set4.zero) = cz) := hcz
        clear hcz hse
        go_cut [4] from 73 to 81 (fun v4 wx => v4 = .pointer (some ⟨k, 0, none⟩) ∧ ClSt g s w k LE LF wx)
        case first =>
          cases cz with
          | true =>
            have hz : SL = Set4.zero := of_decide_eq_true HCZ.out
            have HLE2 : Hid (LE = failR q 3) := by unfold Hid; rw [HLE.out, if_pos hz]
            have HF1 := Lib.hid (HFL.out q LF wc HC3.out)
            clear hz
            go_wp2_with (go_at_call 183; apply Hid.out)
            unfold Hid
            refine HF1.out.mono ?_
            rintro e w4 ⟨rfl, h4⟩
            go_wp2_with fail
            go_meet
            exact ⟨rfl, by rw [HLE2.out]; exact h4⟩
          | false =>
            have hz : ¬ SL = Set4.zero := of_decide_eq_false HCZ.out
            have HLE2 : Hid (LE = q) := by unfold Hid; rw [HLE.out, if_neg hz]
            clear hz
            go_wp2_with fail
            go_meet
            exact ⟨rfl, by rw [HLE2.out]; exact HC3.out⟩
        case rest =>
          obtain ⟨rfl, hC4⟩ := hcut
          have hlp : LE.pos ≤ s.size := by
            have h1 : (failR q 3).pos = q.pos := (failR_facts q 3 (by decide)).1
            have h2 : LE.pos = q.pos := by rw [HLE.out]; split; exact h1; rfl
            omega
          have HT4 : Hid (Calls Tryz.prog 226 #[.pointer (some ⟨g, 0, none⟩), .int .i64 93] wc fun e w' => e = .returned (.bool (takeR s.data.toList LE 93).1) ∧ ClSt g s w k (takeR s.data.toList LE 93).2 LF w') :=
            (take_any g s LE 93 wc hC4.rd hlp hs).mono (fun e w' ⟨h1, h2⟩ => ⟨h1, hC4.call hg h2⟩)
          clear hC4 HC3 hlp
          go_wp2_with (go_at_call 226; apply Hid.out)
          unfold Hid
          refine HT4.out.mono ?_
          rintro e w5 ⟨rfl, h5⟩
          have ⟨c0, c1, c2, c3⟩ := (show FourW w5 k SL from by rw [← HSL.out]; exact h5.four).cells
          have ⟨z0, z1, z2, z3, z4, z5⟩ := h5.zero.cells
          have y0 := h5.zero.free 0
          have y1 := h5.zero.free 1
          have y2 := h5.zero.free 2
          have y3 := h5.zero.free 3
          have y4 := h5.zero.free 4
          have y5 := h5.zero.free 5
          have HX := Lib.hid (h5.zero.fill (.int .i64 3) (.int .u64 SL.a) (.int .u64 SL.b) (.int .u64 SL.c) (.int .u64 SL.d) (.slice none 0 0))
          have hb6 : Below w.heap.size w5 (fill6 w5 w.heap.size (.int .i64 3) (.int .u64 SL.a) (.int .u64 SL.b) (.int .u64 SL.c) (.int .u64 SL.d) (.slice none 0 0)) := fill6_below (Below.refl _ _) (Nat.le_refl _) _ _ _ _ _ _
          have HENDR : Hid (RdEnd g s CL.2 w (fill6 w5 w.heap.size (.int .i64 3) (.int .u64 SL.a) (.int .u64 SL.b) (.int .u64 SL.c) (.int .u64 SL.d) (.slice none 0 0))) := by
            unfold Hid
            rw [HCL.out]
            exact ⟨(hb6.block g hg).trans h5.rd, grown_set h5.frame (Nat.le_refl _) hb6⟩
          have HBY : Hid (byT CL.1 = .node 3 SL []) := by unfold Hid; rw [HCL.out]; unfold byT; rw [HSL.out]
          have hwf : SL.Wf := by rw [← HSL.out]; exact setF_wf LF
          clear h5 hb6 HT4
          go_wp2_with fail
          have ⟨s0, s1, s2, s3, s4, s5⟩ := HX.out.cells
          unfold fill6 at s0 s1 s2 s3 s4 s5
          exact bodyPost_ret (v := argX (.node 3 SL []) none 0) (by simp [results, Tryz.results311, go_sem, s0, s1, s2, s3, s4, s5, argX, Tree.kind, Tree.set, Tree.kids]) rfl (by rw [HBY.out]; exact ⟨none, 0, rfl, LX.leaf _ _ _ _ _ _ hwf, HENDR.out⟩)
end Go.Proofs.YthfjmlcjkbgboaaGreatDoor
