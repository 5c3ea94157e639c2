/- rex.bytes: a set as text. -/
import Derived.Test.YtnjjchbgnmjkjaaRph
import Derived.Laws.Concat
namespace Go.Proofs.Ytnjjchbgnmjkjaa
section
open Go.RowKit
theorem runTo_eq {f : Nat → Bool} {b x : Nat} (hb : b ≤ x) (hx : x ≤ 256) (hin : ∀ y, b ≤ y → y < x → f y = true) (hout : x < 256 → f x = false) : runTo f b = x := by
  obtain ⟨h1, h2, h3, h4⟩ := runE_facts f 257 b (by omega)
  have e : runTo f b = runE f 257 b := rfl
  rw [e]
  rcases Nat.lt_trichotomy (runE f 257 b) x with h | h | h
  · have a := h3 (by omega)
    rw [hin _ h1 h] at a
    cases a
  · exact h
  · have a := h2 x hb h
    rw [hout a.1] at a
    exact absurd a.2 (by decide)
def ItRel (f : Nat → Bool) (I : List UInt8 × Nat) (W0 : World) (v4 v5 v6 : Value) (wr : World) : Prop :=
  ∃ (b : Nat) (O : ByteArray) (n : Nat), v4 = .string O ∧ v5 = .int .i64 n ∧ v6 = .int .i64 b ∧ b ≤ 257 ∧ O.data.toList ++ (itemsL f b).1 = I.1 ∧ n + (itemsL f b).2 = I.2 ∧ Below W0.heap.size W0 wr
def InRelI (f : Nat → Bool) (b n : Nat) (W0 : World) (v5 v6 : Value) (wr : World) : Prop :=
  ∃ x m : Nat, v6 = .int .i64 x ∧ v5 = .int .i64 m ∧ m + b = n + x ∧ b ≤ x ∧ x ≤ 256 ∧ (∀ y, b ≤ y → y < x → f y = true) ∧ Below W0.heap.size W0 wr
def ItemsPost (I : List UInt8 × Nat) (w : World) (e : Ending) (w' : World) : Prop :=
  e = .returned (.tuple #[.string (bs I.1), .int .i64 (I.2 : Nat)]) ∧ Below w.heap.size w w'
theorem hasS (f : Nat → Bool) (S : Set4) (h : setF f = S) (k : Nat) (W : World) (hk : k < 256) : Calls Try.prog 61 #[.agg #[.int .u64 S.a, .int .u64 S.b, .int .u64 S.c, .int .u64 S.d], .int .u8 (k : Int)] W fun e w' => e = .returned (.bool (f k)) ∧ Below W.heap.size W w' := by
  subst h
  have h2 := HasF_any f k hk W
  unfold setA at h2
  exact h2
theorem charE (k : Nat) (W : World) (hk : k < 256) : ∃ E : ByteArray, charP k = E.data.toList ∧ E.size ≤ 4 ∧ Calls Try.prog 84 #[.int .i64 (k : Int)] W fun e w' => e = .returned (.string E) ∧ Below W.heap.size W w' := by
  have h1 := pchar_any k W hk
  have h2 := (charP_len k).2
  generalize charP k = l at *
  exact ⟨bs l, (bs_toList l).symm, by rw [bs_size]; exact h2, h1⟩

set_option maxRecDepth 100000 in
set_option maxHeartbeats 6400000 in
theorem items_any (f : Nat → Bool) (w : World) : Calls Try.prog 60 #[setA (setF f)] w (ItemsPost (itemsL f 0) w) := by
  obtain ⟨I, hI⟩ : ∃ I, itemsL f 0 = I := ⟨_, rfl⟩
  obtain ⟨S, hS⟩ : ∃ S, setF f = S := ⟨_, rfl⟩
  obtain ⟨W0, hW0⟩ : ∃ W0, w.alloc (.cells #[.int .u64 S.a, .int .u64 S.b, .int .u64 S.c, .int .u64 S.d] 24) = W0 := ⟨_, rfl⟩
  have hz0 : w.heap.size < W0.heap.size := by rw [← hW0]; simp
  have hb0 : Below w.heap.size w W0 := by rw [← hW0]; exact (Below.refl _ _).alloc (Nat.le_refl _) _
  have hf0 : FourW W0 w.heap.size S := by rw [← hW0]; exact heap_alloc_new w _
  have HBX : Hid (∀ W, Below W0.heap.size W0 W → FourW W w.heap.size S ∧ Below w.heap.size w W) := fun W h => ⟨hf0.below h hz0, hb0.trans (h.mono (Nat.le_of_lt hz0))⟩
  have hlen : I.1.length ≤ 2313 := by rw [← hI]; exact itemsR_len f 257 0
  have hnum : I.2 ≤ 257 := by rw [← hI]; exact itemsR_num f 257 0 (by decide)
  have HW0 := Lib.hid hW0
  have HS : Hid (ItRel f I W0 (.string (ByteArray.mk #[])) (.int .i64 (0 : Nat)) (.int .i64 (0 : Nat)) W0) := ⟨0, ByteArray.mk #[], 0, rfl, rfl, rfl, by decide, by rw [hI]; rfl, by rw [hI]; omega, Below.refl _ _⟩
  have HH : Hid (∀ (k : Nat) (W : World), k < 256 → Calls Try.prog 61 #[.agg #[.int .u64 S.a, .int .u64 S.b, .int .u64 S.c, .int .u64 S.d], .int .u8 (k : Int)] W fun e w' => e = .returned (.bool (f k)) ∧ Below W.heap.size W w') := fun k W hk => by
    exact hasS f S hS k W hk
  have HCH : Hid (∀ (k : Nat) (W : World), k < 256 → ∃ E : ByteArray, charP k = E.data.toList ∧ E.size ≤ 4 ∧ Calls Try.prog 84 #[.int .i64 (k : Int)] W fun e w' => e = .returned (.string E) ∧ Below W.heap.size W w') := fun k W hk =>
    charE k W hk
  rw [hI, hS]
  clear hW0 hb0 hf0 hI hS
  unfold setA
  go_enter Try.func60, Try.ntmps60
  go_upto_region 1 with fail
  rw [HW0.out]
  go_wp2_with fail
  go_loopw [4, 5, 6, 7] (fun v4 v5 v6 _ wr => ItRel f I W0 v4 v5 v6 wr) (fun _ _ v6 _ _ => 257 - (intOf v6).toNat)
  case atStart => exact HS.out
  case round =>
    obtain ⟨b, O, n, rfl, rfl, rfl, hb, hout1, hnum1, hB⟩ := hrel
    obtain ⟨wo, rfl⟩ : ∃ wo : World, wo = wr := ⟨_, rfl⟩
    have hn : n ≤ 257 := by omega
    have hO : O.size ≤ 2313 := by
      have := congrArg List.length hout1
      rw [List.length_append, show O.data.toList.length = O.size by simp] at this
      omega
    by_cases hlt : b < 256
    · have d1 : decide ((b : Int) < 256) = true := decide_eq_true (by omega)
      have hst := items_step f b
      rw [if_neg (by omega)] at hst
      have HO : Hid (∀ x, runTo f b = x → O.data.toList ++ (pieceI b x ++ (itemsL f (x + 1)).1) = I.1 ∧ n + ((x - b) + (itemsL f (x + 1)).2) = I.2) := fun x hx => by
        rw [hst, hx] at hout1 hnum1
        exact ⟨hout1, hnum1⟩
      have HI0 : Hid (InRelI f b n W0 (.int .i64 n) (.int .i64 b) wo) := ⟨b, n, rfl, rfl, rfl, Nat.le_refl _, by omega, fun y h1 h2 => by omega, hB⟩
      clear hB hst hout1 hnum1
      go_wp2_with fail
      go_loopw [5, 6] (fun v5 v6 wx => InRelI f b n W0 v5 v6 wx) (fun _ v6 _ => 256 - (intOf v6).toNat)
      case atStart => exact HI0.out
      case round =>
        obtain ⟨x, m, rfl, rfl, hmx, hbx, hx6, hin, hB⟩ := hrel
        obtain ⟨hfw, hbw⟩ := HBX.out _ hB
        have HBB := Lib.hid hB
        have HIN := Lib.hid hin
        have ⟨c0, c1, c2, c3⟩ := hfw.cells
        clear hfw hbw hB hin
        by_cases hx : x < 256
        · have d2 : decide ((x : Int) < 256) = true := decide_eq_true (by omega)
          have i8 : IntKind.u8.wrap (x : Int) = (x : Int) := by rw [show IntKind.u8.wrap (x : Int) = (x : Int) % 256 from rfl]; omega
          have HHX := Lib.hid (fun W => HH.out x W hx)
          obtain ⟨fx, hfx⟩ : ∃ fx, f x = fx := ⟨_, rfl⟩
          have HFX := Lib.hid hfx
          rw [hfx] at HHX
          clear hfx
          cases fx with
          | true =>
            go_wp2_with (go_at_call 61; apply Hid.out)
            unfold Hid
            refine (HHX.out _).mono ?_
            rintro e w2 ⟨rfl, hb2⟩
            have HB2 : Hid (Below W0.heap.size W0 w2) := HBB.out.trans (hb2.mono HBB.out.size)
            have i1 : IntKind.i64.wrap ((x : Int) + 1) = (x : Int) + 1 := IntWalk.i64_in _ (by omega)
            have i2 : IntKind.i64.wrap ((m : Int) + 1) = (m : Int) + 1 := IntWalk.i64_in _ (by omega)
            have HN : Hid (InRelI f b n W0 (.int .i64 ((m : Int) + 1)) (.int .i64 ((x : Int) + 1)) w2) := ⟨x + 1, m + 1, by rw [Int.natCast_succ], by rw [Int.natCast_succ], by omega, by omega, by omega, fun y h1 h2 => by
              by_cases hy : y = x
              · rw [hy]; exact HFX.out
              · exact HIN.out y h1 (by omega), HB2.out⟩
            clear hb2 c0 c1 c2 c3
            go_wp2_with fail
            exact ⟨HN.out, by dsimp only [intOf]; omega⟩
          | false =>
            have HR : Hid (runTo f b = x) := runTo_eq hbx hx6 HIN.out (fun _ => HFX.out)
            go_wp2_with (go_at_call 61; apply Hid.out)
            unfold Hid
            refine (HHX.out _).mono ?_
            rintro e w2 ⟨rfl, hb2⟩
            have HB2 : Hid (Below W0.heap.size W0 w2) := HBB.out.trans (hb2.mono HBB.out.size)
            clear hb2 c0 c1 c2 c3 HHX HIN HFX d2 i8
            have i5 : IntKind.i64.wrap ((x : Int) + 1) = (x : Int) + 1 := IntWalk.i64_in _ (by omega)
            by_cases e0 : x = b
            · have i9 : IntKind.i64.wrap ((x : Int) - (b : Int)) = 0 := (IntWalk.i64_in _ (by omega)).trans (by omega)
              have HN : Hid (ItRel f I W0 (.string (O)) (.int .i64 m) (.int .i64 ((x : Int) + 1)) w2) := by
                obtain ⟨h1, h2⟩ := HO.out x HR.out
                refine ⟨x + 1, O, m, rfl, rfl, by rw [Int.natCast_succ], by omega, ?_, by omega, HB2.out⟩
                rw [← h1, ← List.append_assoc]
                congr 1
                rw [e0]; unfold pieceI; rw [if_pos (by omega), List.append_nil]
              clear e0
              go_wp2_with fail
              exact ⟨HN.out, by dsimp only [intOf]; omega⟩
            by_cases e1 : x = b + 1
            · have i9 : IntKind.i64.wrap ((x : Int) - (b : Int)) = 1 := (IntWalk.i64_in _ (by omega)).trans (by omega)
              obtain ⟨E, hE, hEs, hC1⟩ := HCH.out b w2 hlt
              have HC1 := Lib.hid hC1
              have y1 : ∀ W, (Op.stringOp .add O E).run Try.prog W = .ok (.string (O ++ E)) W := fun W => run_string_add_sum W O E (by omega)
              have HPC : Hid (pieceI b x = E.data.toList) := by unfold Hid pieceI; rw [if_neg (by omega), if_pos (by omega), hE]
              clear hC1 hE e0 e1
              go_wp2_with (go_at_call 84; apply Hid.out)
              unfold Hid
              refine HC1.out.mono ?_
              rintro e w3 ⟨rfl, hb3⟩
              have HB3 : Hid (Below W0.heap.size W0 w3) := HB2.out.trans (hb3.mono HB2.out.size)
              have HN : Hid (ItRel f I W0 (.string (O ++ E)) (.int .i64 m) (.int .i64 ((x : Int) + 1)) w3) := by
                obtain ⟨h1, h2⟩ := HO.out x HR.out
                refine ⟨x + 1, O ++ E, m, rfl, rfl, by rw [Int.natCast_succ], by omega, ?_, by omega, HB3.out⟩
                rw [← h1, ← List.append_assoc]
                congr 1
                rw [HPC.out, ByteArray.data_append, Array.toList_append]
              clear hb3
              go_wp2_with fail
              exact ⟨HN.out, by dsimp only [intOf]; omega⟩
            have hb1 : b + 1 < 256 := by omega
            by_cases e2 : x = b + 2
            · have i9 : IntKind.i64.wrap ((x : Int) - (b : Int)) = 2 := (IntWalk.i64_in _ (by omega)).trans (by omega)
              have i6 : IntKind.i64.wrap ((b : Int) + 1) = (b : Int) + 1 := IntWalk.i64_in _ (by omega)
              obtain ⟨E, hE, hEs, hC1⟩ := HCH.out b w2 hlt
              have HC1 := Lib.hid hC1
              obtain ⟨E2, hE2, hE2s, _⟩ := HCH.out (b + 1) w2 hb1
              have HC2 : Hid (∀ W, Calls Try.prog 84 #[.int .i64 ((b : Int) + 1)] W fun e w' => e = .returned (.string E2) ∧ Below W.heap.size W w') := fun W => by
                obtain ⟨E3, hE3, _, hC3⟩ := HCH.out (b + 1) W hb1
                have : E3 = E2 := by rw [← ext_bs (l := charP (b + 1)) hE3.symm |>.symm]; exact (ext_bs hE2.symm).symm
                rw [this, Int.natCast_succ] at hC3
                exact hC3
              have y1 : ∀ W, (Op.stringOp .add E E2).run Try.prog W = .ok (.string (E ++ E2)) W := fun W => run_string_add_sum W E E2 (by omega)
              have y2 : ∀ W, (Op.stringOp .add O (E ++ E2)).run Try.prog W = .ok (.string (O ++ (E ++ E2))) W := fun W => run_string_add_sum W O _ (by rw [ByteArray.size_append]; omega)
              have HPC : Hid (pieceI b x = E.data.toList ++ E2.data.toList) := by unfold Hid pieceI; rw [if_neg (by omega), if_neg (by omega), if_pos (by omega), hE, hE2]
              clear hC1 hE hE2 e0 e1 e2
              go_wp2_with (go_at_call 84; apply Hid.out)
              unfold Hid
              refine HC1.out.mono ?_
              rintro e w3 ⟨rfl, hb3⟩
              have HB3 : Hid (Below W0.heap.size W0 w3) := HB2.out.trans (hb3.mono HB2.out.size)
              have HC3 := Lib.hid (HC2.out w3)
              clear hb3
              go_wp2_with (go_at_call 84; apply Hid.out)
              unfold Hid
              refine HC3.out.mono ?_
              rintro e w4 ⟨rfl, hb4⟩
              have HB4 : Hid (Below W0.heap.size W0 w4) := HB3.out.trans (hb4.mono HB3.out.size)
              have HN : Hid (ItRel f I W0 (.string (O ++ (E ++ E2))) (.int .i64 m) (.int .i64 ((x : Int) + 1)) w4) := by
                obtain ⟨h1, h2⟩ := HO.out x HR.out
                refine ⟨x + 1, O ++ (E ++ E2), m, rfl, rfl, by rw [Int.natCast_succ], by omega, ?_, by omega, HB4.out⟩
                rw [← h1, ← List.append_assoc]
                congr 1
                rw [HPC.out, ByteArray.data_append, Array.toList_append, ByteArray.data_append, Array.toList_append]
              clear hb4
              go_wp2_with fail
              exact ⟨HN.out, by dsimp only [intOf]; omega⟩
            · obtain ⟨D, hD⟩ : ∃ D : Int, (x : Int) - (b : Int) = D := ⟨_, rfl⟩
              have i9 : IntKind.i64.wrap ((x : Int) - (b : Int)) = D := (IntWalk.i64_in _ (by omega)).trans hD
              have q0 : (D == 0) = false := beq_eq_false_iff_ne.2 (by omega)
              have q1 : (D == 1) = false := beq_eq_false_iff_ne.2 (by omega)
              have q2 : (D == 2) = false := beq_eq_false_iff_ne.2 (by omega)
              have i6 : IntKind.i64.wrap ((x : Int) - 1) = (x : Int) - 1 := IntWalk.i64_in _ (by omega)
              obtain ⟨E, hE, hEs, hC1⟩ := HCH.out b w2 hlt
              have HC1 := Lib.hid hC1
              have hx1 : x - 1 < 256 := by omega
              obtain ⟨E2, hE2, hE2s, _⟩ := HCH.out (x - 1) w2 hx1
              have HC2 : Hid (∀ W, Calls Try.prog 84 #[.int .i64 ((x : Int) - 1)] W fun e w' => e = .returned (.string E2) ∧ Below W.heap.size W w') := fun W => by
                obtain ⟨E3, hE3, _, hC3⟩ := HCH.out (x - 1) W hx1
                have : E3 = E2 := by rw [← ext_bs (l := charP (x - 1)) hE3.symm |>.symm]; exact (ext_bs hE2.symm).symm
                rw [this, show ((x - 1 : Nat) : Int) = (x : Int) - 1 by omega] at hC3
                exact hC3
              have y0 : ∀ W, (Op.stringOp .add E (ByteArray.mk #[45])).run Try.prog W = .ok (.string (E ++ ByteArray.mk #[45])) W := fun W => run_string_add_sum W E _ (by show E.size + 1 ≤ _; omega)
              have y1 : ∀ W, (Op.stringOp .add (E ++ ByteArray.mk #[45]) E2).run Try.prog W = .ok (.string (E ++ ByteArray.mk #[45] ++ E2)) W := fun W => run_string_add_sum W _ E2 (by rw [ByteArray.size_append]; show E.size + 1 + E2.size ≤ _; omega)
              have y2 : ∀ W, (Op.stringOp .add O (E ++ ByteArray.mk #[45] ++ E2)).run Try.prog W = .ok (.string (O ++ (E ++ ByteArray.mk #[45] ++ E2))) W := fun W => run_string_add_sum W O _ (by rw [ByteArray.size_append, ByteArray.size_append]; show O.size + (E.size + 1 + E2.size) ≤ _; omega)
              have HPC : Hid (pieceI b x = E.data.toList ++ [45] ++ E2.data.toList) := by unfold Hid pieceI; rw [if_neg (by omega), if_neg (by omega), if_neg (by omega), hE, hE2]
              clear hC1 hE hE2 e0 e1 e2 hD
              go_wp2_with (go_at_call 84; apply Hid.out)
              unfold Hid
              refine HC1.out.mono ?_
              rintro e w3 ⟨rfl, hb3⟩
              have HB3 : Hid (Below W0.heap.size W0 w3) := HB2.out.trans (hb3.mono HB2.out.size)
              have HC3 := Lib.hid (HC2.out w3)
              clear hb3
              go_wp2_with (go_at_call 84; apply Hid.out)
              unfold Hid
              refine HC3.out.mono ?_
              rintro e w4 ⟨rfl, hb4⟩
              have HB4 : Hid (Below W0.heap.size W0 w4) := HB3.out.trans (hb4.mono HB3.out.size)
              have HN : Hid (ItRel f I W0 (.string (O ++ (E ++ ByteArray.mk #[45] ++ E2))) (.int .i64 m) (.int .i64 ((x : Int) + 1)) w4) := by
                obtain ⟨h1, h2⟩ := HO.out x HR.out
                refine ⟨x + 1, O ++ (E ++ ByteArray.mk #[45] ++ E2), m, rfl, rfl, by rw [Int.natCast_succ], by omega, ?_, by omega, HB4.out⟩
                rw [← h1, ← List.append_assoc]
                congr 1
                rw [HPC.out, ByteArray.data_append, Array.toList_append, ByteArray.data_append, Array.toList_append, ByteArray.data_append, Array.toList_append]
              clear hb4
              go_wp2_with fail
              exact ⟨HN.out, by dsimp only [intOf]; omega⟩
        · have d2 : decide ((x : Int) < 256) = false := decide_eq_false (by omega)
          have HR : Hid (runTo f b = x) := runTo_eq hbx hx6 HIN.out (fun h => absurd h hx)
          have HB2 : Hid (Below W0.heap.size W0 wr) := HBB.out
          obtain ⟨w2, rfl⟩ : ∃ w2 : World, w2 = wr := ⟨_, rfl⟩
          clear c0 c1 c2 c3 HIN
          go_upto_region 9 with fail
          clear d2
          have i5 : IntKind.i64.wrap ((x : Int) + 1) = (x : Int) + 1 := IntWalk.i64_in _ (by omega)
          by_cases e0 : x = b
          · have i9 : IntKind.i64.wrap ((x : Int) - (b : Int)) = 0 := (IntWalk.i64_in _ (by omega)).trans (by omega)
            have HN : Hid (ItRel f I W0 (.string (O)) (.int .i64 m) (.int .i64 ((x : Int) + 1)) w2) := by
              obtain ⟨h1, h2⟩ := HO.out x HR.out
              refine ⟨x + 1, O, m, rfl, rfl, by rw [Int.natCast_succ], by omega, ?_, by omega, HB2.out⟩
              rw [← h1, ← List.append_assoc]
              congr 1
              rw [e0]; unfold pieceI; rw [if_pos (by omega), List.append_nil]
            clear e0
            go_wp2_with fail
            exact ⟨HN.out, by dsimp only [intOf]; omega⟩
          by_cases e1 : x = b + 1
          · have i9 : IntKind.i64.wrap ((x : Int) - (b : Int)) = 1 := (IntWalk.i64_in _ (by omega)).trans (by omega)
            obtain ⟨E, hE, hEs, hC1⟩ := HCH.out b w2 hlt
            have HC1 := Lib.hid hC1
            have y1 : ∀ W, (Op.stringOp .add O E).run Try.prog W = .ok (.string (O ++ E)) W := fun W => run_string_add_sum W O E (by omega)
            have HPC : Hid (pieceI b x = E.data.toList) := by unfold Hid pieceI; rw [if_neg (by omega), if_pos (by omega), hE]
            clear hC1 hE e0 e1
            go_wp2_with (go_at_call 84; apply Hid.out)
            unfold Hid
            refine HC1.out.mono ?_
            rintro e w3 ⟨rfl, hb3⟩
            have HB3 : Hid (Below W0.heap.size W0 w3) := HB2.out.trans (hb3.mono HB2.out.size)
            have HN : Hid (ItRel f I W0 (.string (O ++ E)) (.int .i64 m) (.int .i64 ((x : Int) + 1)) w3) := by
              obtain ⟨h1, h2⟩ := HO.out x HR.out
              refine ⟨x + 1, O ++ E, m, rfl, rfl, by rw [Int.natCast_succ], by omega, ?_, by omega, HB3.out⟩
              rw [← h1, ← List.append_assoc]
              congr 1
              rw [HPC.out, ByteArray.data_append, Array.toList_append]
            clear hb3
            go_wp2_with fail
            exact ⟨HN.out, by dsimp only [intOf]; omega⟩
          have hb1 : b + 1 < 256 := by omega
          by_cases e2 : x = b + 2
          · have i9 : IntKind.i64.wrap ((x : Int) - (b : Int)) = 2 := (IntWalk.i64_in _ (by omega)).trans (by omega)
            have i6 : IntKind.i64.wrap ((b : Int) + 1) = (b : Int) + 1 := IntWalk.i64_in _ (by omega)
            obtain ⟨E, hE, hEs, hC1⟩ := HCH.out b w2 hlt
            have HC1 := Lib.hid hC1
            obtain ⟨E2, hE2, hE2s, _⟩ := HCH.out (b + 1) w2 hb1
            have HC2 : Hid (∀ W, Calls Try.prog 84 #[.int .i64 ((b : Int) + 1)] W fun e w' => e = .returned (.string E2) ∧ Below W.heap.size W w') := fun W => by
              obtain ⟨E3, hE3, _, hC3⟩ := HCH.out (b + 1) W hb1
              have : E3 = E2 := by rw [← ext_bs (l := charP (b + 1)) hE3.symm |>.symm]; exact (ext_bs hE2.symm).symm
              rw [this, Int.natCast_succ] at hC3
              exact hC3
            have y1 : ∀ W, (Op.stringOp .add E E2).run Try.prog W = .ok (.string (E ++ E2)) W := fun W => run_string_add_sum W E E2 (by omega)
            have y2 : ∀ W, (Op.stringOp .add O (E ++ E2)).run Try.prog W = .ok (.string (O ++ (E ++ E2))) W := fun W => run_string_add_sum W O _ (by rw [ByteArray.size_append]; omega)
            have HPC : Hid (pieceI b x = E.data.toList ++ E2.data.toList) := by unfold Hid pieceI; rw [if_neg (by omega), if_neg (by omega), if_pos (by omega), hE, hE2]
            clear hC1 hE hE2 e0 e1 e2
            go_wp2_with (go_at_call 84; apply Hid.out)
            unfold Hid
            refine HC1.out.mono ?_
            rintro e w3 ⟨rfl, hb3⟩
            have HB3 : Hid (Below W0.heap.size W0 w3) := HB2.out.trans (hb3.mono HB2.out.size)
            have HC3 := Lib.hid (HC2.out w3)
            clear hb3
            go_wp2_with (go_at_call 84; apply Hid.out)
            unfold Hid
            refine HC3.out.mono ?_
            rintro e w4 ⟨rfl, hb4⟩
            have HB4 : Hid (Below W0.heap.size W0 w4) := HB3.out.trans (hb4.mono HB3.out.size)
            have HN : Hid (ItRel f I W0 (.string (O ++ (E ++ E2))) (.int .i64 m) (.int .i64 ((x : Int) + 1)) w4) := by
              obtain ⟨h1, h2⟩ := HO.out x HR.out
              refine ⟨x + 1, O ++ (E ++ E2), m, rfl, rfl, by rw [Int.natCast_succ], by omega, ?_, by omega, HB4.out⟩
              rw [← h1, ← List.append_assoc]
              congr 1
              rw [HPC.out, ByteArray.data_append, Array.toList_append, ByteArray.data_append, Array.toList_append]
            clear hb4
            go_wp2_with fail
            exact ⟨HN.out, by dsimp only [intOf]; omega⟩
          · obtain ⟨D, hD⟩ : ∃ D : Int, (x : Int) - (b : Int) = D := ⟨_, rfl⟩
            have i9 : IntKind.i64.wrap ((x : Int) - (b : Int)) = D := (IntWalk.i64_in _ (by omega)).trans hD
            have q0 : (D == 0) = false := beq_eq_false_iff_ne.2 (by omega)
            have q1 : (D == 1) = false := beq_eq_false_iff_ne.2 (by omega)
            have q2 : (D == 2) = false := beq_eq_false_iff_ne.2 (by omega)
            have i6 : IntKind.i64.wrap ((x : Int) - 1) = (x : Int) - 1 := IntWalk.i64_in _ (by omega)
            obtain ⟨E, hE, hEs, hC1⟩ := HCH.out b w2 hlt
            have HC1 := Lib.hid hC1
            have hx1 : x - 1 < 256 := by omega
            obtain ⟨E2, hE2, hE2s, _⟩ := HCH.out (x - 1) w2 hx1
            have HC2 : Hid (∀ W, Calls Try.prog 84 #[.int .i64 ((x : Int) - 1)] W fun e w' => e = .returned (.string E2) ∧ Below W.heap.size W w') := fun W => by
              obtain ⟨E3, hE3, _, hC3⟩ := HCH.out (x - 1) W hx1
              have : E3 = E2 := by rw [← ext_bs (l := charP (x - 1)) hE3.symm |>.symm]; exact (ext_bs hE2.symm).symm
              rw [this, show ((x - 1 : Nat) : Int) = (x : Int) - 1 by omega] at hC3
              exact hC3
            have y0 : ∀ W, (Op.stringOp .add E (ByteArray.mk #[45])).run Try.prog W = .ok (.string (E ++ ByteArray.mk #[45])) W := fun W => run_string_add_sum W E _ (by show E.size + 1 ≤ _; omega)
            have y1 : ∀ W, (Op.stringOp .add (E ++ ByteArray.mk #[45]) E2).run Try.prog W = .ok (.string (E ++ ByteArray.mk #[45] ++ E2)) W := fun W => run_string_add_sum W _ E2 (by rw [ByteArray.size_append]; show E.size + 1 + E2.size ≤ _; omega)
            have y2 : ∀ W, (Op.stringOp .add O (E ++ ByteArray.mk #[45] ++ E2)).run Try.prog W = .ok (.string (O ++ (E ++ ByteArray.mk #[45] ++ E2))) W := fun W => run_string_add_sum W O _ (by rw [ByteArray.size_append, ByteArray.size_append]; show O.size + (E.size + 1 + E2.size) ≤ _; omega)
            have HPC : Hid (pieceI b x = E.data.toList ++ [45] ++ E2.data.toList) := by unfold Hid pieceI; rw [if_neg (by omega), if_neg (by omega), if_neg (by omega), hE, hE2]
            clear hC1 hE hE2 e0 e1 e2 hD
            go_wp2_with (go_at_call 84; apply Hid.out)
            unfold Hid
            refine HC1.out.mono ?_
            rintro e w3 ⟨rfl, hb3⟩
            have HB3 : Hid (Below W0.heap.size W0 w3) := HB2.out.trans (hb3.mono HB2.out.size)
            have HC3 := Lib.hid (HC2.out w3)
            clear hb3
            go_wp2_with (go_at_call 84; apply Hid.out)
            unfold Hid
            refine HC3.out.mono ?_
            rintro e w4 ⟨rfl, hb4⟩
            have HB4 : Hid (Below W0.heap.size W0 w4) := HB3.out.trans (hb4.mono HB3.out.size)
            have HN : Hid (ItRel f I W0 (.string (O ++ (E ++ ByteArray.mk #[45] ++ E2))) (.int .i64 m) (.int .i64 ((x : Int) + 1)) w4) := by
              obtain ⟨h1, h2⟩ := HO.out x HR.out
              refine ⟨x + 1, O ++ (E ++ ByteArray.mk #[45] ++ E2), m, rfl, rfl, by rw [Int.natCast_succ], by omega, ?_, by omega, HB4.out⟩
              rw [← h1, ← List.append_assoc]
              congr 1
              rw [HPC.out, ByteArray.data_append, Array.toList_append, ByteArray.data_append, Array.toList_append, ByteArray.data_append, Array.toList_append]
            clear hb4
            go_wp2_with fail
            exact ⟨HN.out, by dsimp only [intOf]; omega⟩
    · have d1 : decide ((b : Int) < 256) = false := decide_eq_false (by omega)
      have hst := items_step f b
      rw [if_pos (by omega)] at hst
      rw [hst] at hout1 hnum1
      rw [List.append_nil] at hout1
      have HE : Hid (bs I.1 = O ∧ I.2 = n) := ⟨(ext_bs hout1).symm, by have : n + 0 = I.2 := hnum1; omega⟩
      have HBW := Lib.hid (HBX.out _ hB).2
      clear hst hout1 hnum1 hB
      go_wp2_with fail
      exact bodyPost_ret (v := .tuple #[.string O, .int .i64 n]) (by simp [results, Try.results60, go_sem]) rfl ⟨by rw [HE.out.1, HE.out.2], HBW.out⟩
end

section
open Go.RowKit
def bytesP (f : Nat → Bool) : List UInt8 :=
  if (itemsL f 0).2 = 1 then (itemsL f 0).1
  else if (itemsL f 0).2 = 255 ∧ f 10 = false then [46]
  else if 128 < (itemsL f 0).2 ∧ (itemsL f 0).2 < 256 then [91, 94] ++ (itemsL (fun x => !f x) 0).1 ++ [93]
  else [91] ++ (itemsL f 0).1 ++ [93]
theorem bytesP_len (f : Nat → Bool) : (bytesP f).length ≤ 2316 := by
  have h1 : (itemsL f 0).1.length ≤ 2313 := itemsR_len f 257 0
  have h2 : (itemsL (fun x => !f x) 0).1.length ≤ 2313 := itemsR_len (fun x => !f x) 257 0
  unfold bytesP
  generalize itemsL f 0 = I at *
  generalize itemsL (fun x => !f x) 0 = J at *
  split
  · omega
  · split
    · simp
    · split
      · simp only [List.length_append, List.length_cons, List.length_nil]; omega
      · simp only [List.length_append, List.length_cons, List.length_nil]; omega
def StrPost (l : List UInt8) (w : World) (e : Ending) (w' : World) : Prop := e = .returned (.string (bs l)) ∧ Below w.heap.size w w'

set_option maxRecDepth 100000 in
set_option maxHeartbeats 3200000 in
theorem bytes_any (f : Nat → Bool) (w : World) : Calls Try.prog 44 #[setA (setF f)] w (StrPost (bytesP f) w) := by
  have hlenI : (itemsL f 0).1.length ≤ 2313 := itemsR_len f 257 0
  have hlenJ : (itemsL (fun x => !f x) 0).1.length ≤ 2313 := itemsR_len (fun x => !f x) 257 0
  have HB : Hid (bytesP f = if (itemsL f 0).2 = 1 then (itemsL f 0).1
      else if (itemsL f 0).2 = 255 ∧ f 10 = false then [46]
      else if 128 < (itemsL f 0).2 ∧ (itemsL f 0).2 < 256 then [91, 94] ++ (itemsL (fun x => !f x) 0).1 ++ [93]
      else [91] ++ (itemsL f 0).1 ++ [93]) := rfl
  have HI := items_any f
  have HJ := items_any (fun x => !f x)
  have HN := rnot_any f
  have HH := HasF_any f 10 (by decide)
  obtain ⟨P, hP⟩ : ∃ P, bytesP f = P := ⟨_, rfl⟩
  rw [hP] at HB ⊢
  obtain ⟨I, hI⟩ : ∃ I, itemsL f 0 = I := ⟨_, rfl⟩
  rw [hI] at HB HI hlenI
  obtain ⟨J, hJ⟩ : ∃ J, itemsL (fun x => !f x) 0 = J := ⟨_, rfl⟩
  rw [hJ] at HB HJ hlenJ
  obtain ⟨S, hS⟩ : ∃ S, setF f = S := ⟨_, rfl⟩
  rw [hS] at HI HN HH ⊢
  obtain ⟨N, hN⟩ : ∃ N, setF (fun x => !f x) = N := ⟨_, rfl⟩
  rw [hN] at HJ HN
  obtain ⟨b, hb⟩ : ∃ b, f 10 = b := ⟨_, rfl⟩
  rw [hb] at HB HH
  obtain ⟨L, n⟩ := I
  obtain ⟨M, m⟩ := J
  dsimp only at HB hlenI hlenJ
  unfold setA at *
  unfold ItemsPost at HI HJ
  dsimp only at HI HJ
  obtain ⟨LB, hLB⟩ : ∃ LB, bs L = LB := ⟨_, rfl⟩
  obtain ⟨MB, hMB⟩ : ∃ MB, bs M = MB := ⟨_, rfl⟩
  rw [hLB] at HI
  rw [hMB] at HJ
  have hLs : LB.size ≤ 2313 := by rw [← hLB, bs_size]; exact hlenI
  have hMs : MB.size ≤ 2313 := by rw [← hMB, bs_size]; exact hlenJ
  have HLB := Lib.hid hLB
  have HMB := Lib.hid hMB
  have HI2 := Lib.hid HI
  have HJ2 := Lib.hid HJ
  have HN2 := Lib.hid HN
  have HH2 := Lib.hid HH
  have hbox : ∀ W, Below (w.heap.size + 1) (w.alloc (.cells #[.int .u64 S.a, .int .u64 S.b, .int .u64 S.c, .int .u64 S.d] 24)) W → (∀ j, W.cell? ⟨w.heap.size, j, none⟩ = (#[.int .u64 S.a, .int .u64 S.b, .int .u64 S.c, .int .u64 S.d] : Array Value)[j]?) ∧ Below w.heap.size w W := fun W h => box_facts h
  have HBOX := Lib.hid hbox
  clear hP hI hJ hS hN hb hLB hMB HI HJ HN HH hlenI hlenJ hbox
  go_enter Try.func44, Try.ntmps44
  go_wp2_with (go_at_call 60; apply Hid.out)
  unfold Hid
  refine (HI2.out _).mono ?_
  rintro e w1 ⟨rfl, hb1⟩
  have hb1' : Below (w.heap.size + 1) (w.alloc (.cells #[.int .u64 S.a, .int .u64 S.b, .int .u64 S.c, .int .u64 S.d] 24)) w1 := by rw [World.size_alloc] at hb1; exact hb1
  have HB1 := Lib.hid hb1'
  have hcell := (HBOX.out w1 hb1').1
  have c0 := hcell 0
  have c1 := hcell 1
  have c2 := hcell 2
  have c3 := hcell 3
  have HBW := Lib.hid (HBOX.out w1 hb1').2
  clear hb1 hb1' hcell HI2
  by_cases h1 : n = 1
  · have q1 : ((n : Int) == 1) = true := by rw [h1]; rfl
    have HP : Hid (bs P = LB) := by unfold Hid; rw [HB.out, if_pos h1, HLB.out]
    clear h1
    go_wp2_with fail
    exact bodyPost_ret (v := .string LB) (by simp [results, Try.results44, go_sem]) rfl ⟨by rw [HP.out], HBW.out⟩
  have q1 : ((n : Int) == 1) = false := beq_eq_false_iff_ne.2 (by omega)
  by_cases h2 : n = 255
  · have q2 : ((n : Int) == 255) = true := by rw [h2]; rfl
    go_wp2_with (go_at_call 61; apply Hid.out)
    unfold Hid
    refine (HH2.out _).mono ?_
    rintro e w2 ⟨rfl, hb2⟩
    have HB2 : Hid (Below (w.heap.size + 1) (w.alloc (.cells #[.int .u64 S.a, .int .u64 S.b, .int .u64 S.c, .int .u64 S.d] 24)) w2) := HB1.out.trans (hb2.mono (by have := HB1.out.size; rw [World.size_alloc] at this; exact this))
    have hcell := (HBOX.out w2 HB2.out).1
    have c0 := hcell 0
    have c1 := hcell 1
    have c2 := hcell 2
    have c3 := hcell 3
    have HBW2 := Lib.hid (HBOX.out w2 HB2.out).2
    clear hb2 hcell
    cases b with
    | false =>
      have HP : Hid (bs P = ByteArray.mk #[46]) := by unfold Hid; rw [HB.out, if_neg h1, if_pos ⟨h2, rfl⟩]; rfl
      clear h1 h2
      go_wp2_with fail
      exact bodyPost_ret (v := .string (ByteArray.mk #[46])) (by simp [results, Try.results44, go_sem]) rfl ⟨by rw [HP.out], HBW2.out⟩
    | true =>
      have q3 : decide ((128 : Int) < (n : Int)) = true := decide_eq_true (by omega)
      have q4 : decide ((n : Int) < 256) = true := decide_eq_true (by omega)
      have q5 : 128 < n := by omega
      have q6 : n < 256 := by omega
      have HP : Hid (bs P = ByteArray.mk #[91, 94] ++ MB ++ ByteArray.mk #[93]) := by unfold Hid; rw [HB.out, if_neg h1, if_neg (fun h => by cases h.2), if_pos ⟨q5, q6⟩, ← HMB.out, ← bs_append, ← bs_append]; rfl
      have y1 : ∀ W, (Op.stringOp .add (ByteArray.mk #[91, 94]) MB).run Try.prog W = .ok (.string (ByteArray.mk #[91, 94] ++ MB)) W := fun W => run_string_add_sum W _ MB (by show 2 + MB.size ≤ _; omega)
      have y2 : ∀ W, (Op.stringOp .add (ByteArray.mk #[91, 94] ++ MB) (ByteArray.mk #[93])).run Try.prog W = .ok (.string (ByteArray.mk #[91, 94] ++ MB ++ ByteArray.mk #[93])) W := fun W => run_string_add_sum W _ _ (by rw [ByteArray.size_append]; show 2 + MB.size + 1 ≤ _; omega)
      clear h1
      go_wp2_with (go_at_call 62; apply Hid.out)
      unfold Hid
      refine (HN2.out _).mono ?_
      rintro e w3 ⟨rfl, hb3⟩
      have HB3 : Hid (Below w.heap.size w w3) := HBW2.out.trans (hb3.mono HBW2.out.size)
      clear hb3 c0 c1 c2 c3
      go_wp2_with (go_at_call 60; apply Hid.out)
      unfold Hid
      refine (HJ2.out _).mono ?_
      rintro e w4 ⟨rfl, hb4⟩
      have HB4 : Hid (Below w.heap.size w w4) := HB3.out.trans (hb4.mono HB3.out.size)
      clear hb4
      go_wp2_with fail
      exact bodyPost_ret (v := .string (ByteArray.mk #[91, 94] ++ MB ++ ByteArray.mk #[93])) (by simp [results, Try.results44, go_sem]) rfl ⟨by rw [HP.out], HB4.out⟩
  have q2 : ((n : Int) == 255) = false := beq_eq_false_iff_ne.2 (by omega)
  by_cases h3 : 128 < n ∧ n < 256
  · have q5 : 128 < n := h3.1
    have q6 : n < 256 := h3.2
    have HP : Hid (bs P = ByteArray.mk #[91, 94] ++ MB ++ ByteArray.mk #[93]) := by unfold Hid; rw [HB.out, if_neg h1, if_neg (fun h => h2 h.1), if_pos ⟨q5, q6⟩, ← HMB.out, ← bs_append, ← bs_append]; rfl
    have y1 : ∀ W, (Op.stringOp .add (ByteArray.mk #[91, 94]) MB).run Try.prog W = .ok (.string (ByteArray.mk #[91, 94] ++ MB)) W := fun W => run_string_add_sum W _ MB (by show 2 + MB.size ≤ _; omega)
    have y2 : ∀ W, (Op.stringOp .add (ByteArray.mk #[91, 94] ++ MB) (ByteArray.mk #[93])).run Try.prog W = .ok (.string (ByteArray.mk #[91, 94] ++ MB ++ ByteArray.mk #[93])) W := fun W => run_string_add_sum W _ _ (by rw [ByteArray.size_append]; show 2 + MB.size + 1 ≤ _; omega)
    clear h1 h2 h3
    go_wp2_with (go_at_call 62; apply Hid.out)
    unfold Hid
    refine (HN2.out _).mono ?_
    rintro e w3 ⟨rfl, hb3⟩
    have HB3 : Hid (Below w.heap.size w w3) := HBW.out.trans (hb3.mono HBW.out.size)
    clear hb3 c0 c1 c2 c3
    go_wp2_with (go_at_call 60; apply Hid.out)
    unfold Hid
    refine (HJ2.out _).mono ?_
    rintro e w4 ⟨rfl, hb4⟩
    have HB4 : Hid (Below w.heap.size w w4) := HB3.out.trans (hb4.mono HB3.out.size)
    clear hb4
    go_wp2_with fail
    exact bodyPost_ret (v := .string (ByteArray.mk #[91, 94] ++ MB ++ ByteArray.mk #[93])) (by simp [results, Try.results44, go_sem]) rfl ⟨by rw [HP.out], HB4.out⟩
  · have HP : Hid (bs P = ByteArray.mk #[91] ++ LB ++ ByteArray.mk #[93]) := by unfold Hid; rw [HB.out, if_neg h1, if_neg (fun h => h2 h.1), if_neg h3, ← HLB.out, ← bs_append, ← bs_append]; rfl
    have y1 : ∀ W, (Op.stringOp .add (ByteArray.mk #[91]) LB).run Try.prog W = .ok (.string (ByteArray.mk #[91] ++ LB)) W := fun W => run_string_add_sum W _ LB (by show 1 + LB.size ≤ _; omega)
    have y2 : ∀ W, (Op.stringOp .add (ByteArray.mk #[91] ++ LB) (ByteArray.mk #[93])).run Try.prog W = .ok (.string (ByteArray.mk #[91] ++ LB ++ ByteArray.mk #[93])) W := fun W => run_string_add_sum W _ _ (by rw [ByteArray.size_append]; show 1 + LB.size + 1 ≤ _; omega)
    by_cases h4 : 128 < n
    · have q6 : 256 ≤ n := by omega
      clear h1 h2 h3
      go_wp2_with fail
      exact bodyPost_ret (v := .string (ByteArray.mk #[91] ++ LB ++ ByteArray.mk #[93])) (by simp [results, Try.results44, go_sem]) rfl ⟨by rw [HP.out], HBW.out⟩
    · have q6 : n ≤ 128 := by omega
      clear h1 h2 h3 h4
      go_wp2_with fail
      exact bodyPost_ret (v := .string (ByteArray.mk #[91] ++ LB ++ ByteArray.mk #[93])) (by simp [results, Try.results44, go_sem]) rfl ⟨by rw [HP.out], HBW.out⟩
end
end Go.Proofs.Ytnjjchbgnmjkjaa
