/- The walks of one.Check, one.body, one.one, one.One. -/
import Derived.Test.YtchoenfclfafiaaDoorOneL
import Derived.Test.YtchoenfclfafiaaDoorHedS
import Derived.Test.YtchoenfclfafiaaDoorFrmK
import Derived.Deep.RegionHeld3
namespace Go.Proofs.YtchoenfclfafiaaDoor
open Go.RowKit

def bndE (H B A : Int) : Int := if boundsB H B A = true then 0 else 1
set_option maxRecDepth 100000 in
set_option maxHeartbeats 1600000 in
theorem OCheck_any (H B A : Int) (w : World) :
    Calls Tryd.prog 39 #[.agg #[.int .i64 H, .int .i64 B, .int .i64 A]] w fun e w' => e = .returned (.int .i64 (bndE H B A)) ∧ Below w.heap.size w w' := by
  have hb : Below w.heap.size w (w.alloc (.cells #[.int .i64 H, .int .i64 B, .int .i64 A] 47)) := (Below.refl _ _).alloc (Nat.le_refl _) _
  have hno : boundsB H B A = false → bndE H B A = 1 := fun h => by unfold bndE; rw [h]; rfl
  by_cases c1 : H < 30
  · have HR := Lib.hid (hno (by unfold boundsB; rw [decide_eq_false (by omega : ¬ 30 ≤ H)]; rfl))
    have d1 : decide (H < 30) = true := decide_eq_true c1
    clear hno c1
    go_enter Tryd.func39, Tryd.ntmps39
    go_wp2_with fail
    go_ret
    exact ⟨ret_int HR.out.symm, hb⟩
  have d1 : decide (H < 30) = false := decide_eq_false c1
  by_cases c2 : 4096 < H
  · have HR := Lib.hid (hno (by unfold boundsB; rw [decide_eq_false (by omega : ¬ H ≤ 4096)]; simp))
    have d2 : decide (4096 < H) = true := decide_eq_true c2
    clear hno c1 c2
    go_enter Tryd.func39, Tryd.ntmps39
    go_wp2_with fail
    go_ret
    exact ⟨ret_int HR.out.symm, hb⟩
  have d2 : decide (4096 < H) = false := decide_eq_false c2
  by_cases c3 : B < 0
  · have HR := Lib.hid (hno (by unfold boundsB; rw [decide_eq_false (by omega : ¬ 0 ≤ B)]; simp))
    have d3 : decide (B < 0) = true := decide_eq_true c3
    clear hno c1 c2 c3
    go_enter Tryd.func39, Tryd.ntmps39
    go_wp2_with fail
    go_ret
    exact ⟨ret_int HR.out.symm, hb⟩
  have d3 : decide (B < 0) = false := decide_eq_false c3
  by_cases c4 : 4096 < B
  · have HR := Lib.hid (hno (by unfold boundsB; rw [decide_eq_false (by omega : ¬ B ≤ 4096)]; simp))
    have d4 : decide (4096 < B) = true := decide_eq_true c4
    clear hno c1 c2 c3 c4
    go_enter Tryd.func39, Tryd.ntmps39
    go_wp2_with fail
    go_ret
    exact ⟨ret_int HR.out.symm, hb⟩
  have d4 : decide (4096 < B) = false := decide_eq_false c4
  by_cases c5 : A < 1
  · have HR := Lib.hid (hno (by unfold boundsB; rw [decide_eq_false (by omega : ¬ 1 ≤ A)]; simp))
    have d5 : decide (A < 1) = true := decide_eq_true c5
    clear hno c1 c2 c3 c4 c5
    go_enter Tryd.func39, Tryd.ntmps39
    go_wp2_with fail
    go_ret
    exact ⟨ret_int HR.out.symm, hb⟩
  have d5 : decide (A < 1) = false := decide_eq_false c5
  by_cases c6 : 40 < A
  · have HR := Lib.hid (hno (by unfold boundsB; rw [decide_eq_false (by omega : ¬ A ≤ 40)]; simp))
    have d6 : decide (40 < A) = true := decide_eq_true c6
    clear hno c1 c2 c3 c4 c5 c6
    go_enter Tryd.func39, Tryd.ntmps39
    go_wp2_with fail
    go_ret
    exact ⟨ret_int HR.out.symm, hb⟩
  have d6 : decide (40 < A) = false := decide_eq_false c6
  have HR : Hid (bndE H B A = 0) := by
    unfold Hid bndE
    rw [if_pos]
    unfold boundsB
    simp only [Bool.and_eq_true, decide_eq_true_eq]
    omega
  clear hno c1 c2 c3 c4 c5 c6
  go_enter Tryd.func39, Tryd.ntmps39
  go_wp2_with fail
  go_ret
  exact ⟨ret_int HR.out.symm, hb⟩

theorem body_two (N B : Int) (l : List UInt8) : bodyR (2, N, 0) l B = if B < N then .inl 6 else if (l.length : Int) < N then .inl 7 else .inr (l.take N.toNat, N.toNat) := by
  unfold bodyR
  rw [if_neg (fun h => h rfl), if_neg (show ¬ (2 : Int) = 1 by decide), if_neg (show ¬ (2 : Int) = 3 by decide)]
set_option maxRecDepth 100000 in
set_option maxHeartbeats 1600000 in
theorem OBody_any (h : HeadV) (A : Option Addr) (c : Nat) (s : ByteArray) (B : Int) (w : World) (hf : Sl w w.heap.size 2 A h.fs.length (h.fs.flatMap cellsV))
    (hs : ∀ f ∈ h.fs, f.1.size ≤ maxLen ∧ f.2.size ≤ maxLen) (hl : h.fs.length ≤ 4398046511104) (hsz : s.size ≤ 4611686018427387904) (hB : B ≤ 140737488355328) :
    Calls Tryd.prog 59 #[.agg #[.string h.m, .string h.t, .slice A h.fs.length c], .string s, .int .i64 B] w fun e w' => e = .returned (toldV (bodyR (framed h) s.data.toList B)) ∧ Below w.heap.size w w' := by
  have hb0 : Below w.heap.size w (w.alloc (.cells #[.string h.m, .string h.t, .slice A h.fs.length c] 29)) := (Below.refl _ _).alloc (Nat.le_refl _) _
  have HOF := Lib.hid (Of_any h.m h.t A h.fs.length c h.fs (w.alloc (.cells #[.string h.m, .string h.t, .slice A h.fs.length c] 29)) rfl ((hf.below hb0).more hb0.size) (fun f hf => (hs f hf).1) (fun f hf => (hs f hf).2) hl)
  have hc := ofL_cases (getL h.fs clen) (getL h.fs tenc)
  have HF : Hid (framed h = ofL (getL h.fs clen) (getL h.fs tenc)) := rfl
  unfold OfPost at HOF
  generalize ofL (getL h.fs clen) (getL h.fs tenc) = r at *
  have hsl : s.data.toList.length = s.size := by simp
  have HCH := fun W => Lib.hid (Chunks_any W s B hsz (.inr (by omega)) (by omega))
  obtain ⟨K, N, E⟩ := r
  dsimp only at hc
  have HB0 := Lib.hid hb0
  clear hf hs hl hb0 hsz
  rcases hc with rfl | ⟨rfl, rfl | rfl | ⟨rfl, h1, h2⟩⟩
  · have HR : Hid (bodyR (framed h) s.data.toList B = .inl 4) := by unfold Hid bodyR; rw [HF.out]; rfl
    unfold ofV at HOF
    dsimp only at HOF
    clear HCH hsl
    go_enter Tryd.func59, Tryd.ntmps59
    go_wp2_with fail
    refine HOF.out.mono ?_
    rintro e w1 ⟨rfl, hb1⟩
    have hb2 := hb1.alloc hb1.size (.cells #[.int .i64 K, .int .i64 N] 61)
    have hb3 := HB0.out.trans (hb2.mono HB0.out.size)
    clear hb1 hb2
    go_wp2_with fail
    go_ret3
    exact ⟨by rw [HR.out]; rfl, hb3⟩
  · have HR : Hid (bodyR (framed h) s.data.toList B = .inr ([], 0)) := by unfold Hid bodyR; rw [HF.out]; rfl
    unfold ofV at HOF
    dsimp only at HOF
    clear HCH hsl
    go_enter Tryd.func59, Tryd.ntmps59
    go_wp2_with fail
    refine HOF.out.mono ?_
    rintro e w1 ⟨rfl, hb1⟩
    have hb2 := hb1.alloc hb1.size (.cells #[.int .i64 1, .int .i64 N] 61)
    have hb3 := HB0.out.trans (hb2.mono HB0.out.size)
    clear hb1 hb2
    go_wp2_with fail
    go_ret3
    exact ⟨by rw [HR.out]; rfl, hb3⟩
  · have HR : Hid (bodyR (framed h) s.data.toList B = chunksL s.data.toList (max B 0)) := by unfold Hid bodyR; rw [HF.out]; rfl
    unfold ofV at HOF
    dsimp only at HOF
    clear hsl
    go_enter Tryd.func59, Tryd.ntmps59
    go_wp2_with fail
    refine HOF.out.mono ?_
    rintro e w1 ⟨rfl, hb1⟩
    have hb2 := hb1.alloc hb1.size (.cells #[.int .i64 3, .int .i64 N] 61)
    have hb3 := HB0.out.trans (hb2.mono HB0.out.size)
    clear hb1 hb2
    go_wp2_with fail
    refine (HCH _).out.mono ?_
    rintro e w2 ⟨rfl, hb4⟩
    have hb5 := hb3.trans (hb4.mono hb3.size)
    clear hb3 hb4
    rw [← HR.out]
    cases hq : bodyR (framed h) s.data.toList B with
    | inl x =>
      unfold toldV
      go_wp2_with fail
      go_ret3
      exact ⟨by rw [hq]; rfl, hb5⟩
    | inr p =>
      obtain ⟨t, k⟩ := p
      unfold toldV
      go_wp2_with fail
      go_ret3
      exact ⟨by rw [hq]; rfl, hb5⟩
  · unfold ofV at HOF
    dsimp only at HOF
    clear HCH
    by_cases c1 : B < N
    · have HR : Hid (bodyR (framed h) s.data.toList B = .inl 6) := by unfold Hid; rw [HF.out, body_two, if_pos c1]
      have d1 : decide (B < N) = true := decide_eq_true c1
      clear c1 hsl
      go_enter Tryd.func59, Tryd.ntmps59
      go_wp2_with fail
      refine HOF.out.mono ?_
      rintro e w1 ⟨rfl, hb1⟩
      have hb2 := hb1.alloc hb1.size (.cells #[.int .i64 2, .int .i64 N] 61)
      have hb3 := HB0.out.trans (hb2.mono HB0.out.size)
      clear hb1 hb2
      go_wp2_with fail
      go_ret3
      exact ⟨by rw [HR.out]; rfl, hb3⟩
    have d1 : decide (B < N) = false := decide_eq_false c1
    by_cases c2 : (s.size : Int) < N
    · have HR : Hid (bodyR (framed h) s.data.toList B = .inl 7) := by unfold Hid; rw [HF.out, body_two, if_neg c1, if_pos (by omega)]
      have d2 : decide ((s.size : Int) < N) = true := decide_eq_true c2
      clear c1 c2 hsl
      go_enter Tryd.func59, Tryd.ntmps59
      go_wp2_with fail
      refine HOF.out.mono ?_
      rintro e w1 ⟨rfl, hb1⟩
      have hb2 := hb1.alloc hb1.size (.cells #[.int .i64 2, .int .i64 N] 61)
      have hb3 := HB0.out.trans (hb2.mono HB0.out.size)
      clear hb1 hb2
      go_wp2_with fail
      go_ret3
      exact ⟨by rw [HR.out]; rfl, hb3⟩
    have d2 : decide ((s.size : Int) < N) = false := decide_eq_false c2
    obtain ⟨k, rfl⟩ := Int.eq_ofNat_of_zero_le h1
    have HR : Hid (bodyR (framed h) s.data.toList B = .inr (s.data.toList.take k, k)) := by unfold Hid; rw [HF.out, body_two, if_neg c1, if_neg (by omega)]; rfl
    have hx : s.extract 0 k = bs (s.data.toList.take k) := ext_bs (by rw [Lib.extract_data]; simp)
    have i1 : (k : Int) ≤ (s.size : Int) := by omega
    have i2 : (0 : Int) ≤ (k : Int) := by omega
    have HX := Lib.hid hx
    clear c1 c2 hsl h1 h2 hx
    go_enter Tryd.func59, Tryd.ntmps59
    go_wp2_with fail
    refine HOF.out.mono ?_
    rintro e w1 ⟨rfl, hb1⟩
    have hb2 := hb1.alloc hb1.size (.cells #[.int .i64 2, .int .i64 (k : Int)] 61)
    have hb3 := HB0.out.trans (hb2.mono HB0.out.size)
    clear hb1 hb2
    go_wp2_with fail
    go_quiet (fail)
    go_wp2_with fail
    go_ret3
    exact ⟨by rw [HR.out, HX.out]; rfl, below_drewN hb3 nq⟩
end Go.Proofs.YtchoenfclfafiaaDoor
