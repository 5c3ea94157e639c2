/- The walks of Is, Where (at any function value), Range. -/
import Derived.Test.YtnjjchbgnmjkjaaSetL
import Derived.Test.YtnjjchbgnmjkjaaMem
import Derived.Test.YtnjjchbgnmjkjaaHit
import Derived.Shelf.GgClosure.Gives
namespace Go.Proofs.Ytnjjchbgnmjkjaa
open Go.RowKit

def setA (s : Set4) : Value := .agg #[.int .u64 s.a, .int .u64 s.b, .int .u64 s.c, .int .u64 s.d]
/-- Four cells that are known whole. -/
def FourW (w : World) (g : Nat) (s : Set4) : Prop := w.heap[g]? = some (.cells #[.int .u64 s.a, .int .u64 s.b, .int .u64 s.c, .int .u64 s.d] 24 (0, 0))
section
variable {w w' : World} {g : Nat} {s : Set4}
theorem FourW.cells (h : FourW w g s) : w.cell? ⟨g, 0, none⟩ = some (.int .u64 s.a) ∧ w.cell? ⟨g, 1, none⟩ = some (.int .u64 s.b) ∧ w.cell? ⟨g, 2, none⟩ = some (.int .u64 s.c) ∧ w.cell? ⟨g, 3, none⟩ = some (.int .u64 s.d) :=
  ⟨cell_of_row w g 0 _ _ (0, 0) h, cell_of_row w g 1 _ _ (0, 0) h, cell_of_row w g 2 _ _ (0, 0) h, cell_of_row w g 3 _ _ (0, 0) h⟩
theorem FourW.cell (h : FourW w g s) (j : Nat) (hj : j < 4) : w.cell? ⟨g, j, none⟩ = some (.int .u64 (s.word j)) := by
  obtain ⟨h0, h1, h2, h3⟩ := h.cells
  match j, hj with
  | 0, _ => exact h0
  | 1, _ => exact h1
  | 2, _ => exact h2
  | 3, _ => exact h3
theorem FourW.free (h : FourW w g s) (j : Nat) : w.frozen? ⟨g, j, none⟩ = false := by unfold FourW at h; simp [World.frozen?, h]
theorem FourW.far (h : FourW w g s) {k : Nat} (hne : g ≠ k) (j : Nat) (u : Value) : FourW (w.setCell ⟨k, j, none⟩ u) g s := (Below.heap_setCell w ⟨k, j, none⟩ u g hne).trans h
theorem FourW.lt (h : FourW w g s) : g < w.heap.size := by
  unfold FourW at h
  rw [Array.getElem?_eq_some_iff] at h
  exact h.1
theorem FourW.drew (h : FourW w g s) : FourW w.drew g s := h
theorem FourW.below {B : Nat} (h : FourW w g s) (hb : Below B w w') (hg : g < B) : FourW w' g s := (hb.block g hg).trans h
def putW (s : Set4) (j : Nat) (u : Int) : Set4 := if j = 0 then ⟨u, s.b, s.c, s.d⟩ else if j = 1 then ⟨s.a, u, s.c, s.d⟩ else if j = 2 then ⟨s.a, s.b, u, s.d⟩ else ⟨s.a, s.b, s.c, u⟩
theorem FourW.put (h : FourW w g s) (j : Nat) (hj : j < 4) (u : Int) : FourW (w.setCell ⟨g, j, none⟩ (.int .u64 u)) g (putW s j u) := by
  unfold FourW at h ⊢
  match j, hj with
  | 0, _ => simp [World.setCell, Array.getElem?_modify, h, putW]
  | 1, _ => simp [World.setCell, Array.getElem?_modify, h, putW]
  | 2, _ => simp [World.setCell, Array.getElem?_modify, h, putW]
  | 3, _ => simp [World.setCell, Array.getElem?_modify, h, putW]
theorem FourW.fill (h : FourW w g s) (t : Set4) : FourW ((((w.setCell ⟨g, 0, none⟩ (.int .u64 t.a)).setCell ⟨g, 1, none⟩ (.int .u64 t.b)).setCell ⟨g, 2, none⟩ (.int .u64 t.c)).setCell ⟨g, 3, none⟩ (.int .u64 t.d)) g t := by unfold FourW at h ⊢; simp [World.setCell, Array.getElem?_modify, h]
theorem FourW.new (w : World) : FourW (w.alloc (.cells #[.int .u64 0, .int .u64 0, .int .u64 0, .int .u64 0] 24)) w.heap.size (setF fun _ => false) := by rw [setF_none]; exact heap_alloc_new w _
end
theorem putW_one (f : Nat → Bool) (k : Nat) (hk : k < 256) : putW (setF f) (k / 64) ((wdF f (k / 64) ||| 2 ^ (k % 64) : Nat) : Int) = setF (fun x => f x || decide (x = k)) := by
  have hj : k / 64 < 4 := by omega
  rw [wdF_one]
  have h0 := wdF_other f k
  generalize hjj : k / 64 = j at *
  unfold putW setF
  match j, hj with
  | 0, _ => simp [h0 1 (by decide), h0 2 (by decide), h0 3 (by decide)]
  | 1, _ => simp [h0 0 (by decide), h0 2 (by decide), h0 3 (by decide)]
  | 2, _ => simp [h0 0 (by decide), h0 1 (by decide), h0 3 (by decide)]
  | 3, _ => simp [h0 0 (by decide), h0 1 (by decide), h0 2 (by decide)]

theorem or_one (f : Nat → Bool) (k : Nat) : bits .or .u64 ((wdF f (k / 64) : Nat) : Int) (IntKind.u64.wrap (2 ^ (k % 64))) = ((wdF f (k / 64) ||| 2 ^ (k % 64) : Nat) : Int) := by
  have h1 : 2 ^ (k % 64) < 18446744073709551616 := by have h := Nat.pow_lt_pow_right (a := 2) (by decide) (Nat.mod_lt k (show 64 > 0 by decide)); exact h
  have := bits_or_u64_nat (wdF f (k / 64)) (2 ^ (k % 64)) (wdF_lt _ _) h1
  have h2 : IntKind.u64.wrap (2 ^ (k % 64)) = ((2 ^ (k % 64) : Nat) : Int) := by
    rw [IntKind.wrap_u64, show (2 : Int) ^ (k % 64) = ((2 ^ (k % 64) : Nat) : Int) by rw [Int.natCast_pow]; rfl]
    generalize 2 ^ (k % 64) = q at h1
    omega
  rw [← this, h2]
def WhRelW (p : Nat → Bool) (w : World) (b : Value) (wr : World) : Prop :=
  ∃ k : Nat, k ≤ 256 ∧ b = .int .i64 k ∧ FourW wr (w.heap.size + 1) (setF fun x => p x && decide (x < k)) ∧ FourW wr w.heap.size (setF fun _ => false) ∧ Below w.heap.size w wr
def SetPostW (s : Set4) (w : World) (e : Ending) (w' : World) : Prop := e = .returned (setA s) ∧ Below w.heap.size w w'

set_option maxRecDepth 100000 in
set_option maxHeartbeats 1600000 in
theorem WhereF_any (g : Nat) (lb : Array Value) (eg : ∀ args w, (callFunc g args).run Try.prog w = .ok (.enter g args) w) (p : Nat → Bool) (w : World)
    (hp : ∀ W (k : Nat), k < 256 → Below w.heap.size w W → Calls Try.prog g (#[.int .i64 k] ++ lb) W (BoolPost (p k) W)) :
    Calls Try.prog 27 #[.func (.func g) #[] lb] w (SetPostW (setF p) w) := by
  have h0 : ∀ W, W = (w.alloc (.cells #[.int .u64 0, .int .u64 0, .int .u64 0, .int .u64 0] 24)).alloc (.cells #[.int .u64 0, .int .u64 0, .int .u64 0, .int .u64 0] 24) → FourW W (w.heap.size + 1) (setF fun x => p x && decide (x < 0)) ∧ FourW W w.heap.size (setF fun _ => false) ∧ Below w.heap.size w W := fun W hW => by
    have hb : Below w.heap.size w W := by rw [hW]; exact ((Below.refl _ _).alloc (Nat.le_refl _) _).alloc (by simp) _
    refine ⟨?_, ?_, hb⟩
    · have := FourW.new (w.alloc (.cells #[.int .u64 0, .int .u64 0, .int .u64 0, .int .u64 0] 24))
      rw [World.size_alloc] at this
      rw [hW, setF_congr (g := fun _ => false) (fun k _ => by simp)]
      exact this
    · rw [hW]
      exact (Below.heap_alloc _ _ _ (by simp)).trans (FourW.new w)
  have H0 := Lib.hid h0
  have HP := Lib.hid hp
  clear h0 hp
  go_enter Try.func27, Try.ntmps27
  go_wp2_with fail
  go_loopw [4] (fun b wr => WhRelW p w b wr) (fun b _ => 256 - (intOf b).toNat)
  case atStart => exact ⟨0, by omega, rfl, H0.out _ rfl⟩
  case round =>
    obtain ⟨k, hk, rfl, hF, hZ, hb⟩ := hrel
    by_cases hlt : k < 256
    · have hc := HP.out wr k hlt hb
      cases hq : p k with
      | true =>
        rw [hq] at hc
        have HU2 : Hid ((fun x => (p x && decide (x < k)) || decide (x = k)) = fun x => p x && decide (x < k + 1)) := by
          unfold Hid
          funext x
          by_cases e : x = k
          · subst e; simp [hq]
          · by_cases h2 : x < k
            · simp [h2, e, Nat.lt_succ_of_lt h2]
            · have : ¬ x < k + 1 := by omega
              simp [h2, e, this]
        clear hq
        go_wp2_with (go_at_fn g; refine hc.mono ?_; rintro e w2 ⟨rfl, hb1⟩)
        have hF2 := hF.below hb1 hF.lt
        have hZ2 := hZ.below hb1 hZ.lt
        have hb2 := hb.trans (hb1.mono hb.size)
        have hcell := hF2.cell (k / 64) (by omega)
        rw [setF_word _ _ (by omega)] at hcell
        have hfr := hF2.free (k / 64)
        have HPW := Lib.hid (putW_one (fun x => p x && decide (x < k)) k hlt)
        have hor := or_one (fun x => p x && decide (x < k)) k
        rw [HU2.out] at HPW
        generalize wdF (fun x => p x && decide (x < k)) (k / 64) = wd at *
        have HF2 := Lib.hid hF2
        have HZ2 := Lib.hid hZ2
        have HB2 := Lib.hid hb2
        clear hc hF hZ hb hb1 hF2 hZ2 hb2
        go_wp2_with fail
        go_region
        have hF3 := HF2.out.put (k / 64) (by omega) ((wd ||| 2 ^ (k % 64) : Nat) : Int)
        rw [HPW.out] at hF3
        have hZ3 := HZ2.out.far (k := w.heap.size + 1) (by omega) (k / 64) (.int .u64 ((wd ||| 2 ^ (k % 64) : Nat) : Int))
        have hB3 := HB2.out.setCell (p := ⟨w.heap.size + 1, k / 64, none⟩) (Nat.le_succ _) (.int .u64 ((wd ||| 2 ^ (k % 64) : Nat) : Int))
        clear hcell hfr
        generalize w2.setCell ⟨w.heap.size + 1, k / 64, none⟩ (.int .u64 ((wd ||| 2 ^ (k % 64) : Nat) : Int)) = w3 at *
        go_wp2_with fail
        go_roundw
        case rel => exact ⟨k + 1, by omega, by go_num, hF3.drew, hZ3.drew, hB3.drew⟩
        case measure => simp [intOf] <;> omega
      | false =>
        rw [hq] at hc
        have HU2 : Hid ((fun x => p x && decide (x < k)) = fun x => p x && decide (x < k + 1)) := by
          unfold Hid
          funext x
          by_cases e : x = k
          · subst e; simp [hq]
          · by_cases h2 : x < k
            · simp [h2, Nat.lt_succ_of_lt h2]
            · have : ¬ x < k + 1 := by omega
              simp [h2, this]
        rw [HU2.out] at hF
        clear hq
        go_wp2_with (go_at_fn g; refine hc.mono ?_; rintro e w2 ⟨rfl, hb1⟩)
        have hF2 := hF.below hb1 hF.lt
        have hZ2 := hZ.below hb1 hZ.lt
        have hb2 := hb.trans (hb1.mono hb.size)
        go_roundw
        case rel => exact ⟨k + 1, by omega, by go_num, hF2, hZ2, hb2⟩
        case measure => simp [intOf] <;> omega
    · obtain rfl : k = 256 := by omega
      have HU2 : Hid (setF (fun x => p x && decide (x < 256)) = setF p) := setF_congr fun x hx => by simp [hx]
      rw [HU2.out] at hF
      have ⟨c0, c1, c2, c3⟩ := hF.cells
      have ⟨z0, z1, z2, z3⟩ := hZ.cells
      have y0 := hZ.free 0
      have y1 := hZ.free 1
      have y2 := hZ.free 2
      have y3 := hZ.free 3
      generalize setF p = S at *
      go_wp2_with fail
      have hFW := hZ.fill S
      have hbW := (((hb.setCell (p := ⟨w.heap.size, 0, none⟩) (Nat.le_refl _) (.int .u64 S.a)).setCell (p := ⟨w.heap.size, 1, none⟩) (Nat.le_refl _) (.int .u64 S.b)).setCell (p := ⟨w.heap.size, 2, none⟩) (Nat.le_refl _) (.int .u64 S.c)).setCell (p := ⟨w.heap.size, 3, none⟩) (Nat.le_refl _) (.int .u64 S.d)
      generalize ((((wr.setCell ⟨w.heap.size, 0, none⟩ (.int .u64 S.a)).setCell ⟨w.heap.size, 1, none⟩ (.int .u64 S.b)).setCell ⟨w.heap.size, 2, none⟩ (.int .u64 S.c)).setCell ⟨w.heap.size, 3, none⟩ (.int .u64 S.d)) = WF at *
      obtain ⟨s0, s1, s2, s3⟩ := hFW.cells
      exact bodyPost_ret (v := setA S) (by simp [results, Try.results27, go_sem, s0, s1, s2, s3, setA]) rfl ⟨rfl, hbW⟩

theorem and_63 (k : Nat) (hk : k < 256) : bits .and .i64 (k : Int) 63 = ((k % 64 : Nat) : Int) := by
  have h : ∀ k : Fin 256, bits .and .i64 ((k.val : Nat) : Int) 63 = ((k.val % 64 : Nat) : Int) := by decide +kernel
  exact h ⟨k, hk⟩
def RgRel (lo hi : Nat) (w : World) (b : Value) (wr : World) : Prop :=
  ∃ k : Nat, lo ≤ k ∧ k ≤ hi + 1 ∧ b = .int .i64 k ∧ FourW wr (w.heap.size + 1) (setF fun x => decide (lo ≤ x) && decide (x < k)) ∧ FourW wr w.heap.size (setF fun _ => false) ∧ Below w.heap.size w wr

set_option maxRecDepth 100000 in
set_option maxHeartbeats 1600000 in
theorem Range_any (lo hi : Nat) (h1 : lo ≤ hi) (h2 : hi < 256) (w : World) :
    Calls Try.prog 101 #[.int .i64 lo, .int .i64 hi] w (SetPostW (setF fun x => decide (lo ≤ x) && decide (x ≤ hi)) w) := by
  have h0 : ∀ W, W = (w.alloc (.cells #[.int .u64 0, .int .u64 0, .int .u64 0, .int .u64 0] 24)).alloc (.cells #[.int .u64 0, .int .u64 0, .int .u64 0, .int .u64 0] 24) → FourW W (w.heap.size + 1) (setF fun x => decide (lo ≤ x) && decide (x < lo)) ∧ FourW W w.heap.size (setF fun _ => false) ∧ Below w.heap.size w W := fun W hW => by
    have hb : Below w.heap.size w W := by rw [hW]; exact ((Below.refl _ _).alloc (Nat.le_refl _) _).alloc (by simp) _
    refine ⟨?_, ?_, hb⟩
    · have := FourW.new (w.alloc (.cells #[.int .u64 0, .int .u64 0, .int .u64 0, .int .u64 0] 24))
      rw [World.size_alloc] at this
      rw [hW, setF_congr (g := fun _ => false) (fun k _ => by simp)]
      exact this
    · rw [hW]
      exact (Below.heap_alloc _ _ _ (by simp)).trans (FourW.new w)
  have H0 := Lib.hid h0
  clear h0
  go_enter Try.func101, Try.ntmps101
  go_wp2_with fail
  go_loopw [6] (fun b wr => RgRel lo hi w b wr) (fun b _ => 256 - (intOf b).toNat)
  case atStart => exact ⟨lo, Nat.le_refl _, by omega, rfl, H0.out _ rfl⟩
  case round =>
    obtain ⟨k, hk1, hk2, rfl, hF, hZ, hb⟩ := hrel
    by_cases hlt : k ≤ hi
    · have d1 : decide ((k : Int) ≤ (hi : Int)) = true := by simp; omega
      have HU2 : Hid ((fun x => (decide (lo ≤ x) && decide (x < k)) || decide (x = k)) = fun x => decide (lo ≤ x) && decide (x < k + 1)) := by
        unfold Hid
        funext x
        by_cases e : x = k
        · subst e; simp [hk1]
        · by_cases h2 : x < k
          · simp [h2, e, Nat.lt_succ_of_lt h2]
          · have : ¬ x < k + 1 := by omega
            simp [h2, e, this]
      have hcell := hF.cell (k / 64) (by omega)
      rw [setF_word _ _ (by omega)] at hcell
      have hfr := hF.free (k / 64)
      have HPW := Lib.hid (putW_one (fun x => decide (lo ≤ x) && decide (x < k)) k (by omega))
      have hor := or_one (fun x => decide (lo ≤ x) && decide (x < k)) k
      have h63 := and_63 k (by omega)
      rw [HU2.out] at HPW
      generalize wdF (fun x => decide (lo ≤ x) && decide (x < k)) (k / 64) = wd at *
      have HF2 := Lib.hid hF
      have HZ2 := Lib.hid hZ
      have HB2 := Lib.hid hb
      clear hF hZ hb
      go_wp2_with fail
      go_region
      have hF3 := HF2.out.put (k / 64) (by omega) ((wd ||| 2 ^ (k % 64) : Nat) : Int)
      rw [HPW.out] at hF3
      have hZ3 := HZ2.out.far (k := w.heap.size + 1) (by omega) (k / 64) (.int .u64 ((wd ||| 2 ^ (k % 64) : Nat) : Int))
      have hB3 := HB2.out.setCell (p := ⟨w.heap.size + 1, k / 64, none⟩) (Nat.le_succ _) (.int .u64 ((wd ||| 2 ^ (k % 64) : Nat) : Int))
      clear hcell hfr
      generalize wr.setCell ⟨w.heap.size + 1, k / 64, none⟩ (.int .u64 ((wd ||| 2 ^ (k % 64) : Nat) : Int)) = w3 at *
      go_wp2_with fail
      go_roundw
      case rel => exact ⟨k + 1, by omega, by omega, by go_num, hF3.drew, hZ3.drew, hB3.drew⟩
      case measure => simp [intOf] <;> omega
    · obtain rfl : k = hi + 1 := by omega
      have d1 : decide (((hi + 1 : Nat) : Int) ≤ (hi : Int)) = false := by simp; omega
      have HU2 : Hid (setF (fun x => decide (lo ≤ x) && decide (x < hi + 1)) = setF fun x => decide (lo ≤ x) && decide (x ≤ hi)) := setF_congr fun x hx => by
        rw [show decide (x < hi + 1) = decide (x ≤ hi) from decide_eq_decide.2 Nat.lt_succ_iff]
      rw [HU2.out] at hF
      obtain ⟨S, hS⟩ : ∃ S, S = setF fun x => decide (lo ≤ x) && decide (x ≤ hi) := ⟨_, rfl⟩
      rw [← hS] at hF
      have HS := Lib.hid hS
      clear hS
      have ⟨c0, c1, c2, c3⟩ := hF.cells
      have ⟨z0, z1, z2, z3⟩ := hZ.cells
      have y0 := hZ.free 0
      have y1 := hZ.free 1
      have y2 := hZ.free 2
      have y3 := hZ.free 3
      go_wp2_with fail
      have hFW := hZ.fill S
      have hbW := (((hb.setCell (p := ⟨w.heap.size, 0, none⟩) (Nat.le_refl _) (.int .u64 S.a)).setCell (p := ⟨w.heap.size, 1, none⟩) (Nat.le_refl _) (.int .u64 S.b)).setCell (p := ⟨w.heap.size, 2, none⟩) (Nat.le_refl _) (.int .u64 S.c)).setCell (p := ⟨w.heap.size, 3, none⟩) (Nat.le_refl _) (.int .u64 S.d)
      generalize ((((wr.setCell ⟨w.heap.size, 0, none⟩ (.int .u64 S.a)).setCell ⟨w.heap.size, 1, none⟩ (.int .u64 S.b)).setCell ⟨w.heap.size, 2, none⟩ (.int .u64 S.c)).setCell ⟨w.heap.size, 3, none⟩ (.int .u64 S.d)) = WF at *
      obtain ⟨s0, s1, s2, s3⟩ := hFW.cells
      exact bodyPost_ret (v := setA S) (by simp [results, Try.results101, go_sem, s0, s1, s2, s3, setA]) rfl ⟨by rw [HS.out], hbW⟩
end Go.Proofs.Ytnjjchbgnmjkjaa
