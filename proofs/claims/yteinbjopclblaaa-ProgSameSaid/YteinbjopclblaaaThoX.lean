/- The walk of prog.Find. -/
import Derived.Test.YteinbjopclblaaaThoV
import Derived.Test.YteinbjopclblaaaThoP
import Derived.Test.YteinbjopclblaaaThoR
namespace Go.Proofs.Yteinbjopclblaaa
open Go.RowKit

def PFindPost (P : List Ins) (s : ByteArray) (w : World) (e : Ending) (w' : World) : Prop :=
  ∃ found f tu, e = .returned (.tuple #[spanV ((f : Nat) : Int) ((tu : Nat) : Int), .bool found, .int .i64 (if 8192 < s.size then 2 else 0)]) ∧ (s.size ≤ 8192 → BestI P s.data.toList (P.length - 1) (fun j => j < s.size + 1) found f tu) ∧ Below w.heap.size w w'
theorem OwnP.sl {w : World} {b g n c : Nat} {l : List Ins} (h : OwnP w b (.slice (some ⟨g, 0, none⟩) n c) l) : Sl w w.heap.size 7 (some ⟨g, 0, none⟩) l.length (l.flatMap cellsP) := by
  obtain ⟨A, c', e, hs⟩ := h.form
  injection e with e1 _ _
  rw [e1]; exact hs
theorem two_new {w w1 : World} {a b : Value} (hb : Below (w.alloc (.cells #[a, b] 66)).heap.size (w.alloc (.cells #[a, b] 66)) w1) : Two w1 w.heap.size a b ∧ Below w.heap.size w w1 :=
  ⟨(hb.block w.heap.size (by simp)).trans (heap_alloc_new w _), below_new hb (Nat.le_refl _)⟩

set_option maxRecDepth 100000 in
set_option maxHeartbeats 800000 in
theorem PFind_any (P : List Ins) (hok : OkP P) (hkm : ∀ n (h : n < P.length), P[n].kind = 6 ↔ n = P.length - 1) (hwf : ∀ n (h : n < P.length), P[n].set.Wf) (h0 : 0 < P.length) (h4 : P.length ≤ 400) (s : ByteArray) (pv : Value) (w : World) (hP : OwnP w 0 pv P) :
    Calls Try.prog 58 #[pv, .string s] w (PFindPost P s w) := by
  obtain ⟨gp, cp, rfl, hgp⟩ := OwnP.head hP h0
  have HRDY : Hid (∀ W, Below w.heap.size w W → Calls Try.prog 88 #[.slice (some ⟨gp, 0, none⟩) P.length cp, .string s] W fun e w' => e = .returned (.int .i64 (if 8192 < s.size then 2 else 0)) ∧ Below W.heap.size W w') := fun W hb => ready_any P _ _ s W (hP.below hb).sl hok h0 h4
  have HRUN : Hid (s.size ≤ 8192 → ∀ W, Below w.heap.size w W → Calls Try.prog 89 #[.slice (some ⟨gp, 0, none⟩) P.length cp, .string s, .bool false] W (RunPost P s W)) := fun hs W hb => run_any P hok hkm hwf h0 h4 s hs _ W (hP.below hb)
  have HPT : Hid (∀ found f tu r W, r = (if 8192 < s.size then (2 : Int) else 0) → (s.size ≤ 8192 → BestI P s.data.toList (P.length - 1) (fun j => j < s.size + 1) found f tu) → Below w.heap.size w W → PFindPost P s w (.returned (.tuple #[spanV ((f : Nat) : Int) ((tu : Nat) : Int), .bool found, .int .i64 r])) W) := fun found f tu r W h1 h2 h3 => ⟨found, f, tu, by rw [h1], h2, h3⟩
  clear hok hkm hwf
  go_enter Try.func58, Try.ntmps58
  by_cases hs : 8192 < s.size
  · rw [if_pos hs] at HRDY HPT
    have HS := Lib.hid hs
    clear hs
    go_wp2_with fail
    refine (HRDY.out _ ((Below.refl _ _).alloc (Nat.le_refl _) _)).mono ?_
    rintro e w1 ⟨rfl, hb1⟩
    obtain ⟨hT1, hbw1⟩ := two_new hb1
    have ⟨t0, t1⟩ := hT1.cells
    have ⟨u0, u1⟩ := hT1.frees
    clear hb1
    go_wp2_with fail
    have hW := (hbw1.setCell (p := ⟨w.heap.size, 0, none⟩) (Nat.le_refl _) (.int .i64 0)).setCell (p := ⟨w.heap.size, 1, none⟩) (Nat.le_refl _) (.int .i64 0)
    have hT9 := (hT1.set0 (.int .i64 0)).set1 (.int .i64 0)
    generalize ((w1.setCell ⟨w.heap.size, 0, none⟩ (.int .i64 0)).setCell ⟨w.heap.size, 1, none⟩ (.int .i64 0)) = WF at *
    obtain ⟨s0, s1⟩ := hT9.cells
    exact bodyPost_ret (v := .tuple #[spanV 0 0, .bool false, .int .i64 2]) (by simp [results, Try.results58, go_sem, s0, s1, spanV]) rfl (HPT.out false 0 0 2 WF rfl (fun h => absurd h (by have := HS.out; omega)) hW)
  · rw [if_neg hs] at HRDY HPT
    have hs' : s.size ≤ 8192 := by omega
    have HR2 := Lib.hid (HRUN.out hs')
    clear hs hs' HRUN
    go_wp2_with fail
    refine (HRDY.out _ ((Below.refl _ _).alloc (Nat.le_refl _) _)).mono ?_
    rintro e w1 ⟨rfl, hb1⟩
    obtain ⟨hT1, hbw1⟩ := two_new hb1
    clear hb1
    go_wp2_with fail
    refine (HR2.out _ hbw1).mono ?_
    rintro e w2 ⟨found, f, tu, rfl, hB, hb2⟩
    have hT2 : Two w2 w.heap.size (.int .i64 0) (.int .i64 0) := hT1.below hb2 (heap_lt hT1)
    have hbw2 : Below w.heap.size w w2 := hbw1.trans (hb2.mono hbw1.size)
    have hz2 : w.heap.size < w2.heap.size := heap_lt hT2
    have HB := Lib.hid hB
    have ⟨t0, t1⟩ := hT2.cells
    have ⟨u0, u1⟩ := hT2.frees
    clear hB hb2 hT1 hbw1
    go_wp2_with fail
    have hN := heap_alloc_new w2 (.cells #[.int .i64 (f : Int), .int .i64 (tu : Int), .bool found] 132)
    have hT3 : Two (w2.alloc (.cells #[.int .i64 (f : Int), .int .i64 (tu : Int), .bool found] 132)) w.heap.size (.int .i64 0) (.int .i64 0) := (Below.heap_alloc _ _ _ hz2).trans hT2
    have hb3 : Below w.heap.size w (w2.alloc (.cells #[.int .i64 (f : Int), .int .i64 (tu : Int), .bool found] 132)) := hbw2.alloc hbw2.size _
    generalize w2.alloc (.cells #[.int .i64 (f : Int), .int .i64 (tu : Int), .bool found] 132) = W at *
    have g0 := cell_of_row _ w2.heap.size 0 _ _ _ hN
    have g1 := cell_of_row _ w2.heap.size 1 _ _ _ hN
    have g2 := cell_of_row _ w2.heap.size 2 _ _ _ hN
    simp only [List.getElem?_toArray, List.getElem?_cons_zero, List.getElem?_cons_succ] at g0 g1 g2
    have ⟨q0, q1⟩ := hT3.cells
    have ⟨v0, v1⟩ := hT3.frees
    have n1 : ¬ w.heap.size = w2.heap.size := by omega
    have n2 : ¬ w2.heap.size = w.heap.size := by omega
    clear t0 t1 u0 u1 hN
    go_region
    have hW := ((hb3.setCell (p := ⟨w.heap.size, 0, none⟩) (Nat.le_refl _) (.int .i64 (f : Int))).setCell (p := ⟨w.heap.size, 1, none⟩) (Nat.le_refl _) (.int .i64 (tu : Int))).drew
    have hT9 : Two ((W.setCell ⟨w.heap.size, 0, none⟩ (.int .i64 (f : Int))).setCell ⟨w.heap.size, 1, none⟩ (.int .i64 (tu : Int))).drew w.heap.size (.int .i64 (f : Int)) (.int .i64 (tu : Int)) := (hT3.set0 (.int .i64 (f : Int))).set1 (.int .i64 (tu : Int))
    generalize ((W.setCell ⟨w.heap.size, 0, none⟩ (.int .i64 (f : Int))).setCell ⟨w.heap.size, 1, none⟩ (.int .i64 (tu : Int))).drew = WF at *
    obtain ⟨s0, s1⟩ := hT9.cells
    clear q0 q1 v0 v1 g0 g1 g2
    go_wp2_with fail
    exact bodyPost_ret (v := .tuple #[spanV (f : Int) (tu : Int), .bool found, .int .i64 0]) (by simp [results, Try.results58, go_sem, s0, s1, spanV]) rfl (HPT.out found f tu 0 WF rfl (fun _ => HB.out) hW)
end Go.Proofs.Yteinbjopclblaaa
