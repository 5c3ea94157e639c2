/- Part 34 of the proof: lemmas and walks that the last texts use. -/
import Derived.Test.YthfjmlcjkbgboaaGreatDoorM01
import Derived.Test.YthfjmlcjkbgboaaGreatDoorM04
import Derived.Test.YthfjmlcjkbgboaaGreatDoorM27
import Derived.Test.YthfjmlcjkbgboaaGreatDoorM29
import Derived.Test.YthfjmlcjkbgboaaGreatDoorM31
import Derived.Laws.StructEq
import Derived.BigRegion
import Derived.Lib.ItoaLen
import Derived.Shelf.GgClosure.Gives
namespace Go.Proofs.YthfjmlcjkbgboaaGreatDoor
open Go.RowKit
set_option maxRecDepth 100000 in
theorem ArgPath_any (s : ByteArray) (w : World) (hlib : LibOk w) (hs : s.size ≤ 4194304) : Calls Tryz.prog 105 #[.string s] w fun e w' => e = .returned (.string (bs (Lib.cut s.data.toList [63]).1)) ∧ Below w.heap.size w w' := by
  obtain ⟨m, hm⟩ := hlib
  have HC := Lib.hid (Tryz.strings_Cut s ⟨#[63]⟩ m w (by omega) hm)
  go_enter Tryz.func105, Tryz.ntmps105
  go_wp2_with fail
  refine HC.out.mono ?_
  rintro e w2 ⟨rfl, nq, rfl⟩
  go_wp2_with fail
  go_ret
  exact ⟨rfl, below_drewN (Below.refl _ _) nq⟩
set_option maxRecDepth 100000 in
theorem Query_any (s : ByteArray) (w : World) (hlib : LibOk w) (hs : s.size ≤ 4194304) : Calls Tryz.prog 77 #[.string s] w fun e w' => e = .returned (.string (bs (Lib.cut s.data.toList [63]).2.1)) ∧ Below w.heap.size w w' := by
  obtain ⟨m, hm⟩ := hlib
  have HC := Lib.hid (Tryz.strings_Cut s ⟨#[63]⟩ m w (by omega) hm)
  go_enter Tryz.func77, Tryz.ntmps77
  go_wp2_with fail
  refine HC.out.mono ?_
  rintro e w2 ⟨rfl, nq, rfl⟩
  go_wp2_with fail
  go_ret
  exact ⟨rfl, below_drewN (Below.refl _ _) nq⟩
end Go.Proofs.YthfjmlcjkbgboaaGreatDoor
namespace Go.Proofs.YthfjmlcjkbgboaaGreatDoor
open Go.RowKit Go.Sort
theorem itoa_int (n : Int) (w : World) (h0 : -9223372036854775808 ≤ n) (h1 : n ≤ 9223372036854775807) (h : TabOk w) :
    Calls Tryz.prog 62 #[.int .i64 n] w fun e w' => e = .returned (.string (bs (Lib.itoa n))) ∧ Below w.heap.size w w' :=
  (Tryz.strconv_Itoa n h0 h1 w (h w (Below.refl _ _))).mono fun e w' ⟨h1, k', os, h2⟩ => by
    subst h2
    refine ⟨?_, below_growI w k' os⟩
    rw [h1]
    rfl
def oneV (x : ByteArray) : List Pair := [(ByteArray.mk #[], x)]
/-- What a variable tells. -/
def valP (K : Int) (name m t b : ByteArray) (fs : List PairV) (cl : Nat) (sc : Int) (list cook : List Pair) : List Pair :=
  if K = 1 then oneV m else if K = 2 then oneV t else if K = 3 then oneV (bs (Lib.cut t.data.toList [63]).1) else if K = 4 then oneV (bs (Lib.cut t.data.toList [63]).2.1) else if K = 5 then oneV b
  else if K = 6 then onlyP list name else if K = 7 then bareP list else if K = 8 then onlyP (fieldsP fs) name else if K = 9 then bareP (fieldsP fs) else if K = 10 then onlyP cook name
  else if K = 11 then oneV (bs (netT cl 32)) else if K = 12 then oneV (bs (Lib.itoa sc)) else []
theorem net_all (a : Nat) : netOk a 32 = true := by
  unfold netOk
  have : topN 32 = 0 := by decide
  rw [this, Nat.pow_zero, Nat.mod_one]
  decide
structure ValIn (m t b : ByteArray) (fs : List PairV) (A : Option Addr) (list : List Pair) (Al : Option Addr) (cook : List Pair) (Ac : Option Addr) (w : World) : Prop where
  f : Sl w w.heap.size 2 A fs.length (fs.flatMap cellsV)
  l : Sl w w.heap.size 2 Al list.length (list.flatMap cellsA)
  c : Sl w w.heap.size 2 Ac cook.length (cook.flatMap cellsA)
  lib : LibOk w
  tab : TabOk w
theorem ValIn.below {m t b : ByteArray} {fs : List PairV} {A : Option Addr} {list : List Pair} {Al : Option Addr} {cook : List Pair} {Ac : Option Addr} {w W : World} (h : ValIn m t b fs A list Al cook Ac w) (hb : Below w.heap.size w W) : ValIn m t b fs A list Al cook Ac W :=
  ⟨(h.f.below hb).more hb.size, (h.l.below hb).more hb.size, (h.c.below hb).more hb.size, h.lib.below hb, h.tab.below hb⟩
structure ValSz (t : ByteArray) (fs : List PairV) (list cook : List Pair) (cl : Nat) (sc : Int) : Prop where
  zt : t.size ≤ 4194304
  zf : fs.length ≤ 4194304
  each : ∀ f ∈ fs, f.1.size ≤ maxLen
  zl : list.length ≤ 4194304
  zk : cook.length ≤ 4194304
  zc : cl < 4294967296
  zs : -9223372036854775808 ≤ sc ∧ sc ≤ 9223372036854775807
set_option maxRecDepth 100000 in
set_option maxHeartbeats 6400000 in
theorem Values_any (K M : Int) (name m t b : ByteArray) (fs : List PairV) (A : Option Addr) (c : Nat) (cl : Nat) (sc : Int) (list : List Pair) (Al : Option Addr) (c1 : Nat) (cook : List Pair) (Ac : Option Addr) (c2 : Nat) (w : World)
    (hin : ValIn m t b fs A list Al cook Ac w) (hz : ValSz t fs list cook cl sc) :
    Calls Tryz.prog 58 #[.agg #[.int .i64 K, .int .i64 M, .string name], .agg #[.string m, .string t, .slice A fs.length c, .string b], .int .u32 (cl : Int), .int .i64 sc, .slice Al list.length c1, .slice Ac cook.length c2] w (RowA (valP K name m t b fs cl sc list cook) w) := by
  obtain ⟨W0, hW0⟩ : ∃ W0, (w.alloc (.cells #[.int .i64 K, .int .i64 M, .string name] 41)).alloc (.cells #[.string m, .string t, .slice A fs.length c, .string b] 38) = W0 := ⟨_, rfl⟩
  have hb0 : Below w.heap.size w W0 := by rw [← hW0]; exact ((Below.refl _ _).alloc (Nat.le_refl _) _).alloc (by simp) _
  have ha : W0.heap[w.heap.size]? = some (.cells #[.int .i64 K, .int .i64 M, .string name] 41 (0, 0)) := by
    rw [← hW0]
    exact (Below.heap_alloc _ _ _ (by simp)).trans (heap_alloc_new w _)
  have hbq : W0.heap[w.heap.size + 1]? = some (.cells #[.string m, .string t, .slice A fs.length c, .string b] 38 (0, 0)) := by
    rw [← hW0]
    have := heap_alloc_new (w.alloc (.cells #[.int .i64 K, .int .i64 M, .string name] 41)) (.cells #[.string m, .string t, .slice A fs.length c, .string b] 38)
    rw [World.size_alloc] at this
    exact this
  have a0 : W0.cell? ⟨w.heap.size, 0, none⟩ = some (.int .i64 K) := cell_of_row W0 _ 0 _ _ _ ha
  have a2 : W0.cell? ⟨w.heap.size, 2, none⟩ = some (.string name) := cell_of_row W0 _ 2 _ _ _ ha
  have d0 : W0.cell? ⟨w.heap.size + 1, 0, none⟩ = some (.string m) := cell_of_row W0 _ 0 _ _ _ hbq
  have d1 : W0.cell? ⟨w.heap.size + 1, 1, none⟩ = some (.string t) := cell_of_row W0 _ 1 _ _ _ hbq
  have d2 : W0.cell? ⟨w.heap.size + 1, 2, none⟩ = some (.slice A fs.length c) := cell_of_row W0 _ 2 _ _ _ hbq
  have d3 : W0.cell? ⟨w.heap.size + 1, 3, none⟩ = some (.string b) := cell_of_row W0 _ 3 _ _ _ hbq
  have hI := hin.below hb0
  have HW0 := Lib.hid hW0
  have HB0 := Lib.hid hb0
  have HI : Hid (∀ W, Below W0.heap.size W0 W → ValIn m t b fs A list Al cook Ac W) := fun W h => hI.below h
  have HS : Hid (∀ W, Below W0.heap.size W0 W → W.cell? ⟨w.heap.size, 2, none⟩ = some (.string name) ∧ W.cell? ⟨w.heap.size + 1, 0, none⟩ = some (.string m) ∧ W.cell? ⟨w.heap.size + 1, 1, none⟩ = some (.string t) ∧ W.cell? ⟨w.heap.size + 1, 2, none⟩ = some (.slice A fs.length c)) := fun W h => ⟨cell_kept h a2, cell_kept h d0, cell_kept h d1, cell_kept h d2⟩
  have HZ := Lib.hid hz
  have HR : Hid (Below W0.heap.size W0 W0) := Below.refl _ _
  have HOUT : Hid (∀ (l : List Pair) (v : Value) (W : World) (B : Nat), l = valP K name m t b fs cl sc list cook → OwnA W B v l → W0.heap.size ≤ B → Below W0.heap.size W0 W → RowA (valP K name m t b fs cl sc list cook) w (.returned v) W) := fun l v W B h1 h2 h3 h4 => by
    subst h1
    exact ⟨v, rfl, h2.low (Nat.le_trans hb0.size h3), hb0.trans (h4.mono hb0.size)⟩
  have HVP : Hid (valP K name m t b fs cl sc list cook = _) := rfl
  unfold Hid at HVP
  clear hin hz hW0 hb0 ha hbq hI HVP
  go_enter Tryz.func58, Tryz.ntmps58
  go_upto_region 1 with fail
  rw [HW0.out]
  by_cases k1 : K = 1
  · subst k1
    go_wp2_with (go_at_call 61; (with_reducible refine (vone_any m _).mono ?_); rintro e w1 ⟨v1, rfl, hO1, hb1⟩)
    go_ret
    exact HOUT.out _ _ _ _ rfl hO1 (Nat.le_refl _) hb1
  by_cases k2 : K = 2
  · subst k2
    clear k1
    go_wp2_with (go_at_call 61; (with_reducible refine (vone_any t _).mono ?_); rintro e w1 ⟨v1, rfl, hO1, hb1⟩)
    go_ret
    exact HOUT.out _ _ _ _ rfl hO1 (Nat.le_refl _) hb1
  by_cases k3 : K = 3
  · subst k3
    clear k1 k2
    have hp := Lib.hid (ArgPath_any t W0 (HI.out _ HR.out).lib HZ.out.zt)
    have HV : Hid (oneV (bs (Lib.cut t.data.toList [63]).1) = valP 3 name m t b fs cl sc list cook) := rfl
    generalize bs (Lib.cut t.data.toList [63]).1 = P at hp HV
    go_wp2_with (first
      | (go_at_call 105; (with_reducible refine hp.out.mono ?_); rintro e w1 ⟨rfl, hb1⟩)
      | (go_at_call 61; (with_reducible refine (vone_any P _).mono ?_); rintro e w2 ⟨v1, rfl, hO1, hb2⟩))
    go_ret
    exact HOUT.out _ _ _ _ HV.out hO1 hb1.size (hb1.trans (hb2.mono hb1.size))
  by_cases k4 : K = 4
  · subst k4
    clear k1 k2 k3
    have hp := Lib.hid (Query_any t W0 (HI.out _ HR.out).lib HZ.out.zt)
    have HV : Hid (oneV (bs (Lib.cut t.data.toList [63]).2.1) = valP 4 name m t b fs cl sc list cook) := rfl
    generalize bs (Lib.cut t.data.toList [63]).2.1 = P at hp HV
    go_wp2_with (first
      | (go_at_call 77; (with_reducible refine hp.out.mono ?_); rintro e w1 ⟨rfl, hb1⟩)
      | (go_at_call 61; (with_reducible refine (vone_any P _).mono ?_); rintro e w2 ⟨v1, rfl, hO1, hb2⟩))
    go_ret
    exact HOUT.out _ _ _ _ HV.out hO1 hb1.size (hb1.trans (hb2.mono hb1.size))
  by_cases k5 : K = 5
  · subst k5
    clear k1 k2 k3 k4
    go_wp2_with (go_at_call 61; (with_reducible refine (vone_any b _).mono ?_); rintro e w1 ⟨v1, rfl, hO1, hb1⟩)
    go_ret
    exact HOUT.out _ _ _ _ rfl hO1 (Nat.le_refl _) hb1
  by_cases k6 : K = 6
  · subst k6
    clear k1 k2 k3 k4 k5
    have hp := Lib.hid (only_any list Al c1 name W0 (HI.out _ HR.out).l HZ.out.zl)
    go_wp2_with (go_at_call 106; (with_reducible refine hp.out.mono ?_); rintro e w1 ⟨v1, rfl, hO1, hb1⟩)
    go_ret
    exact HOUT.out _ _ _ _ rfl hO1 (Nat.le_refl _) hb1
  by_cases k7 : K = 7
  · subst k7
    clear k1 k2 k3 k4 k5 k6
    have hp := Lib.hid (bare_any list Al c1 W0 (HI.out _ HR.out).l HZ.out.zl)
    go_wp2_with (go_at_call 107; (with_reducible refine hp.out.mono ?_); rintro e w1 ⟨v1, rfl, hO1, hb1⟩)
    go_ret
    exact HOUT.out _ _ _ _ rfl hO1 (Nat.le_refl _) hb1
  by_cases k8 : K = 8
  · subst k8
    clear k1 k2 k3 k4 k5 k6 k7
    have hp : Hid (∀ W, Below W0.heap.size W0 W → _) := fun W h => fields_any m t fs A c W (HI.out W h).f HZ.out.each HZ.out.zf
    have hfl : (fieldsP fs).length ≤ 4194304 := by unfold fieldsP; rw [List.length_map]; exact HZ.out.zf
    have HFL := Lib.hid hfl
    clear hfl
    go_wp2_with fail
    go_region_held3 (fun w' => w'.cell? ⟨w.heap.size, 2, none⟩ = some (.string name) ∧ w'.cell? ⟨w.heap.size + 1, 0, none⟩ = some (.string m) ∧ w'.cell? ⟨w.heap.size + 1, 1, none⟩ = some (.string t) ∧ w'.cell? ⟨w.heap.size + 1, 2, none⟩ = some (.slice A fs.length c))
      (first | exact HS.out _ hbb9 | exact HS.out _ hbb8 | exact HS.out _ HR.out | go_keep)
      (first
        | (go_at_call 108; (with_reducible refine (hp.out _ (HR.out.drew)).mono ?_); rintro e w8 ⟨v8, rfl, hO8, hb8⟩; have hbb8 : Below W0.heap.size W0 w8 := undrewA hb8; obtain ⟨A8, c8, rfl, hs8⟩ := hO8.form)
        | (go_at_call 106; (with_reducible refine (only_any (fieldsP fs) A8 c8 name w8 hs8 HFL.out).mono ?_); rintro e w9 ⟨v9, rfl, hO9, hb9⟩; have hbb9 : Below W0.heap.size W0 w9 := hbb8.trans (hb9.mono hbb8.size)))
    clear hO8 hs8
    go_wp2_with fail
    go_ret
    exact HOUT.out _ _ _ _ rfl hO9 hbb8.size hbb9
  by_cases k9 : K = 9
  · subst k9
    clear k1 k2 k3 k4 k5 k6 k7 k8
    have hp := Lib.hid (fields_any m t fs A c W0 (HI.out _ HR.out).f HZ.out.each HZ.out.zf)
    have hfl : (fieldsP fs).length ≤ 4194304 := by unfold fieldsP; rw [List.length_map]; exact HZ.out.zf
    have HFL := Lib.hid hfl
    clear hfl
    go_wp2_with (go_at_call 108; (with_reducible refine hp.out.mono ?_); rintro e w8 ⟨v8, rfl, hO8, hb8⟩; obtain ⟨A8, c8, rfl, hs8⟩ := hO8.form)
    refine (bare_any (fieldsP fs) A8 c8 w8 hs8 HFL.out).mono ?_
    rintro e w9 ⟨v9, rfl, hO9, hb9⟩
    go_wp2_with fail
    go_ret
    exact HOUT.out _ _ _ _ rfl hO9 hb8.size (hb8.trans (hb9.mono hb8.size))
  by_cases k10 : K = 10
  · subst k10
    clear k1 k2 k3 k4 k5 k6 k7 k8 k9
    have hp := Lib.hid (only_any cook Ac c2 name W0 (HI.out _ HR.out).c HZ.out.zk)
    go_wp2_with (go_at_call 106; (with_reducible refine hp.out.mono ?_); rintro e w1 ⟨v1, rfl, hO1, hb1⟩)
    go_ret
    exact HOUT.out _ _ _ _ rfl hO1 (Nat.le_refl _) hb1
  by_cases k11 : K = 11
  · subst k11
    clear k1 k2 k3 k4 k5 k6 k7 k8 k9 k10
    have hp : Hid (Calls Tryz.prog 109 #[.agg #[.int .u32 (cl : Int), .int .i64 32]] W0 fun e w' => e = .returned (.tuple #[.string (bs (netT cl 32)), .int .i64 0]) ∧ Below W0.heap.size W0 w') := by
      have h := NPrint_any cl 32 W0 HZ.out.zc (HI.out _ HR.out).tab
      unfold NPrintPost at h
      rw [net_all, if_pos rfl] at h
      exact h
    have HV : Hid (oneV (bs (netT cl 32)) = valP 11 name m t b fs cl sc list cook) := rfl
    generalize bs (netT cl 32) = P at hp HV
    go_wp2_with (first
      | (go_at_call 109; (with_reducible refine hp.out.mono ?_); rintro e w1 ⟨rfl, hb1⟩)
      | (go_at_call 61; (with_reducible refine (vone_any P _).mono ?_); rintro e w2 ⟨v1, rfl, hO1, hb2⟩))
    go_ret
    exact HOUT.out _ _ _ _ HV.out hO1 hb1.size (hb1.trans (hb2.mono hb1.size))
  by_cases k12 : K = 12
  · subst k12
    clear k1 k2 k3 k4 k5 k6 k7 k8 k9 k10 k11
    have hp := Lib.hid (itoa_int sc W0 HZ.out.zs.1 HZ.out.zs.2 (HI.out _ HR.out).tab)
    have HV : Hid (oneV (bs (Lib.itoa sc)) = valP 12 name m t b fs cl sc list cook) := rfl
    generalize bs (Lib.itoa sc) = P at hp HV
    go_wp2_with (first
      | (go_at_call 62; (with_reducible refine hp.out.mono ?_); rintro e w1 ⟨rfl, hb1⟩)
      | (go_at_call 61; (with_reducible refine (vone_any P _).mono ?_); rintro e w2 ⟨v1, rfl, hO1, hb2⟩))
    go_ret
    exact HOUT.out _ _ _ _ HV.out hO1 hb1.size (hb1.trans (hb2.mono hb1.size))
  have HV : Hid ([] = valP K name m t b fs cl sc list cook) := by unfold Hid valP; rw [if_neg k1, if_neg k2, if_neg k3, if_neg k4, if_neg k5, if_neg k6, if_neg k7, if_neg k8, if_neg k9, if_neg k10, if_neg k11, if_neg k12]
  have q1 := beq_eq_false_iff_ne.2 k1
  have q2 := beq_eq_false_iff_ne.2 k2
  have q3 := beq_eq_false_iff_ne.2 k3
  have q4 := beq_eq_false_iff_ne.2 k4
  have q5 := beq_eq_false_iff_ne.2 k5
  have q6 := beq_eq_false_iff_ne.2 k6
  have q7 := beq_eq_false_iff_ne.2 k7
  have q8 := beq_eq_false_iff_ne.2 k8
  have q9 := beq_eq_false_iff_ne.2 k9
  have q10 := beq_eq_false_iff_ne.2 k10
  have q11 := beq_eq_false_iff_ne.2 k11
  have q12 := beq_eq_false_iff_ne.2 k12
  clear k1 k2 k3 k4 k5 k6 k7 k8 k9 k10 k11 k12
  go_wp2_with fail
  go_ret
  exact HOUT.out [] _ _ _ HV.out (OwnA.nil _ _) (Nat.le_refl _) HR.out
end Go.Proofs.YthfjmlcjkbgboaaGreatDoor
namespace Go.Proofs.YthfjmlcjkbgboaaGreatDoor
open Go.RowKit
theorem srcV {wr : World} {B n : Nat} {A : Option Addr} {xs : List Value} {a0 a1 a2 : Nat → Value} (h : Sl wr B 3 A n xs) {j : Nat} (hj : j < n) (hx : ∀ j, j < n → xs[j * 3]? = some (a0 j) ∧ xs[j * 3 + 1]? = some (a1 j) ∧ xs[j * 3 + 2]? = some (a2 j)) :
    ∃ b off, A = some ⟨b, off, none⟩ ∧ wr.cell? ⟨b, off + j * 3, none⟩ = some (a0 j) ∧ wr.cell? ⟨b, off + j * 3 + 1, none⟩ = some (a1 j) ∧ wr.cell? ⟨b, off + j * 3 + 2, none⟩ = some (a2 j) := by
  have hl := h.len
  obtain ⟨b, off, e, _, hc⟩ := h.src (by omega)
  have hq := hx j hj
  have hat : ∀ i v, xs[i]? = some v → wr.cell? ⟨b, off + i, none⟩ = some v := fun i v hv => by
    have hi : i < xs.length := (List.getElem?_eq_some_iff.1 hv).1
    rw [hc i hi, ← hv, List.getElem?_eq_getElem hi]
  exact ⟨b, off, e, by have := hat _ _ hq.1; rw [show off + j * 3 = off + j * 3 from rfl] at this; exact this, by have := hat _ _ hq.2.1; rw [← Nat.add_assoc] at this; exact this, by have := hat _ _ hq.2.2; rw [← Nat.add_assoc] at this; exact this⟩
set_option maxRecDepth 100000 in
set_option maxHeartbeats 800000 in
theorem IdxFV_any (g : Nat) (lb : Array Value) (eg : ∀ args w, (callFunc g args).run Tryz.prog w = .ok (.enter g args) w) (A : Option Addr) (n c : Nat) (xs : List Value) (a0 a1 a2 : Nat → Value) (p : Nat → Bool) (w : World)
    (h : Sl w w.heap.size 3 A n xs) (hbig : n ≤ 9223372036854775807) (hx : ∀ j, j < n → xs[j * 3]? = some (a0 j) ∧ xs[j * 3 + 1]? = some (a1 j) ∧ xs[j * 3 + 2]? = some (a2 j))
    (hp : ∀ W j, j < n → Below w.heap.size w W → Calls Tryz.prog g (#[.agg #[a0 j, a1 j, a2 j]] ++ lb) W (BoolPost (p j) W)) :
    Calls Tryz.prog 110 #[.slice A n c, .func (.func g) #[] lb] w fun e w' => e = .returned (.int .i64 (hitI p n)) ∧ Below w.heap.size w w' := by
  have HP := Lib.hid hp
  have HX := Lib.hid hx
  clear hp hx
  go_enter Tryz.func110, Tryz.ntmps110
  go_wp2_with fail
  go_loopw [5, 8] (fun _ i wr => ∃ j : Nat, j ≤ n ∧ i = .int .i64 j ∧ Below w.heap.size w wr ∧ Hid (∀ i, i < j → p i = false)) (fun _ i _ => n - (intOf i).toNat)
  case atStart => exact ⟨0, Nat.zero_le _, rfl, Below.refl _ _, fun i hi => absurd hi (by omega)⟩
  case round =>
    obtain ⟨j, hj, rfl, hb, hno⟩ := hrel
    by_cases hlt : j < n
    · obtain ⟨b, off, rfl, hc0, hc1, hc2⟩ := srcV (h.below hb) hlt HX.out
      have hc := HP.out wr j hlt hb
      cases hq : p j with
      | true =>
        rw [hq] at hc
        have HIT := Lib.hid (hit_at p n j hlt hq hno)
        clear hq
        go_wp2_with (go_at_fn g; refine hc.mono ?_; rintro e w' ⟨rfl, hb1⟩)
        go_ret
        exact ⟨ret_int HIT.out.symm, hb.trans (hb1.mono hb.size)⟩
      | false =>
        rw [hq] at hc
        have hno2 : Hid (∀ i, i < j + 1 → p i = false) := fun i hi => by
          by_cases e : i = j
          · rw [e]; exact hq
          · exact hno i (by omega)
        clear hq hno
        go_wp2_with (go_at_fn g; refine hc.mono ?_; rintro e w' ⟨rfl, hb1⟩)
        go_roundw
        case rel => exact ⟨j + 1, by omega, by go_num, hb.trans (hb1.mono hb.size), hno2⟩
        case measure => simp [intOf] <;> omega
    · obtain rfl : j = n := by omega
      have HIT := Lib.hid (hit_none p j hno)
      go_wp2_with fail
      go_ret
      exact ⟨ret_int HIT.out.symm, hb⟩
set_option maxRecDepth 100000 in
theorem ContFV_any (g : Nat) (lb : Array Value) (eg : ∀ args w, (callFunc g args).run Tryz.prog w = .ok (.enter g args) w) (A : Option Addr) (n c : Nat) (xs : List Value) (a0 a1 a2 : Nat → Value) (p : Nat → Bool) (w : World)
    (h : Sl w w.heap.size 3 A n xs) (hbig : n ≤ 9223372036854775807) (hx : ∀ j, j < n → xs[j * 3]? = some (a0 j) ∧ xs[j * 3 + 1]? = some (a1 j) ∧ xs[j * 3 + 2]? = some (a2 j))
    (hp : ∀ W j, j < n → Below w.heap.size w W → Calls Tryz.prog g (#[.agg #[a0 j, a1 j, a2 j]] ++ lb) W (BoolPost (p j) W)) :
    Calls Tryz.prog 59 #[.slice A n c, .func (.func g) #[] lb] w (BoolPost (anyN p n) w) := by
  have HC := Lib.hid (IdxFV_any g lb eg A n c xs a0 a1 a2 p w h hbig hx hp)
  have HA := Lib.hid (hit_any p n)
  clear hp hx h
  go_enter Tryz.func59, Tryz.ntmps59
  go_wp2_with fail
  refine HC.out.mono ?_
  rintro e w1 ⟨rfl, hb⟩
  go_wp2_with fail
  go_ret
  exact ⟨ret_bool HA.out, hb⟩
end Go.Proofs.YthfjmlcjkbgboaaGreatDoor
namespace Go.Proofs.YthfjmlcjkbgboaaGreatDoor
open Go.RowKit
structure VarV where
  k : Int
  m : Int
  n : ByteArray
def cellsQ (v : VarV) : List Value := [.int .i64 v.k, .int .i64 v.m, .string v.n]
def exB (v : VarV) (x : Pair) (no : VarV) : Bool := (no.m == 2) && (no.k == v.k) && (no.n.toList.isEmpty || (no.n.toList == x.1.toList))
def exP (l : List VarV) (v : VarV) (x : Pair) : Bool := l.any (exB v x)
def leftQ (l : List VarV) (v : VarV) (vals : List Pair) : List Pair := vals.filter fun x => !exP l v x
def stepQ (l : List VarV) (v : VarV) (vals : List Pair) : List Pair :=
  if v.m = 2 then [] else if v.m = 1 then oneV (bs (Lib.itoa (leftQ l v vals).length)) else leftQ l v vals
def allP (vf : VarV → List Pair) (l s : List VarV) : List Pair := s.flatMap fun v => stepQ l v (vf v)
theorem leftP_snoc (l : List VarV) (v : VarV) (vals : List Pair) (k : Nat) (h : k < vals.length) : leftQ l v (vals.take (k + 1)) = leftQ l v (vals.take k) ++ if exP l v vals[k] = true then [] else [vals[k]] := by
  unfold leftQ
  rw [List.take_succ_eq_append_getElem h, List.filter_append]
  by_cases c : exP l v vals[k] = true <;> simp [c]
theorem leftP_le (l : List VarV) (v : VarV) (vals : List Pair) (k : Nat) : (leftQ l v (vals.take k)).length ≤ k := Nat.le_trans (List.length_filter_le _ _) (List.length_take_le _ _)
theorem allP_snoc (vf : VarV → List Pair) (l s : List VarV) (k : Nat) (h : k < s.length) : allP vf l (s.take (k + 1)) = allP vf l (s.take k) ++ stepQ l s[k] (vf s[k]) := by
  unfold allP
  rw [List.take_succ_eq_append_getElem h, List.flatMap_append]
  simp
theorem allP_le (vf : VarV → List Pair) (l s : List VarV) (k : Nat) : (allP vf l (s.take k)).length ≤ (allP vf l s).length := by
  have : allP vf l s = allP vf l (s.take k) ++ allP vf l (s.drop k) := by
    unfold allP
    rw [← List.flatMap_append, List.take_append_drop]
  rw [this, List.length_append]
  omega
theorem cellsQ_len (l : List VarV) : (l.flatMap cellsQ).length = l.length * 3 := by
  induction l with
  | nil => rfl
  | cons a r ih => rw [List.flatMap_cons, List.length_append, ih, List.length_cons]; show 3 + _ = _; omega
theorem cellsQ_at : ∀ (l : List VarV) (k : Nat) (h : k < l.length), (l.flatMap cellsQ)[k * 3]? = some (.int .i64 l[k].k) ∧ (l.flatMap cellsQ)[k * 3 + 1]? = some (.int .i64 l[k].m) ∧ (l.flatMap cellsQ)[k * 3 + 2]? = some (.string l[k].n)
  | [], _, h => absurd h (by simp)
  | a :: r, 0, _ => ⟨rfl, rfl, rfl⟩
  | a :: r, k + 1, h => by
    have := cellsQ_at r k (by simpa using h)
    rw [List.flatMap_cons]
    have h3 : (cellsQ a).length = 3 := rfl
    refine ⟨?_, ?_, ?_⟩
    · rw [List.getElem?_append_right (by rw [h3]; omega), h3, show (k + 1) * 3 - 3 = k * 3 by omega]; exact this.1
    · rw [List.getElem?_append_right (by rw [h3]; omega), h3, show (k + 1) * 3 + 1 - 3 = k * 3 + 1 by omega]; exact this.2.1
    · rw [List.getElem?_append_right (by rw [h3]; omega), h3, show (k + 1) * 3 + 2 - 3 = k * 3 + 2 by omega]; exact this.2.2
theorem var_at {w : World} {B n : Nat} {A : Option Addr} {l : List VarV} (h : Sl w B 3 A n (l.flatMap cellsQ)) (k : Nat) (hk : k < l.length) :
    ∃ b off, A = some ⟨b, off, none⟩ ∧ b < B ∧ w.cell? ⟨b, off + k * 3, none⟩ = some (.int .i64 l[k].k) ∧ w.cell? ⟨b, off + k * 3 + 1, none⟩ = some (.int .i64 l[k].m) ∧ w.cell? ⟨b, off + k * 3 + 2, none⟩ = some (.string l[k].n) := by
  have hl := cellsQ_len l
  obtain ⟨b, off, e, hb, hc⟩ := h.src (by omega)
  obtain ⟨h0, h1, h2⟩ := cellsQ_at l k hk
  refine ⟨b, off, e, hb, ?_, ?_, ?_⟩
  · rw [hc (k * 3) (by omega), ← h0, List.getElem?_eq_getElem]
  · rw [Nat.add_assoc, hc (k * 3 + 1) (by omega), ← h1, List.getElem?_eq_getElem]
  · rw [Nat.add_assoc, hc (k * 3 + 2) (by omega), ← h2, List.getElem?_eq_getElem]
set_option maxRecDepth 100000 in
set_option maxHeartbeats 800000 in
theorem AllCl_any (no v : VarV) (x : Pair) (gv ga : Nat) (w : World) (h0 : w.cell? ⟨gv, 0, none⟩ = some (.int .i64 v.k)) (ha : w.cell? ⟨ga, 0, none⟩ = some (.string x.1)) :
    Calls Tryz.prog 60 #[.agg #[.int .i64 no.k, .int .i64 no.m, .string no.n], .pointer (some ⟨gv, 0, none⟩), .pointer (some ⟨ga, 0, none⟩)] w (BoolPost (exB v x no) w) := by
  have hv : gv < w.heap.size := World.block_lt_of_cell? w _ h0
  have hga : ga < w.heap.size := World.block_lt_of_cell? w _ ha
  have hb : Below w.heap.size w (w.alloc (.cells #[.int .i64 no.k, .int .i64 no.m, .string no.n] 41)) := (Below.refl _ _).alloc (Nat.le_refl _) _
  have HE : Hid (exB v x no = ((no.m == 2) && (no.k == v.k) && (no.n.toList.isEmpty || (no.n.toList == x.1.toList)))) := rfl
  obtain ⟨k1, m1, n1⟩ := no
  obtain ⟨k2, m2, n2⟩ := v
  obtain ⟨x1, x2⟩ := x
  dsimp only at *
  cases q1 : (m1 == 2) with
  | false =>
    rw [q1] at HE
    go_enter Tryz.func60, Tryz.ntmps60
    go_wp2_with fail
    go_ret
    exact ⟨by rw [HE.out]; rfl, hb⟩
  | true =>
    cases q2 : (k1 == k2) with
    | false =>
      rw [q1, q2] at HE
      go_enter Tryz.func60, Tryz.ntmps60
      go_wp2_with fail
      go_ret
      exact ⟨by rw [HE.out]; rfl, hb⟩
    | true =>
      cases q3 : n1.toList.isEmpty with
      | true =>
        rw [q1, q2, q3] at HE
        go_enter Tryz.func60, Tryz.ntmps60
        go_wp2_with fail
        go_ret
        exact ⟨by rw [HE.out]; rfl, hb⟩
      | false =>
        cases q4 : (n1.toList == x1.toList) with
        | true =>
          rw [q1, q2, q3, q4] at HE
          go_enter Tryz.func60, Tryz.ntmps60
          go_wp2_with fail
          go_ret
          exact ⟨by rw [HE.out]; rfl, hb⟩
        | false =>
          rw [q1, q2, q3, q4] at HE
          go_enter Tryz.func60, Tryz.ntmps60
          go_wp2_with fail
          go_ret
          exact ⟨by rw [HE.out]; rfl, hb⟩
def dVar : VarV := ⟨0, 0, ByteArray.mk #[]⟩
set_option maxRecDepth 100000 in
theorem exP_any (l : List VarV) (v : VarV) (x : Pair) (A : Option Addr) (c gv ga : Nat) (w : World) (h : Sl w w.heap.size 3 A l.length (l.flatMap cellsQ)) (hl : l.length ≤ 9223372036854775807) (h0 : w.cell? ⟨gv, 0, none⟩ = some (.int .i64 v.k)) (ha : w.cell? ⟨ga, 0, none⟩ = some (.string x.1)) :
    Calls Tryz.prog 59 #[.slice A l.length c, .func (.func 60) #[] #[.pointer (some ⟨gv, 0, none⟩), .pointer (some ⟨ga, 0, none⟩)]] w (BoolPost (exP l v x) w) := by
  have e := anyN_list (exB v x) l dVar
  unfold exP
  rw [← e]
  refine ContFV_any 60 #[.pointer (some ⟨gv, 0, none⟩), .pointer (some ⟨ga, 0, none⟩)] (fun _ _ => rfl) A l.length c (l.flatMap cellsQ) (fun j => .int .i64 (l.getD j dVar).k) (fun j => .int .i64 (l.getD j dVar).m) (fun j => .string (l.getD j dVar).n) (fun j => exB v x (l.getD j dVar)) w h hl (fun j hj => ?_) fun W j hj hb => ?_
  · have := cellsQ_at l j hj
    rw [List.getD_eq_getElem?_getD, List.getElem?_eq_getElem hj]
    exact this
  · exact AllCl_any _ v x gv ga W (cell_kept hb h0) (cell_kept hb ha)
end Go.Proofs.YthfjmlcjkbgboaaGreatDoor
