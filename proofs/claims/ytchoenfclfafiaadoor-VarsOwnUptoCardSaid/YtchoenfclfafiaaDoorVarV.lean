/- The walk of vars.Values. -/
import Derived.Test.YtchoenfclfafiaaDoorVarW
import Derived.Test.YtchoenfclfafiaaDoorArgE
import Derived.Test.YtchoenfclfafiaaDoorNetP
import Derived.Lib.ItoaLen
namespace Go.Proofs.YtchoenfclfafiaaDoor
open Go.RowKit Go.Sort

theorem itoa_int (n : Int) (w : World) (h0 : -9223372036854775808 ≤ n) (h1 : n ≤ 9223372036854775807) (h : TabOk w) :
    Calls Tryd.prog 32 #[.int .i64 n] w fun e w' => e = .returned (.string (bs (Lib.itoa n))) ∧ Below w.heap.size w w' :=
  (Tryd.strconv_Itoa n h0 h1 w (h w (Below.refl _ _))).mono fun e w' ⟨h1, k', os, h2⟩ => by
    subst h2
    refine ⟨?_, below_growI w k' os⟩
    rw [h1]
    rfl
def oneV (x : ByteArray) : List Pair := [(ByteArray.mk #[], x)]
/-- What a variable tells. -/
def valP (K : Int) (name m t b : ByteArray) (fs : List PairV) (cl : Nat) (sc : Int) (list cook : List Pair) : List Pair :=
  if K = 1 then oneV m else if K = 2 then oneV t else if K = 3 then oneV (bs (Lib.cut t.data.toList [63]).1) else if K = 4 then oneV (bs (Lib.cut t.data.toList [63]).2.1) else if K = 5 then oneV b
  else if K = 6 then onlyP list name else if K = 7 then bareP list else if K = 8 then onlyP (fieldsP fs) name else if K = 9 then bareP (fieldsP fs) else if K = 10 then onlyP cook name
  else if K = 11 then oneV (bs (netT cl 32)) else if K = 12 then oneV (bs (Lib.itoa sc)) else []
theorem net_all (a : Nat) : netOk a 32 = true := by
  unfold netOk
  have : topN 32 = 0 := by decide
  rw [this, Nat.pow_zero, Nat.mod_one]
  decide

structure ValIn (m t b : ByteArray) (fs : List PairV) (A : Option Addr) (list : List Pair) (Al : Option Addr) (cook : List Pair) (Ac : Option Addr) (w : World) : Prop where
  f : Sl w w.heap.size 2 A fs.length (fs.flatMap cellsV)
  l : Sl w w.heap.size 2 Al list.length (list.flatMap cellsA)
  c : Sl w w.heap.size 2 Ac cook.length (cook.flatMap cellsA)
  lib : LibOk w
  tab : TabOk w
theorem ValIn.below {m t b : ByteArray} {fs : List PairV} {A : Option Addr} {list : List Pair} {Al : Option Addr} {cook : List Pair} {Ac : Option Addr} {w W : World} (h : ValIn m t b fs A list Al cook Ac w) (hb : Below w.heap.size w W) : ValIn m t b fs A list Al cook Ac W :=
  ⟨(h.f.below hb).more hb.size, (h.l.below hb).more hb.size, (h.c.below hb).more hb.size, h.lib.below hb, h.tab.below hb⟩
structure ValSz (t : ByteArray) (fs : List PairV) (list cook : List Pair) (cl : Nat) (sc : Int) : Prop where
  zt : t.size ≤ 4194304
  zf : fs.length ≤ 4194304
  each : ∀ f ∈ fs, f.1.size ≤ maxLen
  zl : list.length ≤ 4194304
  zk : cook.length ≤ 4194304
  zc : cl < 4294967296
  zs : -9223372036854775808 ≤ sc ∧ sc ≤ 9223372036854775807
set_option maxRecDepth 100000 in
set_option maxHeartbeats 6400000 in
theorem Values_any (K M : Int) (name m t b : ByteArray) (fs : List PairV) (A : Option Addr) (c : Nat) (cl : Nat) (sc : Int) (list : List Pair) (Al : Option Addr) (c1 : Nat) (cook : List Pair) (Ac : Option Addr) (c2 : Nat) (w : World)
    (hin : ValIn m t b fs A list Al cook Ac w) (hz : ValSz t fs list cook cl sc) :
    Calls Tryd.prog 16 #[.agg #[.int .i64 K, .int .i64 M, .string name], .agg #[.string m, .string t, .slice A fs.length c, .string b], .int .u32 (cl : Int), .int .i64 sc, .slice Al list.length c1, .slice Ac cook.length c2] w (RowA (valP K name m t b fs cl sc list cook) w) := by
  obtain ⟨W0, hW0⟩ : ∃ W0, (w.alloc (.cells #[.int .i64 K, .int .i64 M, .string name] 26)).alloc (.cells #[.string m, .string t, .slice A fs.length c, .string b] 31) = W0 := ⟨_, rfl⟩
  have hb0 : Below w.heap.size w W0 := by rw [← hW0]; exact ((Below.refl _ _).alloc (Nat.le_refl _) _).alloc (by simp) _
  have ha : W0.heap[w.heap.size]? = some (.cells #[.int .i64 K, .int .i64 M, .string name] 26 (0, 0)) := by
    rw [← hW0]
    exact (Below.heap_alloc _ _ _ (by simp)).trans (heap_alloc_new w _)
  have hbq : W0.heap[w.heap.size + 1]? = some (.cells #[.string m, .string t, .slice A fs.length c, .string b] 31 (0, 0)) := by
    rw [← hW0]
    have := heap_alloc_new (w.alloc (.cells #[.int .i64 K, .int .i64 M, .string name] 26)) (.cells #[.string m, .string t, .slice A fs.length c, .string b] 31)
    rw [World.size_alloc] at this
    exact this
  have a0 : W0.cell? ⟨w.heap.size, 0, none⟩ = some (.int .i64 K) := cell_of_row W0 _ 0 _ _ _ ha
  have a2 : W0.cell? ⟨w.heap.size, 2, none⟩ = some (.string name) := cell_of_row W0 _ 2 _ _ _ ha
  have d0 : W0.cell? ⟨w.heap.size + 1, 0, none⟩ = some (.string m) := cell_of_row W0 _ 0 _ _ _ hbq
  have d1 : W0.cell? ⟨w.heap.size + 1, 1, none⟩ = some (.string t) := cell_of_row W0 _ 1 _ _ _ hbq
  have d2 : W0.cell? ⟨w.heap.size + 1, 2, none⟩ = some (.slice A fs.length c) := cell_of_row W0 _ 2 _ _ _ hbq
  have d3 : W0.cell? ⟨w.heap.size + 1, 3, none⟩ = some (.string b) := cell_of_row W0 _ 3 _ _ _ hbq
  have hI := hin.below hb0
  have HW0 := Lib.hid hW0
  have HB0 := Lib.hid hb0
  have HI : Hid (∀ W, Below W0.heap.size W0 W → ValIn m t b fs A list Al cook Ac W) := fun W h => hI.below h
  have HS : Hid (∀ W, Below W0.heap.size W0 W → W.cell? ⟨w.heap.size, 2, none⟩ = some (.string name) ∧ W.cell? ⟨w.heap.size + 1, 0, none⟩ = some (.string m) ∧ W.cell? ⟨w.heap.size + 1, 1, none⟩ = some (.string t) ∧ W.cell? ⟨w.heap.size + 1, 2, none⟩ = some (.slice A fs.length c)) := fun W h => ⟨cell_kept h a2, cell_kept h d0, cell_kept h d1, cell_kept h d2⟩
  have HZ := Lib.hid hz
  have HR : Hid (Below W0.heap.size W0 W0) := Below.refl _ _
  have HOUT : Hid (∀ (l : List Pair) (v : Value) (W : World) (B : Nat), l = valP K name m t b fs cl sc list cook → OwnA W B v l → W0.heap.size ≤ B → Below W0.heap.size W0 W → RowA (valP K name m t b fs cl sc list cook) w (.returned v) W) := fun l v W B h1 h2 h3 h4 => by
    subst h1
    exact ⟨v, rfl, h2.low (Nat.le_trans hb0.size h3), hb0.trans (h4.mono hb0.size)⟩
  have HVP : Hid (valP K name m t b fs cl sc list cook = _) := rfl
  unfold Hid at HVP
  clear hin hz hW0 hb0 ha hbq hI HVP
  go_enter Tryd.func16, Tryd.ntmps16
  go_upto_region 1 with fail
  rw [HW0.out]
  by_cases k1 : K = 1
  · subst k1
    go_wp2_with (go_at_call 31; (with_reducible refine (vone_any m _).mono ?_); rintro e w1 ⟨v1, rfl, hO1, hb1⟩)
    go_ret
    exact HOUT.out _ _ _ _ rfl hO1 (Nat.le_refl _) hb1
  by_cases k2 : K = 2
  · subst k2
    clear k1
    go_wp2_with (go_at_call 31; (with_reducible refine (vone_any t _).mono ?_); rintro e w1 ⟨v1, rfl, hO1, hb1⟩)
    go_ret
    exact HOUT.out _ _ _ _ rfl hO1 (Nat.le_refl _) hb1
  by_cases k3 : K = 3
  · subst k3
    clear k1 k2
    have hp := Lib.hid (Path_any t W0 (HI.out _ HR.out).lib HZ.out.zt)
    have HV : Hid (oneV (bs (Lib.cut t.data.toList [63]).1) = valP 3 name m t b fs cl sc list cook) := rfl
    generalize bs (Lib.cut t.data.toList [63]).1 = P at hp HV
    go_wp2_with (first
      | (go_at_call 33; (with_reducible refine hp.out.mono ?_); rintro e w1 ⟨rfl, hb1⟩)
      | (go_at_call 31; (with_reducible refine (vone_any P _).mono ?_); rintro e w2 ⟨v1, rfl, hO1, hb2⟩))
    go_ret
    exact HOUT.out _ _ _ _ HV.out hO1 hb1.size (hb1.trans (hb2.mono hb1.size))
  by_cases k4 : K = 4
  · subst k4
    clear k1 k2 k3
    have hp := Lib.hid (Query_any t W0 (HI.out _ HR.out).lib HZ.out.zt)
    have HV : Hid (oneV (bs (Lib.cut t.data.toList [63]).2.1) = valP 4 name m t b fs cl sc list cook) := rfl
    generalize bs (Lib.cut t.data.toList [63]).2.1 = P at hp HV
    go_wp2_with (first
      | (go_at_call 34; (with_reducible refine hp.out.mono ?_); rintro e w1 ⟨rfl, hb1⟩)
      | (go_at_call 31; (with_reducible refine (vone_any P _).mono ?_); rintro e w2 ⟨v1, rfl, hO1, hb2⟩))
    go_ret
    exact HOUT.out _ _ _ _ HV.out hO1 hb1.size (hb1.trans (hb2.mono hb1.size))
  by_cases k5 : K = 5
  · subst k5
    clear k1 k2 k3 k4
    go_wp2_with (go_at_call 31; (with_reducible refine (vone_any b _).mono ?_); rintro e w1 ⟨v1, rfl, hO1, hb1⟩)
    go_ret
    exact HOUT.out _ _ _ _ rfl hO1 (Nat.le_refl _) hb1
  by_cases k6 : K = 6
  · subst k6
    clear k1 k2 k3 k4 k5
    have hp := Lib.hid (only_any list Al c1 name W0 (HI.out _ HR.out).l HZ.out.zl)
    go_wp2_with (go_at_call 35; (with_reducible refine hp.out.mono ?_); rintro e w1 ⟨v1, rfl, hO1, hb1⟩)
    go_ret
    exact HOUT.out _ _ _ _ rfl hO1 (Nat.le_refl _) hb1
  by_cases k7 : K = 7
  · subst k7
    clear k1 k2 k3 k4 k5 k6
    have hp := Lib.hid (bare_any list Al c1 W0 (HI.out _ HR.out).l HZ.out.zl)
    go_wp2_with (go_at_call 36; (with_reducible refine hp.out.mono ?_); rintro e w1 ⟨v1, rfl, hO1, hb1⟩)
    go_ret
    exact HOUT.out _ _ _ _ rfl hO1 (Nat.le_refl _) hb1
  by_cases k8 : K = 8
  · subst k8
    clear k1 k2 k3 k4 k5 k6 k7
    have hp : Hid (∀ W, Below W0.heap.size W0 W → _) := fun W h => fields_any m t fs A c W (HI.out W h).f HZ.out.each HZ.out.zf
    have hfl : (fieldsP fs).length ≤ 4194304 := by unfold fieldsP; rw [List.length_map]; exact HZ.out.zf
    have HFL := Lib.hid hfl
    clear hfl
    go_wp2_with fail
    go_region_held3 (fun w' => w'.cell? ⟨w.heap.size, 2, none⟩ = some (.string name) ∧ w'.cell? ⟨w.heap.size + 1, 0, none⟩ = some (.string m) ∧ w'.cell? ⟨w.heap.size + 1, 1, none⟩ = some (.string t) ∧ w'.cell? ⟨w.heap.size + 1, 2, none⟩ = some (.slice A fs.length c))
      (first | exact HS.out _ hbb9 | exact HS.out _ hbb8 | exact HS.out _ HR.out | go_keep)
      (first
        | (go_at_call 37; (with_reducible refine (hp.out _ (HR.out.drew)).mono ?_); rintro e w8 ⟨v8, rfl, hO8, hb8⟩; have hbb8 : Below W0.heap.size W0 w8 := undrewA hb8; obtain ⟨A8, c8, rfl, hs8⟩ := hO8.form)
        | (go_at_call 35; (with_reducible refine (only_any (fieldsP fs) A8 c8 name w8 hs8 HFL.out).mono ?_); rintro e w9 ⟨v9, rfl, hO9, hb9⟩; have hbb9 : Below W0.heap.size W0 w9 := hbb8.trans (hb9.mono hbb8.size)))
    clear hO8 hs8
    go_wp2_with fail
    go_ret
    exact HOUT.out _ _ _ _ rfl hO9 hbb8.size hbb9
  by_cases k9 : K = 9
  · subst k9
    clear k1 k2 k3 k4 k5 k6 k7 k8
    have hp := Lib.hid (fields_any m t fs A c W0 (HI.out _ HR.out).f HZ.out.each HZ.out.zf)
    have hfl : (fieldsP fs).length ≤ 4194304 := by unfold fieldsP; rw [List.length_map]; exact HZ.out.zf
    have HFL := Lib.hid hfl
    clear hfl
    go_wp2_with (go_at_call 37; (with_reducible refine hp.out.mono ?_); rintro e w8 ⟨v8, rfl, hO8, hb8⟩; obtain ⟨A8, c8, rfl, hs8⟩ := hO8.form)
    refine (bare_any (fieldsP fs) A8 c8 w8 hs8 HFL.out).mono ?_
    rintro e w9 ⟨v9, rfl, hO9, hb9⟩
    go_wp2_with fail
    go_ret
    exact HOUT.out _ _ _ _ rfl hO9 hb8.size (hb8.trans (hb9.mono hb8.size))
  by_cases k10 : K = 10
  · subst k10
    clear k1 k2 k3 k4 k5 k6 k7 k8 k9
    have hp := Lib.hid (only_any cook Ac c2 name W0 (HI.out _ HR.out).c HZ.out.zk)
    go_wp2_with (go_at_call 35; (with_reducible refine hp.out.mono ?_); rintro e w1 ⟨v1, rfl, hO1, hb1⟩)
    go_ret
    exact HOUT.out _ _ _ _ rfl hO1 (Nat.le_refl _) hb1
  by_cases k11 : K = 11
  · subst k11
    clear k1 k2 k3 k4 k5 k6 k7 k8 k9 k10
    have hp : Hid (Calls Tryd.prog 38 #[.agg #[.int .u32 (cl : Int), .int .i64 32]] W0 fun e w' => e = .returned (.tuple #[.string (bs (netT cl 32)), .int .i64 0]) ∧ Below W0.heap.size W0 w') := by
      have h := NPrint_any cl 32 W0 HZ.out.zc (HI.out _ HR.out).tab
      unfold NPrintPost at h
      rw [net_all, if_pos rfl] at h
      exact h
    have HV : Hid (oneV (bs (netT cl 32)) = valP 11 name m t b fs cl sc list cook) := rfl
    generalize bs (netT cl 32) = P at hp HV
    go_wp2_with (first
      | (go_at_call 38; (with_reducible refine hp.out.mono ?_); rintro e w1 ⟨rfl, hb1⟩)
      | (go_at_call 31; (with_reducible refine (vone_any P _).mono ?_); rintro e w2 ⟨v1, rfl, hO1, hb2⟩))
    go_ret
    exact HOUT.out _ _ _ _ HV.out hO1 hb1.size (hb1.trans (hb2.mono hb1.size))
  by_cases k12 : K = 12
  · subst k12
    clear k1 k2 k3 k4 k5 k6 k7 k8 k9 k10 k11
    have hp := Lib.hid (itoa_int sc W0 HZ.out.zs.1 HZ.out.zs.2 (HI.out _ HR.out).tab)
    have HV : Hid (oneV (bs (Lib.itoa sc)) = valP 12 name m t b fs cl sc list cook) := rfl
    generalize bs (Lib.itoa sc) = P at hp HV
    go_wp2_with (first
      | (go_at_call 32; (with_reducible refine hp.out.mono ?_); rintro e w1 ⟨rfl, hb1⟩)
      | (go_at_call 31; (with_reducible refine (vone_any P _).mono ?_); rintro e w2 ⟨v1, rfl, hO1, hb2⟩))
    go_ret
    exact HOUT.out _ _ _ _ HV.out hO1 hb1.size (hb1.trans (hb2.mono hb1.size))
  have HV : Hid ([] = valP K name m t b fs cl sc list cook) := by unfold Hid valP; rw [if_neg k1, if_neg k2, if_neg k3, if_neg k4, if_neg k5, if_neg k6, if_neg k7, if_neg k8, if_neg k9, if_neg k10, if_neg k11, if_neg k12]
  have q1 := beq_eq_false_iff_ne.2 k1
  have q2 := beq_eq_false_iff_ne.2 k2
  have q3 := beq_eq_false_iff_ne.2 k3
  have q4 := beq_eq_false_iff_ne.2 k4
  have q5 := beq_eq_false_iff_ne.2 k5
  have q6 := beq_eq_false_iff_ne.2 k6
  have q7 := beq_eq_false_iff_ne.2 k7
  have q8 := beq_eq_false_iff_ne.2 k8
  have q9 := beq_eq_false_iff_ne.2 k9
  have q10 := beq_eq_false_iff_ne.2 k10
  have q11 := beq_eq_false_iff_ne.2 k11
  have q12 := beq_eq_false_iff_ne.2 k12
  clear k1 k2 k3 k4 k5 k6 k7 k8 k9 k10 k11 k12
  go_wp2_with fail
  go_ret
  exact HOUT.out [] _ _ _ HV.out (OwnA.nil _ _) (Nat.le_refl _) HR.out
end Go.Proofs.YtchoenfclfafiaaDoor
