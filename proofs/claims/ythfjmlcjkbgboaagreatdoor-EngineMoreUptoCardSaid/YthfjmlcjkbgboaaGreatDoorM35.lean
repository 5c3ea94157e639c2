/- Part 35 of the proof: lemmas and walks that the last texts use. -/
import Derived.Test.YthfjmlcjkbgboaaGreatDoorM10
import Derived.Test.YthfjmlcjkbgboaaGreatDoorM24
import Derived.Test.YthfjmlcjkbgboaaGreatDoorM27
import Derived.Test.YthfjmlcjkbgboaaGreatDoorM34
import Derived.Lib.Join
namespace Go.Proofs.YthfjmlcjkbgboaaGreatDoor
open Go.RowKit
def vfP (m t b : ByteArray) (fs : List PairV) (cl : Nat) (sc : Int) (list cook : List Pair) (v : VarV) : List Pair := valP v.k v.n m t b fs cl sc list cook
theorem fieldsP_len (fs : List PairV) : (fieldsP fs).length = fs.length := by unfold fieldsP; rw [List.length_map]
theorem only_le (l : List Pair) (name : ByteArray) : (onlyP l name).length ≤ l.length := List.length_filter_le _ _
theorem vfP_len {m t b : ByteArray} {fs : List PairV} {cl : Nat} {sc : Int} {list cook : List Pair} (hz : ValSz t fs list cook cl sc) (v : VarV) : (vfP m t b fs cl sc list cook v).length ≤ 4194304 := by
  have h1 := only_le list v.n
  have h2 := only_le cook v.n
  have h3 := only_le (fieldsP fs) v.n
  rw [fieldsP_len] at h3
  have h4 := hz.zf
  have h5 := hz.zl
  have h6 := hz.zk
  have one : ∀ x, (oneV x).length ≤ 4194304 := fun x => by show 1 ≤ 4194304; omega
  unfold vfP valP
  by_cases k1 : v.k = 1
  · rw [if_pos k1]; exact one _
  rw [if_neg k1]
  by_cases k2 : v.k = 2
  · rw [if_pos k2]; exact one _
  rw [if_neg k2]
  by_cases k3 : v.k = 3
  · rw [if_pos k3]; exact one _
  rw [if_neg k3]
  by_cases k4 : v.k = 4
  · rw [if_pos k4]; exact one _
  rw [if_neg k4]
  by_cases k5 : v.k = 5
  · rw [if_pos k5]; exact one _
  rw [if_neg k5]
  by_cases k6 : v.k = 6
  · rw [if_pos k6]; omega
  rw [if_neg k6]
  by_cases k7 : v.k = 7
  · rw [if_pos k7]; unfold bareP; rw [List.length_map]; omega
  rw [if_neg k7]
  by_cases k8 : v.k = 8
  · rw [if_pos k8]; omega
  rw [if_neg k8]
  by_cases k9 : v.k = 9
  · rw [if_pos k9]; unfold bareP; rw [List.length_map, fieldsP_len]; omega
  rw [if_neg k9]
  by_cases k10 : v.k = 10
  · rw [if_pos k10]; omega
  rw [if_neg k10]
  by_cases k11 : v.k = 11
  · rw [if_pos k11]; exact one _
  rw [if_neg k11]
  by_cases k12 : v.k = 12
  · rw [if_pos k12]; exact one _
  rw [if_neg k12]
  exact Nat.zero_le _
def AllRel (vf : VarV → List Pair) (l : List VarV) (B : Nat) (W0 : World) (v i : Value) (wr : World) : Prop :=
  ∃ k : Nat, k ≤ l.length ∧ i = .int .i64 k ∧ OwnA wr B v (allP vf l (l.take k)) ∧ Below B W0 wr
def LefRel (l : List VarV) (x : VarV) (vals : List Pair) (W2 : World) (v i : Value) (wr : World) : Prop :=
  ∃ j : Nat, j ≤ vals.length ∧ i = .int .i64 j ∧ OwnA wr W2.heap.size v (leftQ l x (vals.take j)) ∧ Below W2.heap.size W2 wr
set_option maxRecDepth 100000 in
set_option maxHeartbeats 6400000 in
theorem All_any (l : List VarV) (A0 : Option Addr) (c0 : Nat) (m t b : ByteArray) (fs : List PairV) (A : Option Addr) (c : Nat) (cl : Nat) (sc : Int) (list : List Pair) (Al : Option Addr) (c1 : Nat) (cook : List Pair) (Ac : Option Addr) (c2 : Nat) (w : World)
    (hv : Sl w w.heap.size 3 A0 l.length (l.flatMap cellsQ)) (hin : ValIn m t b fs A list Al cook Ac w) (hz : ValSz t fs list cook cl sc) (hl : l.length ≤ 4194304) (htot : (allP (vfP m t b fs cl sc list cook) l l).length ≤ 4398046511104) :
    Calls Tryz.prog 34 #[.slice A0 l.length c0, .agg #[.string m, .string t, .slice A fs.length c, .string b], .int .u32 (cl : Int), .int .i64 sc, .slice Al list.length c1, .slice Ac cook.length c2] w (RowA (allP (vfP m t b fs cl sc list cook) l l) w) := by
  have hbx : ∀ W, Below (w.heap.size + 1) (w.alloc (.cells #[.string m, .string t, .slice A fs.length c, .string b] 38)) W → (W.cell? ⟨w.heap.size, 0, none⟩ = some (.string m) ∧ W.cell? ⟨w.heap.size, 1, none⟩ = some (.string t) ∧ W.cell? ⟨w.heap.size, 2, none⟩ = some (.slice A fs.length c) ∧ W.cell? ⟨w.heap.size, 3, none⟩ = some (.string b)) ∧ Below w.heap.size w W ∧ ValIn m t b fs A list Al cook Ac W ∧ Sl W W.heap.size 3 A0 l.length (l.flatMap cellsQ) := fun W hb => by
    obtain ⟨h1, h2⟩ := box_facts hb
    exact ⟨⟨h1 0, h1 1, h1 2, h1 3⟩, h2, hin.below h2, (hv.below h2).more h2.size⟩
  have HBX := Lib.hid hbx
  obtain ⟨W0, hW0⟩ : ∃ W0, w.alloc (.cells #[.string m, .string t, .slice A fs.length c, .string b] 38) = W0 := ⟨_, rfl⟩
  have hz0 : w.heap.size + 1 ≤ W0.heap.size := by rw [← hW0]; simp
  rw [hW0] at HBX
  have HW0 := Lib.hid hW0
  have HVAL : Hid (∀ (v : VarV) (W : World), Below (w.heap.size + 1) W0 W → Calls Tryz.prog 58 #[.agg #[.int .i64 v.k, .int .i64 v.m, .string v.n], .agg #[.string m, .string t, .slice A fs.length c, .string b], .int .u32 (cl : Int), .int .i64 sc, .slice Al list.length c1, .slice Ac cook.length c2] W (RowA (vfP m t b fs cl sc list cook v) W)) := fun v W h =>
    Values_any v.k v.m v.n m t b fs A c cl sc list Al c1 cook Ac c2 W (HBX.out W h).2.2.1 hz
  have HVL : Hid (∀ v, (vfP m t b fs cl sc list cook v).length ≤ 4194304) := fun v => vfP_len hz v
  generalize vfP m t b fs cl sc list cook = vf at *
  have HTOT := Lib.hid htot
  have HSN := fun k h => Lib.hid (allP_snoc vf l l k h)
  have HLE := fun k => Lib.hid (allP_le vf l l k)
  have HLL := Lib.hid hl
  have HITO : Hid (∀ (n : Nat) (W : World), n ≤ 4194304 → Below (w.heap.size + 1) W0 W → Calls Tryz.prog 62 #[.int .i64 (n : Int)] W fun e w' => e = .returned (.string (bs (Lib.itoa (n : Int)))) ∧ Below W.heap.size W w') := fun n W hn h => itoa_int (n : Int) W (by omega) (by omega) (HBX.out W h).2.2.1.tab
  clear hbx hW0 hin hz hv htot hl
  go_enter Tryz.func34, Tryz.ntmps34
  go_upto_region 1 with fail
  rw [HW0.out]
  go_wp2_with fail
  go_loopw [13, 21] (fun v i wr => AllRel vf l (w.heap.size + 1) W0 v i wr) (fun _ i _ => l.length - (intOf i).toNat)
  case atStart => exact ⟨0, Nat.zero_le _, rfl, OwnA.nil _ _, Below.refl _ _⟩
  case round =>
    obtain ⟨k, hk, rfl, hO, hb⟩ := hrel
    have hzr : w.heap.size + 1 ≤ wr.heap.size := Nat.le_trans hz0 hb.size
    have ⟨⟨b0, b1, b2, b3⟩, hbw, hI, hSv⟩ := HBX.out wr hb
    have hzq : w.heap.size < wr.heap.size := hzr
    obtain ⟨Ao, co, rfl, _⟩ := hO.form
    have HO := Lib.hid hO
    have HB := Lib.hid hb
    have hll := HLL.out
    by_cases hlt : k < l.length
    · have d1 : decide ((k : Int) < (l.length : Int)) = true := by simp; omega
      have i7 : IntKind.i64.wrap ((k : Int) + 1) = (k : Int) + 1 := IntWalk.i64_in _ (by omega)
      obtain ⟨bb, off, rfl, hbB, x0, x1, x2⟩ := var_at hSv k hlt
      have HST := HSN k hlt
      have hle1 := (HLE (k + 1)).out
      rw [HST.out, List.length_append] at hle1
      have htot := HTOT.out
      have HN1 : Hid ((allP vf l (l.take k)).length + (stepQ l l[k] (vf l[k])).length ≤ 4398046511104) := Nat.le_trans hle1 htot
      generalize l[k] = X at *
      have HVX := Lib.hid (HVAL.out X)
      have HLX := Lib.hid (HVL.out X)
      generalize vf X = vals at *
      obtain ⟨xk, xm, xn⟩ := X
      dsimp only at *
      have hal : Below (w.heap.size + 1) wr (wr.alloc (.cells #[.int .i64 xk, .int .i64 xm, .string xn] 41)) := (Below.refl _ _).alloc hzr _
      have hbl := hb.trans hal
      have hOl := hO.below ((Below.refl wr.heap.size wr).alloc (Nat.le_refl _) (.cells #[.int .i64 xk, .int .i64 xm, .string xn] 41))
      cases q2 : (xm == 2) with
      | true =>
        have hm : xm = 2 := by simpa using q2
        have HE : Hid (allP vf l (l.take (k + 1)) = allP vf l (l.take k)) := by unfold Hid; rw [HST.out]; unfold stepQ; rw [if_pos hm, List.append_nil]
        have HOL := Lib.hid hOl
        have HBL := Lib.hid hbl
        clear hm hO hb hbw hI hSv b0 b1 b2 b3 hle1 htot hal hbl hOl
        go_wp2_with fail
        exact ⟨⟨k + 1, by omega, rfl, by rw [HE.out]; exact HOL.out, HBL.out⟩, by dsimp only [intOf]; omega⟩
      | false =>
        have hm : xm ≠ 2 := by simpa using q2
        have HBL := Lib.hid hbl
        have HOL := Lib.hid hOl
        have hzl : wr.heap.size + 1 ≤ (wr.alloc (.cells #[.int .i64 xk, .int .i64 xm, .string xn] 41)).heap.size := by simp
        have hbk := fun W h => box_facts (w := wr) (W' := W) (cs := #[.int .i64 xk, .int .i64 xm, .string xn]) (t := 41) h
        have HBK := Lib.hid hbk
        clear hO hb hbw hI hle1 htot hal hbl hOl hbk
        go_wp2_with fail
        refine (HVX.out _ HBL.out).mono ?_
        rintro e w2 ⟨v2, rfl, hO2, hb2⟩
        obtain ⟨A2, d2, rfl, hs2⟩ := hO2.form
        have HB2 : Hid (Below (wr.heap.size + 1) (wr.alloc (.cells #[.int .i64 xk, .int .i64 xm, .string xn] 41)) w2) := hb2.mono hzl
        have HBW2 : Hid (Below (w.heap.size + 1) W0 w2) := HBL.out.trans (hb2.mono (Nat.le_trans hz0 HBL.out.size))
        have HO2 : Hid (OwnA w2 (w.heap.size + 1) (.slice Ao (allP vf l (l.take k)).length co) (allP vf l (l.take k))) := HOL.out.below hb2
        have HS2 : Hid (∀ W, Below w2.heap.size w2 W → Sl W W.heap.size 2 A2 vals.length (vals.flatMap cellsA)) := fun W h => (hs2.below h).more h.size
        clear hb2 hO2 hs2 x0 x1 x2 b0 b1 b2 b3 hSv
        obtain ⟨wo, rfl⟩ : ∃ wo : World, wo = wr := ⟨_, rfl⟩
        go_wp2_with fail
        go_loopw [16, 36] (fun v i wr => LefRel l ⟨xk, xm, xn⟩ vals w2 v i wr) (fun _ i _ => vals.length - (intOf i).toNat)
        case atStart => exact ⟨0, Nat.zero_le _, rfl, OwnA.nil _ _, Below.refl _ _⟩
        case round =>
          obtain ⟨j, hj, rfl, hOi, hbi⟩ := hrel
          have hbw2i := HBW2.out.trans (hbi.mono (Nat.le_trans hz0 HBW2.out.size))
          have ⟨_, _, _, hSv⟩ := HBX.out wr hbw2i
          have ⟨hbk, _⟩ := HBK.out wr (HB2.out.trans (hbi.mono (Nat.le_trans hzl HB2.out.size)))
          have v0 : wr.cell? ⟨wo.heap.size, 0, none⟩ = some (.int .i64 xk) := hbk 0
          have v1 : wr.cell? ⟨wo.heap.size, 1, none⟩ = some (.int .i64 xm) := hbk 1
          have hOo := HO2.out.below hbi
          have hzi : w2.heap.size ≤ wr.heap.size := hbi.size
          have hvl := HLX.out
          have hlj := leftP_le l ⟨xk, xm, xn⟩ vals j
          obtain ⟨Ai, ci, rfl, _⟩ := hOi.form
          by_cases hltj : j < vals.length
          · have dj : decide ((j : Int) < (vals.length : Int)) = true := by simp; omega
            have i9 : IntKind.i64.wrap ((j : Int) + 1) = (j : Int) + 1 := IntWalk.i64_in _ (by omega)
            obtain ⟨b', off', rfl, _, y0, y1⟩ := arg_at (HS2.out wr hbi) j hltj
            have HLS := Lib.hid (leftP_snoc l ⟨xk, xm, xn⟩ vals j hltj)
            generalize vals[j] = x at *
            obtain ⟨n1, n2⟩ := x
            dsimp only at y0 y1
            have hal : Below wr.heap.size wr (wr.alloc (.cells #[.string n1, .string n2] 43)) := (Below.refl _ _).alloc (Nat.le_refl _) _
            have hC := exP_any l ⟨xk, xm, xn⟩ (n1, n2) _ c0 wo.heap.size wr.heap.size (wr.alloc (.cells #[.string n1, .string n2] 43)) ((hSv.below hal).more hal.size) (by omega) (cell_kept hal v0) (new_cell (Below.refl _ _) 0)
            have hO3 := hOi.below hal
            have hb3 := hbi.trans (hal.mono hzi)
            have HA3 : Hid (∀ W, Below (wr.alloc (.cells #[.string n1, .string n2] 43)).heap.size (wr.alloc (.cells #[.string n1, .string n2] 43)) W → W.cell? ⟨wr.heap.size, 0, none⟩ = some (.string n1) ∧ W.cell? ⟨wr.heap.size, 1, none⟩ = some (.string n2)) := fun W h => ⟨new_cell h 0, new_cell h 1⟩
            have HC := Lib.hid hC
            have HO3 := Lib.hid hO3
            have HB3 := Lib.hid hb3
            clear hal hC hO3 hb3 hOi hbi hbw2i hSv hbk v0 v1 hOo
            cases hq : exP l ⟨xk, xm, xn⟩ (n1, n2) with
            | true =>
              have HL2 : Hid (leftQ l ⟨xk, xm, xn⟩ (vals.take (j + 1)) = leftQ l ⟨xk, xm, xn⟩ (vals.take j)) := by unfold Hid; rw [HLS.out, if_pos hq, List.append_nil]
              rw [hq] at HC
              clear hq
              go_wp2_with (go_at_call 59; (with_reducible refine HC.out.mono ?_); rintro e w4 ⟨rfl, hb4⟩)
              exact ⟨⟨j + 1, by omega, rfl, by rw [HL2.out]; exact HO3.out.below hb4, HB3.out.trans (hb4.mono HB3.out.size)⟩, by dsimp only [intOf]; omega⟩
            | false =>
              have HL2 : Hid (leftQ l ⟨xk, xm, xn⟩ (vals.take (j + 1)) = leftQ l ⟨xk, xm, xn⟩ (vals.take j) ++ [(n1, n2)]) := by unfold Hid; rw [HLS.out, if_neg (by rw [hq]; decide)]
              rw [hq] at HC
              clear hq
              generalize leftQ l ⟨xk, xm, xn⟩ (vals.take j) = acc at *
              go_wp2_with (first
                | (go_at_call 59; (with_reducible refine HC.out.mono ?_); rintro e w4 ⟨rfl, hb4⟩; have hO4 := HO3.out.below hb4; have hB4 := HB3.out.trans (hb4.mono HB3.out.size); have hz4 : w2.heap.size ≤ w4.heap.size := hB4.size; have ⟨a0, a1⟩ := HA3.out w4 hb4)
                | (at_builtin; refine wpList_append_a rfl (.tmp 44) (.tmp 46) rfl w2.heap.size (.slice Ai acc.length ci) acc rfl (by exact hO4) (by exact hz4) _ (n1, n2) rfl w4.heap.size rfl 1 rfl (by omega) ?_; intro v5 w5 hO5 hb5 hk5 hz5))
              exact ⟨⟨j + 1, by omega, rfl, by rw [HL2.out]; exact hO5, hB4.trans hb5⟩, by dsimp only [intOf]; omega⟩
          · obtain rfl : j = vals.length := by omega
            have dj : decide ((vals.length : Int) < (vals.length : Int)) = false := by simp
            rw [List.take_length] at hOi hlj ⊢
            have HOO := Lib.hid hOo
            have HBI := Lib.hid hbw2i
            have hzw : w.heap.size + 1 ≤ wr.heap.size := Nat.le_trans hz0 hbw2i.size
            have hn1 := HN1.out
            cases q1 : (xm == 1) with
            | true =>
              have hm1 : xm = 1 := by simpa using q1
              have HE : Hid (allP vf l (l.take (k + 1)) = allP vf l (l.take k) ++ oneV (bs (Lib.itoa ((leftQ l ⟨xk, xm, xn⟩ vals).length : Int)))) := by unfold Hid; rw [HST.out]; unfold stepQ; rw [if_neg hm, if_pos hm1]
              have hs1 : stepQ l ⟨xk, xm, xn⟩ vals = oneV (bs (Lib.itoa ((leftQ l ⟨xk, xm, xn⟩ vals).length : Int))) := by unfold stepQ; rw [if_neg hm, if_pos hm1]
              rw [hs1] at hn1
              have hn1 : (allP vf l (l.take k)).length + 1 ≤ 4398046511104 := hn1
              clear hm hm1 hs1
              generalize leftQ l ⟨xk, xm, xn⟩ vals = L at *
              have HIT := Lib.hid (HITO.out L.length wr (by omega) hbw2i)
              generalize bs (Lib.itoa (L.length : Int)) = S at *
              generalize allP vf l (l.take k) = acc at *
              clear hOi hbi hbw2i hSv hbk hOo
              go_wp2_with (first
                | (go_at_call 62; (with_reducible refine HIT.out.mono ?_); rintro e w4 ⟨rfl, hb4⟩)
                | (go_at_call 61; (with_reducible refine (vone_any S w4).mono ?_); rintro e w5 ⟨v5, rfl, hO5, hb5⟩; have hb45 := hb4.trans (hb5.mono hb4.size); have hO5a := HOO.out.below hb45; have hB5 := HBI.out.trans (hb45.mono hzw); have hz5 : w.heap.size + 1 ≤ w5.heap.size := Nat.le_trans hzw hb45.size; obtain ⟨A5, c5, rfl, _⟩ := hO5.form)
                | (at_builtin; refine wpList_append_aa rfl (.tmp 56) (.tmp 57) rfl (w.heap.size + 1) w4.heap.size (.slice Ao acc.length co) (.slice A5 (oneV S).length c5) acc (oneV S) rfl rfl (by exact hO5a) (by exact hO5) (by exact hz5) (by exact hn1) ?_; intro v6 w6 hO6 hb6 hk6 hz6))
              exact ⟨⟨k + 1, by omega, rfl, by rw [HE.out]; exact hO6, hB5.trans hb6⟩, by dsimp only [intOf]; omega⟩
            | false =>
              have hm1 : xm ≠ 1 := by simpa using q1
              have HE : Hid (allP vf l (l.take (k + 1)) = allP vf l (l.take k) ++ leftQ l ⟨xk, xm, xn⟩ vals) := by unfold Hid; rw [HST.out]; unfold stepQ; rw [if_neg hm, if_neg hm1]
              have hs1 : stepQ l ⟨xk, xm, xn⟩ vals = leftQ l ⟨xk, xm, xn⟩ vals := by unfold stepQ; rw [if_neg hm, if_neg hm1]
              rw [hs1] at hn1
              clear hm hm1 hs1
              generalize leftQ l ⟨xk, xm, xn⟩ vals = L at *
              generalize allP vf l (l.take k) = acc at *
              have HOI := Lib.hid hOi
              clear hOi hbi hbw2i hSv hbk hOo
              go_wp2_with (at_builtin; refine wpList_append_aa rfl (.tmp 56) (.tmp 57) rfl (w.heap.size + 1) w2.heap.size (.slice Ao acc.length co) (.slice Ai L.length ci) acc L rfl rfl (by exact HOO.out) (by exact HOI.out) (by exact hzw) (by exact hn1) ?_; intro v6 w6 hO6 hb6 hk6 hz6)
              exact ⟨⟨k + 1, by omega, rfl, by rw [HE.out]; exact hO6, HBI.out.trans hb6⟩, by dsimp only [intOf]; omega⟩
    · obtain rfl : k = l.length := by omega
      have d1 : decide ((l.length : Int) < (l.length : Int)) = false := by simp
      rw [List.take_length] at hO
      have HBW := Lib.hid hbw
      have HOF := Lib.hid (hO.low (Nat.le_succ w.heap.size))
      clear hO hb hbw hI hSv b0 b1 b2 b3
      go_wp2_with fail
      rw [List.take_length]
      go_ret
      exact ⟨_, rfl, HOF.out, HBW.out⟩
end Go.Proofs.YthfjmlcjkbgboaaGreatDoor
namespace Go.Proofs.YthfjmlcjkbgboaaGreatDoor
open Go.RowKit
def wordsL : List (List UInt8) := [[], [108, 111, 119, 101, 114], [117, 114, 108], [104, 101, 120], [98, 97, 115, 101], [104, 116, 109, 108], [112, 97, 116, 104], [115, 113, 117, 101, 101, 122, 101], [110, 111, 110, 117, 108, 108], [116, 114, 105, 109], [108, 101, 110, 103, 116, 104], [99, 109, 100]]
def wordI (k : Int) : List UInt8 := wordsL.getD k.toNat []
def okK (k : Int) : Bool := !(decide (k < 1) || decide (11 < k))
theorem okK_iff (k : Int) : okK k = true ↔ 1 ≤ k ∧ k ≤ 11 := by unfold okK; simp
def checkP (l : List Int) : Int := if 8 < l.length then 2 else if l.all okK = true then 0 else 1
theorem checkP_ok {l : List Int} : checkP l = 0 ↔ l.length ≤ 8 ∧ ∀ x ∈ l, 1 ≤ x ∧ x ≤ 11 := by
  unfold checkP
  by_cases h : 8 < l.length
  · rw [if_pos h]
    exact ⟨fun e => absurd e (by decide), fun e => by omega⟩
  · rw [if_neg h]
    by_cases h2 : l.all okK = true
    · rw [if_pos h2]
      exact ⟨fun _ => ⟨by omega, fun x hx => (okK_iff x).1 (List.all_eq_true.1 h2 x hx)⟩, fun _ => rfl⟩
    · rw [if_neg h2]
      exact ⟨fun e => absurd e (by decide), fun e => absurd (List.all_eq_true.2 fun x hx => (okK_iff x).2 (e.2 x hx)) h2⟩
def ParseIs (s : List UInt8) (ks : List Int) : Prop := (s = [45] ∧ ks = []) ∨ (s ≠ [45] ∧ ks.map wordI = splL 44 s ∧ ks.length ≤ 8 ∧ ∀ x ∈ ks, 1 ≤ x ∧ x ≤ 11)
end Go.Proofs.YthfjmlcjkbgboaaGreatDoor
namespace Go.Proofs.YthfjmlcjkbgboaaGreatDoor
open Go.RowKit
def OwnK (w : World) (base : Nat) (v : Value) (l : List Int) : Prop := w.ownsRow base 3 1 v l.length (l.map (Value.int .i64))
theorem OwnK.nil (w : World) (base : Nat) : OwnK w base (.slice none 0 0) [] := World.ownsRow_nil w base 3 1
theorem OwnK.below {w w' : World} {base : Nat} {v : Value} {l : List Int} (h : OwnK w base v l) (hb : Below w.heap.size w w') : OwnK w' base v l := ownsRow_below h hb
theorem OwnK.low {w : World} {base b : Nat} {v : Value} {l : List Int} (h : OwnK w base v l) (hb : b ≤ base) : OwnK w b v l :=
  ⟨h.1, h.2.imp_right fun ⟨g, cap, cur, h1, h2, h3⟩ => ⟨g, cap, cur, h1, Nat.le_trans hb h2, h3⟩⟩
theorem OwnK.form {w : World} {base : Nat} {v : Value} {l : List Int} (h : OwnK w base v l) : ∃ A c, v = .slice A l.length c ∧ l.length ≤ c ∧ Sl w w.heap.size 1 A l.length (l.map (Value.int .i64)) := by
  rcases h.2 with ⟨h1, h2⟩ | ⟨g, cap, cur, h1, hb, hg, hcap, _⟩
  · have : l = [] := List.eq_nil_of_length_eq_zero h2
    subst this
    exact ⟨none, 0, h1, Nat.le_refl _, Sl.nil _ _ _ _⟩
  · refine ⟨_, _, h1, hcap, by simp, fun hp => ⟨g, 0, rfl, ?_, fun j hj => ?_⟩⟩
    · exact ((World.ownsRow.lt h g (by rw [h1]; simp [Value.ownBlock])).2)
    · have := World.ownsRow.cells (g := g) h (by rw [h1]; simp [Value.ownBlock]) j _ (List.getElem?_eq_getElem hj)
      rw [addr_add] at this
      rw [Nat.zero_add]
      exact this
section
variable {ops : Array Oper} {rest : List Oper} {o : Oper} {a : Act} {Q : Exit → Act → World → Prop} {w : World}
end
set_option maxRecDepth 100000 in
theorem check1_any (k : Int) (w : World) : Calls Tryz.prog 64 #[.int .i64 k] w (BoolPost (!okK k) w) := by
  have HO : Hid ((!okK k) = (decide (k < 1) || decide (11 < k))) := by unfold Hid okK; rw [Bool.not_not]
  by_cases c1 : k < 1
  · have d1 : decide (k < 1) = true := decide_eq_true c1
    rw [d1] at HO
    go_enter Tryz.func64, Tryz.ntmps64
    go_wp2_with fail
    go_ret
    exact ⟨by rw [HO.out]; rfl, Below.refl _ _⟩
  · have d1 : decide (k < 1) = false := decide_eq_false c1
    rw [d1] at HO
    by_cases c2 : 11 < k
    · have d2 : decide (11 < k) = true := decide_eq_true c2
      rw [d2] at HO
      go_enter Tryz.func64, Tryz.ntmps64
      go_wp2_with fail
      go_ret
      exact ⟨by rw [HO.out]; rfl, Below.refl _ _⟩
    · have d2 : decide (11 < k) = false := decide_eq_false c2
      rw [d2] at HO
      go_enter Tryz.func64, Tryz.ntmps64
      go_wp2_with fail
      go_ret
      exact ⟨by rw [HO.out]; rfl, Below.refl _ _⟩
set_option maxRecDepth 100000 in
theorem PCheckP_any (l : List Int) (A : Option Addr) (c : Nat) (w : World) (h : Sl w w.heap.size 1 A l.length (l.map (Value.int .i64))) (hl : l.length ≤ 4194304) :
    Calls Tryz.prog 35 #[.slice A l.length c] w fun e w' => e = .returned (.int .i64 (checkP l)) ∧ Below w.heap.size w w' := by
  have HC := Lib.hid ((ContFI_any 64 #[] (enters_of Tryz.func64 (by kernel_rfl) rfl) A l.length c (l.map (Value.int .i64)) (fun j => .int .i64 (l.getD j 0)) (fun j => !okK (l.getD j 0)) w h (by omega)
    (fun j hj => by rw [List.getElem?_map, List.getD_eq_getElem?_getD, List.getElem?_eq_getElem hj]; rfl) (fun W j _ _ => check1_any _ W)))
  rw [anyN_list (fun k => !okK k) l 0] at HC
  by_cases h8 : 8 < l.length
  · have HK : Hid (checkP l = 2) := by unfold Hid checkP; rw [if_pos h8]
    have d1 : decide (8 < (l.length : Int)) = true := by simp; omega
    rw [HK.out]
    go_enter Tryz.func35, Tryz.ntmps35
    go_wp2_with fail
    go_ret
    exact ⟨rfl, Below.refl _ _⟩
  · have d1 : decide (8 < (l.length : Int)) = false := by simp; omega
    have HK : Hid (checkP l = if l.any (fun k => !okK k) = true then 1 else 0) := by
      unfold Hid checkP
      rw [if_neg h8]
      cases hq : l.any (fun k => !okK k) with
      | true =>
        rw [if_neg, if_pos rfl]
        intro e
        obtain ⟨x, hx, hx2⟩ := List.any_eq_true.1 hq
        rw [List.all_eq_true.1 e x hx] at hx2
        cases hx2
      | false =>
        rw [if_pos, if_neg (by decide)]
        rw [List.all_eq_true]
        intro x hx
        have := List.any_eq_false.1 hq x hx
        simpa using this
    rw [HK.out]
    clear HK
    generalize l.any (fun k => !okK k) = bq at *
    cases bq with
    | true =>
      rw [if_pos rfl]
      go_enter Tryz.func35, Tryz.ntmps35
      go_wp2_with fail
      refine HC.out.mono ?_
      rintro e w1 ⟨rfl, hb⟩
      go_wp2_with fail
      go_ret
      exact ⟨rfl, hb⟩
    | false =>
      rw [if_neg (by decide)]
      go_enter Tryz.func35, Tryz.ntmps35
      go_wp2_with fail
      refine HC.out.mono ?_
      rintro e w1 ⟨rfl, hb⟩
      go_wp2_with fail
      go_ret
      exact ⟨rfl, hb⟩
end Go.Proofs.YthfjmlcjkbgboaaGreatDoor
namespace Go.Proofs.YthfjmlcjkbgboaaGreatDoor
def entNum (o : Option Int) (e : Nat) : UInt8 × Nat := match o with
  | some n => if 255 < n then (0, 0) else (UInt8.ofNat n.toNat, e + 1)
  | none => (0, 0)
def entBody (l : List UInt8) (e : Nat) : UInt8 × Nat :=
  if Lib.hasPrefix ((l.take e).drop 2) [120] = true then (if ((l.take e).drop 2).length ≤ 3 then entNum (numL 16 7 (((l.take e).drop 2).drop 1)) e else (0, 0))
  else if ((l.take e).drop 2).length ≤ 3 then entNum (numL 10 9 ((l.take e).drop 2)) e else (0, 0)
def entL (l : List UInt8) : UInt8 × Nat :=
  if Lib.hasPrefix l [38, 108, 116, 59] = true then (60, 4) else if Lib.hasPrefix l [38, 103, 116, 59] = true then (62, 4) else if Lib.hasPrefix l [38, 97, 109, 112, 59] = true then (38, 5)
  else if Lib.hasPrefix l [38, 113, 117, 111, 116, 59] = true then (34, 6) else if Lib.indexByte (l.take 7) 59 < 0 ∨ Lib.hasPrefix l [38, 35] = false then (0, 0) else entBody l (Lib.indexByte (l.take 7) 59).toNat
def htmlStep (b : UInt8) (r : List UInt8) : List UInt8 × Nat :=
  if b = 38 ∧ 0 < (entL (38 :: r)).2 then ([(entL (38 :: r)).1], (entL (38 :: r)).2 - 1) else ([b], 0)
def htmlDecL (l : List UInt8) : List UInt8 := scan htmlStep l
theorem numGo_rangeE (base : Int) (hb : 2 ≤ base ∧ base ≤ 16) : ∀ (l : List UInt8) (n r : Int), 0 ≤ n → numGo base l n = some r → 0 ≤ r
  | [], n, r, h0, h => by cases h; exact h0
  | b :: l, n, r, h0, h => by
    unfold numGo at h
    split at h
    · cases h
    · rename_i hc
      have hm : 0 ≤ n * base := Int.mul_nonneg h0 (by omega)
      exact numGo_rangeE base hb l _ r (by omega) h
theorem numL_rangeE (base : Int) (most : Nat) (hb : 2 ≤ base ∧ base ≤ 16) (l : List UInt8) (r : Int) (h : numL base most l = some r) : 0 ≤ r := by
  unfold numL at h
  split at h
  · cases h
  · exact numGo_rangeE base hb l 0 r (Int.le_refl 0) h
theorem hasPrefix_len {l p : List UInt8} (h : Lib.hasPrefix l p = true) : p.length ≤ l.length := by
  unfold Lib.hasPrefix at h
  obtain ⟨t, rfl⟩ := List.isPrefixOf_iff_prefix.1 h
  simp
theorem index_take {l : List UInt8} {c : UInt8} {n : Nat} (h : 0 ≤ Lib.indexByte (l.take n) c) : (Lib.indexByte (l.take n) c).toNat < n ∧ (Lib.indexByte (l.take n) c).toNat < l.length ∧ l[(Lib.indexByte (l.take n) c).toNat]? = some c := by
  obtain ⟨k, hk⟩ := Int.eq_ofNat_of_zero_le h
  obtain ⟨h1, _⟩ := Lib.indexByte_some hk
  rw [hk, Int.toNat_natCast]
  have h2 := (List.getElem?_eq_some_iff.1 h1).1
  rw [List.length_take] at h2
  rw [List.getElem?_take, if_pos (by omega)] at h1
  exact ⟨by omega, by omega, h1⟩
theorem ent_end {l : List UInt8} (h : 0 ≤ Lib.indexByte (l.take 7) 59) (hp : Lib.hasPrefix l [38, 35] = true) : 2 ≤ (Lib.indexByte (l.take 7) 59).toNat := by
  obtain ⟨_, _, h3⟩ := index_take h
  unfold Lib.hasPrefix at hp
  obtain ⟨t, rfl⟩ := List.isPrefixOf_iff_prefix.1 hp
  generalize (Lib.indexByte (([38, 35] ++ t).take 7) 59).toNat = e at *
  match e, h3 with
  | 0, h3 => simp at h3
  | 1, h3 => simp at h3
  | e + 2, _ => omega
theorem entL_le (l : List UInt8) : (entL l).2 ≤ l.length := by
  unfold entL
  split
  · rename_i h; exact hasPrefix_len h
  split
  · rename_i h; exact hasPrefix_len h
  split
  · rename_i h; exact hasPrefix_len h
  split
  · rename_i h; exact hasPrefix_len h
  split
  · exact Nat.zero_le _
  · rename_i h
    have hi : 0 ≤ Lib.indexByte (l.take 7) 59 := by
      have := not_or.1 h
      omega
    obtain ⟨_, h2, _⟩ := index_take hi
    have hn : ∀ o e, e + 1 ≤ l.length → (entNum o e).2 ≤ l.length := fun o e he => by
      unfold entNum
      split
      · split
        · exact Nat.zero_le _
        · exact he
      · exact Nat.zero_le _
    unfold entBody
    (repeat' split) <;> first | exact hn _ _ (by omega) | exact Nat.zero_le _
end Go.Proofs.YthfjmlcjkbgboaaGreatDoor
