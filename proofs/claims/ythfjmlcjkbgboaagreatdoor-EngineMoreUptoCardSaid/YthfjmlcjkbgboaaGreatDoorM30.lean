/- Part 30 of the proof: lemmas and walks that the last texts use. -/
import Derived.Test.YthfjmlcjkbgboaaGreatDoorM05
import Derived.Test.YthfjmlcjkbgboaaGreatDoorM18
import Derived.Test.YthfjmlcjkbgboaaGreatDoorM26
import Derived.Test.YthfjmlcjkbgboaaGreatDoorM27
import Derived.Test.YthfjmlcjkbgboaaGreatDoorM28
import Derived.Test.YthfjmlcjkbgboaaGreatDoorM29
import Derived.Deep.Cut
import Derived.Deep.CutRange
namespace Go.Proofs.YthfjmlcjkbgboaaGreatDoor
open Go.RowKit
def bytesR (l : List UInt8) : Set4 × Int := if okB l = true then (setF (inB l), 0) else (.zero, 3)
def BytesPost (l : List UInt8) (w : World) (e : Ending) (w' : World) : Prop :=
  e = .returned (.tuple #[setA (bytesR l).1, .int .i64 (bytesR l).2]) ∧ Below w.heap.size w w'
/-- A row of strings that is known whole. -/
def RowsW (w : World) (g : Nat) (ps : List ByteArray) : Prop := w.heap[g]? = some (.cells (ps.map Value.string).toArray 9 (0, 0))
theorem RowsW.cell {w : World} {g : Nat} {ps : List ByteArray} (h : RowsW w g ps) (j : Nat) (hj : j < ps.length) : w.cell? ⟨g, j, none⟩ = some (.string ps[j]) := by
  have := cell_of_row w g j _ _ (0, 0) h
  rw [this]
  simp [hj]
theorem RowsW.far {w : World} {g : Nat} {ps : List ByteArray} (h : RowsW w g ps) {k : Nat} (hne : g ≠ k) (j : Nat) (u : Value) : RowsW (w.setCell ⟨k, j, none⟩ u) g ps := (Below.heap_setCell w ⟨k, j, none⟩ u g hne).trans h
theorem RowsW.below {B : Nat} {w w' : World} {g : Nat} {ps : List ByteArray} (h : RowsW w g ps) (hb : Below B w w') (hg : g < B) : RowsW w' g ps := (hb.block g hg).trans h
theorem RowsW.lt {w : World} {g : Nat} {ps : List ByteArray} (h : RowsW w g ps) : g < w.heap.size := by
  unfold RowsW at h
  rw [Array.getElem?_eq_some_iff] at h
  exact h.1
def mixW (j : Nat) (s u : Set4) : Set4 := ⟨if 0 < j then u.a else s.a, if 1 < j then u.b else s.b, if 2 < j then u.c else s.c, if 3 < j then u.d else s.d⟩
theorem mixW_four (s u : Set4) : mixW 4 s u = u := rfl
theorem mixW_put (j : Nat) (hj : j < 4) (s u : Set4) : putW (mixW j s u) j (u.word j) = mixW (j + 1) s u := by
  match j, hj with
  | 0, _ => rfl
  | 1, _ => rfl
  | 2, _ => rfl
  | 3, _ => rfl
theorem mixW_word (j : Nat) (hj : j < 4) (s u : Set4) : (mixW j s u).word j = s.word j := by
  match j, hj with
  | 0, _ => rfl
  | 1, _ => rfl
  | 2, _ => rfl
  | 3, _ => rfl
theorem or_word (f g : Nat → Bool) (j : Nat) (hj : j < 4) : bits .or .u64 ((setF f).word j) ((setF g).word j) = (setF fun k => f k || g k).word j := by
  rw [setF_word f j hj, setF_word g j hj, setF_word _ j hj, bits_or_u64_nat _ _ (wdF_lt _ _) (wdF_lt _ _), wdF_or]
theorem setA_at (s : Set4) (k : Nat) (hk : k < 4) : ([.int .u64 s.a, .int .u64 s.b, .int .u64 s.c, .int .u64 s.d] : List Value)[k]? = some (.int .u64 (s.word k)) := by
  match k, hk with
  | 0, _ => rfl
  | 1, _ => rfl
  | 2, _ => rfl
  | 3, _ => rfl
theorem info_u64W : (Tryz.prog.info? 212).map (fun i => (i.zero, i.size, i.bytes)) = some (some (.int .u64 0), 1, 8) := by kernel_rfl
theorem run_word4 (s : Set4) (k : Nat) (hk : k < 4) (w : World) : (Instr.index 214 (.agg #[.int .u64 s.a, .int .u64 s.b, .int .u64 s.c, .int .u64 s.d]) (.int .i64 (k : Int))).run Tryz.prog w = .ok (.int .u64 (s.word k)) w := by
  obtain ⟨i0, hi, hz0, hz1, hz2⟩ := info_parts info_u64W
  have hw : (#[.int .u64 s.a, .int .u64 s.b, .int .u64 s.c, .int .u64 s.d] : Array Value)[k]? = some (.int .u64 (s.word k)) := by
    have := setA_at s k hk
    simpa using this
  have hs : (Go.sizeOf 212).run Tryz.prog w = .ok 1 w := by simp [Go.sizeOf, typeInfo, hi, hz1]
  generalize (#[.int .u64 s.a, .int .u64 s.b, .int .u64 s.c, .int .u64 s.d] : Array Value) = cs at *
  unfold Instr.index
  simp [run_underlying Tryz.underlying214, asIntOf, go_sem, hk, hs, hw]
def ByRel (P : List (List UInt8)) (ps : List ByteArray) (w : World) (i : Value) (wr : World) : Prop :=
  ∃ k : Nat, k ≤ ps.length ∧ i = .int .i64 k ∧ Hid ((P.take k).all okR = true) ∧ FourW wr (w.heap.size + 1) (setF (anyR (P.take k))) ∧ FourW wr w.heap.size (setF fun _ => false) ∧ RowsW wr (w.heap.size + 2) ps ∧ Below w.heap.size w wr
def MixRel (s u : Set4) (ps : List ByteArray) (w : World) (i : Value) (wr : World) : Prop :=
  ∃ j : Nat, j ≤ 4 ∧ i = .int .i64 j ∧ FourW wr (w.heap.size + 1) (mixW j s u) ∧ FourW wr w.heap.size (setF fun _ => false) ∧ RowsW wr (w.heap.size + 2) ps ∧ Below w.heap.size w wr
set_option maxRecDepth 100000 in
set_option maxHeartbeats 3200000 in
theorem Bytes_any (s : ByteArray) (w : World) (hlib : LibOk w) (hs : s.size ≤ 4194304) : Calls Tryz.prog 145 #[.string s] w (BytesPost s.data.toList w) := by
  obtain ⟨m0, hm0⟩ := hlib
  have hlp : 0 < w.heap.size := World.block_lt_of_cell? w _ hm0
  have hlb : ∀ W, Below w.heap.size w W → W.cell? ⟨0, 0, none⟩ = some (.int .i64 m0) := fun W hb => (hb.cell (p := ⟨0, 0, none⟩) hlp).trans hm0
  have HSP : Hid (∀ W, Below w.heap.size w W → Calls Tryz.prog 118 #[.string s, .string ⟨#[44]⟩] W _) := fun W hb => Tryz.strings_Split s ⟨#[44]⟩ m0 W (by omega) (hlb W hb) (by decide)
  have hps := split_one 44 s
  have hpl := Lib.splitB_all ⟨#[44]⟩ (by decide) 0 _ s rfl
  generalize Lib.splitB ⟨#[44]⟩ 0 (Lib.countB s ⟨#[44]⟩) s = ps at HSP hps hpl
  generalize Lib.countB s ⟨#[44]⟩ = n at HSP hpl
  rw [← hpl] at HSP
  have h0 : ∀ W, W = (w.alloc (.cells #[.int .u64 0, .int .u64 0, .int .u64 0, .int .u64 0] 214)).alloc (.cells #[.int .u64 0, .int .u64 0, .int .u64 0, .int .u64 0] 214) → FourW W (w.heap.size + 1) (setF fun _ => false) ∧ FourW W w.heap.size (setF fun _ => false) ∧ Below w.heap.size w W ∧ W.heap.size = w.heap.size + 2 := fun W hW => by
    have hb : Below w.heap.size w W := by rw [hW]; exact ((Below.refl _ _).alloc (Nat.le_refl _) _).alloc (by simp) _
    refine ⟨?_, ?_, hb, by rw [hW]; simp⟩
    · have := FourW.new (w.alloc (.cells #[.int .u64 0, .int .u64 0, .int .u64 0, .int .u64 0] 214))
      rw [World.size_alloc] at this
      rw [hW]
      exact this
    · rw [hW]
      exact (Below.heap_alloc _ _ _ (by simp)).trans (FourW.new w)
  have H0 := Lib.hid h0
  have HPS := Lib.hid hps
  have HLB := Lib.hid hlb
  clear hps hpl hm0 h0 hlb
  go_enter Tryz.func145, Tryz.ntmps145
  obtain ⟨hF0, hZ0, hb0, hz0⟩ := H0.out _ rfl
  have hsp := HSP.out _ hb0
  go_wp2_with fail
  generalize (w.alloc (.cells #[.int .u64 0, .int .u64 0, .int .u64 0, .int .u64 0] 214)).alloc (.cells #[.int .u64 0, .int .u64 0, .int .u64 0, .int .u64 0] 214) = W0 at *
  have hrow : RowsW (W0.alloc (.cells (ps.map Value.string).toArray 9)) (w.heap.size + 2) ps := by rw [← hz0]; exact heap_alloc_new W0 _
  have hb1 : Below w.heap.size w (W0.alloc (.cells (ps.map Value.string).toArray 9)) := hb0.alloc hb0.size _
  have hF1 := hF0.below ((Below.refl _ _).alloc (Nat.le_refl _) (.cells (ps.map Value.string).toArray 9)) hF0.lt
  have hZ1 := hZ0.below ((Below.refl _ _).alloc (Nat.le_refl _) (.cells (ps.map Value.string).toArray 9)) hZ0.lt
  rw [hz0] at hsp
  clear hF0 hZ0 hb0 hz0 HSP H0
  refine hsp.mono ?_
  rintro e w1 ⟨rfl, hw1⟩
  rw [← hw1] at hrow hb1 hF1 hZ1
  clear hw1 hsp W0
  have hpl : (splL 44 s.data.toList).length = ps.length := by rw [← HPS.out, List.length_map]
  have hpn : ps.length ≤ 4194305 := by
    have h1 := splL_len 44 s.data.toList
    rw [show s.data.toList.length = s.size by simp] at h1
    omega
  have HPL := Lib.hid hpl
  clear hpl
  go_wp2_with fail
  go_loopw [17] (fun i wr => ByRel (splL 44 s.data.toList) ps w i wr) (fun i _ => ps.length - (intOf i).toNat)
  case atStart => exact ⟨0, Nat.zero_le _, rfl, rfl, hF1, hZ1, hrow, hb1⟩
  case round =>
    obtain ⟨k, hk, rfl, hok, hF, hZ, hR, hB⟩ := hrel
    clear hrow hb1 hF1 hZ1
    by_cases hlt : k < ps.length
    · have d2 : decide ((k : Int) < (ps.length : Int)) = true := by simp; omega
      have i7 : IntKind.i64.wrap ((k : Int) + 1) = (k : Int) + 1 := IntWalk.i64_in _ (by omega)
      have hc := hR.cell k hlt
      have hx : (splL 44 s.data.toList)[k]'(by rw [HPL.out]; exact hlt) = ps[k].data.toList := by
        have := HPS.out
        simp only [← this, List.getElem_map]
      have hxs : ps[k].size ≤ s.size := by
        have h1 := splL_piece 44 s.data.toList _ (List.getElem_mem (by rw [HPL.out]; exact hlt))
        rw [hx] at h1
        simpa using h1
      have HTK : Hid ((splL 44 s.data.toList).take (k + 1) = (splL 44 s.data.toList).take k ++ [ps[k].data.toList]) := by
        unfold Hid
        rw [List.take_succ_eq_append_getElem (by rw [HPL.out]; exact hlt), hx]
      have HMEM : Hid (ps[k].data.toList ∈ splL 44 s.data.toList) := by
        unfold Hid
        rw [← hx]
        exact List.getElem_mem _
      clear hx
      generalize ps[k] = x at hc HTK HMEM hxs
      have hcut := Tryz.strings_Cut x ⟨#[45]⟩ m0 wr (by omega) (HLB.out wr hB)
      have hcl := cut_len x.data.toList [45]
      have hxl : x.data.toList.length = x.size := by simp
      have hb1 : (bs (Lib.cut x.data.toList [45]).1).size ≤ 4194304 := by rw [bs_size]; omega
      have hb2 : (bs (Lib.cut x.data.toList [45]).2.1).size ≤ 4194304 := by rw [bs_size]; omega
      have HLO : Hid (loR x.data.toList = numB 255 (Lib.cut x.data.toList [45]).1) := rfl
      have HHI : Hid (hiR x.data.toList = numB 255 (if (Lib.cut x.data.toList [45]).2.2 = true then (Lib.cut x.data.toList [45]).2.1 else (Lib.cut x.data.toList [45]).1)) := rfl
      have HN : Hid (∀ (y : List UInt8) W, (bs y).size ≤ 4194304 → Calls Tryz.prog 192 #[.string (bs y), .int .i64 255] W fun e w' => e = .returned (.int .i64 (numB 255 y)) ∧ w' = W) := fun y W h => numB_any (bs y) 255 W (by unfold maxLen; omega)
      have HCT := Lib.hid hcut
      clear hcut hcl hxl
      go_wp2_with fail
      refine HCT.out.mono ?_
      rintro e w2 ⟨rfl, nq, rfl⟩
      have hFd : FourW (wr.drewN nq) (w.heap.size + 1) (setF (anyR ((splL 44 s.data.toList).take k))) := hF
      have hZd : FourW (wr.drewN nq) w.heap.size (setF fun _ => false) := hZ
      have hRd : RowsW (wr.drewN nq) (w.heap.size + 2) ps := hR
      have hBd := below_drewN hB nq
      clear hF hZ hR hB HCT
      generalize wr.drewN nq = wd at *
      clear hc
      generalize (Lib.cut x.data.toList [45]).1 = ca at *
      generalize (Lib.cut x.data.toList [45]).2.1 = cb at *
      generalize (Lib.cut x.data.toList [45]).2.2 = two at *
      obtain ⟨cc, hcc⟩ : ∃ cc, cc = (if two = true then cb else ca) := ⟨_, rfl⟩
      rw [← hcc] at HHI
      have hb3 : (bs cc).size ≤ 4194304 := by rw [hcc]; split <;> assumption
      have HCC := Lib.hid hcc
      have hN1 := fun W => HN.out ca W hb1
      have hN2 := fun W => HN.out cc W hb3
      rw [← HLO.out] at hN1
      rw [← HHI.out] at hN2
      have HN1 := Lib.hid hN1
      have HN2 := Lib.hid hN2
      have hlo : -1 ≤ loR x.data.toList := by rw [HLO.out]; exact numB_ge _ _
      have hhi : hiR x.data.toList ≤ 255 := by rw [HHI.out]; exact numB_le _ _ (by decide)
      have hhi2 : -1 ≤ hiR x.data.toList := by rw [HHI.out]; exact numB_ge _ _
      clear hN1 hN2 HN HLO HHI hcc hb1 hb2 hb3
      go_upto_if 28 with fail
      go_cut [8] from 29 to 29 (fun s8 wx => s8 = .string (bs cc) ∧ wx = wd)
      case first =>
        cases two with
        | true =>
          have hcc := HCC.out
          rw [if_pos rfl] at hcc
          subst hcc
          go_wp2_with fail
          go_meet
          exact ⟨rfl, rfl⟩
        | false =>
          have hcc := HCC.out
          rw [if_neg (by decide)] at hcc
          subst hcc
          go_wp2_with fail
          go_meet
          exact ⟨rfl, rfl⟩
      case rest =>
        obtain ⟨rfl, rfl⟩ := hcut
        go_wp2_with fail
        refine (HN1.out _).mono ?_
        rintro e w3 ⟨rfl, rfl⟩
        go_wp2_with fail
        refine (HN2.out _).mono ?_
        rintro e w4 ⟨rfl, rfl⟩
        by_cases hok2 : okR x.data.toList = true
        · have h12 : 0 ≤ loR x.data.toList ∧ loR x.data.toList ≤ hiR x.data.toList := by unfold okR at hok2; simpa using hok2
          obtain ⟨a, ha⟩ : ∃ a : Nat, loR x.data.toList = a := ⟨(loR x.data.toList).toNat, by omega⟩
          obtain ⟨b, hb⟩ : ∃ b : Nat, hiR x.data.toList = b := ⟨(hiR x.data.toList).toNat, by omega⟩
          have hab : a ≤ b := by omega
          have hb2 : b < 256 := by omega
          have HIN : Hid (setF (fun y => decide (a ≤ y) && decide (y ≤ b)) = setF (inR x.data.toList)) := setF_congr fun y _ => by
            unfold inR
            rw [ha, hb]
            congr 1
            · exact decide_eq_decide.2 (by omega)
            · exact decide_eq_decide.2 (by omega)
          have hrg := Range_any a b hab hb2
          rw [HIN.out] at hrg
          have HNX : Hid (setF (fun y => anyR ((splL 44 s.data.toList).take k) y || inR x.data.toList y) = setF (anyR ((splL 44 s.data.toList).take (k + 1)))) := setF_congr fun y _ => by
            rw [HTK.out]
            unfold anyR
            rw [List.any_append]
            simp
          have HOK : Hid (((splL 44 s.data.toList).take (k + 1)).all okR = true) := by
            unfold Hid
            rw [HTK.out, List.all_append, hok.out]
            simp [hok2]
          have o0 := or_word (anyR ((splL 44 s.data.toList).take k)) (inR x.data.toList) 0 (by decide)
          have o1 := or_word (anyR ((splL 44 s.data.toList).take k)) (inR x.data.toList) 1 (by decide)
          have o2 := or_word (anyR ((splL 44 s.data.toList).take k)) (inR x.data.toList) 2 (by decide)
          have o3 := or_word (anyR ((splL 44 s.data.toList).take k)) (inR x.data.toList) 3 (by decide)
          rw [HNX.out] at o0 o1 o2 o3
          rw [ha, hb]
          have HOO := Lib.hid (And.intro o0 (And.intro o1 (And.intro o2 o3)))
          obtain ⟨S, hS⟩ : ∃ S, S = setF (anyR ((splL 44 s.data.toList).take k)) := ⟨_, rfl⟩
          obtain ⟨U, hU⟩ : ∃ U, U = setF (anyR ((splL 44 s.data.toList).take (k + 1))) := ⟨_, rfl⟩
          obtain ⟨R, hR⟩ : ∃ R, R = setF (inR x.data.toList) := ⟨_, rfl⟩
          rw [← hS, ← hU, ← hR] at HOO
          rw [← hS] at hFd
          rw [← hR] at hrg
          have HU := Lib.hid hU
          have HRG := Lib.hid hrg
          have d3 : decide ((a : Int) < 0) = false := decide_eq_false (by omega)
          have d4 : decide ((b : Int) < (a : Int)) = false := decide_eq_false (by omega)
          clear hrg hS hU hR o0 o1 o2 o3 HNX HIN ha hb h12 hok2 hok HTK HN1 HN2 HCC hlo hhi hhi2
          go_wp2_with fail
          refine (HRG.out _).mono ?_
          rintro e w5 ⟨rfl, hb5⟩
          have hF5 := hFd.below hb5 hFd.lt
          have hZ5 := hZd.below hb5 hZd.lt
          have hR5 := hRd.below hb5 hRd.lt
          have hB5 := hBd.trans (hb5.mono hBd.size)
          unfold setA
          clear hb5 hFd hZd hRd hBd HRG
          go_wp2_with fail
          go_loopw [45] (fun i wr => MixRel S U ps w i wr) (fun i _ => 4 - (intOf i).toNat)
          case atStart => exact ⟨0, by decide, rfl, hF5, hZ5, hR5, hB5⟩
          case round =>
            obtain ⟨j, hj, rfl, hF, hZ, hR, hB⟩ := hrel
            clear hF5 hZ5 hR5 hB5
            by_cases hj4 : j < 4
            · have hput := hF.put j hj4 (U.word j)
              rw [mixW_put j hj4] at hput
              have hcell := hF.cell j hj4
              rw [mixW_word j hj4] at hcell
              have hfr := hF.free j
              have hZ2 := hZ.far (k := w.heap.size + 1) (by omega) j (.int .u64 (U.word j))
              have hR2 := hR.far (k := w.heap.size + 1) (by omega) j (.int .u64 (U.word j))
              have hB2 := hB.setCell (p := ⟨w.heap.size + 1, j, none⟩) (Nat.le_succ _) (.int .u64 (U.word j))
              have HN := Lib.hid (And.intro hput (And.intro hZ2 (And.intro hR2 hB2)))
              clear hF hZ hR hB hput hZ2 hR2 hB2
              have hat := fun W => run_word4 R j hj4 W
              have hor : bits .or .u64 (S.word j) (R.word j) = U.word j := by
                obtain ⟨o0, o1, o2, o3⟩ := HOO.out
                obtain rfl | rfl | rfl | rfl : j = 0 ∨ j = 1 ∨ j = 2 ∨ j = 3 := by omega
                · exact o0
                · exact o1
                · exact o2
                · exact o3
              generalize R.word j = rj at *
              generalize S.word j = sj at *
              generalize U.word j = uj at *
              go_wp2_with fail
              go_roundw
              case rel => exact ⟨j + 1, by omega, by go_num, HN.out.1, HN.out.2.1, HN.out.2.2.1, HN.out.2.2.2⟩
              case measure => simp [intOf] <;> omega
            · obtain rfl : j = 4 := by omega
              rw [mixW_four, HU.out] at hF
              go_wp2_with fail
              go_roundw
              case rel => exact ⟨k + 1, by omega, by go_num, HOK, hF, hZ, hR, hB⟩
              case measure => simp [intOf] <;> omega
        · have hnb : okB s.data.toList = false := by
            cases h : okB s.data.toList with
            | false => rfl
            | true => exact absurd (List.all_eq_true.1 h _ HMEM.out) hok2
          have HBR : Hid (bytesR s.data.toList = (.zero, 3)) := by unfold Hid bytesR; rw [hnb]; rfl
          have hor : loR x.data.toList < 0 ∨ (0 ≤ loR x.data.toList ∧ hiR x.data.toList < loR x.data.toList) := by
            unfold okR at hok2
            simp only [Bool.and_eq_true, decide_eq_true_eq] at hok2
            omega
          have ⟨z0, z1, z2, z3⟩ := hZd.cells
          have y0 := hZd.free 0
          have y1 := hZd.free 1
          have y2 := hZd.free 2
          have y3 := hZd.free 3
          have hFW := hZd.fill .zero
          have hbW := (((hBd.setCell (p := ⟨w.heap.size, 0, none⟩) (Nat.le_refl _) (.int .u64 0)).setCell (p := ⟨w.heap.size, 1, none⟩) (Nat.le_refl _) (.int .u64 0)).setCell (p := ⟨w.heap.size, 2, none⟩) (Nat.le_refl _) (.int .u64 0)).setCell (p := ⟨w.heap.size, 3, none⟩) (Nat.le_refl _) (.int .u64 0)
          have HFW := Lib.hid hFW
          have HBW := Lib.hid hbW
          generalize loR x.data.toList = lo at *
          generalize hiR x.data.toList = hi at *
          clear hFW hbW hnb hok2 hFd hZd hRd hBd HN1 HN2
          rcases hor with h1 | ⟨h1, h2⟩
          · have d3 : decide (lo < 0) = true := decide_eq_true h1
            go_wp2_with fail
            have hFW := HFW.out
            have hbW := HBW.out
            rw [show Set4.zero.a = 0 from rfl, show Set4.zero.b = 0 from rfl, show Set4.zero.c = 0 from rfl, show Set4.zero.d = 0 from rfl] at hFW
            generalize ((((w4.setCell ⟨w.heap.size, 0, none⟩ (.int .u64 0)).setCell ⟨w.heap.size, 1, none⟩ (.int .u64 0)).setCell ⟨w.heap.size, 2, none⟩ (.int .u64 0)).setCell ⟨w.heap.size, 3, none⟩ (.int .u64 0)) = WF at *
            obtain ⟨s0, s1, s2, s3⟩ := hFW.cells
            exact bodyPost_ret (v := .tuple #[setA .zero, .int .i64 3]) (by simp [results, Tryz.results145, go_sem, s0, s1, s2, s3, setA]) rfl ⟨by rw [HBR.out], hbW⟩
          · have d3 : decide (lo < 0) = false := decide_eq_false (by omega)
            have d4 : decide (hi < lo) = true := decide_eq_true h2
            go_wp2_with fail
            have hFW := HFW.out
            have hbW := HBW.out
            rw [show Set4.zero.a = 0 from rfl, show Set4.zero.b = 0 from rfl, show Set4.zero.c = 0 from rfl, show Set4.zero.d = 0 from rfl] at hFW
            generalize ((((w4.setCell ⟨w.heap.size, 0, none⟩ (.int .u64 0)).setCell ⟨w.heap.size, 1, none⟩ (.int .u64 0)).setCell ⟨w.heap.size, 2, none⟩ (.int .u64 0)).setCell ⟨w.heap.size, 3, none⟩ (.int .u64 0)) = WF at *
            obtain ⟨s0, s1, s2, s3⟩ := hFW.cells
            exact bodyPost_ret (v := .tuple #[setA .zero, .int .i64 3]) (by simp [results, Tryz.results145, go_sem, s0, s1, s2, s3, setA]) rfl ⟨by rw [HBR.out], hbW⟩
    · obtain rfl : k = ps.length := by omega
      have d2 : decide ((ps.length : Int) < (ps.length : Int)) = false := by simp
      rw [← HPL.out, List.take_length] at hok hF
      have HBR : Hid (bytesR s.data.toList = (setF (inB s.data.toList), 0)) := by unfold Hid bytesR okB; rw [if_pos hok.out]
      obtain ⟨S, hS⟩ : ∃ S, S = setF (anyR (splL 44 s.data.toList)) := ⟨_, rfl⟩
      rw [← hS] at hF
      have HS := Lib.hid hS
      clear hS
      have ⟨c0, c1, c2, c3⟩ := hF.cells
      have ⟨z0, z1, z2, z3⟩ := hZ.cells
      have y0 := hZ.free 0
      have y1 := hZ.free 1
      have y2 := hZ.free 2
      have y3 := hZ.free 3
      go_wp2_with fail
      have hFW := hZ.fill S
      have hbW := (((hB.setCell (p := ⟨w.heap.size, 0, none⟩) (Nat.le_refl _) (.int .u64 S.a)).setCell (p := ⟨w.heap.size, 1, none⟩) (Nat.le_refl _) (.int .u64 S.b)).setCell (p := ⟨w.heap.size, 2, none⟩) (Nat.le_refl _) (.int .u64 S.c)).setCell (p := ⟨w.heap.size, 3, none⟩) (Nat.le_refl _) (.int .u64 S.d)
      generalize ((((wr.setCell ⟨w.heap.size, 0, none⟩ (.int .u64 S.a)).setCell ⟨w.heap.size, 1, none⟩ (.int .u64 S.b)).setCell ⟨w.heap.size, 2, none⟩ (.int .u64 S.c)).setCell ⟨w.heap.size, 3, none⟩ (.int .u64 S.d)) = WF at *
      obtain ⟨s0, s1, s2, s3⟩ := hFW.cells
      exact bodyPost_ret (v := .tuple #[setA S, .int .i64 0]) (by simp [results, Tryz.results145, go_sem, s0, s1, s2, s3, setA]) rfl ⟨by rw [HBR.out, HS.out]; rfl, hbW⟩
end Go.Proofs.YthfjmlcjkbgboaaGreatDoor
namespace Go.Proofs.YthfjmlcjkbgboaaGreatDoor
open Go.RowKit
noncomputable def argC (op : Int) (s : ByteArray) : Int :=
  if op = 1 then (parseP s.data.toList).2.2 else if op = 2 then (mkC (piecesP s) : Nat) else if op = 7 ∨ op = 8 ∨ op = 9 then (if (numL 10 9 s.data.toList).isSome = true then 0 else 4)
  else if op = 10 then netsC s.data.toList else if op = 11 then (bytesR s.data.toList).2 else if op = 12 then (if s.data.toList = [] then 0 else 1) else if 200 < s.size then 2 else 0
def ArgPost (op : Int) (s : ByteArray) (w : World) (e : Ending) (w' : World) : Prop := e = .returned (.int .i64 (argC op s)) ∧ Below w.heap.size w w'
theorem parseP_check {s : List UInt8} (h : (parseP s).2.2 = 0) : checkT (parseP s).1 = 0 := by
  unfold parseP at h ⊢
  split at h
  · exact absurd h (by decide)
  · split at h
    · rename_i h1; exact absurd h h1
    · split at h
      · rename_i h1; exact absurd h h1
      · rename_i h0 h1 h2
        rw [if_neg h0, if_neg h1, if_neg h2]
        simpa using h2
set_option maxRecDepth 100000 in
set_option maxHeartbeats 1600000 in
theorem arg_rx (s : ByteArray) (w : World) (hs : s.size ≤ 1048576) : Calls Tryz.prog 99 #[.int .i64 1, .string s] w (ArgPost 1 s w) := by
  have hp := Parse_any s w (by unfold maxLen; omega)
  have HA : Hid (argC 1 s = (parseP s.data.toList).2.2) := Lib.hid (by unfold argC; rw [if_pos rfl])
  have HCK := Lib.hid (@parseP_check s.data.toList)
  unfold ArgPost
  rw [HA.out]
  generalize parseP s.data.toList = P at *
  obtain ⟨t, n, c⟩ := P
  dsimp only at *
  have HP := Lib.hid hp
  clear hp HA
  by_cases h0 : c = 0
  · subst h0
    have hc := HCK.out rfl
    go_enter Tryz.func99, Tryz.ntmps99
    go_wp2_with (go_at_call 140; apply Hid.out)
    unfold Hid
    refine HP.out.mono ?_
    rintro e w1 ⟨A, cc, rfl, hN, hb1⟩
    have hLT := LX.lt (fun _ hb => hb.2) _ _ hN
    have HM : Hid (∀ o, Calls Tryz.prog 141 #[argX t A cc] (w1.alloc o) (TMakePost t (w1.alloc o))) := fun o => Make_any t A cc _ ((hLT.below ((Below.refl _ _).alloc (Nat.le_refl _) o)).more (by simp))
    unfold argX at HM ⊢
    clear hLT hN
    dsimp only
    go_wp2_with fail
    refine (HM.out _).mono ?_
    rintro e w2 ⟨v, rfl, _, hl, hb2⟩
    obtain ⟨l, hC, h160, hO⟩ := hl hc
    obtain ⟨A2, c2, rfl, hS⟩ := hO.form
    have HPC := Lib.hid (PCheck_any _ A2 c2 w2 hS (code_ok hC) (by simp) (by rw [List.length_append, List.length_singleton]; omega))
    have hb3 := below_new hb2 (Nat.le_refl _)
    generalize (l ++ [(⟨6, 0, 0, .zero⟩ : Ins)]).length = nl at *
    clear hb2 hS hO hl
    go_wp2_with fail
    refine HPC.out.mono ?_
    rintro e w3 ⟨rfl, hb4⟩
    have hbb := (hb1.trans (hb3.mono hb1.size)).trans (hb4.mono (Nat.le_trans hb1.size hb3.size))
    go_wp2_with fail
    go_ret
    exact ⟨rfl, hbb⟩
  · have hne : (c == 0) = false := beq_eq_false_iff_ne.2 h0
    go_enter Tryz.func99, Tryz.ntmps99
    go_wp2_with (go_at_call 140; apply Hid.out)
    unfold Hid
    refine HP.out.mono ?_
    rintro e w1 ⟨A, cc, rfl, hN, hb1⟩
    unfold argX
    dsimp only
    go_wp2_with fail
    go_ret
    exact ⟨rfl, hb1.alloc hb1.size _⟩
set_option maxRecDepth 100000 in
set_option maxHeartbeats 1600000 in
theorem arg_phr (s : ByteArray) (w : World) (hs : s.size ≤ 1048576) (hlib : LibOk w) : Calls Tryz.prog 99 #[.int .i64 2, .string s] w (ArgPost 2 s w) := by
  obtain ⟨m0, hm0⟩ := hlib
  have hsp := Tryz.strings_Split s ⟨#[124]⟩ m0 w (by omega) hm0 (by decide)
  have hpl := pieces_len s
  rw [← hpl] at hsp
  have HA : Hid (argC 2 s = (mkC (piecesP s) : Nat)) := Lib.hid (by unfold argC; rw [if_neg (by decide), if_pos rfl])
  unfold ArgPost
  rw [HA.out]
  change Calls _ _ _ _ fun e w' => e = .returned (.slice (some ⟨w.heap.size, 0, none⟩) (piecesP s).length (piecesP s).length) ∧ w' = w.alloc (.cells ((piecesP s).map Value.string).toArray 9) at hsp
  generalize piecesP s = ps at *
  have HSP := Lib.hid hsp
  have hlit : OwnG rowStr (w.alloc (.cells (ps.map Value.string).toArray 9)) w.heap.size (.slice (some ⟨w.heap.size, 0, none⟩) ps.length ps.length) ps := by
    have := World.ownsRow_lit (base := w.heap.size) (e := 9) (size := 1) w (ps.map Value.string).toArray ps.length (Nat.le_refl _) (by have := Lib.countB_le ⟨#[124]⟩ (by decide) s.size s (Nat.le_refl _); unfold maxLen; omega) (by simp)
    unfold OwnG
    rw [rowStr_flat]
    exact this
  have hsl : Sl (w.alloc (.cells (ps.map Value.string).toArray 9)) (w.alloc (.cells (ps.map Value.string).toArray 9)).heap.size 1 (some ⟨w.heap.size, 0, none⟩) ps.length (ps.map Value.string) := by
    obtain ⟨A5, c5, e5, h5⟩ := hlit.form
    injection e5 with e6 _ _
    subst e6
    rw [rowStr_flat] at h5
    exact h5
  have HM := Lib.hid (make_code (some ⟨w.heap.size, 0, none⟩) ps.length ps.length ps _ rfl hsl)
  have hbw : Below w.heap.size w (w.alloc (.cells (ps.map Value.string).toArray 9)) := (Below.refl _ _).alloc (Nat.le_refl _) _
  clear hsp hpl hlit hsl HA
  go_enter Tryz.func99, Tryz.ntmps99
  go_wp2_with (go_at_call 118; apply Hid.out)
  unfold Hid
  refine HSP.out.mono ?_
  rintro e w1 ⟨rfl, rfl⟩
  go_wp2_with (go_at_call 143; apply Hid.out)
  unfold Hid
  refine HM.out.mono ?_
  rintro e w2 ⟨hb2, v, rfl⟩
  have hbb := hbw.trans (hb2.mono hbw.size)
  go_wp2_with fail
  go_ret
  exact ⟨rfl, hbb⟩
set_option maxRecDepth 100000 in
set_option maxHeartbeats 1600000 in
theorem arg_num (op : Int) (hop : op = 7 ∨ op = 8 ∨ op = 9) (s : ByteArray) (w : World) (hs : s.size ≤ 1048576) : Calls Tryz.prog 99 #[.int .i64 op, .string s] w (ArgPost op s w) := by
  have HD := Lib.hid (Dec_any s w (by unfold maxLen; omega))
  have HA : Hid (argC op s = if (numL 10 9 s.data.toList).isSome = true then 0 else 4) := Lib.hid (by unfold argC; rw [if_neg (by omega), if_neg (by omega), if_pos hop])
  unfold ArgPost
  rw [HA.out]
  clear HA
  cases hn : numL 10 9 s.data.toList with
  | none =>
    rw [hn] at HD
    rcases hop with rfl | rfl | rfl
    all_goals
      go_enter Tryz.func99, Tryz.ntmps99
      go_wp2_with (go_at_call 91; refine HD.out.mono ?_; rintro e w1 ⟨rfl, rfl⟩; unfold numRes)
      go_ret
      exact ⟨rfl, Below.refl _ _⟩
  | some k =>
    rw [hn] at HD
    rcases hop with rfl | rfl | rfl
    all_goals
      go_enter Tryz.func99, Tryz.ntmps99
      go_wp2_with (go_at_call 91; refine HD.out.mono ?_; rintro e w1 ⟨rfl, rfl⟩; unfold numRes)
      go_ret
      exact ⟨rfl, Below.refl _ _⟩
set_option maxRecDepth 100000 in
set_option maxHeartbeats 1600000 in
theorem arg_net (s : ByteArray) (w : World) (hs : s.size ≤ 1048576) (hlib : LibOk w) : Calls Tryz.prog 99 #[.int .i64 10, .string s] w (ArgPost 10 s w) := by
  have HN := Lib.hid (NList_any s w (by omega) hlib)
  have HA : Hid (argC 10 s = netsC s.data.toList) := Lib.hid (by unfold argC; rw [if_neg (by decide), if_neg (by decide), if_neg (by decide), if_pos rfl])
  unfold ArgPost
  rw [HA.out]
  unfold NListPost at HN
  generalize netsC s.data.toList = c at *
  clear HA hlib
  go_enter Tryz.func99, Tryz.ntmps99
  go_wp2_with (go_at_call 144; apply Hid.out)
  unfold Hid
  refine HN.out.mono ?_
  rintro e w1 ⟨v, rfl, _, _, hb⟩
  go_wp2_with fail
  go_ret
  exact ⟨rfl, hb⟩
set_option maxRecDepth 100000 in
set_option maxHeartbeats 1600000 in
theorem arg_range (s : ByteArray) (w : World) (hs : s.size ≤ 1048576) (hlib : LibOk w) : Calls Tryz.prog 99 #[.int .i64 11, .string s] w (ArgPost 11 s w) := by
  have HN := Lib.hid (Bytes_any s w hlib (by omega))
  have HA : Hid (argC 11 s = (bytesR s.data.toList).2) := Lib.hid (by unfold argC; rw [if_neg (by decide), if_neg (by decide), if_neg (by decide), if_neg (by decide), if_pos rfl])
  unfold ArgPost
  rw [HA.out]
  unfold BytesPost at HN
  generalize bytesR s.data.toList = c at *
  obtain ⟨F, c⟩ := c
  clear HA hlib
  go_enter Tryz.func99, Tryz.ntmps99
  go_wp2_with (go_at_call 145; apply Hid.out)
  unfold Hid
  refine HN.out.mono ?_
  rintro e w1 ⟨rfl, hb⟩
  unfold setA
  go_wp2_with fail
  go_ret
  exact ⟨rfl, hb⟩
set_option maxRecDepth 100000 in
set_option maxHeartbeats 1600000 in
theorem arg_none (s : ByteArray) (w : World) : Calls Tryz.prog 99 #[.int .i64 12, .string s] w (ArgPost 12 s w) := by
  have HA : Hid (argC 12 s = if s.data.toList = [] then 0 else 1) := Lib.hid (by unfold argC; rw [if_neg (by decide), if_neg (by decide), if_neg (by decide), if_neg (by decide), if_neg (by decide), if_pos rfl])
  unfold ArgPost
  rw [HA.out]
  clear HA
  by_cases h : s.data.toList = []
  · have q : s.toList.isEmpty = true := by rw [ByteArray.toList_eq, h]; rfl
    have q2 : (s.toList == []) = true := by rw [ByteArray.toList_eq, h]; rfl
    rw [if_pos h]
    go_enter Tryz.func99, Tryz.ntmps99
    go_wp2_with fail
    go_ret
    exact ⟨rfl, Below.refl _ _⟩
  · have q : s.toList.isEmpty = false := by rw [ByteArray.toList_eq]; cases hh : s.data.toList with | nil => exact absurd hh h | cons a r => rfl
    have q2 : (s.toList == []) = false := by rw [ByteArray.toList_eq]; exact beq_eq_false_iff_ne.2 h
    rw [if_neg h]
    go_enter Tryz.func99, Tryz.ntmps99
    go_wp2_with fail
    go_ret
    exact ⟨rfl, Below.refl _ _⟩
set_option maxRecDepth 100000 in
set_option maxHeartbeats 1600000 in
theorem arg_text (op : Int) (hop : op = 3 ∨ op = 4 ∨ op = 5 ∨ op = 6) (s : ByteArray) (w : World) : Calls Tryz.prog 99 #[.int .i64 op, .string s] w (ArgPost op s w) := by
  have HA : Hid (argC op s = if 200 < s.size then 2 else 0) := Lib.hid (by unfold argC; rw [if_neg (by omega), if_neg (by omega), if_neg (by omega), if_neg (by omega), if_neg (by omega), if_neg (by omega)])
  unfold ArgPost
  rw [HA.out]
  clear HA
  by_cases h : 200 < s.size
  · have d : decide ((200 : Int) < (s.size : Int)) = true := by simp; omega
    rw [if_pos h]
    rcases hop with rfl | rfl | rfl | rfl
    all_goals
      go_enter Tryz.func99, Tryz.ntmps99
      go_wp2_with fail
      go_ret
      exact ⟨rfl, Below.refl _ _⟩
  · have d : decide ((200 : Int) < (s.size : Int)) = false := by simp; omega
    rw [if_neg h]
    rcases hop with rfl | rfl | rfl | rfl
    all_goals
      go_enter Tryz.func99, Tryz.ntmps99
      go_wp2_with fail
      go_ret
      exact ⟨rfl, Below.refl _ _⟩
theorem arg_any (op : Int) (h1 : 1 ≤ op) (h2 : op ≤ 12) (s : ByteArray) (w : World) (hs : s.size ≤ 1048576) (hlib : LibOk w) : Calls Tryz.prog 99 #[.int .i64 op, .string s] w (ArgPost op s w) := by
  rcases (by omega : op = 1 ∨ op = 2 ∨ (op = 7 ∨ op = 8 ∨ op = 9) ∨ op = 10 ∨ op = 11 ∨ op = 12 ∨ (op = 3 ∨ op = 4 ∨ op = 5 ∨ op = 6)) with rfl | rfl | h | rfl | rfl | rfl | h
  · exact arg_rx s w hs
  · exact arg_phr s w hs hlib
  · exact arg_num op h s w hs
  · exact arg_net s w hs hlib
  · exact arg_range s w hs hlib
  · exact arg_none s w
  · exact arg_text op h s w
end Go.Proofs.YthfjmlcjkbgboaaGreatDoor
