/- Part 28 of the proof: lemmas and walks that the last texts use. -/
import Derived.Test.YthfjmlcjkbgboaaGreatDoorM01
import Derived.Test.YthfjmlcjkbgboaaGreatDoorM02
import Derived.Test.YthfjmlcjkbgboaaGreatDoorM03
import Derived.Test.YthfjmlcjkbgboaaGreatDoorM10
import Derived.Test.YthfjmlcjkbgboaaGreatDoorM27
import Derived.Deep.CutRange
import Derived.Deep.QuietTactic
import Derived.BigQuiet
import Derived.Laws.OwnMore
import Derived.Laws.StructEq
import Derived.BigRegion
import Derived.Lib.AppendIntMem
import Derived.Lib.ItoaNum
namespace Go.Proofs.YthfjmlcjkbgboaaGreatDoor
open Go.RowKit
set_option maxRecDepth 100000 in
set_option maxHeartbeats 800000 in
theorem numB_any (s : ByteArray) (most : Int) (w : World) (hs : s.size ≤ maxLen) :
    Calls Tryz.prog 192 #[.string s, .int .i64 most] w fun e w' => e = .returned (.int .i64 (numB most s.data.toList)) ∧ w' = w := by
  have hd := Dec_any s w hs
  cases hn : numL 10 9 s.data.toList with
  | none =>
    rw [hn] at hd
    have HR : Hid (numB most s.data.toList = -1) := by unfold Hid numB; rw [hn]
    have HD := Lib.hid hd
    clear hn hd
    go_enter Tryz.func192, Tryz.ntmps192
    go_wp2_with fail
    refine HD.out.mono ?_
    rintro e w1 ⟨rfl, rfl⟩
    dsimp only [numRes]
    go_wp2_with fail
    go_ret
    exact ⟨ret_int HR.out.symm, rfl⟩
  | some n =>
    rw [hn] at hd
    have hlen : s.data.toList.length = s.size := by simp
    have hpos : 0 < s.size := by
      unfold numL at hn
      split at hn
      · cases hn
      · omega
    have h0 : s.data.toList.head? = some s[0] := by
      have := drop_cons s 0 hpos
      rw [List.drop_zero] at this
      rw [this]; rfl
    have HR : Hid (numB most s.data.toList = if most < n ∨ (s[0].toNat = 48 ∧ 1 < s.size) then -1 else n) := by
      unfold Hid numB
      rw [hn]
      dsimp only
      have : (s.data.toList.head? = some 48) ↔ s[0].toNat = 48 := by
        rw [h0]
        constructor
        · intro h; have := Option.some.inj h; rw [this]; rfl
        · intro h; congr 1; exact UInt8.toNat_inj.1 h
      simp only [this, hlen]
    have HD := Lib.hid hd
    clear hn hd h0 hlen
    by_cases c1 : most < n
    · have d1 : decide (most < n) = true := decide_eq_true c1
      have HR2 : Hid (numB most s.data.toList = -1) := by unfold Hid; rw [HR.out, if_pos (.inl c1)]
      clear HR c1
      go_enter Tryz.func192, Tryz.ntmps192
      go_wp2_with fail
      refine HD.out.mono ?_
      rintro e w1 ⟨rfl, rfl⟩
      dsimp only [numRes]
      go_wp2_with fail
      go_ret
      exact ⟨ret_int HR2.out.symm, rfl⟩
    · have d1 : decide (most < n) = false := decide_eq_false c1
      by_cases c2 : s[0].toNat = 48
      · have d2 : ((s[0].toNat : Int) == 48) = true := by rw [c2]; rfl
        by_cases c3 : 1 < s.size
        · have d3 : decide ((1 : Int) < (s.size : Int)) = true := decide_eq_true (by omega)
          have HR2 : Hid (numB most s.data.toList = -1) := by unfold Hid; rw [HR.out, if_pos (.inr ⟨c2, c3⟩)]
          clear HR c1 c2 c3
          go_enter Tryz.func192, Tryz.ntmps192
          go_wp2_with fail
          refine HD.out.mono ?_
          rintro e w1 ⟨rfl, rfl⟩
          dsimp only [numRes]
          go_wp2_with fail
          go_ret
          exact ⟨ret_int HR2.out.symm, rfl⟩
        · have d3 : decide ((1 : Int) < (s.size : Int)) = false := decide_eq_false (by omega)
          have HR2 : Hid (numB most s.data.toList = n) := by unfold Hid; rw [HR.out, if_neg (fun h => h.elim c1 (fun h => c3 h.2))]
          clear HR c1 c2 c3
          go_enter Tryz.func192, Tryz.ntmps192
          go_wp2_with fail
          refine HD.out.mono ?_
          rintro e w1 ⟨rfl, rfl⟩
          dsimp only [numRes]
          go_wp2_with fail
          go_ret
          exact ⟨ret_int HR2.out.symm, rfl⟩
      · have d2 : ((s[0].toNat : Int) == 48) = false := by rw [beq_eq_false_iff_ne]; omega
        have HR2 : Hid (numB most s.data.toList = n) := by unfold Hid; rw [HR.out, if_neg (fun h => h.elim c1 (fun h => c2 h.1))]
        clear HR c1 c2
        go_enter Tryz.func192, Tryz.ntmps192
        go_wp2_with fail
        refine HD.out.mono ?_
        rintro e w1 ⟨rfl, rfl⟩
        dsimp only [numRes]
        go_wp2_with fail
        go_ret
        exact ⟨ret_int HR2.out.symm, rfl⟩
end Go.Proofs.YthfjmlcjkbgboaaGreatDoor
namespace Go.Proofs.YthfjmlcjkbgboaaGreatDoor
open Go.RowKit
theorem mask_val : ∀ k : Nat, k ≤ 32 → IntKind.u32.wrap (IntKind.u64.wrap (4294967295 * 2 ^ (32 - k))) = ((4294967296 - 2 ^ (32 - k) : Nat) : Int) := by
  have h : ((List.range 33).all fun k => IntKind.u32.wrap (IntKind.u64.wrap (4294967295 * 2 ^ (32 - k))) == ((4294967296 - 2 ^ (32 - k) : Nat) : Int)) = true := by decide +kernel
  intro k hk
  exact beq_iff_eq.1 (List.all_eq_true.1 h k (List.mem_range.2 (by omega)))
set_option maxRecDepth 100000 in
set_option maxHeartbeats 800000 in
theorem mask_any (b : Int) (w : World) : Calls Tryz.prog 157 #[.int .i64 b] w fun e w' => e = .returned (.int .u32 (maskN b : Nat)) ∧ w' = w := by
  obtain ⟨k, hk⟩ : ∃ k : Nat, min (max b 0) 32 = (k : Int) := ⟨(min (max b 0) 32).toNat, by omega⟩
  have hk32 : k ≤ 32 := by omega
  have HM : Hid (((maskN b : Nat) : Int) = IntKind.u32.wrap (IntKind.u64.wrap (4294967295 * 2 ^ (32 - k)))) := by
    unfold Hid
    rw [mask_val k hk32]
    unfold maskN topN
    rw [hk]
    rfl
  have i1 : IntKind.i64.wrap (32 - (k : Int)) = 32 - (k : Int) := IntWalk.i64_in _ (by omega)
  have i2 : (32 - (k : Int)).toNat = 32 - k := by omega
  have i3 : (0 : Int) ≤ 32 - (k : Int) := by omega
  have i4 : 32 - (k : Int) ≤ 64 := by omega
  go_enter Tryz.func157, Tryz.ntmps157
  go_wp2_with fail
  go_ret
  exact ⟨ret_int (by rw [HM.out]; exact (IntKind.wrap_u32' _).symm), rfl⟩
def netV : Except Int (Nat × Int) → Value
  | .error x => .tuple #[.agg #[.int .u32 0, .int .i64 0], .int .i64 x]
  | .ok (a, b) => .tuple #[.agg #[.int .u32 (a : Int), .int .i64 b], .int .i64 0]
def NParsePost (l : List UInt8) (w : World) (e : Ending) (w' : World) : Prop := e = .returned (netV (netP l)) ∧ Below w.heap.size w w'
def NetAt (R : Nat) (a b : Int) (w : World) : Prop := w.heap[R]? = some (.cells #[.int .u32 a, .int .i64 b] 185 (0, 0))
theorem NetAt.cells {R : Nat} {a b : Int} {w : World} (h : NetAt R a b w) : w.cell? ⟨R, 0, none⟩ = some (.int .u32 a) ∧ w.cell? ⟨R, 1, none⟩ = some (.int .i64 b) :=
  ⟨cell_of_row w _ 0 _ _ _ h, cell_of_row w _ 1 _ _ _ h⟩
theorem NetAt.free {R : Nat} {a b : Int} {w : World} (h : NetAt R a b w) (j : Nat) : w.frozen? ⟨R, j, none⟩ = false := by
  unfold NetAt at h
  simp [World.frozen?, h]
theorem NetAt.below {R B : Nat} {a b : Int} {w w' : World} (h : NetAt R a b w) (hb : Below B w w') (hR : R < B) : NetAt R a b w' := (hb.block R hR).trans h
theorem NetAt.put {R : Nat} {a b : Int} {w : World} (h : NetAt R a b w) (x : Int) : NetAt R x b (w.setCell ⟨R, 0, none⟩ (.int .u32 x)) := by
  unfold NetAt at h ⊢
  simp [World.setCell, Array.getElem?_modify, h]
theorem NetAt.lt {R : Nat} {a b : Int} {w : World} (h : NetAt R a b w) : R < w.heap.size := by
  unfold NetAt at h
  rw [Array.getElem?_eq_some_iff] at h
  exact h.1
/-- A row of strings that is known whole. -/
def RowsT (w : World) (g : Nat) (ps : List ByteArray) : Prop := w.heap[g]? = some (.cells (ps.map Value.string).toArray 9 (0, 0))
theorem RowsT.cell {w : World} {g : Nat} {ps : List ByteArray} (h : RowsT w g ps) (j : Nat) (hj : j < ps.length) : w.cell? ⟨g, j, none⟩ = some (.string ps[j]) := by
  have := cell_of_row w g j _ _ (0, 0) h
  rw [this]
  simp [hj]
theorem RowsT.below {B : Nat} {w w' : World} {g : Nat} {ps : List ByteArray} (h : RowsT w g ps) (hb : Below B w w') (hg : g < B) : RowsT w' g ps := (hb.block g hg).trans h
def NRel (ls : List (List UInt8)) (b : Int) (W4 : World) (i : Value) (wr : World) : Prop :=
  ∃ (k acc : Nat), k ≤ ls.length ∧ i = .int .i64 k ∧ acc < 4294967296 ∧ Hid (numsR ls 0 = numsR (ls.drop k) acc) ∧ NetAt W4.heap.size (acc : Int) b wr ∧ Below W4.heap.size W4 wr
theorem or_step (acc n : Nat) (hn : n < 256) : bits .or .u32 (IntKind.u32.wrap ((acc : Int) * 256)) (n : Int) = (((acc * 256 + n) % 4294967296 : Nat) : Int) := by
  have e : IntKind.u32.wrap ((acc : Int) * 256) = ((acc * 256 % 4294967296 : Nat) : Int) := by rw [IntKind.wrap_u32']; omega
  rw [e, u32_or_nat _ _ (Nat.mod_lt _ (by decide)) (by omega), nat_join 8 _ _ (by simp only [Nat.reducePow]; omega) (by simp only [Nat.reducePow]; omega)]
  omega
set_option maxRecDepth 100000 in
set_option maxHeartbeats 3200000 in
theorem NParse_any (s : ByteArray) (w : World) (hlib : LibOk w) (hs : s.size ≤ 4194304) :
    Calls Tryz.prog 191 #[.string s] w (NParsePost s.data.toList w) := by
  have hsl : s.data.toList.length = s.size := by simp
  obtain ⟨W0, hW0⟩ : ∃ W0, w.alloc (.cells #[.int .u32 0, .int .i64 0] 185) = W0 := ⟨_, rfl⟩
  have hr0 : NetAt w.heap.size 0 0 W0 := by rw [← hW0]; exact heap_alloc_new w _
  have hb0 : Below w.heap.size w W0 := by rw [← hW0]; exact (Below.refl _ _).alloc (Nat.le_refl _) _
  have hz0 : w.heap.size < W0.heap.size := by rw [← hW0]; simp
  have hl0 := hlib.below hb0
  have HERR : Hid (∀ x W, netP s.data.toList = .error x → Below w.heap.size w W → NParsePost s.data.toList w (.returned (.tuple #[.agg #[.int .u32 0, .int .i64 0], .int .i64 x])) ((W.setCell ⟨w.heap.size, 0, none⟩ (.int .u32 0)).setCell ⟨w.heap.size, 1, none⟩ (.int .i64 0))) := fun x W h hb =>
    ⟨by rw [h]; rfl, (hb.setCell (p := ⟨w.heap.size, 0, none⟩) (Nat.le_refl _) _).setCell (p := ⟨w.heap.size, 1, none⟩) (Nat.le_refl _) _⟩
  have HW0 := Lib.hid hW0
  obtain ⟨m0, hm0⟩ := hl0
  have hcut := Tryz.strings_Cut s ⟨#[47]⟩ m0 W0 (by omega) hm0
  have hcl := cut_len s.data.toList [47]
  have HBR : Hid (bitsR s.data.toList = if (Lib.cut s.data.toList [47]).2.2 = true then numB 32 (Lib.cut s.data.toList [47]).2.1 else 32) := rfl
  have HNP : Hid (netP s.data.toList = if bitsR s.data.toList < 0 then .error 3 else if (splL 46 (Lib.cut s.data.toList [47]).1).length ≠ 4 then .error 3
    else match numsR (splL 46 (Lib.cut s.data.toList [47]).1) 0 with
    | none => .error 3
    | some a => if a % 2 ^ topN (bitsR s.data.toList) ≠ 0 then .error 4 else .ok (a, bitsR s.data.toList)) := rfl
  rw [show (ByteArray.mk #[47]).data.toList = [47] from rfl] at hcut
  generalize bitsR s.data.toList = bb at *
  generalize Lib.cut s.data.toList [47] = q at *
  obtain ⟨ca, cb, cc⟩ := q
  dsimp only at hcut hcl HBR HNP
  have HCUT := Lib.hid hcut
  have hcb : (bs cb).size ≤ maxLen := by rw [bs_size]; unfold maxLen; omega
  have HNB : Hid (∀ W, Calls Tryz.prog 192 #[.string (ByteArray.mk cb.toArray), .int .i64 32] W fun e w' => e = .returned (.int .i64 (numB 32 cb)) ∧ w' = W) := fun W => by
    have := numB_any (bs cb) 32 W hcb
    rw [bs_toList] at this
    exact this
  have HM0 := Lib.hid hm0
  clear hlib hW0 hm0 hcut hcb
  have HRW : Hid (NetAt w.heap.size 0 0 W0) := hr0
  have HB0 := Lib.hid hb0
  have hdr : ∀ n, W0.heap = (W0.drewN n).heap := fun _ => rfl
  clear hr0 hb0 hsl
  go_enter Tryz.func191, Tryz.ntmps191
  go_upto_region 1 with fail
  rw [HW0.out]
  go_upto_if 19 with (go_at_call 122; refine HCUT.out.mono ?_; rintro e w1 ⟨rfl, nq, rfl⟩)
  have HRW1 : Hid (NetAt w.heap.size 0 0 (W0.drewN nq)) := HRW.out
  have HB1 : Hid (Below w.heap.size w (W0.drewN nq)) := below_drewN HB0.out nq
  have HM1 : Hid ((W0.drewN nq).cell? ⟨0, 0, none⟩ = some (.int .i64 m0)) := HM0.out
  have hz1 : w.heap.size < (W0.drewN nq).heap.size := hz0
  generalize W0.drewN nq = W1 at *
  go_cut [6, 7, 13, 15, 18, 19] from 20 to 24 (fun _ s7 _ _ _ _ wx => s7 = .int .i64 bb ∧ 0 ≤ bb ∧ wx = W1)
  case first =>
    cases hcc : cc with
    | true =>
      rw [hcc] at HBR
      have HBR2 : Hid (bb = numB 32 cb) := HBR.out
      by_cases hneg : bb < 0
      · have HP := Lib.hid (HERR.out 3 W1 (by rw [HNP.out, if_pos hneg]) HB1.out)
        have d0 : decide (numB 32 cb < 0) = true := decide_eq_true (by rw [← HBR2.out]; exact hneg)
        have HR := HRW1.out
        have ⟨r0, r1⟩ := HR.cells
        have f0 := HR.free 0
        have f1 := HR.free 1
        clear hneg HR
        go_wp2_with (go_at_call 192; refine (HNB.out _).mono ?_; rintro e w2 ⟨rfl, hw2⟩; rw [hw2])
        have t := two_set (.int .u32 0) (.int .i64 0) r0 r1
        exact bodyPost_ret (v := .tuple #[.agg #[.int .u32 0, .int .i64 0], .int .i64 3]) (by simp [results, Tryz.results191, go_sem, t.1, t.2]) rfl HP.out
      · have d0 : decide (numB 32 cb < 0) = false := decide_eq_false (by rw [← HBR2.out]; exact hneg)
        have hnn : 0 ≤ bb := by omega
        have HNN := Lib.hid hnn
        clear hneg hnn
        go_wp2_with (go_at_call 192; refine (HNB.out _).mono ?_; rintro e w2 ⟨rfl, hw2⟩; rw [hw2])
        go_meet
        exact ⟨by rw [HBR2.out], HNN.out, rfl⟩
    | false =>
      rw [hcc] at HBR
      have HBR2 : Hid (bb = 32) := HBR.out
      go_wp2_with fail
      go_meet
      exact ⟨by rw [HBR2.out], by rw [HBR2.out]; decide, rfl⟩
  case rest =>
    obtain ⟨rfl, hnn, hw⟩ := hcut
    rw [hw]
    clear hw
    have hsl0 : s.data.toList.length = s.size := by simp
    have hsp := Tryz.strings_Split (bs ca) ⟨#[46]⟩ m0 W1 (by rw [bs_size]; omega) HM1.out (by decide)
    have hps := split_one 46 (bs ca)
    have hpl := Lib.splitB_all ⟨#[46]⟩ (by decide) 0 _ (bs ca) rfl
    rw [bs_toList] at hps
    have hspl := splL_len 46 ca
    have hsl : s.data.toList.length = s.size := by simp
    generalize Lib.splitB ⟨#[46]⟩ 0 (Lib.countB (bs ca) ⟨#[46]⟩) (bs ca) = ps at hsp hps hpl
    generalize Lib.countB (bs ca) ⟨#[46]⟩ = nc at hsp hpl
    rw [← hpl] at hsp
    have hlen : (splL 46 ca).length = ps.length := by rw [← hps, List.length_map]
    have hpn : ps.length ≤ 4194305 := by omega
    have hcal : ca.length ≤ s.size := by omega
    obtain ⟨W4, hW4⟩ : ∃ W4, W1.alloc (.cells (ps.map Value.string).toArray 9) = W4 := ⟨_, rfl⟩
    have hrow : RowsT W4 W1.heap.size ps := by rw [← hW4]; exact heap_alloc_new W1 _
    have hb4 : Below W1.heap.size W1 W4 := by rw [← hW4]; exact (Below.refl _ _).alloc (Nat.le_refl _) _
    have hz4 : W1.heap.size < W4.heap.size := by rw [← hW4]; simp
    rw [hW4] at hsp
    have HSP := Lib.hid hsp
    have HB4 : Hid (Below w.heap.size w W4) := HB1.out.trans (hb4.mono (Nat.le_of_lt hz1))
    have HR4 : Hid (NetAt w.heap.size 0 0 W4) := NetAt.below HRW1.out hb4 hz1
    have HROW := Lib.hid hrow
    have HPS := Lib.hid hps
    have HLEN := Lib.hid hlen
    have hz5 : w.heap.size < W4.heap.size := Nat.lt_trans hz1 hz4
    clear hsp hps hpl hspl hlen hW4 hrow hb4 HM1 HM0 HCUT HRW HB0 HRW1 HB1 hcl
    by_cases c4 : ps.length = 4
    rotate_left
    · have HP := Lib.hid (HERR.out 3 W4 (by rw [HNP.out, if_neg (by omega), if_pos (by rw [HLEN.out]; exact c4)]) HB4.out)
      have d4 : ((ps.length : Int) != 4) = true := by simp; omega
      have HR := HR4.out
      have ⟨r0, r1⟩ := HR.cells
      have f0 := HR.free 0
      have f1 := HR.free 1
      clear c4 HR hnn
      go_wp2_with (go_at_call 118; refine HSP.out.mono ?_; rintro e w2 ⟨rfl, hw2⟩; rw [hw2])
      have t := two_set (.int .u32 0) (.int .i64 0) r0 r1
      exact bodyPost_ret (v := .tuple #[.agg #[.int .u32 0, .int .i64 0], .int .i64 3]) (by simp [results, Tryz.results191, go_sem, t.1, t.2]) rfl HP.out
    · have d4 : ((ps.length : Int) != 4) = false := by simp; omega
      have HNP2 : Hid (netP s.data.toList = match numsR (splL 46 ca) 0 with | none => .error 3 | some a => if a % 2 ^ topN bb ≠ 0 then .error 4 else .ok (a, bb)) := by
        unfold Hid
        rw [HNP.out, if_neg (by omega), if_neg (by rw [HLEN.out]; omega)]
      obtain ⟨W5, hW5⟩ : ∃ W5, W4.alloc (.cells #[.int .u32 0, .int .i64 bb] 185) = W5 := ⟨_, rfl⟩
      have hn5 : NetAt W4.heap.size 0 bb W5 := by rw [← hW5]; exact heap_alloc_new W4 _
      have hb5 : Below W4.heap.size W4 W5 := by rw [← hW5]; exact (Below.refl _ _).alloc (Nat.le_refl _) _
      have HW5 := Lib.hid hW5
      have HNN := Lib.hid hnn
      clear HNP c4 hW5 hnn
      go_wp2_with (go_at_call 118; refine HSP.out.mono ?_; rintro e w2 ⟨rfl, hw2⟩; rw [hw2])
      rw [HW5.out]
      clear hw2 w2
      go_loopw [35] (fun i wr => NRel (splL 46 ca) bb W4 i wr) (fun i _ => ps.length - (intOf i).toNat)
      case atStart => exact ⟨0, 0, Nat.zero_le _, rfl, by decide, rfl, hn5, hb5⟩
      case round =>
        obtain ⟨k, acc, hk, rfl, hacc, hnum, hA, hB⟩ := hrel
        clear hn5 hb5
        rw [HLEN.out] at hk
        have hA0 : NetAt w.heap.size 0 0 wr := HR4.out.below hB hz5
        have hBw : Below w.heap.size w wr := HB4.out.trans (hB.mono (Nat.le_of_lt hz5))
        have hRW : RowsT wr W1.heap.size ps := HROW.out.below hB hz4
        by_cases hlt : k < ps.length
        · have d2 : decide ((k : Int) < (ps.length : Int)) = true := by simp; omega
          have i7 : IntKind.i64.wrap ((k : Int) + 1) = (k : Int) + 1 := IntWalk.i64_in _ (by omega)
          have hc := hRW.cell k hlt
          have hx : (splL 46 ca)[k]'(by rw [HLEN.out]; exact hlt) = ps[k].data.toList := by
            have := HPS.out
            simp only [← this, List.getElem_map]
          have hxs : ps[k].size ≤ s.size := by
            have h1 := splL_piece 46 ca _ (List.getElem_mem (by rw [HLEN.out]; exact hlt))
            rw [hx] at h1
            have h2 : ps[k].size ≤ ca.length := by simpa using h1
            omega
          have HDR : Hid ((splL 46 ca).drop k = ps[k].data.toList :: (splL 46 ca).drop (k + 1)) := by
            unfold Hid
            rw [List.drop_eq_getElem_cons (by rw [HLEN.out]; exact hlt), hx]
          clear hx
          generalize ps[k] = x at hc HDR hxs
          have HN : Hid (∀ W, Calls Tryz.prog 192 #[.string x, .int .i64 255] W fun e w' => e = .returned (.int .i64 (numB 255 x.data.toList)) ∧ w' = W) := fun W => numB_any x 255 W (by unfold maxLen; omega)
          have HNUM : Hid (numsR (splL 46 ca) 0 = if numB 255 x.data.toList < 0 then none else numsR ((splL 46 ca).drop (k + 1)) ((acc * 256 + (numB 255 x.data.toList).toNat) % 4294967296)) := by
            unfold Hid
            rw [hnum.out, HDR.out, numsR]
          clear hnum HDR
          by_cases hneg : numB 255 x.data.toList < 0
          · have HP := Lib.hid (HERR.out 3 wr (by rw [HNP2.out, HNUM.out, if_pos hneg]) hBw)
            have d3 : decide (numB 255 x.data.toList < 0) = true := decide_eq_true hneg
            have ⟨r0, r1⟩ := hA0.cells
            have f0 := hA0.free 0
            have f1 := hA0.free 1
            clear hneg hA0 hA hRW
            go_wp2_with (go_at_call 192; refine (HN.out _).mono ?_; rintro e w2 ⟨rfl, hw2⟩; rw [hw2])
            have t := two_set (.int .u32 0) (.int .i64 0) r0 r1
            exact bodyPost_ret (v := .tuple #[.agg #[.int .u32 0, .int .i64 0], .int .i64 3]) (by simp [results, Tryz.results191, go_sem, t.1, t.2]) rfl HP.out
          · obtain ⟨n, hn1, hn2, _⟩ := numB_255 hneg
            rw [if_neg hneg, hn1, Int.toNat_natCast] at HNUM
            rw [hn1] at HN hneg
            have d3 : decide ((n : Int) < 0) = false := decide_eq_false hneg
            have ow := or_step acc n hn2
            rw [IntKind.wrap_u32'] at ow
            have cw : IntKind.u32.wrap (n : Int) = (n : Int) := by rw [IntKind.wrap_u32']; omega
            have HA2 := hA.put (((acc * 256 + n) % 4294967296 : Nat) : Int)
            have HB2 : Below W4.heap.size W4 (wr.setCell ⟨W4.heap.size, 0, none⟩ (.int .u32 (((acc * 256 + n) % 4294967296 : Nat) : Int))) := hB.setCell (p := ⟨W4.heap.size, 0, none⟩) (Nat.le_refl _) _
            have HA2h := Lib.hid HA2
            have HB2h := Lib.hid HB2
            have ⟨r0, r1⟩ := hA.cells
            have f0 := hA.free 0
            clear hneg HA2 HB2 hA hRW hA0
            go_wp2_with (go_at_call 192; refine (HN.out _).mono ?_; rintro e w2 ⟨rfl, hw2⟩; rw [hw2])
            exact ⟨⟨k + 1, (acc * 256 + n) % 4294967296, by rw [HLEN.out]; omega, rfl, Nat.mod_lt _ (by decide), HNUM.out, HA2h.out, HB2h.out⟩, by simp only [intOf]; omega⟩
        · have hkk : k = ps.length := by omega
          have HNUM : Hid (numsR (splL 46 ca) 0 = some acc) := by
            unfold Hid
            rw [hnum.out, hkk, ← HLEN.out, List.drop_length]
            rfl
          have hk2 : ps.length ≤ k := by omega
          have d2 : decide ((k : Int) < (ps.length : Int)) = false := decide_eq_false (by omega)
          have ⟨r0, r1⟩ := hA.cells
          have ⟨q0, q1⟩ := hA0.cells
          have f0 := hA0.free 0
          have f1 := hA0.free 1
          have HTOP : Hid (topN bb ≤ 32) := topN_le bb
          have HAN : Hid (bits .andNot .u32 (acc : Int) (maskN bb : Nat) = ((acc % 2 ^ topN bb : Nat) : Int)) := by
            unfold Hid
            rw [u32_andNot_nat acc (maskN bb) hacc (maskN_lt bb)]
            unfold maskN
            rw [andNot_mask _ _ (topN_le bb)]
          clear hnum hkk hA hA0 hRW HTOP
          have han := HAN.out
          have HSZ : Hid (netP s.data.toList = if acc % 2 ^ topN bb ≠ 0 then .error 4 else .ok (acc, bb)) := by
            unfold Hid
            rw [HNP2.out, HNUM.out]
          have hand := HAN.out
          clear HNP2 HNUM
          generalize acc % 2 ^ topN bb = z at *
          by_cases hz : z = 0
          · have e1 : ((z : Int) != 0) = false := by simp [hz]
            have HP : Hid (netP s.data.toList = .ok (acc, bb)) := by unfold Hid; rw [HSZ.out, if_neg (fun h => h hz)]
            have HBB : Hid (∀ n, Below w.heap.size w (((wr.drewN n).setCell ⟨w.heap.size, 0, none⟩ (.int .u32 (acc : Int))).setCell ⟨w.heap.size, 1, none⟩ (.int .i64 bb))) := fun n => ((below_drewN hBw n).setCell (p := ⟨w.heap.size, 0, none⟩) (Nat.le_refl _) _).setCell (p := ⟨w.heap.size, 1, none⟩) (Nat.le_refl _) _
            clear hz HAN HSZ
            go_upto_region 19 with fail
            go_quiet ((go_at_call 157; exact Calls.quiet_of_same (mask_any _ _)))
            go_wp2_with fail
            have t := two_set (w := wr.drewN nq) (.int .u32 (acc : Int)) (.int .i64 bb) q0 q1
            exact bodyPost_ret (v := .tuple #[.agg #[.int .u32 (acc : Int), .int .i64 bb], .int .i64 0]) (by simp [results, Tryz.results191, go_sem, t.1, t.2]) rfl ⟨by rw [HP.out]; rfl, HBB.out nq⟩
          · have e1 : ((z : Int) != 0) = true := by simp; omega
            have HP := Lib.hid (fun n => HERR.out 4 (wr.drewN n) (by rw [HSZ.out, if_pos hz]) (below_drewN hBw n))
            clear hz HAN HSZ
            go_upto_region 19 with fail
            go_quiet ((go_at_call 157; exact Calls.quiet_of_same (mask_any _ _)))
            go_wp2_with fail
            have t := two_set (w := wr.drewN nq) (.int .u32 0) (.int .i64 0) q0 q1
            exact bodyPost_ret (v := .tuple #[.agg #[.int .u32 0, .int .i64 0], .int .i64 4]) (by simp [results, Tryz.results191, go_sem, t.1, t.2]) rfl (HP.out nq)
end Go.Proofs.YthfjmlcjkbgboaaGreatDoor
namespace Go.Proofs.YthfjmlcjkbgboaaGreatDoor
open Go.RowKit
abbrev PairN := Int × Int
def cellsN (x : PairN) : List Value := [.int .u32 x.1, .int .i64 x.2]
theorem cellsN_len (l : List PairN) : (l.flatMap cellsN).length = l.length * 2 := by
  induction l with
  | nil => rfl
  | cons x l ih => rw [List.flatMap_cons, List.length_append, ih]; simp only [cellsN, List.length_cons, List.length_nil]; omega
theorem cellsN_one (l : List PairN) : ∀ u ∈ l.flatMap cellsN, u.oneCell' = true := fun u hu => by
  obtain ⟨x, _, h⟩ := List.mem_flatMap.1 hu
  simp only [cellsN, List.mem_cons, List.not_mem_nil, or_false] at h
  rcases h with rfl | rfl <;> rfl
/-- A row of fields of the call's own. -/
def OwnN (w : World) (base : Nat) (v : Value) (l : List PairN) : Prop := w.ownsRow base 185 2 v l.length (l.flatMap cellsN)
theorem OwnN.nil (w : World) (base : Nat) : OwnN w base (.slice none 0 0) [] := World.ownsRow_nil w base 185 2
theorem OwnN.below {w w' : World} {base : Nat} {v : Value} {l : List PairN} (h : OwnN w base v l) (hb : Below w.heap.size w w') : OwnN w' base v l := ownsRow_below h hb
theorem OwnN.keep {w w' : World} {base : Nat} {v : Value} {l : List PairN} (h : OwnN w base v l) (hk : ∀ g, v.ownBlock = some g → w'.heap[g]? = w.heap[g]?) : OwnN w' base v l := by
  refine ⟨h.1, ?_⟩
  rcases h.2 with h0 | ⟨g, cap, cur, h1, h2, h3, h4⟩
  · exact .inl h0
  · exact .inr ⟨g, cap, cur, h1, h2, (hk g (by rw [h1]; rfl)).trans h3, h4⟩
theorem OwnN.low {w : World} {base b : Nat} {v : Value} {l : List PairN} (h : OwnN w base v l) (hb : b ≤ base) : OwnN w b v l :=
  ⟨h.1, h.2.imp_right fun ⟨g, cap, cur, h1, h2, h3⟩ => ⟨g, cap, cur, h1, Nat.le_trans hb h2, h3⟩⟩
theorem OwnN.form {w : World} {base : Nat} {v : Value} {l : List PairN} (h : OwnN w base v l) : ∃ A c, v = .slice A l.length c ∧ Sl w w.heap.size 2 A l.length (l.flatMap cellsN) := by
  rcases h.2 with ⟨h1, h2⟩ | ⟨g, cap, cur, h1, hb, hg, _⟩
  · have : l = [] := List.eq_nil_of_length_eq_zero h2
    subst this
    exact ⟨none, 0, h1, Sl.nil _ _ _ _⟩
  · refine ⟨_, _, h1, cellsN_len l, fun hp => ⟨g, 0, rfl, ?_, fun j hj => ?_⟩⟩
    · exact (World.ownsRow.lt h g (by rw [h1]; simp [Value.ownBlock])).2
    · have := World.ownsRow.cells (g := g) h (by rw [h1]; simp [Value.ownBlock]) j _ (List.getElem?_eq_getElem hj)
      rw [addr_add] at this
      rw [Nat.zero_add]
      exact this
theorem info_net : (Tryz.prog.info? 185).map (fun i => (i.zero, i.size, i.bytes)) = some (some (.agg #[.int .u32 0, .int .i64 0]), 2, 16) := by kernel_rfl
section
variable {ops : Array Oper} {rest : List Oper} {o : Oper} {a : Act} {Q : Exit → Act → World → Prop} {w : World}
/-- One field appended. -/
theorem wpList_append_n (hgd : o.guard = none) (s x : Operand) (ho : o.op = .call { callee := .builtin .append, args := #[s, x], argTypes := #[227, 227] })
    (base : Nat) (v : Value) (l : List PairN) (hs : a.eval s = v) (hown : OwnN w base v l) (hbase : base ≤ w.heap.size)
    (vs : List Value) (new : PairN) (hv : vs = cellsN new) (g0 : Nat) (hg0 : w.heap.size = g0) (c : Nat) (hx : a.eval x = .slice (some ⟨g0, 0, none⟩) 1 c)
    (hbytes : l.length ≤ 4194304)
    (h : ∀ v' w', OwnN w' base v' (l ++ [new]) → Below base w w' → (∀ g, g < w.heap.size → v.ownBlock ≠ some g → w'.heap[g]? = w.heap[g]?) → w.heap.size < w'.heap.size → wpList Tryz.prog ops Q rest (a.put o.dst v') w') :
    wpList Tryz.prog ops Q (o :: rest) a (w.alloc (.cells vs.toArray 185)) := by
  subst hv; subst hg0
  obtain ⟨i0, hi, hz0, hz1, hz2⟩ := info_parts info_net
  refine wpList_plain hgd fun _ hK => wp_append_kept s x 227 ho base 185 i0 _ 2 16 Tryz.underlying227 hi hz0 hz1 hz2 rfl (by decide) v l.length (l.flatMap cellsN) hs hown hbase (cellsN new) 1 c hx rfl
    (fun u hu => cellsN_one [new] u (by simpa using hu)) (by unfold maxLen; omega) (by omega) fun v' w' h1 h2 h3 h4 => hK _ _ (h v' w' (by unfold OwnN; rw [List.length_append, List.flatMap_append]; simpa using h1) h2 h3 h4)
end
end Go.Proofs.YthfjmlcjkbgboaaGreatDoor
namespace Go.Proofs.YthfjmlcjkbgboaaGreatDoor
open Go.RowKit Go.Sort
/-- The table of powers is laid. -/
def TabOk (w : World) : Prop := ∀ w', Below w.heap.size w w' → Lib.TabIs Tryz.prog w' "internal/strconv.uint64pow10" .u64 Lib.pow10Tab
theorem TabOk.of {w : World} (h : Lib.TabIs Tryz.prog w "internal/strconv.uint64pow10" .u64 Lib.pow10Tab) : TabOk w := Lib.tabBelow_of_tabIs h
theorem TabOk.below {w w' : World} (h : TabOk w) (hb : Below w.heap.size w w') : TabOk w' := fun w2 hb2 => h w2 (hb.trans (hb2.mono hb.size))
theorem below_growI (w : World) (k : Nat) (os : Array Obj) : Below w.heap.size w (grow (w.drewN k) os) :=
  ⟨rfl, rfl, rfl, by rw [size_grow]; exact Nat.le_add_right _ _, fun j hj => heap_grow_old (w.drewN k) os hj⟩
theorem itoa_any (n : Nat) (w : World) (hn : n ≤ 9223372036854775807) (h : TabOk w) :
    Calls Tryz.prog 62 #[.int .i64 (n : Int)] w fun e w' => e = .returned (.string (bs (Lib.decDigits n))) ∧ Below w.heap.size w w' :=
  (Tryz.strconv_Itoa (n : Int) (by omega) (by omega) w (h w (Below.refl _ _))).mono fun e w' ⟨h1, k', os, h2⟩ => by
    subst h2
    refine ⟨?_, below_growI w k' os⟩
    rw [h1]
    unfold Lib.itoa
    rw [if_neg (by omega)]
    rfl
end Go.Proofs.YthfjmlcjkbgboaaGreatDoor
