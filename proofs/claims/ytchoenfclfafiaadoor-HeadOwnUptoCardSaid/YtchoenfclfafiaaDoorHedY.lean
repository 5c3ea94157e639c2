/- The walk of head.Parse. -/
import Derived.Test.YtchoenfclfafiaaDoorHedX
import Derived.Test.YtchoenfclfafiaaDoorMem2
import Derived.Deep.RegionHeld3
namespace Go.Proofs.YtchoenfclfafiaaDoor
open Go.RowKit

def zHead : Value := .agg #[.string (ByteArray.mk #[]), .string (ByteArray.mk #[]), .slice none 0 0]
def HParsePost (l : List UInt8) (w : World) (e : Ending) (w' : World) : Prop :=
  (∃ x, parseH l = .error x ∧ e = .returned (.tuple #[zHead, .int .i64 x]) ∧ Below w.heap.size w w') ∨
  ∃ h A c, parseH l = .ok h ∧ e = .returned (.tuple #[.agg #[.string h.m, .string h.t, .slice A h.fs.length c], .int .i64 0]) ∧ OwnV w' w.heap.size (.slice A h.fs.length c) h.fs ∧ Below w.heap.size w w'

theorem three_set {w : World} {g : Nat} {x' y' z' : Value} (x y z : Value) (h0 : w.cell? ⟨g, 0, none⟩ = some x') (h1 : w.cell? ⟨g, 1, none⟩ = some y') (h2 : w.cell? ⟨g, 2, none⟩ = some z') :
    (((w.setCell ⟨g, 0, none⟩ x).setCell ⟨g, 1, none⟩ y).setCell ⟨g, 2, none⟩ z).cell? ⟨g, 0, none⟩ = some x ∧ (((w.setCell ⟨g, 0, none⟩ x).setCell ⟨g, 1, none⟩ y).setCell ⟨g, 2, none⟩ z).cell? ⟨g, 1, none⟩ = some y ∧ (((w.setCell ⟨g, 0, none⟩ x).setCell ⟨g, 1, none⟩ y).setCell ⟨g, 2, none⟩ z).cell? ⟨g, 2, none⟩ = some z := by
  have n1 : (⟨g, 1, none⟩ : Addr) ≠ ⟨g, 0, none⟩ := by intro e; cases e
  have n2 : (⟨g, 2, none⟩ : Addr) ≠ ⟨g, 0, none⟩ := by intro e; cases e
  have n3 : (⟨g, 2, none⟩ : Addr) ≠ ⟨g, 1, none⟩ := by intro e; cases e
  have ⟨t0, t1⟩ := two_set x y h0 h1
  refine ⟨?_, ?_, ?_⟩
  · rw [World.cell?_setCell_other _ _ _ _ n2]; exact t0
  · rw [World.cell?_setCell_other _ _ _ _ n3]; exact t1
  · exact World.cell?_setCell_same _ _ _ ((World.cell?_setCell_other _ _ _ _ (Ne.symm n3)).trans ((World.cell?_setCell_other _ _ _ _ (Ne.symm n2)).trans h2))
/-- The result's block. -/
def ResAt (R : Nat) (w : World) : Prop := w.heap[R]? = some (.cells #[.string (ByteArray.mk #[]), .string (ByteArray.mk #[]), .slice none 0 0] 29 (0, 0))
theorem ResAt.cells {R : Nat} {w : World} (h : ResAt R w) : w.cell? ⟨R, 0, none⟩ = some (.string (ByteArray.mk #[])) ∧ w.cell? ⟨R, 1, none⟩ = some (.string (ByteArray.mk #[])) ∧ w.cell? ⟨R, 2, none⟩ = some (.slice none 0 0) :=
  ⟨cell_of_row w _ 0 _ _ _ h, cell_of_row w _ 1 _ _ _ h, cell_of_row w _ 2 _ _ _ h⟩
theorem ResAt.free {R : Nat} {w : World} (h : ResAt R w) (j : Nat) : w.frozen? ⟨R, j, none⟩ = false := by
  unfold ResAt at h
  simp [World.frozen?, h]
theorem ResAt.below {R B : Nat} {w w' : World} (h : ResAt R w) (hb : Below B w w') (hR : R < B) : ResAt R w' := (hb.block R hR).trans h
/-- The head's block. -/
def HdAt (H : Nat) (m t : ByteArray) (v : Value) (w : World) : Prop := w.heap[H]? = some (.cells #[.string m, .string t, v] 29 (0, 0))
theorem HdAt.cells {H : Nat} {m t : ByteArray} {v : Value} {w : World} (h : HdAt H m t v w) : w.cell? ⟨H, 0, none⟩ = some (.string m) ∧ w.cell? ⟨H, 1, none⟩ = some (.string t) ∧ w.cell? ⟨H, 2, none⟩ = some v :=
  ⟨cell_of_row w _ 0 _ _ _ h, cell_of_row w _ 1 _ _ _ h, cell_of_row w _ 2 _ _ _ h⟩
theorem HdAt.free {H : Nat} {m t : ByteArray} {v : Value} {w : World} (h : HdAt H m t v w) (j : Nat) : w.frozen? ⟨H, j, none⟩ = false := by
  unfold HdAt at h
  simp [World.frozen?, h]
theorem HdAt.put {H : Nat} {m t : ByteArray} {v : Value} {w : World} (h : HdAt H m t v w) (u : Value) : HdAt H m t u (w.setCell ⟨H, 2, none⟩ u) := by
  unfold HdAt at h ⊢
  simp [World.setCell, Array.getElem?_modify, h]
section
variable {ops : Array Oper} {o : Oper} {a : Act} {Q : Exit → Act → World → Prop} {w : World}
theorem step_append_v {K : Act → World → Prop} {E : Prop} (hgd : o.guard = none) (s x : Operand) (ho : o.op = .call { callee := .builtin .append, args := #[s, x], argTypes := #[27, 27] })
    (base : Nat) (v : Value) (l : List PairV) (hs : a.eval s = v) (hown : OwnV w base v l) (hbase : base ≤ w.heap.size)
    (vs : List Value) (new : PairV) (hv : vs = cellsV new) (g0 : Nat) (hg0 : w.heap.size = g0) (c : Nat) (hx : a.eval x = .slice (some ⟨g0, 0, none⟩) 1 c)
    (hbytes : l.length ≤ 4194304)
    (h : ∀ v' w', OwnV w' base v' (l ++ [new]) → Below base w w' → (∀ g, g < w.heap.size → v.ownBlock ≠ some g → w'.heap[g]? = w.heap[g]?) → w.heap.size < w'.heap.size → K (a.put o.dst v') w') :
    if Region.wanted o (yielded ops a.tmps) = true then Oper.wp Tryd.prog o a (w.alloc (.cells vs.toArray 65)) K Q else E := by
  subst hv; subst hg0
  obtain ⟨i0, hi, hz0, hz1, hz2⟩ := info_parts info_fld
  have hw : Region.wanted o (yielded ops a.tmps) = true := by simp [Region.wanted, hgd]
  rw [if_pos hw]
  exact wp_append_kept s x 27 ho base 65 i0 _ 2 32 Tryd.underlying27 hi hz0 hz1 hz2 rfl (by decide) v l.length (l.flatMap cellsV) hs hown hbase (cellsV new) 1 c hx rfl
    (fun u hu => cellsV_one [new] u (by simpa using hu)) (by unfold maxLen; omega) (by omega) fun v' w' h1 h2 h3 h4 => h v' w' (by unfold OwnV; rw [List.length_append, List.flatMap_append]; simpa using h1) h2 h3 h4
theorem step_append_vd {K : Act → World → Prop} {E : Prop} (hgd : o.guard = none) (s x : Operand) (ho : o.op = .call { callee := .builtin .append, args := #[s, x], argTypes := #[27, 27] })
    (base : Nat) (v : Value) (l : List PairV) (hs : a.eval s = v) (hown : OwnV w base v l) (hbase : base ≤ w.heap.size)
    (vs : List Value) (new : PairV) (hv : vs = cellsV new) (g0 : Nat) (hg0 : w.heap.size = g0) (c : Nat) (hx : a.eval x = .slice (some ⟨g0, 0, none⟩) 1 c)
    (hbytes : l.length ≤ 4194304)
    (h : ∀ v' w', OwnV w' base v' (l ++ [new]) → Below base w w' → (∀ g, g < w.heap.size → v.ownBlock ≠ some g → w'.heap[g]? = w.heap[g]?) → w.heap.size < w'.heap.size → K (a.put o.dst v') w') :
    if Region.wanted o (yielded ops a.tmps) = true then Oper.wp Tryd.prog o a (w.alloc (.cells vs.toArray 65)).drew K Q else E :=
  step_append_v (w := w.drew) hgd s x ho base v l hs hown hbase vs new hv g0 hg0 c hx hbytes fun v' w' h1 h2 h3 h4 => h v' w' h1 (undrew h2) h3 h4
end
def PaRel (ls : List (List UInt8)) (m t : ByteArray) (W4 : World) (i : Value) (wr : World) : Prop :=
  ∃ (k : Nat) (v : Value), k ≤ ls.length ∧ i = .int .i64 k ∧ Hid ((ls.take k).all cutOk = true) ∧ HdAt W4.heap.size m t v wr ∧ OwnV wr (W4.heap.size + 1) v ((ls.take k).map cutF) ∧ Below W4.heap.size W4 wr

set_option maxRecDepth 100000 in
set_option maxHeartbeats 3200000 in
theorem HParse_any (s : ByteArray) (w : World) (hlib : LibOk w) :
    Calls Tryd.prog 58 #[.string s] w (HParsePost s.data.toList w) := by
  have hsl : s.data.toList.length = s.size := by simp
  obtain ⟨W0, hW0⟩ : ∃ W0, w.alloc (.cells #[.string (ByteArray.mk #[]), .string (ByteArray.mk #[]), .slice none 0 0] 29) = W0 := ⟨_, rfl⟩
  have hr0 : ResAt w.heap.size W0 := by rw [← hW0]; exact heap_alloc_new w _
  have hb0 : Below w.heap.size w W0 := by rw [← hW0]; exact (Below.refl _ _).alloc (Nat.le_refl _) _
  have hz0 : w.heap.size < W0.heap.size := by rw [← hW0]; simp
  have hl0 := hlib.below hb0
  have HERR : Hid (∀ x W, parseH s.data.toList = .error x → Below w.heap.size w W → HParsePost s.data.toList w (.returned (.tuple #[zHead, .int .i64 x])) (((W.setCell ⟨w.heap.size, 0, none⟩ (.string (ByteArray.mk #[]))).setCell ⟨w.heap.size, 1, none⟩ (.string (ByteArray.mk #[]))).setCell ⟨w.heap.size, 2, none⟩ (.slice none 0 0))) := fun x W h hb =>
    .inl ⟨x, h, rfl, ((hb.setCell (p := ⟨w.heap.size, 0, none⟩) (Nat.le_refl _) _).setCell (p := ⟨w.heap.size, 1, none⟩) (Nat.le_refl _) _).setCell (p := ⟨w.heap.size, 2, none⟩) (Nat.le_refl _) _⟩
  unfold zHead at HERR
  have HW0 := Lib.hid hW0
  clear hlib hW0
  by_cases hbig : 4096 < s.size
  · have d0 : decide ((4096 : Int) < (s.size : Int)) = true := decide_eq_true (by omega)
    have HP := Lib.hid (HERR.out 5 W0 (parse_len (by omega)) hb0)
    have ⟨r0, r1, r2⟩ := hr0.cells
    have f0 := hr0.free 0
    have f1 := hr0.free 1
    have f2 := hr0.free 2
    clear hbig hsl HERR hr0 hb0 hl0
    go_enter Tryd.func58, Tryd.ntmps58
    go_upto_region 1 with fail
    rw [HW0.out]
    go_wp2_with fail
    have t := three_set (.string (ByteArray.mk #[])) (.string (ByteArray.mk #[])) (.slice none 0 0) r0 r1 r2
    exact bodyPost_ret (v := .tuple #[.agg #[.string (ByteArray.mk #[]), .string (ByteArray.mk #[]), .slice none 0 0], .int .i64 5]) (by simp [results, Tryd.results58, go_sem, t.1, t.2.1, t.2.2]) rfl HP.out
  · have d0 : decide ((4096 : Int) < (s.size : Int)) = false := decide_eq_false (by omega)
    have hs : s.size ≤ 4194304 := by omega
    have HPF : Hid (parseH s.data.toList = match linesL s.data.toList with | none => .error 4 | some ls => headOf ls) := by unfold Hid parseH; rw [if_neg (by omega)]; cases linesL s.data.toList <;> rfl
    have HLI := Lib.hid (lines_any s W0 hl0 (by omega))
    clear hbig hsl
    go_enter Tryd.func58, Tryd.ntmps58
    go_upto_region 1 with fail
    rw [HW0.out]
    go_wp2_with fail
    refine HLI.out.mono ?_
    rintro e w1 (⟨hno, rfl, hb1⟩ | ⟨ls, hls, rfl, hw1⟩)
    · have hr1 := hr0.below hb1 hz0
      have HP := Lib.hid (HERR.out 4 w1 (by rw [HPF.out, hno]) (hb0.trans (hb1.mono (Nat.le_of_lt hz0))))
      have ⟨r0, r1, r2⟩ := hr1.cells
      have f0 := hr1.free 0
      have f1 := hr1.free 1
      have f2 := hr1.free 2
      clear HERR hr0 hb0 hl0 hr1 hb1 hno
      go_wp2_with fail
      have t := three_set (.string (ByteArray.mk #[])) (.string (ByteArray.mk #[])) (.slice none 0 0) r0 r1 r2
      exact bodyPost_ret (v := .tuple #[.agg #[.string (ByteArray.mk #[]), .string (ByteArray.mk #[]), .slice none 0 0], .int .i64 4]) (by simp [results, Tryd.results58, go_sem, t.1, t.2.1, t.2.2]) rfl HP.out
    · have HPF2 : Hid (parseH s.data.toList = headOf ls) := by unfold Hid; rw [HPF.out, hls]
      obtain ⟨a, ha, hsp, hall⟩ := lines_form hls
      have hsl : s.data.toList.length = s.size := by simp
      have hal : a.length ≤ 4194304 := by
        have := congrArg List.length ha
        rw [List.length_append] at this
        omega
      have hlsz : ∀ x ∈ ls, x.length ≤ 4194304 := fun x hx => by
        rw [← hsp] at hx
        exact Nat.le_trans (spl2_piece a x hx) hal
      have hcount : ls.length ≤ 4194305 := by have := spl2_len a; rw [hsp] at this; omega
      have hne : ls ≠ [] := by rw [← hsp]; exact spl2_ne a
      have hb1 : Below W0.heap.size W0 w1 := by rw [hw1]; exact (Below.refl _ _).alloc (Nat.le_refl _) _
      have hcl : ∀ j (h : j < ls.length), w1.cell? ⟨W0.heap.size, j, none⟩ = some (.string (bs ls[j])) := fun j h => by
        rw [hw1, new_cell (Below.refl _ _) j]; simp [h]
      have hz1 : W0.heap.size < w1.heap.size := by rw [hw1]; simp
      clear hls ha hsp hall hw1 HPF HLI
      obtain ⟨l0, tl, rfl⟩ : ∃ l0 tl, ls = l0 :: tl := by
        cases ls with
        | nil => exact absurd rfl hne
        | cons x y => exact ⟨x, y, rfl⟩
      have hr1 := hr0.below hb1 hz0
      have hbw1 := hb0.trans (hb1.mono (Nat.le_of_lt hz0))
      have hl1 := hl0.below hb1
      obtain ⟨m0, hm0⟩ := hl1
      have hlsz0 := hlsz l0 (by simp)
      have hsp := Tryd.strings_Split (bs l0) ⟨#[32]⟩ m0 w1 (by rw [bs_size]; omega) hm0 (by decide)
      have hps := split_one 32 (bs l0)
      have hpl := Lib.splitB_all ⟨#[32]⟩ (by decide) 0 _ (bs l0) rfl
      generalize Lib.splitB ⟨#[32]⟩ 0 (Lib.countB (bs l0) ⟨#[32]⟩) (bs l0) = ps at hsp hps hpl
      generalize Lib.countB (bs l0) ⟨#[32]⟩ = nn at hsp hpl
      rw [← hpl] at hsp
      have hpn : ps.length ≤ 4194305 := by
        have h1 := splL_len 32 l0
        have h2 := congrArg List.length hps
        rw [List.length_map, bs_toList] at h2
        omega
      have HLZ := Lib.hid hlsz
      have HCL := Lib.hid hcl
      have HM0 := Lib.hid hm0
      have hc0 : w1.cell? ⟨W0.heap.size, 0, none⟩ = some (.string (bs l0)) := hcl 0 (by simp)
      rw [bs_toList] at hps
      have HPS := Lib.hid hps
      have HSP := Lib.hid hsp
      have i0 : (0 : Int) < ((tl.length + 1 : Nat) : Int) := by omega
      rw [List.length_cons] at hcount
      rw [List.length_cons]
      clear hlsz hcl hm0 hps hsp hpl hne hb1 hr0 hb0 hl0 hlsz0
      go_wp2_with fail
      refine HSP.out.mono ?_
      rintro e w2 ⟨rfl, hw2⟩
      have hb2 : Below w1.heap.size w1 w2 := by rw [hw2]; exact (Below.refl _ _).alloc (Nat.le_refl _) _
      have hr2 := hr1.below hb2 (Nat.lt_trans hz0 hz1)
      have hbw2 := hbw1.trans (hb2.mono (Nat.le_of_lt (Nat.lt_trans hz0 hz1)))
      have HPC : Hid (∀ j (h : j < ps.length), w2.cell? ⟨w1.heap.size, j, none⟩ = some (.string ps[j])) := fun j h => by
        rw [hw2, new_cell (Below.refl _ _) j]; simp [h]
      have hz2 : w1.heap.size < w2.heap.size := by rw [hw2]; simp
      clear hw2 HSP hc0
      by_cases hg3 : ∃ x y z, ps = [x, y, z] ∧ z.data.toList = verL
      · obtain ⟨x, y, z, rfl, hzv⟩ := hg3
        have hc0 : w2.cell? ⟨w1.heap.size, 0, none⟩ = some (.string x) := HPC.out 0 (by simp)
        have hc1 : w2.cell? ⟨w1.heap.size, 1, none⟩ = some (.string y) := HPC.out 1 (by simp)
        have hc2 : w2.cell? ⟨w1.heap.size, 2, none⟩ = some (.string z) := HPC.out 2 (by simp)
        have q2 : (z.toList == [72, 84, 84, 80, 47, 49, 46, 49]) = true := by rw [Lib.toList_data, hzv]; rfl
        have q3 : (z.toList != [72, 84, 84, 80, 47, 49, 46, 49]) = false := by rw [Lib.toList_data, hzv]; rfl
        have hz3 : z = ByteArray.mk #[72, 84, 84, 80, 47, 49, 46, 49] := by rw [← bs_eta z, hzv]; rfl
        subst hz3
        have hsp3 : splL 32 l0 = [x.data.toList, y.data.toList, verL] := by have := HPS.out; rw [List.map_cons, List.map_cons, List.map_cons, List.map_nil, hzv] at this; exact this.symm
        have HHO : Hid (headOf (l0 :: tl) = if tl.all cutOk = true then (if checkH ⟨x, y, tl.map cutF⟩ = 0 then .ok ⟨x, y, tl.map cutF⟩ else .error (checkH ⟨x, y, tl.map cutF⟩)) else .error 4) := by
          unfold Hid headOf
          rw [List.headD_cons, hsp3]
          dsimp only
          rw [if_pos rfl, List.tail_cons, bs_eta, bs_eta]
        have hxs : x.size ≤ 4194304 := by
          have h1 := splL_piece 32 l0 x.data.toList (by rw [hsp3]; simp)
          have h2 := HLZ.out l0 (by simp)
          have h3 : x.data.toList.length = x.size := by simp
          omega
        have hys : y.size ≤ 4194304 := by
          have h1 := splL_piece 32 l0 y.data.toList (by rw [hsp3]; simp)
          have h2 := HLZ.out l0 (by simp)
          have h3 : y.data.toList.length = y.size := by simp
          omega
        have HPF3 : Hid (parseH s.data.toList = headOf (l0 :: tl)) := HPF2.out
        have j0 : (0 : Int) < 3 := by decide
        have j1 : (1 : Int) < 3 := by decide
        have j2 : (2 : Int) < 3 := by decide
        have hb2d := (Below.refl w2.heap.size w2).drew
        simp only [List.length_cons, List.length_nil, Nat.zero_add, Nat.reduceAdd] at *
        have HR2 := Lib.hid hr2
        have HBW2 := Lib.hid hbw2
        have HTB := Lib.hid hb2
        clear hr1 hbw1 hzv hsp3 hpn HPS HPC HPF2 hr2 hbw2 hb2 hb2d
        go_wp2_with fail
        go_region
        have hH : HdAt w2.heap.size x y (.slice none 0 0) (w2.alloc (.cells #[.string x, .string y, .slice none 0 0] 29)).drew := heap_alloc_new w2 _
        have hbH : Below w2.heap.size w2 (w2.alloc (.cells #[.string x, .string y, .slice none 0 0] 29)).drew := ((Below.refl w2.heap.size w2).alloc (Nat.le_refl _) _).drew
        have hz5 : w2.heap.size < (w2.alloc (.cells #[.string x, .string y, .slice none 0 0] 29)).drew.heap.size := by show _ < (w2.alloc _).heap.size; simp
        generalize (w2.alloc (.cells #[.string x, .string y, .slice none 0 0] 29)).drew = W5 at *
        have HBEG : Hid (PaRel tl x y w2 (.int .i64 0) W5) := ⟨0, .slice none 0 0, Nat.zero_le _, rfl, rfl, hH, OwnV.nil _ _, hbH⟩
        rcases Nat.eq_zero_or_pos tl.length with hn0 | hn0
        · obtain rfl : tl = [] := List.eq_nil_of_length_eq_zero hn0
          have i1 : (1 : Int) ≤ ((([] : List (List UInt8)).length + 1 : Nat) : Int) := by omega
          have i2 : ((([] : List (List UInt8)).length + 1 : Nat) : Int) - 1 = (([] : List (List UInt8)).length : Int) := by omega
          clear hc0 hc1 hc2 hH hbH hz5
          go_wp2_with fail
          go_loopw [50] (fun i wr => PaRel ([] : List (List UInt8)) x y w2 i wr) (fun i _ => ([] : List (List UInt8)).length - (intOf i).toNat)
          case atStart => exact HBEG.out
          case round =>
            obtain ⟨k, v, hk, rfl, hok, hH, hO, hb⟩ := hrel
            have hr := HR2.out.below hb (Nat.lt_trans hz0 (Nat.lt_trans hz1 hz2))
            have hbw : Below w.heap.size w wr := HBW2.out.trans (hb.mono HBW2.out.size)
            have hzz : w2.heap.size < wr.heap.size := by
              have := hH
              unfold HdAt at this
              rw [Array.getElem?_eq_some_iff] at this
              exact this.1
            obtain ⟨A, c, rfl, _⟩ := hO.form
            rw [List.length_map] at hH hO
            by_cases hlt : k < ([] : List (List UInt8)).length
            · exact absurd hlt (by simp)
            · obtain rfl : k = ([] : List (List UInt8)).length := by omega
              have d1 : decide ((([] : List (List UInt8)).length : Int) < (([] : List (List UInt8)).length : Int)) = false := by simp
              rw [List.take_length] at hok hO hH
              rw [hok.out] at HHO
              have HH := Lib.hid (HHO.out.trans (if_pos rfl))
              have HPE : Hid (parseH s.data.toList = if checkH ⟨x, y, ([] : List (List UInt8)).map cutF⟩ = 0 then .ok ⟨x, y, ([] : List (List UInt8)).map cutF⟩ else .error (checkH ⟨x, y, ([] : List (List UInt8)).map cutF⟩)) := by unfold Hid; rw [HPF3.out, HH.out]
              obtain ⟨A', c', e', hsl⟩ := hO.form
              rw [List.length_map] at e'
              injection e' with eA eB eC
              subst eA; subst eC
              have hml : (([] : List (List UInt8)).map cutF).length = ([] : List (List UInt8)).length := List.length_map _
              have hck := HCheck_any ⟨x, y, ([] : List (List UInt8)).map cutF⟩ A c wr hsl (by show x.size ≤ maxLen; unfold maxLen; omega) (by show y.size ≤ maxLen; unfold maxLen; omega) (fun f hf => by
                obtain ⟨z, hz, rfl⟩ := List.mem_map.1 hf
                have h1 := cut_len z [58]
                have h2 := HLZ.out z (by simp [hz])
                have h3 := trimL_len (Lib.cut z [58]).2.1
                unfold cutF maxLen
                simp only [bs_size]
                omega) (by rw [hml]; omega)
              dsimp only at hck
              rw [hml] at hck
              have ⟨h0, h1, h2⟩ := hH.cells
              have HO := Lib.hid hO
              have HCK := Lib.hid hck
              have HBW := Lib.hid hbw
              have hrr := hr
              have HRR := Lib.hid hrr
              have hwz : w.heap.size < wr.heap.size := Nat.lt_trans hz0 (Nat.lt_trans hz1 (Nat.lt_trans hz2 hzz))
              clear hck hr hrr hb hbw hsl hO hH HBEG
              go_wp2_with fail
              refine HCK.out.mono ?_
              rintro e w6 ⟨rfl, hb6⟩
              have hr6 := HRR.out.below hb6 hwz
              have hbw6 := HBW.out.trans (hb6.mono (Nat.le_of_lt hwz))
              have ⟨r0, r1, r2⟩ := hr6.cells
              have f0 := hr6.free 0
              have f1 := hr6.free 1
              have f2 := hr6.free 2
              have g0 := (hb6.cell (p := ⟨w2.heap.size, 0, none⟩) hzz).trans h0
              have g1 := (hb6.cell (p := ⟨w2.heap.size, 1, none⟩) hzz).trans h1
              have g2 := (hb6.cell (p := ⟨w2.heap.size, 2, none⟩) hzz).trans h2
              have hO6 := HO.out.below hb6
              by_cases hc : checkH ⟨x, y, ([] : List (List UInt8)).map cutF⟩ = 0
              · have hpo : parseH s.data.toList = .ok ⟨x, y, ([] : List (List UInt8)).map cutF⟩ := by rw [HPE.out, if_pos hc]
                have hO7 : OwnV (((w6.setCell ⟨w.heap.size, 0, none⟩ (.string x)).setCell ⟨w.heap.size, 1, none⟩ (.string y)).setCell ⟨w.heap.size, 2, none⟩ (.slice A ([] : List (List UInt8)).length c)) w.heap.size (.slice A ([] : List (List UInt8)).length c) (([] : List (List UInt8)).map cutF) := by
                  refine (hO6.keep fun g hg => ?_).low (by omega)
                  have hne : g ≠ w.heap.size := fun e => by have := (World.ownsRow.lt hO6 g hg).1; omega
                  rw [Below.heap_setCell _ _ _ _ hne, Below.heap_setCell _ _ _ _ hne, Below.heap_setCell _ _ _ _ hne]
                have HP : Hid (HParsePost s.data.toList w (.returned (.tuple #[.agg #[.string x, .string y, .slice A ([] : List (List UInt8)).length c], .int .i64 0])) (((w6.setCell ⟨w.heap.size, 0, none⟩ (.string x)).setCell ⟨w.heap.size, 1, none⟩ (.string y)).setCell ⟨w.heap.size, 2, none⟩ (.slice A ([] : List (List UInt8)).length c))) := by
                  refine .inr ⟨⟨x, y, ([] : List (List UInt8)).map cutF⟩, A, c, hpo, ?_, ?_, ((hbw6.setCell (p := ⟨w.heap.size, 0, none⟩) (Nat.le_refl _) _).setCell (p := ⟨w.heap.size, 1, none⟩) (Nat.le_refl _) _).setCell (p := ⟨w.heap.size, 2, none⟩) (Nat.le_refl _) _⟩
                  · dsimp only; rw [hml]
                  · dsimp only; rw [hml]; exact hO7
                rw [hc]
                clear hc hpo hO7 hO6 hbw6 hr6 hb6
                go_wp2_with fail
                have t := three_set (.string x) (.string y) (.slice A ([] : List (List UInt8)).length c) r0 r1 r2
                try simp only [List.length_nil] at t
                exact bodyPost_ret (v := .tuple #[.agg #[.string x, .string y, .slice A ([] : List (List UInt8)).length c], .int .i64 0]) (by simp [results, Tryd.results58, go_sem, t.1, t.2.1, t.2.2]) rfl HP.out
              · have hpo : parseH s.data.toList = .error (checkH ⟨x, y, ([] : List (List UInt8)).map cutF⟩) := by rw [HPE.out, if_neg hc]
                have HP := Lib.hid (HERR.out _ w6 hpo hbw6)
                have q0 : (checkH ⟨x, y, ([] : List (List UInt8)).map cutF⟩ != 0) = true := bne_iff_ne.2 hc
                have q1 : (checkH ⟨x, y, ([] : List (List UInt8)).map cutF⟩ == 0) = false := beq_eq_false_iff_ne.2 hc
                generalize checkH ⟨x, y, ([] : List (List UInt8)).map cutF⟩ = C at *
                clear hc hpo hO6 hbw6 hr6 hb6
                go_wp2_with fail
                have t := three_set (.string (ByteArray.mk #[])) (.string (ByteArray.mk #[])) (.slice none 0 0) r0 r1 r2
                exact bodyPost_ret (v := .tuple #[.agg #[.string (ByteArray.mk #[]), .string (ByteArray.mk #[]), .slice none 0 0], .int .i64 C]) (by simp [results, Tryd.results58, go_sem, t.1, t.2.1, t.2.2]) rfl HP.out
        · have hne0 : ¬ tl.length = 0 := by omega
          have i1 : (1 : Int) ≤ ((tl.length + 1 : Nat) : Int) := by omega
          have i2 : ((tl.length + 1 : Nat) : Int) - 1 = (tl.length : Int) := by omega
          clear hc0 hc1 hc2 hH hbH hz5
          go_wp2_with fail
          go_loopw [50] (fun i wr => PaRel tl x y w2 i wr) (fun i _ => tl.length - (intOf i).toNat)
          case atStart => exact HBEG.out
          case round =>
            obtain ⟨k, v, hk, rfl, hok, hH, hO, hb⟩ := hrel
            have hr := HR2.out.below hb (Nat.lt_trans hz0 (Nat.lt_trans hz1 hz2))
            have hbw : Below w.heap.size w wr := HBW2.out.trans (hb.mono HBW2.out.size)
            have hzz : w2.heap.size < wr.heap.size := by
              have := hH
              unfold HdAt at this
              rw [Array.getElem?_eq_some_iff] at this
              exact this.1
            obtain ⟨A, c, rfl, _⟩ := hO.form
            rw [List.length_map] at hH hO
            by_cases hlt : k < tl.length
            · have hkk : (tl.take k).length = k := by rw [List.length_take]; omega
              rw [hkk] at hH hO
              have i7 : IntKind.i64.wrap ((k : Int) + 1) = (k : Int) + 1 := IntWalk.i64_in _ (by omega)
              have hcl : wr.cell? ⟨W0.heap.size, 1 + k, none⟩ = some (.string (bs tl[k])) := by
                rw [(hb.cell (p := ⟨W0.heap.size, 1 + k, none⟩) (Nat.lt_trans hz1 hz2)), HTB.out.cell (p := ⟨W0.heap.size, 1 + k, none⟩) hz1]
                have := HCL.out (1 + k) (by omega)
                rw [this]
                simp [Nat.add_comm 1 k]
              have hlz : (tl[k]).length ≤ 4194304 := HLZ.out _ (by simp)
              have hcutl := cut_len tl[k] [58]
              have htr := trimL_len (Lib.cut tl[k] [58]).2.1
              have hm0 : wr.cell? ⟨0, 0, none⟩ = some (.int .i64 m0) := by
                rw [hb.cell (p := ⟨0, 0, none⟩) (by show 0 < w2.heap.size; omega), HTB.out.cell (p := ⟨0, 0, none⟩) (by show 0 < w1.heap.size; omega)]
                exact HM0.out
              have hcut := Tryd.strings_Cut (bs tl[k]) ⟨#[58]⟩ m0 wr (by rw [bs_size]; omega) hm0
              rw [bs_toList] at hcut
              have HTK : Hid (tl.take (k + 1) = tl.take k ++ [tl[k]]) := List.take_succ_eq_append_getElem hlt
              have HBAD : Hid (cutOk tl[k] = false → parseH s.data.toList = .error 4) := fun h => by
                rw [HPF3.out, HHO.out, if_neg]
                intro ha
                have := List.all_eq_true.1 ha _ (List.getElem_mem hlt)
                rw [h] at this; cases this
              unfold cutOk at HBAD
              have HOK : Hid (cutOk tl[k] = true → (tl.take (k + 1)).all cutOk = true) := fun h => by
                rw [HTK.out, List.all_append, hok.out]
                simp [h]
              unfold cutOk at HOK
              have HCF : Hid (cutF tl[k] = (bs (Lib.cut tl[k] [58]).1, bs (trimL (Lib.cut tl[k] [58]).2.1))) := rfl
              have HCUT := Lib.hid hcut
              generalize tl[k] = u at *
              generalize Lib.cut u [58] = q at *
              obtain ⟨ca, cb, cc⟩ := q
              dsimp only at HCF HCUT HBAD HOK hcutl htr
              have HRB := Lib.hid hr
              have HBW := Lib.hid hbw
              have HHH := Lib.hid hH
              have HOO := Lib.hid hO
              have HBB := Lib.hid hb
              clear hm0 hcut hr hbw hH hO hb hok HBEG
              cases cc with
              | false =>
                have HPO := Lib.hid (HBAD.out rfl)
                go_wp2_with fail
                refine HCUT.out.mono ?_
                rintro e w5 ⟨rfl, nq, rfl⟩
                have hr5 : ResAt w.heap.size (wr.drewN nq) := HRB.out
                have ⟨r0, r1, r2⟩ := hr5.cells
                have f0 := hr5.free 0
                have f1 := hr5.free 1
                have f2 := hr5.free 2
                have HP := Lib.hid (HERR.out 4 (wr.drewN nq) HPO.out (below_drewN HBW.out nq))
                clear hr5
                go_wp2_with fail
                have t := three_set (.string (ByteArray.mk #[])) (.string (ByteArray.mk #[])) (.slice none 0 0) r0 r1 r2
                exact bodyPost_ret (v := .tuple #[.agg #[.string (ByteArray.mk #[]), .string (ByteArray.mk #[]), .slice none 0 0], .int .i64 4]) (by simp [results, Tryd.results58, go_sem, t.1, t.2.1, t.2.2]) rfl HP.out
              | true =>
                have HK1 := Lib.hid (HOK.out rfl)
                go_wp2_with fail
                refine HCUT.out.mono ?_
                rintro e w5 ⟨rfl, nq, rfl⟩
                have hH5 : HdAt w2.heap.size x y (.slice A k c) (wr.drewN nq) := HHH.out
                have hO5 : OwnV (wr.drewN nq) (w2.heap.size + 1) (.slice A k c) ((tl.take k).map cutF) := HOO.out
                have hB5 : Below w2.heap.size w2 (wr.drewN nq) := below_drewN HBB.out nq
                have ⟨h0, h1, h2⟩ := hH5.cells
                have hz5 : w2.heap.size < (wr.drewN nq).heap.size := hzz
                have hfar : (Value.slice A k c).ownBlock ≠ some w2.heap.size := fun e => by have := (World.ownsRow.lt hO5 _ e).1; omega
                have htk : ((tl.take k).map cutF).length ≤ 4194304 := by rw [List.length_map, hkk]; omega
                have hms : (bs cb).size ≤ maxLen := by rw [bs_size]; unfold maxLen; omega
                generalize wr.drewN nq = w5 at *
                have HH5 := Lib.hid hH5
                have HB5 := Lib.hid hB5
                have HHF := Lib.hid hfar
                have HTR : Hid (∀ W, Calls Tryd.prog 47 #[.string (ByteArray.mk cb.toArray)] W fun e w' => e = .returned (.string (bs (trimL cb))) ∧ w' = W) := fun W => by
                  have := Trim_any (bs cb) W hms
                  rw [bs_toList] at this
                  exact this
                clear hH5 hB5 hms hfar
                go_wp2_with fail
                go_region_law (first | (refine step_append_v rfl (.tmp 64) (.tmp 69) rfl (w2.heap.size + 1) (.slice A k c) ((tl.take k).map cutF) rfl (by exact hO5) (by exact hz5) _ (bs ca, bs (trimL cb)) rfl w5.heap.size rfl 1 rfl htk ?_; intro v6 w6 hO6 hb6 hk6 hz6; obtain ⟨A6, c6, rfl, _⟩ := hO6.form; have hH6 : HdAt w2.heap.size x y (.slice A k c) w6 := (hk6 w2.heap.size hz5 HHF.out).trans HH5.out; have f26 := hH6.free 2; have h26 := hH6.cells.2.2) | (refine step_append_vd rfl (.tmp 64) (.tmp 69) rfl (w2.heap.size + 1) (.slice A k c) ((tl.take k).map cutF) rfl (by exact hO5) (by exact hz5) _ (bs ca, bs (trimL cb)) rfl w5.heap.size rfl 1 rfl htk ?_; intro v6 w6 hO6 hb6 hk6 hz6; obtain ⟨A6, c6, rfl, _⟩ := hO6.form; have hH6 : HdAt w2.heap.size x y (.slice A k c) w6 := (hk6 w2.heap.size hz5 HHF.out).trans HH5.out; have f26 := hH6.free 2; have h26 := hH6.cells.2.2) | (go_simp; go_at_call 47; refine (HTR.out _).mono ?_; rintro e w8 ⟨rfl, rfl⟩))
                all_goals
                  have hlen6 : ((tl.take k).map cutF ++ [(bs ca, bs (trimL cb))]).length = k + 1 := by rw [List.length_append, List.length_map, hkk]; rfl
                  rw [hlen6] at hO6
                  have hH7 := hH6.put (.slice A6 (k + 1) c6)
                  have hb7 := (HB5.out.trans (hb6.mono (Nat.le_succ _))).setCell (p := ⟨w2.heap.size, 2, none⟩) (Nat.le_refl _) (.slice A6 (k + 1) c6)
                  have hO7 : OwnV (w6.setCell ⟨w2.heap.size, 2, none⟩ (.slice A6 (k + 1) c6)) (w2.heap.size + 1) (.slice A6 (k + 1) c6) ((tl.take (k + 1)).map cutF) := by
                    rw [HTK.out, List.map_append, List.map_cons, List.map_nil, HCF.out]
                    refine hO6.keep fun g hg => ?_
                    have hne : g ≠ w2.heap.size := fun e => by have := (World.ownsRow.lt hO6 g hg).1; omega
                    rw [Below.heap_setCell _ _ _ _ hne]
                  have HN := Lib.hid (And.intro hH7 (And.intro hO7 hb7))
                  clear hH7 hO7 hb7 hO6 hb6 hk6 hH6 hO5 h0 h1 h2 hlen6
                  go_wp2_with fail
                  go_roundw
                  case rel => exact ⟨k + 1, .slice A6 (k + 1) c6, by omega, by go_num, HK1, HN.out.1, HN.out.2.1, HN.out.2.2⟩
                  case measure => simp [intOf] <;> omega
            · obtain rfl : k = tl.length := by omega
              have d1 : decide ((tl.length : Int) < (tl.length : Int)) = false := by simp
              rw [List.take_length] at hok hO hH
              rw [hok.out] at HHO
              have HH := Lib.hid (HHO.out.trans (if_pos rfl))
              have HPE : Hid (parseH s.data.toList = if checkH ⟨x, y, tl.map cutF⟩ = 0 then .ok ⟨x, y, tl.map cutF⟩ else .error (checkH ⟨x, y, tl.map cutF⟩)) := by unfold Hid; rw [HPF3.out, HH.out]
              obtain ⟨A', c', e', hsl⟩ := hO.form
              rw [List.length_map] at e'
              injection e' with eA eB eC
              subst eA; subst eC
              have hml : (tl.map cutF).length = tl.length := List.length_map _
              have hck := HCheck_any ⟨x, y, tl.map cutF⟩ A c wr hsl (by show x.size ≤ maxLen; unfold maxLen; omega) (by show y.size ≤ maxLen; unfold maxLen; omega) (fun f hf => by
                obtain ⟨z, hz, rfl⟩ := List.mem_map.1 hf
                have h1 := cut_len z [58]
                have h2 := HLZ.out z (by simp [hz])
                have h3 := trimL_len (Lib.cut z [58]).2.1
                unfold cutF maxLen
                simp only [bs_size]
                omega) (by rw [hml]; omega)
              dsimp only at hck
              rw [hml] at hck
              have ⟨h0, h1, h2⟩ := hH.cells
              have HO := Lib.hid hO
              have HCK := Lib.hid hck
              have HBW := Lib.hid hbw
              have hrr := hr
              have HRR := Lib.hid hrr
              have hwz : w.heap.size < wr.heap.size := Nat.lt_trans hz0 (Nat.lt_trans hz1 (Nat.lt_trans hz2 hzz))
              clear hck hr hrr hb hbw hsl hO hH HBEG
              go_wp2_with fail
              refine HCK.out.mono ?_
              rintro e w6 ⟨rfl, hb6⟩
              have hr6 := HRR.out.below hb6 hwz
              have hbw6 := HBW.out.trans (hb6.mono (Nat.le_of_lt hwz))
              have ⟨r0, r1, r2⟩ := hr6.cells
              have f0 := hr6.free 0
              have f1 := hr6.free 1
              have f2 := hr6.free 2
              have g0 := (hb6.cell (p := ⟨w2.heap.size, 0, none⟩) hzz).trans h0
              have g1 := (hb6.cell (p := ⟨w2.heap.size, 1, none⟩) hzz).trans h1
              have g2 := (hb6.cell (p := ⟨w2.heap.size, 2, none⟩) hzz).trans h2
              have hO6 := HO.out.below hb6
              by_cases hc : checkH ⟨x, y, tl.map cutF⟩ = 0
              · have hpo : parseH s.data.toList = .ok ⟨x, y, tl.map cutF⟩ := by rw [HPE.out, if_pos hc]
                have hO7 : OwnV (((w6.setCell ⟨w.heap.size, 0, none⟩ (.string x)).setCell ⟨w.heap.size, 1, none⟩ (.string y)).setCell ⟨w.heap.size, 2, none⟩ (.slice A tl.length c)) w.heap.size (.slice A tl.length c) (tl.map cutF) := by
                  refine (hO6.keep fun g hg => ?_).low (by omega)
                  have hne : g ≠ w.heap.size := fun e => by have := (World.ownsRow.lt hO6 g hg).1; omega
                  rw [Below.heap_setCell _ _ _ _ hne, Below.heap_setCell _ _ _ _ hne, Below.heap_setCell _ _ _ _ hne]
                have HP : Hid (HParsePost s.data.toList w (.returned (.tuple #[.agg #[.string x, .string y, .slice A tl.length c], .int .i64 0])) (((w6.setCell ⟨w.heap.size, 0, none⟩ (.string x)).setCell ⟨w.heap.size, 1, none⟩ (.string y)).setCell ⟨w.heap.size, 2, none⟩ (.slice A tl.length c))) := by
                  refine .inr ⟨⟨x, y, tl.map cutF⟩, A, c, hpo, ?_, ?_, ((hbw6.setCell (p := ⟨w.heap.size, 0, none⟩) (Nat.le_refl _) _).setCell (p := ⟨w.heap.size, 1, none⟩) (Nat.le_refl _) _).setCell (p := ⟨w.heap.size, 2, none⟩) (Nat.le_refl _) _⟩
                  · dsimp only; rw [hml]
                  · dsimp only; rw [hml]; exact hO7
                rw [hc]
                clear hc hpo hO7 hO6 hbw6 hr6 hb6
                go_wp2_with fail
                have t := three_set (.string x) (.string y) (.slice A tl.length c) r0 r1 r2
                try simp only [List.length_nil] at t
                exact bodyPost_ret (v := .tuple #[.agg #[.string x, .string y, .slice A tl.length c], .int .i64 0]) (by simp [results, Tryd.results58, go_sem, t.1, t.2.1, t.2.2]) rfl HP.out
              · have hpo : parseH s.data.toList = .error (checkH ⟨x, y, tl.map cutF⟩) := by rw [HPE.out, if_neg hc]
                have HP := Lib.hid (HERR.out _ w6 hpo hbw6)
                have q0 : (checkH ⟨x, y, tl.map cutF⟩ != 0) = true := bne_iff_ne.2 hc
                have q1 : (checkH ⟨x, y, tl.map cutF⟩ == 0) = false := beq_eq_false_iff_ne.2 hc
                generalize checkH ⟨x, y, tl.map cutF⟩ = C at *
                clear hc hpo hO6 hbw6 hr6 hb6
                go_wp2_with fail
                have t := three_set (.string (ByteArray.mk #[])) (.string (ByteArray.mk #[])) (.slice none 0 0) r0 r1 r2
                exact bodyPost_ret (v := .tuple #[.agg #[.string (ByteArray.mk #[]), .string (ByteArray.mk #[]), .slice none 0 0], .int .i64 C]) (by simp [results, Tryd.results58, go_sem, t.1, t.2.1, t.2.2]) rfl HP.out
      · have ⟨r0, r1, r2⟩ := hr2.cells
        have f0 := hr2.free 0
        have f1 := hr2.free 1
        have f2 := hr2.free 2
        by_cases hp3 : ps.length = 3
        · obtain ⟨x, y, z, rfl⟩ : ∃ x y z, ps = [x, y, z] := by
            match ps, hp3 with
            | [x, y, z], _ => exact ⟨x, y, z, rfl⟩
          have hzv : ¬ z.data.toList = verL := fun e => hg3 ⟨x, y, z, rfl, e⟩
          have hc2 : w2.cell? ⟨w1.heap.size, 2, none⟩ = some (.string z) := HPC.out 2 (by simp)
          have q2 : (z.toList == [72, 84, 84, 80, 47, 49, 46, 49]) = false := by rw [Lib.toList_data]; exact beq_eq_false_iff_ne.2 hzv
          have q3 : (z.toList != [72, 84, 84, 80, 47, 49, 46, 49]) = true := by rw [Lib.toList_data]; exact bne_iff_ne.2 hzv
          have hsp3 : splL 32 l0 = [x.data.toList, y.data.toList, z.data.toList] := by have := HPS.out; rw [List.map_cons, List.map_cons, List.map_cons, List.map_nil] at this; exact this.symm
          have HHO : headOf (l0 :: tl) = .error 4 := by
            unfold headOf
            rw [List.headD_cons, hsp3]
            dsimp only
            rw [if_neg hzv]
          have HP := Lib.hid (HERR.out 4 w2 (by rw [HPF2.out, HHO]) hbw2)
          simp only [List.length_cons, List.length_nil, Nat.zero_add, Nat.reduceAdd] at *
          have j0 : (0 : Int) < 3 := by decide
          have j2 : (2 : Int) < 3 := by decide
          clear hr1 hbw1 hzv hsp3 hpn HPS HPC HPF2 hr2 hbw2 hb2 hg3 HHO
          go_wp2_with fail
          have t := three_set (.string (ByteArray.mk #[])) (.string (ByteArray.mk #[])) (.slice none 0 0) r0 r1 r2
          exact bodyPost_ret (v := .tuple #[.agg #[.string (ByteArray.mk #[]), .string (ByteArray.mk #[]), .slice none 0 0], .int .i64 4]) (by simp [results, Tryd.results58, go_sem, t.1, t.2.1, t.2.2]) rfl HP.out
        · have q2 : ((ps.length : Int) != 3) = true := bne_iff_ne.2 (by omega)
          have q3 : ((ps.length : Int) == 3) = false := beq_eq_false_iff_ne.2 (by omega)
          have HHO : headOf (l0 :: tl) = .error 4 := by
            have hl : (splL 32 l0).length = ps.length := by rw [← HPS.out, List.length_map]
            unfold headOf
            rw [List.headD_cons]
            split
            · rename_i heq
              rw [heq] at hl
              exact absurd hl.symm hp3
            · rfl
          have HP := Lib.hid (HERR.out 4 w2 (by rw [HPF2.out, HHO]) hbw2)
          clear hr1 hbw1 hpn HPS HPC HPF2 hr2 hbw2 hb2 hg3 HHO hp3
          go_wp2_with fail
          have t := three_set (.string (ByteArray.mk #[])) (.string (ByteArray.mk #[])) (.slice none 0 0) r0 r1 r2
          exact bodyPost_ret (v := .tuple #[.agg #[.string (ByteArray.mk #[]), .string (ByteArray.mk #[]), .slice none 0 0], .int .i64 4]) (by simp [results, Tryd.results58, go_sem, t.1, t.2.1, t.2.2]) rfl HP.out
end Go.Proofs.YtchoenfclfafiaaDoor
