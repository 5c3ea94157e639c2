/- Part 43 of the proof: lemmas and walks that the last texts use. -/
import Derived.Test.YthfjmlcjkbgboaaGreatDoorM03
import Derived.Test.YthfjmlcjkbgboaaGreatDoorM27
import Derived.Test.YthfjmlcjkbgboaaGreatDoorM34
import Derived.Test.YthfjmlcjkbgboaaGreatDoorM39
import Derived.Test.YthfjmlcjkbgboaaGreatDoorM40
import Derived.Test.YthfjmlcjkbgboaaGreatDoorM41
import Derived.Test.YthfjmlcjkbgboaaGreatDoorM42
import Derived.Deep.Strs
import Derived.Test.YthfjmlcjkbgboaaGreatDoorRows
import Derived.WalkKit
import Derived.ProofKit
import Derived.OpenShut
import Derived.ShutString
import Derived.JoinedCond
import Derived.SizedLaws
import Derived.HandedShaped
import Derived.Lib.SliceRun
namespace Go.Proofs.YthfjmlcjkbgboaaGreatDoor
open Go.RowKit
def varQ (v : RuVar) : VarV := ⟨v.k, v.m, v.n⟩
theorem varQ_cells (l : List RuVar) : (l.map varQ).flatMap cellsQ = l.flatMap cellsRuV := by
 rw [List.flatMap_map]; rfl
def RuM.solo (x : RuM) : RuM := { x with r := { x.r with chain := false } }
noncomputable def codeM (x : RuM) : Int := checkR argC ⟨1, 400, [x.solo.r]⟩
def cellsR (x : RuM) : RCells := ⟨x.r.id, x.r.phase, .slice x.vA x.r.vars.length x.vc, .slice x.pA x.r.pipe.length x.pc, x.r.no, x.r.op, x.r.arg, .slice x.aA x.r.acts.length x.ac, false⟩
theorem codeM_ok {x : RuM} (h : codeM x = 0) : 1 ≤ x.r.op ∧ x.r.op ≤ 12 ∧ argC x.r.op x.r.arg = 0 :=
 oneC_arg ((check_all h).one x.solo.r List.mem_cons_self)
theorem flat_len2 {α : Type} (f : VarV → List α) (n : Nat) : ∀ s : List VarV, (∀ v ∈ s, (f v).length ≤ n) → (s.flatMap f).length ≤ s.length * n
 | [], _ => by simp
 | v :: s, h => by
  have h1 := h v List.mem_cons_self
  have h2 := flat_len2 f n s fun x hx => h x (List.mem_cons_of_mem _ hx)
  rw [List.flatMap_cons, List.length_append, List.length_cons, Nat.succ_mul]
  omega
theorem stepQ_len (l : List VarV) (v : VarV) (vals : List Pair) (n : Nat) (h : vals.length ≤ n) (h1 : 1 ≤ n) : (stepQ l v vals).length ≤ n := by
 unfold stepQ
 have : (leftQ l v vals).length ≤ vals.length := List.length_filter_le _ _
 split
 · exact Nat.zero_le _
 split
 · exact h1
 · omega
theorem allP_tot {m t b : ByteArray} {fs : List PairV} {cl : Nat} {sc : Int} {list cook : List Pair} (hz : ValSz t fs list cook cl sc) (l s : List VarV) (hs : s.length ≤ 1048576) : (allP (vfP m t b fs cl sc list cook) l s).length ≤ 4398046511104 := by
 unfold allP
 have := flat_len2 (fun v => stepQ l v (vfP m t b fs cl sc list cook v)) 4194304 s fun v _ => stepQ_len l v _ _ (vfP_len hz v) (by omega)
 exact Nat.le_trans this (Nat.le_trans (Nat.mul_le_mul_right _ hs) (by decide))
noncomputable def isM (x : RuM) (m t b : ByteArray) (fs : List PairV) (cl : Nat) (sc : Int) (list cook : List Pair) : Bool :=
 (allP (vfP m t b fs cl sc list cook) (x.r.vars.map varQ) (x.r.vars.map varQ)).any (hitX x.r.pipe x.r.no (tstO x.r.op x.r.arg))
set_option maxRecDepth 100000 in
set_option maxHeartbeats 3200000 in
theorem Matches_any (x : RuM) (m t b : ByteArray) (fs : List PairV) (A : Option Addr) (c : Nat) (cl : Nat) (sc : Int) (list : List Pair) (Al : Option Addr) (c1 : Nat) (cook : List Pair) (Ac : Option Addr) (c2 : Nat) (w : World)
  (hx : RuIn w w.heap.size x) (hs : RuSmall x.r) (hin : ValIn m t b fs A list Al cook Ac w) (hz : ValSz t fs list cook cl sc) :
  Calls Tryz.prog 9 #[.agg (cellsRu x).toArray, .agg #[.string m, .string t, .slice A fs.length c, .string b], .int .u32 (cl : Int), .int .i64 sc, .slice Al list.length c1, .slice Ac cook.length c2] w
   fun e w' => e = .returned (.tuple #[.bool (if codeM x = 0 then isM x m t b fs cl sc list cook else false), .int .i64 (codeM x)]) ∧ Below w.heap.size w w' := by
 obtain ⟨W1, hW1⟩ : ∃ W1, ((w.alloc (.cells #[.int .i64 x.r.id, .int .i64 x.r.phase, .slice x.vA x.r.vars.length x.vc, .slice x.pA x.r.pipe.length x.pc, .bool x.r.no, .int .i64 x.r.op, .string x.r.arg, .slice x.aA x.r.acts.length x.ac, .bool false] 26)).alloc (.cells #[.string m, .string t, .slice A fs.length c, .string b] 38)) = W1 := ⟨_, rfl⟩
 have hz1 : W1.heap.size = w.heap.size + 2 := by rw [← hW1]; simp
 have hR : R9 W1 w.heap.size (.int .i64 x.r.id) (.int .i64 x.r.phase) (.slice x.vA x.r.vars.length x.vc) (.slice x.pA x.r.pipe.length x.pc) (.bool x.r.no) (.int .i64 x.r.op) (.string x.r.arg) (.slice x.aA x.r.acts.length x.ac) (.bool false) := by
  rw [← hW1]
  exact (Below.heap_alloc _ _ _ (by simp)).trans (heap_alloc_new w _)
 have hQ : W1.heap[w.heap.size + 1]? = some (.cells #[.string m, .string t, .slice A fs.length c, .string b] 38 (0, 0)) := by
  rw [← hW1]
  have := heap_alloc_new (w.alloc (.cells #[.int .i64 x.r.id, .int .i64 x.r.phase, .slice x.vA x.r.vars.length x.vc, .slice x.pA x.r.pipe.length x.pc, .bool x.r.no, .int .i64 x.r.op, .string x.r.arg, .slice x.aA x.r.acts.length x.ac, .bool false] 26)) (.cells #[.string m, .string t, .slice A fs.length c, .string b] 38)
  rw [World.size_alloc] at this
  exact this
 have hb1 : Below w.heap.size w W1 := by
  rw [← hW1]
  exact ((Below.refl _ _).alloc (Nat.le_refl _) _).alloc (by simp) _
 obtain ⟨W2, hW2⟩ : ∃ W2, W1.alloc (.cells #[.int .i64 x.r.id, .int .i64 x.r.phase, .slice x.vA x.r.vars.length x.vc, .slice x.pA x.r.pipe.length x.pc, .bool x.r.no, .int .i64 x.r.op, .string x.r.arg, .slice x.aA x.r.acts.length x.ac, .bool false] 26) = W2 := ⟨_, rfl⟩
 have hb12 : Below W1.heap.size W1 W2 := by rw [← hW2]; exact (Below.refl _ _).alloc (Nat.le_refl _) _
 have hb2 : Below w.heap.size w W2 := hb1.trans (hb12.mono hb1.size)
 have hnew : W2.heap[W1.heap.size]? = some (.cells (cellsRu x.solo).toArray 26 (0, 0)) := by rw [← hW2]; exact heap_alloc_new W1 _
 have hz2 : W1.heap.size < W2.heap.size := heap_lt hnew
 have HCK : Hid (Calls Tryz.prog 32 #[.agg #[.int .i64 1, .int .i64 400, .slice (some ⟨W1.heap.size, 0, none⟩) 1 1]] W2 (CodePost (codeM x) W2)) :=
  Check_any ⟨1, 400, some ⟨W1.heap.size, 0, none⟩, 1, [x.solo]⟩ W2 ⟨sl_block hnew hz2 rfl, fun y hy => by
   rw [List.mem_singleton.1 hy]
   exact ⟨(hx.vars.below hb2).more hb2.size, (hx.pipe.below hb2).more hb2.size, (hx.acts.below hb2).more hb2.size⟩, Nat.le_refl _⟩ ⟨by show 1 ≤ 1048576; decide, fun y hy => by rw [List.mem_singleton.1 hy]; exact ⟨hs.vars, hs.names, hs.pipe, hs.arg, hs.acts⟩⟩ (hin.lib.below hb2)
 have HOK := Lib.hid (@codeM_ok x)
 have HW1 := Lib.hid hW1
 have HW2 := Lib.hid hW2
 have HR := Lib.hid hR
 have HQ := Lib.hid hQ
 have HB1 := Lib.hid hb1
 have HB12 := Lib.hid hb12
 have HX := Lib.hid hx
 have HS := Lib.hid hs
 have HIN := Lib.hid hin
 have HZ := Lib.hid hz
 have hargs : x.r.arg.size ≤ 1048576 := hs.arg
 have HIS : Hid (isM x m t b fs cl sc list cook = (allP (vfP m t b fs cl sc list cook) (x.r.vars.map varQ) (x.r.vars.map varQ)).any (hitX x.r.pipe x.r.no (tstO x.r.op x.r.arg))) := rfl
 generalize codeM x = C at *
 generalize isM x m t b fs cl sc list cook = IS at *
 obtain ⟨RES, hRES⟩ : ∃ RES : Bool, (if C = 0 then IS else false) = RES := ⟨_, rfl⟩
 rw [hRES]
 have HRES := Lib.hid hRES.symm
 clear hRES
 have r0 : W1.cell? ⟨w.heap.size, 0, none⟩ = some (.int .i64 x.r.id) := hR.cell 0
 have r1 : W1.cell? ⟨w.heap.size, 1, none⟩ = some (.int .i64 x.r.phase) := hR.cell 1
 have r2 : W1.cell? ⟨w.heap.size, 2, none⟩ = some (.slice x.vA x.r.vars.length x.vc) := hR.cell 2
 have r3 : W1.cell? ⟨w.heap.size, 3, none⟩ = some (.slice x.pA x.r.pipe.length x.pc) := hR.cell 3
 have r4 : W1.cell? ⟨w.heap.size, 4, none⟩ = some (.bool x.r.no) := hR.cell 4
 have r5 : W1.cell? ⟨w.heap.size, 5, none⟩ = some (.int .i64 x.r.op) := hR.cell 5
 have r6 : W1.cell? ⟨w.heap.size, 6, none⟩ = some (.string x.r.arg) := hR.cell 6
 have r7 : W1.cell? ⟨w.heap.size, 7, none⟩ = some (.slice x.aA x.r.acts.length x.ac) := hR.cell 7
 have r8 : W1.cell? ⟨w.heap.size, 8, none⟩ = some (.bool false) := hR.cell 8
 have hg1 : w.heap.size < W1.heap.size := by omega
 unfold cellsRu
 clear hW1 hR hQ hb1 hW2 hb12 hb2 hnew hx hs hin hz hz1
 go_enter Tryz.func9, Tryz.ntmps9
 go_upto_region 2 with fail
 rw [HW1.out]
 go_wp2_with (go_at_call 32; rw [HW2.out]; apply Hid.out)
 unfold Hid
 refine HCK.out.mono ?_
 rintro e w2 ⟨rfl, hb23⟩
 have hb13 : Below W1.heap.size W1 w2 := HB12.out.trans (hb23.mono HB12.out.size)
 have hR2 := HR.out.below hb13
 have hb3 : Below w.heap.size w w2 := HB1.out.trans (hb13.mono HB1.out.size)
 by_cases hC : C = 0
 rotate_left
 · have n0 : (C != 0) = true := bne_iff_ne.2 hC
   have HP : Hid (Ending.returned (.tuple #[.bool false, .int .i64 C]) = .returned (.tuple #[.bool RES, .int .i64 C]) ∧ Below w.heap.size w w2) := ⟨by rw [HRES.out, if_neg hC], hb3⟩
   clear hC r0 r1 r2 r3 r4 r5 r6 r7 r8 hR2
   go_wp2_with fail
   exact bodyPost_ret (v := .tuple #[.bool false, .int .i64 C]) (by simp [results, Tryz.results9, go_sem]) rfl HP.out
 · obtain ⟨hop1, hop2, hao⟩ := HOK.out hC
   subst hC
   have HIS2 : Hid (RES = (allP (vfP m t b fs cl sc list cook) (x.r.vars.map varQ) (x.r.vars.map varQ)).any (hitX x.r.pipe x.r.no (tstO x.r.op x.r.arg))) := by unfold Hid; rw [HRES.out, if_pos rfl, HIS.out]
   clear r0 r1 r2 r3 r4 r5 r6 r7 r8 HOK HCK
   have r0 : w2.cell? ⟨w.heap.size, 0, none⟩ = some (.int .i64 x.r.id) := hR2.cell 0
   have r1 : w2.cell? ⟨w.heap.size, 1, none⟩ = some (.int .i64 x.r.phase) := hR2.cell 1
   have r2 : w2.cell? ⟨w.heap.size, 2, none⟩ = some (.slice x.vA x.r.vars.length x.vc) := hR2.cell 2
   have r3 : w2.cell? ⟨w.heap.size, 3, none⟩ = some (.slice x.pA x.r.pipe.length x.pc) := hR2.cell 3
   have r4 : w2.cell? ⟨w.heap.size, 4, none⟩ = some (.bool x.r.no) := hR2.cell 4
   have r5 : w2.cell? ⟨w.heap.size, 5, none⟩ = some (.int .i64 x.r.op) := hR2.cell 5
   have r6 : w2.cell? ⟨w.heap.size, 6, none⟩ = some (.string x.r.arg) := hR2.cell 6
   have r7 : w2.cell? ⟨w.heap.size, 7, none⟩ = some (.slice x.aA x.r.acts.length x.ac) := hR2.cell 7
   have r8 : w2.cell? ⟨w.heap.size, 8, none⟩ = some (.bool false) := hR2.cell 8
   have hQ2 := (hb13.block (w.heap.size + 1) (heap_lt HQ.out)).trans HQ.out
   have q0 : w2.cell? ⟨w.heap.size + 1, 0, none⟩ = some (.string m) := cell_of_row _ _ 0 _ _ _ hQ2
   have q1 : w2.cell? ⟨w.heap.size + 1, 1, none⟩ = some (.string t) := cell_of_row _ _ 1 _ _ _ hQ2
   have q2 : w2.cell? ⟨w.heap.size + 1, 2, none⟩ = some (.slice A fs.length c) := cell_of_row _ _ 2 _ _ _ hQ2
   have q3 : w2.cell? ⟨w.heap.size + 1, 3, none⟩ = some (.string b) := cell_of_row _ _ 3 _ _ _ hQ2
   have hz3 : w.heap.size + 1 < w2.heap.size := heap_lt hQ2
   clear hQ2 HQ HR hR2
   have hz30 : w.heap.size < w2.heap.size := Nat.lt_of_succ_lt hz3
   obtain ⟨W3, hW3⟩ : ∃ W3, w2.alloc (.cells #[.int .i64 x.r.id, .int .i64 x.r.phase, .slice x.vA x.r.vars.length x.vc, .slice x.pA x.r.pipe.length x.pc, .bool x.r.no, .int .i64 x.r.op, .string x.r.arg, .slice x.aA x.r.acts.length x.ac, .bool false, .int .u32 0, .int .i32 0, .int .u32 0, .nilFunc] 100) = W3 := ⟨_, rfl⟩
   have hb34 : Below w2.heap.size w2 W3 := by rw [← hW3]; exact (Below.refl _ _).alloc (Nat.le_refl _) _
   have hbox : RBox w2.heap.size (cellsR x) 0 0 .nilFunc W3 := by rw [← hW3]; exact heap_alloc_new w2 _
   have hb4 := hb3.trans (hb34.mono hb3.size)
   have hsz3 : W3.heap.size = w2.heap.size + 1 := by rw [← hW3]; simp
   have HW3 := Lib.hid hW3
   have hin3 := HIN.out.below hb4
   have hvars : Sl W3 W3.heap.size 3 x.vA (x.r.vars.map varQ).length ((x.r.vars.map varQ).flatMap cellsQ) := by
    rw [varQ_cells, List.length_map]
    exact (HX.out.vars.below hb4).more hb4.size
   have hvl : (x.r.vars.map varQ).length ≤ 1048576 := by rw [List.length_map]; exact HS.out.vars
   have htot : (allP (vfP m t b fs cl sc list cook) (x.r.vars.map varQ) (x.r.vars.map varQ)).length ≤ 4398046511104 := allP_tot HZ.out _ _ hvl
   have HALL : Hid (Calls Tryz.prog 34 #[.slice x.vA x.r.vars.length x.vc, .agg #[.string m, .string t, .slice A fs.length c, .string b], .int .u32 (cl : Int), .int .i64 sc, .slice Al list.length c1, .slice Ac cook.length c2] W3 (RowA (allP (vfP m t b fs cl sc list cook) (x.r.vars.map varQ) (x.r.vars.map varQ)) W3)) := by
    have := All_any (x.r.vars.map varQ) x.vA x.vc m t b fs A c cl sc list Al c1 cook Ac c2 W3 hvars hin3 HZ.out (by omega) htot
    rw [List.length_map] at this
    exact this
   generalize allP (vfP m t b fs cl sc list cook) (x.r.vars.map varQ) (x.r.vars.map varQ) = L at *
   have HBOX := Lib.hid hbox
   have HB4 := Lib.hid hb4
   have HMAT : Hid (∀ (v : Value) (W4 : World), OwnA W4 W3.heap.size v L → Below W3.heap.size W3 W4 → ∃ A4 c4, v = .slice A4 L.length c4 ∧ Calls Tryz.prog 33 #[.pointer (some ⟨w2.heap.size, 0, none⟩), .slice A4 L.length c4] W4 fun e w' => e = .returned (.bool RES) ∧ Below w2.heap.size W4 w') := fun v W4 hO hb45 => by
    obtain ⟨A4, c4, rfl, _⟩ := hO.form
    have hb5 := HB4.out.trans (hb45.mono HB4.out.size)
    have hg := HBOX.out.lt
    have hfar : ∀ W, Oth w2.heap.size w2.heap.size W4 W → Sl W W.heap.size 2 A4 L.length (L.flatMap cellsA) := fun W hW => by
     have h2 := hO.keep (w' := W) fun g hg => by
      have := World.ownsRow.lt hO g hg
      exact hW.keep g this.2 (by omega)
     obtain ⟨A', c', e', hs'⟩ := h2.form
     injection e' with e1 _ _
     rw [e1]; exact hs'
    have hbo : ∀ W, Oth w2.heap.size w2.heap.size W4 W → Below w.heap.size w W := fun W hW => hb5.trans (hW.below.mono (Nat.le_of_lt hz30))
    refine ⟨A4, c4, rfl, (matches_any w2.heap.size (fun k => k = w2.heap.size) w2.heap.size (cellsR x) x.r.pipe x.pA x.pc rfl (by have := HS.out.pipe; omega) L htot A4 c4 W4 (Nat.le_refl _) (fun k hk => by rw [hk]; exact Nat.lt_of_lt_of_le hg hb45.size) (.inl (HBOX.out.keep (hb45.block _ hg)))
     (fun W hW => (HX.out.pipe.below (hbo W hW)).more (hbo W hW).size) hfar (fun W hW => HIN.out.lib.below (hbo W hW)) (fun W hW => HIN.out.tab.below (hbo W hW)) hop1 hop2 hargs hao).mono ?_⟩
    rintro e w' ⟨rfl, _, ho⟩
    exact ⟨by rw [HIS2.out]; rfl, ho.below⟩
   clear hW3 hbox hin3 hvars htot hvl
   go_upto_region 6 with fail
   rw [HW3.out]
   have s2 : W3.cell? ⟨w.heap.size, 2, none⟩ = some (.slice x.vA x.r.vars.length x.vc) := cell_kept hb34 r2
   have s0 := cell_kept hb34 q0
   have s1 := cell_kept hb34 q1
   have s3 := cell_kept hb34 q2
   have s4 := cell_kept hb34 q3
   clear r0 r1 r2 r3 r4 r5 r6 r7 r8 q0 q1 q2 q3
   go_wp2_with (go_at_call 34; apply Hid.out)
   unfold Hid
   refine HALL.out.mono ?_
   rintro e w4 ⟨v4, rfl, hO4, hb45⟩
   obtain ⟨A4, c4, rfl, hm⟩ := HMAT.out v4 w4 hO4 hb45
   have HM := Lib.hid hm
   have HB5 : Hid (Below w.heap.size w w4) := HB4.out.trans (hb45.mono HB4.out.size)
   clear hm hO4
   go_wp2_with (go_at_call 33; apply Hid.out)
   unfold Hid
   refine HM.out.mono ?_
   rintro e w5 ⟨rfl, hb56⟩
   have hb6 := HB5.out.trans (hb56.mono (Nat.le_of_lt hz30))
   go_wp2_with fail
   exact bodyPost_ret (v := .tuple #[.bool RES, .int .i64 0]) (by simp [results, Tryz.results9, go_sem]) rfl ⟨rfl, hb6⟩
end Go.Proofs.YthfjmlcjkbgboaaGreatDoor
namespace Go.Proofs.YthfjmlcjkbgboaaGreatDoor
open Go.RowKit Go.ChangeShapes Go.WideShapes Go.Deep
theorem cellsOf_req : Tryz.prog.cellsOf 38 = 4 := by kernel_rfl
theorem cellsOf_fields : Tryz.prog.cellsOf 34 = 1 := by kernel_rfl
structure RqV where
 m : ByteArray
 t : ByteArray
 A : Option Addr
 c : Nat
 fs : List (ByteArray × ByteArray)
 b : ByteArray
structure ReqArg (W : World) (v : Value) (a : RqV) : Prop where
 val : v = .agg #[.string a.m, .string a.t, .slice a.A a.fs.length a.c, .string a.b]
 sl : Sl W W.heap.size 2 a.A a.fs.length (cellsF a.fs)
 sizes : ∀ f ∈ a.fs, f.1.size ≤ maxLen ∧ f.2.size ≤ maxLen
 msize : a.m.size ≤ maxLen
 tsize : a.t.size ≤ maxLen
 bsize : a.b.size ≤ maxLen
def ReqDat {H : Type} (a : RqV) (d : DataW H) : Prop :=
 ∃ y : DataW H, d = .agg [.agg [.lit (.string a.m.data.toList), .lit (.string a.t.data.toList), y], .lit (.string a.b.data.toList)] ∧ ((y = .nil ∧ a.fs = []) ∨ ∃ sp, y = .slice (a.fs.map fieldD) sp)
set_option maxRecDepth 100000 in
theorem open_request {H : Type} {enc : TypeId × Value → H} {W : World} {base b0 : Nat} {r : Reach} {spare : Nat → Bool} {held : Bool} {v : Value} {d : DataW H} {p : List MemPlace}
  (hv : Value.okWide Tryz.prog W r b0 38 v) (h : DataW.Trod enc Tryz.prog W base spare held 38 v d p) :
  ∃ a, ReqArg W v a ∧ ReqDat a d := by
 obtain ⟨cs, rfl, hsz⟩ := okWide_struct Tryz.underlying38 hv
 obtain ⟨c0, c1, c2, c3, rfl⟩ := Joins.array4 (hsz.trans cellsOf_req)
 obtain ⟨fuel, hf⟩ := h
 obtain ⟨y0, y1, n, hx, _, h0, h1⟩ := trod_struct2 Tryz.underlying38 hf
 rw [cellsOf_head] at h0
 rw [cellsOf_str] at h1
 obtain ⟨z0, z1, z2, n', hx', _, g0, g1, g2⟩ := trod_struct3 Tryz.underlying36 h0
 rw [cellsOf_str] at g0 g1
 rw [cellsOf_fields] at g2
 obtain ⟨s0, e0, x0, w0⟩ := DataW.trod_string Tryz.underlying9 g0
 obtain ⟨s1, e1, x1, w1⟩ := DataW.trod_string Tryz.underlying9 g1
 obtain ⟨A, c, fs, e2, hs, hsl, hy⟩ := open_fields g2
 obtain ⟨s3, e3, x3, w3⟩ := DataW.trod_string Tryz.underlying9 h1
 injection e0 with e0 _
 injection e1 with e1 _
 injection e2 with e2 _
 injection e3 with e3 _
 subst e0; subst e1; subst e2; subst e3; subst x0; subst x1; subst x3
 have hd := congrArg Prod.fst hx
 dsimp only at hd
 subst hx'
 exact ⟨⟨s0, s1, A, c, fs, s3⟩, ⟨rfl, hsl, hs, w0, w1, w3⟩, z2.1, hd, hy⟩
structure ReqBulk (a : RqV) : Prop where
 m : a.m.size ≤ 1048576
 t : a.t.size ≤ 1048576
 b : a.b.size ≤ 1048576
 n : a.fs.length ≤ 1048576
theorem request_bulk {H : Type} {a : RqV} {d : DataW H} (h : ReqDat a d) (hb : Rows.uptoBulk d ≤ 1048576) : ReqBulk a := by
 obtain ⟨y, rfl, hy⟩ := h
 simp only [Rows.uptoBulk, Rows.uptoBulkAll, Array.length_toList] at hb
 refine ⟨?_, ?_, ?_, ?_⟩
 · have : a.m.data.size = a.m.size := rfl
   omega
 · have : a.t.data.size = a.t.size := rfl
   omega
 · have : a.b.data.size = a.b.size := rfl
   omega
 · rcases hy with ⟨_, h⟩ | ⟨sp, rfl⟩
   · rw [h]; exact Nat.zero_le _
   · have := slice_bulk (l := (a.fs.map fieldD : List (DataW H))) (sp := sp)
     rw [List.length_map] at this
     omega
end Go.Proofs.YthfjmlcjkbgboaaGreatDoor
namespace Go.Proofs.YthfjmlcjkbgboaaGreatDoor
open Go.RowKit Go.ChangeShapes Go.WideShapes Go.Deep
structure GArg where
 A : Option Addr
 c : Nat
 l : List Pair
structure ArgsArg (W : World) (v : Value) (a : GArg) : Prop where
 val : v = .slice a.A a.l.length a.c
 sl : Sl W W.heap.size 2 a.A a.l.length (a.l.flatMap cellsA)
def argD {H : Type} (f : Pair) : DataW H := .agg [.lit (.string f.1.data.toList), .lit (.string f.2.data.toList)]
def ArgsDat {H : Type} (a : GArg) (d : DataW H) : Prop := (d = .nil ∧ a.l = []) ∨ ∃ sp, d = .slice (a.l.map argD) sp
theorem bulkA_le {H : Type} : ∀ l : List Pair, bulkA l ≤ Rows.uptoBulkAll (l.map fun f => (argD f : DataW H)) ∧ l.length ≤ Rows.uptoBulkAll (l.map fun f => (argD f : DataW H))
 | [] => ⟨Nat.le_refl _, Nat.le_refl _⟩
 | x :: l => by
  have ih := bulkA_le (H := H) l
  have e1 : x.1.data.toList.length = x.1.size := by simp
  have e2 : x.2.data.toList.length = x.2.size := by simp
  have e : bulkA (x :: l) = (x.1.size + x.2.size + 2) + bulkA l := by unfold bulkA; rw [List.map_cons, List.sum_cons]
  rw [List.map_cons, Rows.uptoBulkAll, e, List.length_cons]
  simp only [argD, Rows.uptoBulk, Rows.uptoBulkAll, e1, e2]
  simp only [argD] at ih
  omega
theorem args_bulk {H : Type} {a : GArg} {d : DataW H} (h : ArgsDat a d) (hb : Rows.uptoBulk d ≤ 1048576) : bulkA a.l ≤ 1048576 ∧ a.l.length ≤ 1048576 := by
 rcases h with ⟨_, h⟩ | ⟨sp, rfl⟩
 · rw [h]; exact ⟨Nat.zero_le _, Nat.zero_le _⟩
 · have := bulkA_le (H := H) a.l
   rw [Rows.uptoBulk] at hb
   have e : (a.l.map fun f => (argD f : DataW H)) = a.l.map argD := rfl
   rw [e] at this
   omega
theorem cellsOf_strG : Tryz.prog.cellsOf 9 = 1 := by kernel_rfl
theorem cellsOf_arg : Tryz.prog.cellsOf 43 = 2 := by kernel_rfl
theorem list_twoG {α : Type} {l : List α} (h : l.length = 2) : ∃ a b, l = [a, b] := by
 match l, h with
 | [a, b], _ => exact ⟨a, b, rfl⟩
set_option maxRecDepth 100000 in
theorem open_args {H : Type} {enc : TypeId × Value → H} {W : World} {base b0 : Nat} {r : Reach} {spare : Nat → Bool} {held : Bool} {v : Value} {d : DataW H} {p : List MemPlace}
  (hv : Value.okWide Tryz.prog W r b0 44 v) (h : DataW.Trod enc Tryz.prog W base spare held 44 v d p) :
  ∃ a, ArgsArg W v a ∧ ArgsDat a d := by
 obtain ⟨a, len0, cap, rfl⟩ := okWide_slice Tryz.underlying44 hv
 obtain ⟨fuel, h⟩ := h
 obtain ⟨A, len, c, l, h1, h2, h3, _, _, h6, h7⟩ := open_list 2 cellsA argD (fun _ => True) Tryz.underlying44 cellsOf_arg (fun _ => rfl)
  (fun n cs' y hy => by
   obtain ⟨y0, y1, n', hx, hl, h0, h1⟩ := trod_struct2 Tryz.underlying43 hy
   rw [cellsOf_arg] at hl
   obtain ⟨c0, c1, rfl⟩ := list_twoG hl
   rw [cellsOf_strG] at h0 h1
   obtain ⟨s0, e0, x0, z0⟩ := DataW.trod_string Tryz.underlying9 h0
   obtain ⟨s1, e1, x1, z1⟩ := DataW.trod_string Tryz.underlying9 h1
   injection e0 with e0 _
   injection e1 with e1 _
   subst e0; subst e1; subst x0; subst x1; subst hx
   exact ⟨(s0, s1), rfl, rfl, trivial⟩) h
 subst h2
 have h1 : [Value.slice a len0 cap] = [Value.slice A l.length c] := h1
 exact ⟨⟨A, c, l⟩, ⟨(List.cons.inj h1).1, h6⟩, h7⟩
end Go.Proofs.YthfjmlcjkbgboaaGreatDoor
namespace Go.Proofs.YthfjmlcjkbgboaaGreatDoor
open Go.RowKit
set_option maxRecDepth 100000 in
theorem hello_any (w : World) : Calls Tryz.prog 11 #[] w fun e w' => e = .returned (.agg #[.string (ByteArray.mk #[71, 69, 84]), .string (ByteArray.mk #[47, 97, 63, 98, 61, 99]), .slice none 0 0, .string (ByteArray.mk #[])]) ∧ Below w.heap.size w w' := by
 have hb : Below w.heap.size w (w.alloc (.cells #[.string (ByteArray.mk #[71, 69, 84]), .string (ByteArray.mk #[47, 97, 63, 98, 61, 99]), .slice none 0 0, .string (ByteArray.mk #[])] 38)) := (Below.refl _ _).alloc (Nat.le_refl _) _
 go_enter Tryz.func11, Tryz.ntmps11
 go_wp2_with fail
 exact bodyPost_ret (v := .agg #[.string (ByteArray.mk #[71, 69, 84]), .string (ByteArray.mk #[47, 97, 63, 98, 61, 99]), .slice none 0 0, .string (ByteArray.mk #[])]) (by simp [results, Tryz.results11, go_sem]) rfl ⟨rfl, hb⟩
theorem only_all (l : List Pair) : onlyP l (ByteArray.mk #[]) = l := by
 unfold onlyP
 exact List.filter_eq_self.2 fun x _ => by unfold isN; rw [Lib.toList_data (ByteArray.mk #[])]; rfl
end Go.Proofs.YthfjmlcjkbgboaaGreatDoor
namespace Go.Proofs.YthfjmlcjkbgboaaGreatDoor
open Go.RowKit Go.ChangeShapes Go.WideShapes Go.Deep
structure RuleArg (W : World) (v : Value) (m : RuM) : Prop where
 val : v = .agg (cellsRu m).toArray
 lies : RuIn W W.heap.size m
def RuleDat {H : Type} (m : RuM) (d : DataW H) : Prop := Rows.uptoBulk d ≤ 1048576 → RuSmall m.r
theorem rule_bulk {H : Type} {m : RuM} {d : DataW H} (h : RuleDat m d) (hb : Rows.uptoBulk d ≤ 1048576) : RuSmall m.r := h hb
set_option maxRecDepth 100000 in
theorem open_rule {H : Type} {enc : TypeId × Value → H} {w : World} {base : Nat} {spare : Nat → Bool} {held : Bool} {v : Value} {d : DataW H} {p : List MemPlace} {r : Reach} {b0 : Nat}
  (hv : Value.okWide Tryz.prog w r b0 26 v) (h0 : DataW.Trod enc Tryz.prog w base spare held 26 v d p) : ∃ m, RuleArg w v m ∧ RuleDat m d := by
 obtain ⟨cs, rfl, hsz⟩ := okWide_struct Tryz.underlying26 hv
 obtain ⟨fuel, hf⟩ := h0
 obtain ⟨a, e1, e2, h⟩ := open_rurule hf
 have e3 : cs.toList = cellsRu a.m := e1
 refine ⟨a.m, ⟨by rw [← e3], h.1⟩, fun hb => h.2 ?_⟩
 rw [← e2]; exact hb
end Go.Proofs.YthfjmlcjkbgboaaGreatDoor
namespace Go.Proofs.YthfjmlcjkbgboaaGreatDoor
open Go.ChangeShapes Go.WideShapes Go.ChangeAt Go.RowKit
theorem own : ownKnob Tryz.prog.godebug = none := by kernel_rfl
theorem laidOut : laidOutB Tryz.prog = true := by kernel_rfl
theorem upto_bound {H : Type} {l : List (DataW H)} (hk : Rows.uptoSmall H l = true) : Rows.uptoBulkAll l ≤ 1048576 := of_decide_eq_true hk
section
variable {H : Type} {enc : TypeId × Value → H} {P : Program}
theorem trodAll_stay (hl : laidOutB P = true) {W W' : World} (hb : Below W.heap.size W W') : ∀ {ts : List TypeId} {vs : List Value} {ds : List (DataW H)} {ps : List MemPlace},
  (∀ t ∈ ts, P.readableRec t = true ∧ t < P.types.size) → DataW.TrodAll enc P W 0 (fun _ => true) true ts vs ds ps → (∀ x ∈ ps, x.block < W.heap.size) →
  ∀ sp : Nat → Bool, (∀ p ∈ ps, sp p.block = true) → DataW.TrodAll enc P W' 0 sp true ts vs ds ps
 | [], vs, ds, ps, _, h, _, sp, _ => by
  cases vs <;> cases ds <;> first | exact h | cases h
 | t :: ts, [], ds, ps, _, h, _, _, _ => by cases ds <;> cases h
 | t :: ts, v :: vs, [], ps, _, h, _, _, _ => by cases h
 | t :: ts, v :: vs, d :: ds, ps, hr, h, hlt, sp, hs => by
  obtain ⟨p, q, h1, h2, rfl⟩ := h
  obtain ⟨r1, r2⟩ := hr t (by simp)
  exact ⟨p, q, WideElems.Trod_stays hl r1 r2 h1 (fun x hx => hb.same (hlt x (by simp [hx]))) (fun x hx => hs x (by simp [hx])),
   trodAll_stay hl hb (fun t' ht' => hr t' (by simp [ht'])) h2 (fun x hx => hlt x (by simp [hx])) sp (fun x hx => hs x (by simp [hx])), rfl⟩
theorem law_post {f : Func} {s : ChangeSpec} {apart fresh handsOn again : Bool} {W W' : World} {args : Array Value} {ds gs : List (DataW H)} {before : List MemPlace} {tb : TypeId}
  (hl : laidOutB P = true) (hr : ∀ t ∈ f.params.toList, P.readableRec t = true ∧ t < P.types.size) (hres : f.resultTypes = #[tb]) (htb : P.underlying tb = some .bool) (hvars : s.vars = [])
  (hW : DataW.Whole enc P f.params.toList s.vars apart W args.toList ds gs before) (hb : Below W.heap.size W W')
  (hfn : s.fn H (ds ++ gs) = { results := [.lit (.bool true)], args := ds }) :
  s.post enc P f apart fresh handsOn again W args (.bool true) W' := by
 have hW0 := hW
 have hlt : ∀ p ∈ before, p.block < W.heap.size := fun p hp => hW0.lt p hp
 have hold : ∀ p ∈ before, (fun b => decide (b < W.heap.size)) p.block = true := fun p hp => by simpa using hlt p hp
 obtain ⟨p, q, hA, hV, hpq, hz, hn⟩ := hW
 rw [hvars] at hV
 obtain ⟨rfl, rfl⟩ := trodVars_none hV
 rw [List.append_nil] at hpq
 subst hpq
 have hargs : ∀ sp : Nat → Bool, (∀ p ∈ before, sp p.block = true) → DataW.TrodAll enc P W' 0 sp true f.params.toList args.toList ds before := trodAll_stay hl hb hr hA hlt
 have hrb : ∀ (b : Nat) (sp : Nat → Bool) (hd : Bool), DataW.TrodAll enc P W' b sp hd f.resultTypes.toList ((Value.bool true).resultList f.resultTypes.size) [.lit (.bool true)] [] := fun b sp hd => by
  rw [hres]; exact trodAll_cons_mk (shut_bool htb true) trodAll_mk0
 refine ⟨ds, [], before, [], before, [], hW0, ?_, ?_, ?_, World.keptBut_mono (fun p hp => ⟨hp, Or.inr (Or.inl hp)⟩) (hb.frame (· ∈ before)), fun _ => ?_⟩
 · rw [hfn]; exact hrb _ _ _
 · rw [hfn]; exact hargs _ hold
 · rw [hfn, hvars]; exact rfl
 · refine ⟨ok_one (by rw [hres]) (by first | rfl | (rw [hres]; rfl)) (okWide_bool_mk htb true), .lit (.bool true) :: ds, [], before, ⟨before, [], ?_, by rw [hvars]; exact rfl, by simp, ?_, ?_⟩, ?_⟩
   · rw [hres]
     exact trodAll_cons_mk (shut_bool htb true) (hargs _ (fun _ _ => rfl))
   · intro b off hp
     rw [hb.frozen (hlt _ hp)]
     exact hz b off hp
   · exact hn
   · intro p hp _; exact hp
end
end Go.Proofs.YthfjmlcjkbgboaaGreatDoor
namespace Go.Proofs.YthfjmlcjkbgboaaGreatDoor
open Go.RowKit
theorem info_A : (Tryz.prog.info? 43).map (fun i => (i.zero, i.size, i.bytes)) = some (some (.agg #[.string ByteArray.empty, .string ByteArray.empty]), 2, 32) := by kernel_rfl
set_option maxRecDepth 100000 in
set_option maxHeartbeats 800000 in
theorem CloneA_any (A : Option Addr) (n c : Nat) (xs : List Value) (w : World) (h : Sl w w.heap.size 2 A n xs) (h1 : ∀ u ∈ xs, u.oneCell' = true) (hn : n * 32 ≤ 140737488355328) :
  Calls Tryz.prog 13 #[.slice A n c] w (RowIs 43 2 n xs w) := by
 obtain ⟨i0, hi, hz0, hz1, hz2⟩ := info_parts info_A
 have hnil := fun (w : World) (a : Option Addr) (n c : Nat) => Lib.run_eql_slice_nil (P := Tryz.prog) w 44 43 a n c 0 0 Tryz.underlying44
 cases A with
 | none =>
  have hl := h.len
  have hxs : xs = [] := by
   rcases Nat.eq_zero_or_pos xs.length with h0 | h0
   · exact List.eq_nil_of_length_eq_zero h0
   · obtain ⟨b, off, e, _⟩ := h.src h0; cases e
  subst hxs
  have hn0 : n = 0 := by simp at hl; omega
  subst hn0
  go_enter Tryz.func13, Tryz.ntmps13
  go_wp2_with fail
  go_ret
  exact ⟨_, rfl, World.ownsRow_nil w _ 43 2, Below.refl _ _⟩
 | some ad =>
  have hcells : ∀ j u, xs[j]? = some u → w.cell? (ad.add j) = some u := fun j u hu => by
   have hj := (List.getElem?_eq_some_iff.1 hu).1
   obtain ⟨b, off, e, _, hc⟩ := h.src (by omega)
   injection e with e
   subst e
   rw [Go.WideShapes.add_plain, hc j hj, ← hu, List.getElem?_eq_getElem hj]
  have hcells2 : ∀ j u, xs[j]? = some u → (w.alloc (.cells #[] 43)).cell? (ad.add j) = some u := fun j u hu => cell_kept ((Below.refl _ _).alloc (Nat.le_refl _) _) (hcells j u hu)
  have HC := Lib.hid hcells2
  have hl := h.len
  clear h hcells hcells2
  go_enter Tryz.func13, Tryz.ntmps13
  go_wp2_with (at_builtin; refine wpList_append_own _ rfl _ _ 44 rfl w.heap.size 43 i0 (.agg #[.string ByteArray.empty, .string ByteArray.empty]) 2 32 Tryz.underlying44 hi hz0 hz1 hz2 rfl (by decide) (.slice (some ⟨w.heap.size, 0, none⟩) 0 0) 0 [] rfl (World.ownsRow_lit w #[] 0 (Nat.le_refl _) (by decide) (by simp)) ad n c xs rfl hl HC.out h1 (by unfold maxLen; omega) (by omega) (by simp) ?_; intro v' w1 hown hg _)
  go_ret
  refine ⟨_, rfl, by simpa using hown, ((Below.refl _ _).alloc (Nat.le_refl _) _).grown hg (by simp) (fun k hk => ?_)⟩
  simp [Value.ownBlock] at hk
  omega
end Go.Proofs.YthfjmlcjkbgboaaGreatDoor
