/- Part 25 of the proof: lemmas and walks that the last texts use. -/
import Derived.Test.YtdkbfljhfhjofaaGreatDoorM11
import Derived.Test.YtdkbfljhfhjofaaGreatDoorM18
import Derived.Test.YtdkbfljhfhjofaaGreatDoorM20
import Derived.Test.YtdkbfljhfhjofaaGreatDoorM24
import Derived.Deep.QuietTactic
import Derived.BigQuiet
namespace Go.Proofs.YtdkbfljhfhjofaaGreatDoor
open Go.RowKit
mutual
theorem chk_rng : ∀ (t : Tree) (deep n : Int), n ≤ 80 → n ≤ (chk t deep n).1 ∧ (chk t deep n).1 ≤ 81 ∧ ((chk t deep n).2 = 0 → (chk t deep n).1 ≤ 80)
  | .node k s ts, deep, n, h => by
    rw [chk]
    by_cases c1 : 80 < n + 1
    · rw [if_pos c1]; exact ⟨by show n ≤ n + 1; omega, by show n + 1 ≤ 81; omega, fun e => absurd (show (2 : Int) = 0 from e) (by decide)⟩
    · rw [if_neg c1]
      by_cases c2 : 20 < deep
      · rw [if_pos c2]; exact ⟨by show n ≤ n + 1; omega, by show n + 1 ≤ 81; omega, fun e => absurd (show (11 : Int) = 0 from e) (by decide)⟩
      · rw [if_neg c2]
        by_cases c3 : badT k s ts.length = true
        · rw [if_pos c3]; exact ⟨by show n ≤ n + 1; omega, by show n + 1 ≤ 81; omega, fun e => absurd (show (1 : Int) = 0 from e) (by decide)⟩
        · rw [if_neg c3]
          have := chkL_rng ts (deep + 1) (n + 1) (by omega)
          exact ⟨by omega, this.2⟩
theorem chkL_rng : ∀ (ts : List Tree) (deep n : Int), n ≤ 80 → n ≤ (chkL ts deep n).1 ∧ (chkL ts deep n).1 ≤ 81 ∧ ((chkL ts deep n).2 = 0 → (chkL ts deep n).1 ≤ 80)
  | [], deep, n, h => by rw [chkL]; exact ⟨Int.le_refl _, by show n ≤ 81; omega, fun _ => h⟩
  | t :: ts, deep, n, h => by
    rw [chkL]
    have h1 := chk_rng t deep n h
    by_cases c : (chk t deep n).2 ≠ 0
    · rw [if_pos c]; exact h1
    · rw [if_neg c]
      have h2 := chkL_rng ts deep _ (h1.2.2 (Classical.not_not.1 c))
      exact ⟨by omega, h2.2⟩
end
theorem chkL_step (ts : List Tree) (i : Nat) (h : i < ts.length) (deep n : Int) : chkL (ts.drop i) deep n = if (chk ts[i] deep n).2 ≠ 0 then chk ts[i] deep n else chkL (ts.drop (i + 1)) deep (chk ts[i] deep n).1 := by
  rw [List.drop_eq_getElem_cons h, chkL]
theorem chk_node (k : Int) (s : Set4) (ts : List Tree) (deep n : Int) : chk (.node k s ts) deep n =
    if 80 < n + 1 then (n + 1, 2) else if 20 < deep then (n + 1, 11) else if badT k s ts.length = true then (n + 1, 1) else chkL ts (deep + 1) (n + 1) := by rw [chk]
/-- A counter that is known whole. -/
def Cnt (w : World) (g : Nat) (n : Int) : Prop := w.heap[g]? = some (.cells #[.int .i64 n] 3 (0, 0))
theorem Cnt.cell {w : World} {g : Nat} {n : Int} (h : Cnt w g n) : w.cell? ⟨g, 0, none⟩ = some (.int .i64 n) := cell_of_row w g 0 _ _ (0, 0) h
theorem Cnt.free {w : World} {g : Nat} {n : Int} (h : Cnt w g n) : w.frozen? ⟨g, 0, none⟩ = false := by unfold Cnt at h; simp [World.frozen?, h]
theorem Cnt.lt {w : World} {g : Nat} {n : Int} (h : Cnt w g n) : g < w.heap.size := by
  rcases Nat.lt_or_ge g w.heap.size with hlt | hge
  · exact hlt
  · unfold Cnt at h; rw [Array.getElem?_eq_none hge] at h; cases h
theorem Cnt.set {w : World} {g : Nat} {n : Int} (h : Cnt w g n) (m : Int) : Cnt (w.setCell ⟨g, 0, none⟩ (.int .i64 m)) g m := by unfold Cnt at h ⊢; simp [World.setCell, Array.getElem?_modify, h]
theorem Cnt.alloc {w : World} {g : Nat} {n : Int} (h : Cnt w g n) (o : Obj) : Cnt (w.alloc o) g n := (Below.heap_alloc w o g h.lt).trans h
theorem Cnt.drewN {w : World} {g : Nat} {n : Int} (h : Cnt w g n) (q : Nat) : Cnt (w.drewN q) g n := h
theorem only_alloc {a w : World} {row : Option Nat} (h : a.grownBy w row) (o : Obj) : a.grownBy (w.alloc o) row :=
  only_below h ((Below.refl _ _).alloc (Nat.le_refl _) o)
theorem LT.only {w w' : World} {g : Nat} {t : Tree} {cs : List Value} (h : LT w g t cs) (hb : w.grownBy w' (some g)) (hg : g < w.heap.size) : LT w' g t cs :=
  LT.keep (Nat.le_refl _) (fun b o hp => World.cell?_of_block (hb.block b (by omega) (fun e => by injection e with e; omega))) t cs h
theorem LK.only {w w' : World} {g : Nat} {ts : List Tree} {A : Option Addr} (h : LK w g ts A) (hb : w.grownBy w' (some g)) (hg : g < w.heap.size) : LK w' g ts A :=
  LK.keep (Nat.le_refl _) (fun b o hp => World.cell?_of_block (hb.block b (by omega) (fun e => by injection e with e; omega))) ts A h
def CheckPost (g : Nat) (r : Int × Int) (w : World) (e : Ending) (w' : World) : Prop := e = .returned (.int .i64 r.2) ∧ Cnt w' g r.1 ∧ w.grownBy w' (some g)
def CheckC (t : Tree) : Prop := ∀ (cs : List Value) (w : World) (g : Nat) (deep n : Int), LT w g t cs → Cnt w g n → 0 ≤ n → n ≤ 80 → 1 ≤ deep → deep ≤ 21 →
  Calls Tryz.prog 170 #[.agg cs.toArray, .int .i64 deep, .pointer (some ⟨g, 0, none⟩)] w (CheckPost g (chk t deep n) w)
def CkRel (g : Nat) (w W0 : World) (ts : List Tree) (deep n : Int) (i : Value) (wr : World) : Prop :=
  ∃ (k : Nat) (m : Int), k ≤ ts.length ∧ i = .int .i64 k ∧ 0 ≤ m ∧ m ≤ 80 ∧ Hid (chkL (ts.drop k) deep m = chkL ts deep n) ∧ Cnt wr g m ∧ W0.grownBy wr (some g) ∧ w.grownBy wr (some g)
set_option maxRecDepth 100000 in
set_option maxHeartbeats 1600000 in
theorem check_node (k : Int) (s : Set4) (ts : List Tree) (ih : ∀ i (h : i < ts.length), CheckC ts[i]) : CheckC (.node k s ts) := by
  intro cs w g deep n hlt hg h0 h1 d0 d1
  rw [LT] at hlt
  obtain ⟨A, c, rfl, hs, hk⟩ := hlt
  have IH := Lib.hid ih
  have HR := Lib.hid (chk_node k s ts deep n)
  have hc0 := hg.cell
  have hf0 := hg.free
  have hgl := hg.lt
  have hse : ∀ W, _ := fun W => run_set_eql s Set4.zero W
  unfold setV Set4.zero at hse
  dsimp only at hse
  obtain ⟨sa, sb, sc, sd⟩ := s
  unfold cellsX
  dsimp only at hse ⊢
  have HC := Lib.hid hg
  have hn1 : n + 1 ≤ 9223372036854775807 := by omega
  clear ih hg
  have hend : ∀ m : Int, Cnt ((w.setCell ⟨g, 0, none⟩ (.int .i64 m)).alloc (.cells #[.int .i64 k, .int .u64 sa, .int .u64 sb, .int .u64 sc, .int .u64 sd, .slice A ts.length c] 153)) g m ∧ w.grownBy ((w.setCell ⟨g, 0, none⟩ (.int .i64 m)).alloc (.cells #[.int .i64 k, .int .u64 sa, .int .u64 sb, .int .u64 sc, .int .u64 sd, .slice A ts.length c] 153)) (some g) := fun m =>
    ⟨(HC.out.set m).alloc _, only_alloc (only_setCell (World.grownBy.refl _ _) 0 _) _⟩
  have HEND := Lib.hid hend
  clear hend
  by_cases c1 : 80 < n + 1
  · have HR1 := Lib.hid (HR.out.trans (if_pos c1))
    clear hse
    go_enter Tryz.func170, Tryz.ntmps170
    go_wp2_with fail
    go_ret
    exact ⟨by rw [HR1.out]; rfl, by rw [HR1.out]; exact HEND.out _⟩
  · by_cases c2 : 20 < deep
    · have HR1 := Lib.hid ((HR.out.trans (if_neg c1)).trans (if_pos c2))
      clear hse
      go_enter Tryz.func170, Tryz.ntmps170
      go_wp2_with fail
      go_ret
      exact ⟨by rw [HR1.out]; rfl, by rw [HR1.out]; exact HEND.out _⟩
    · have HR0 := Lib.hid ((HR.out.trans (if_neg c1)).trans (if_neg c2))
      go_enter Tryz.func170, Tryz.ntmps170
      go_wp2_with fail
      have hn80 : n + 1 ≤ 80 := by omega
      have hd20 : deep ≤ 20 := by omega
      clear hc0 hf0 hn1 c1 c2
      cases q1 : (kidsI k != (ts.length : Int)) with
      | true =>
        have HR1 : Hid (chk (.node k ⟨sa, sb, sc, sd⟩ ts) deep n = (n + 1, 1)) := HR0.out.trans (if_pos (by unfold badT; rw [q1]; rfl))
        clear hse
        go_quiet ((go_at_call 203; exact Calls.quiet_of_same (kids_any _ _)))
        go_wp2_with fail
        go_ret
        have he := HEND.out (n + 1)
        exact ⟨by rw [HR1.out]; rfl, by rw [HR1.out]; exact ⟨he.1.drewN nq, only_drewN he.2 nq⟩⟩
      | false =>
        cases q2 : (k == 3) == sameB ⟨sa, sb, sc, sd⟩ ⟨0, 0, 0, 0⟩ with
        | true =>
          have HR1 : Hid (chk (.node k ⟨sa, sb, sc, sd⟩ ts) deep n = (n + 1, 1)) := HR0.out.trans (if_pos (by have : ((k == 3) == decide ((⟨sa, sb, sc, sd⟩ : Set4) = Set4.zero)) = true := q2; unfold badT; rw [q1, this]; rfl))
          go_quiet ((go_at_call 203; exact Calls.quiet_of_same (kids_any _ _)))
          go_wp2_with fail
          go_ret
          have he := HEND.out (n + 1)
          exact ⟨by rw [HR1.out]; rfl, by rw [HR1.out]; exact ⟨he.1.drewN nq, only_drewN he.2 nq⟩⟩
        | false =>
          have HR1 : Hid (chk (.node k ⟨sa, sb, sc, sd⟩ ts) deep n = chkL ts (deep + 1) (n + 1)) := HR0.out.trans (if_neg (by have : ((k == 3) == decide ((⟨sa, sb, sc, sd⟩ : Set4) = Set4.zero)) = false := q2; unfold badT; rw [q1, this]; decide))
          have hlen : Hid (kidsI k = ts.length) := by simpa [Hid] using q1
          go_quiet ((go_at_call 203; exact Calls.quiet_of_same (kids_any _ _)))
          go_wp2_with fail
          have hts : ts.length ≤ 2 := by
            have := hlen.out
            have : kidsI k ≤ 2 := by unfold kidsI; split <;> (try split) <;> (try split) <;> omega
            omega
          have he := HEND.out (n + 1)
          have hW : ∃ W : World, W = ((w.setCell ⟨g, 0, none⟩ (.int .i64 (n + 1))).alloc (.cells #[.int .i64 k, .int .u64 sa, .int .u64 sb, .int .u64 sc, .int .u64 sd, .slice A ts.length c] 153)).drewN nq := ⟨_, rfl⟩
          obtain ⟨W, hW⟩ := hW
          have e1 : Cnt W g (n + 1) := by rw [hW]; exact he.1.drewN nq
          have e2 : w.grownBy W (some g) := by rw [hW]; exact only_drewN he.2 nq
          rw [← hW]
          clear he hW hse q1 q2 HEND HC
          go_loopw [44] (fun i wr => CkRel g w W ts (deep + 1) (n + 1) i wr) (fun i _ => ts.length - (intOf i).toNat)
          case atStart => exact ⟨0, n + 1, Nat.zero_le _, rfl, by omega, hn80, rfl, e1, World.grownBy.refl _ _, e2⟩
          case round =>
            obtain ⟨j, m, hj, rfl, hm0, hm1, HM, hcn, hbW, hbw⟩ := hrel
            by_cases hlt : j < ts.length
            · have hk2 := hk.only hbw hgl
              obtain ⟨b, off, cs2, rfl, hbB, hca, hl2⟩ := hk2.at j hlt
              have IHj := IH.out j hlt
              have HST := Lib.hid (chkL_step ts j hlt (deep + 1) m)
              have hrng := chk_rng ts[j] (deep + 1) m hm1
              generalize ts[j] = t2 at *
              obtain ⟨A2, c2, hcs2, hl3⟩ := hl2.parts
              have ⟨y0, y1, y2, y3, y4, y5⟩ := (hcs2 ▸ hca : CellsAt wr b (off + j * 6) (cellsX t2.kind t2.set A2 t2.kids.length c2)).six
              have hzr : w.heap.size ≤ wr.heap.size := hbw.size
              have hq1 : b < wr.heap.size := by omega
              have hq2 : g < wr.heap.size := by omega
              have HQ : Hid (∀ W, Calls Tryz.prog 170 #[.agg #[.int .i64 t2.kind, .int .u64 t2.set.a, .int .u64 t2.set.b, .int .u64 t2.set.c, .int .u64 t2.set.d, .slice A2 t2.kids.length c2], .int .i64 (deep + 1), .pointer (some ⟨g, 0, none⟩)] (wr.alloc W) (CheckPost g (chk t2 (deep + 1) m) (wr.alloc W))) := fun W =>
                IHj _ (wr.alloc W) g (deep + 1) m ((hcs2 ▸ hl2 : LT wr g t2 (cellsX t2.kind t2.set A2 t2.kids.length c2)).keep (Nat.le_refl _) (fun bb o hp => ((Below.refl wr.heap.size wr).alloc (Nat.le_refl _) W).cell (p := ⟨bb, o, none⟩) (by show bb < wr.heap.size; omega))) (hcn.alloc W) hm0 hm1 (by omega) (by omega)
              have hd1 : deep + 1 ≤ 9223372036854775807 := by omega
              clear IHj hl2 hca hcs2 hl3
              cases hr : chk t2 (deep + 1) m with
              | mk rn re =>
                rw [hr] at hrng HQ HST
                have hst := HST.out
                dsimp only at hrng hst
                clear HST
                by_cases hre : re = 0
                · subst hre
                  rw [if_neg (by simp)] at hst
                  have HST := Lib.hid hst
                  have hr80 := hrng.2.2 rfl
                  have hr81 := hrng.1
                  clear hr hst hrng
                  go_wp2_with fail
                  refine (HQ.out _).mono ?_
                  rintro e w2 ⟨rfl, hcn2, hb2⟩
                  clear y0 y1 y2 y3 y4 y5
                  go_wp2_with fail
                  go_roundw
                  case rel => exact ⟨j + 1, rn, by omega, by go_num, by omega, hr80, HST.out.symm.trans HM.out, hcn2, only_trans (only_alloc hbW _) hb2, only_trans (only_alloc hbw _) hb2⟩
                  case measure => simp [intOf] <;> omega
                · rw [if_pos hre] at hst
                  have HST := Lib.hid hst
                  have qe : (re != 0) = true := bne_iff_ne.2 hre
                  clear hr hre hst
                  go_wp2_with fail
                  refine (HQ.out _).mono ?_
                  rintro e w2 ⟨rfl, hcn2, hb2⟩
                  clear y0 y1 y2 y3 y4 y5
                  go_wp2_with fail
                  go_ret
                  have HF := HR1.out.trans (HM.out.symm.trans HST.out)
                  exact ⟨by rw [HF]; rfl, by rw [HF]; exact ⟨hcn2, only_trans (only_alloc hbw _) hb2⟩⟩
            · obtain rfl : j = ts.length := by omega
              have HM2 : Hid (chkL ts (deep + 1) (n + 1) = (m, 0)) := by
                unfold Hid
                rw [← HM.out, List.drop_length, chkL]
              go_wp2_with fail
              go_ret
              exact ⟨by rw [HR1.out, HM2.out]; rfl, by rw [HR1.out, HM2.out]; exact ⟨hcn, hbw⟩⟩
theorem check_any (t : Tree) : CheckC t :=
  match t with
  | .node k s ts => check_node k s ts fun i h => check_any ts[i]
termination_by SizeOf.sizeOf t
decreasing_by
  have := List.sizeOf_lt_of_mem (List.getElem_mem h)
  simp only [Tree.node.sizeOf_spec]
  omega
def checkT (t : Tree) : Int := (chk t 1 0).2
set_option maxRecDepth 100000 in
theorem Check_any2 (t : Tree) (cs : List Value) (w : World) (h : LT w w.heap.size t cs) :
    Calls Tryz.prog 127 #[.agg cs.toArray] w fun e w' => e = .returned (.int .i64 (checkT t)) ∧ Below w.heap.size w w' := by
  obtain ⟨A2, c2, rfl, _⟩ := h.parts
  have HC : Hid (∀ (o : Obj), Calls Tryz.prog 170 #[.agg #[.int .i64 t.kind, .int .u64 t.set.a, .int .u64 t.set.b, .int .u64 t.set.c, .int .u64 t.set.d, .slice A2 t.kids.length c2], .int .i64 1, .pointer (some ⟨w.heap.size + 1, 0, none⟩)] ((w.alloc o).alloc (.cells #[.int .i64 0] 3)) (CheckPost (w.heap.size + 1) (chk t 1 0) ((w.alloc o).alloc (.cells #[.int .i64 0] 3)))) := fun o =>
    check_any t _ _ (w.heap.size + 1) 1 0 (h.keep (Nat.le_succ _) (fun b o' hp => (((Below.refl w.heap.size w).alloc (Nat.le_refl _) o).alloc (by simp) _).cell (p := ⟨b, o', none⟩) hp)) (by have := heap_alloc_new (w.alloc o) (.cells #[.int .i64 0] 3); simpa [Cnt] using this) (by decide) (by decide) (by decide) (by decide)
  clear h
  unfold cellsX
  go_enter Tryz.func127, Tryz.ntmps127
  go_wp2_with fail
  refine (HC.out _).mono ?_
  rintro e w2 ⟨rfl, _, hb2⟩
  go_wp2_with fail
  go_ret
  have hbx : ∀ o o', Below w.heap.size w ((w.alloc o).alloc o') := fun o o' => ((Below.refl _ _).alloc (Nat.le_refl _) o).alloc (by simp) o'
  exact ⟨rfl, (hbx _ _).trans ⟨hb2.os, hb2.tape, hb2.output, hb2.size, fun i hi => hb2.block i (by simp; omega) (fun e => by injection e with e; omega)⟩⟩
end Go.Proofs.YtdkbfljhfhjofaaGreatDoor
namespace Go.Proofs.YtdkbfljhfhjofaaGreatDoor
open Go.RowKit
theorem alt_all (s : ByteArray) (hs : s.size ≤ 4096) : ∀ d op, op + d = 20 → ReadsT 125 s op (altD s.data.toList (d + 1))
  | 0, op, h => alt_any s op _ hs (good_rowD _ 0) (row_any s op _ hs (good_pieceD _ 0) (piece_any s op _ hs (good_altD _ 0) (atom_any s op _ hs (by omega) (good_altD _ 0) fun h1 => absurd h1 (by omega))))
  | d + 1, op, h => alt_any s op _ hs (good_rowD _ (d + 1)) (row_any s op _ hs (good_pieceD _ (d + 1)) (piece_any s op _ hs (good_altD _ (d + 1)) (atom_any s op _ hs (by omega) (good_altD _ (d + 1)) fun _ => alt_all s hs d (op + 1) (by omega))))
def startR : RS := ⟨0, 0, 0⟩
def topT (s : List UInt8) : TR := altD s 21 startR
def topR (s : List UInt8) : RS := if (topT s).2.e = 0 ∧ (topT s).2.pos < s.length then failR (topT s).2 3 else (topT s).2
/-- What Parse answers: a tree, a place, an error. -/
def parseP (s : List UInt8) : Tree × Nat × Int :=
  if 200 < s.length then (kT 0, 0, 2) else if (topR s).e ≠ 0 then (kT 0, (topR s).pos, (topR s).e) else if checkT (topT s).1 ≠ 0 then (kT 0, s.length, checkT (topT s).1) else ((topT s).1, 0, 0)
def PaPost (P : Tree × Nat × Int) (w : World) (e : Ending) (w' : World) : Prop :=
  ∃ A c, e = .returned (.tuple #[argX P.1 A c, .int .i64 P.2.1, .int .i64 P.2.2]) ∧ NewX w w' P.1 A c ∧ Below w.heap.size w w'
theorem NewX.drew {w W : World} {t : Tree} {A : Option Addr} {c : Nat} (h : NewX w W t A c) : NewX w W.drew t A c := by
  have hk : ∀ b o, Fresh w.heap.size W.heap.size b → W.drew.cell? ⟨b, o, none⟩ = W.cell? ⟨b, o, none⟩ := fun _ _ _ => rfl
  have hp : ∀ b, Fresh w.heap.size W.heap.size b → Fresh w.heap.size W.drew.heap.size b := fun _ h => h
  exact LX.keep hp hk _ _ h
structure PaSt (s : ByteArray) (w : World) (k : Nat) (x : TR) (A : Option Addr) (c : Nat) (wr : World) : Prop where
  rd : RdAt (w.heap.size + 1) s x.2 wr
  zero : ZeroX wr w.heap.size
  out : PutX wr k (cellsX x.1.kind x.1.set A x.1.kids.length c)
  tree : LX wr (fun b => w.heap.size + 1 < b ∧ b < wr.heap.size) x.1 (cellsX x.1.kind x.1.set A x.1.kids.length c)
  low : Below w.heap.size w wr
  far : w.heap.size + 1 < k
theorem below_row {a w w' : World} {B g : Nat} (h : Below B a w) (hB : B ≤ w.heap.size) (hg : w.grownBy w' (some g)) (hBg : B ≤ g) : Below B a w' :=
  ⟨hg.os.trans h.os, hg.tape.trans h.tape, hg.output.trans h.output, Nat.le_trans h.size hg.size, fun i hi => (hg.block i (by omega) (fun e => by have := Option.some.inj e; omega)).trans (h.block i hi)⟩
theorem PaSt.call {s : ByteArray} {w : World} {k : Nat} {x : TR} {q : RS} {A : Option Addr} {c : Nat} {wr w' : World} (h : PaSt s w k x A c wr) (e : RdEnd (w.heap.size + 1) s q wr w') : PaSt s w k (x.1, q) A c w' :=
  ⟨e.1, h.zero.grown e.2 (by omega), h.out.grown e.2 (by have := h.far; omega),
    LX.keep (fun b hb => ⟨hb.1, Nat.lt_of_lt_of_le hb.2 e.2.size⟩) (fun b o hb => cell_grown e.2 hb.2 (by have := hb.1; omega)) _ _ h.tree,
    below_row h.low h.low.size e.2 (Nat.le_succ _), h.far⟩
theorem PaSt.more {s : ByteArray} {w : World} {k : Nat} {x : TR} {A : Option Addr} {c : Nat} {wr w' : World} (h : PaSt s w k x A c wr) (hb : Below wr.heap.size wr w') : PaSt s w k x A c w' := h.call (rd_end h.rd hb)
/-- The result's block is filled. -/
theorem pa_end {w wr : World} {t : Tree} {A : Option Addr} {c : Nat} (hz : ZeroX wr w.heap.size) (hf : Below w.heap.size w wr) (ht : LX wr (fun b => w.heap.size < b ∧ b < wr.heap.size) t (cellsX t.kind t.set A t.kids.length c)) :
    PutX (fill6 wr w.heap.size (.int .i64 t.kind) (.int .u64 t.set.a) (.int .u64 t.set.b) (.int .u64 t.set.c) (.int .u64 t.set.d) (.slice A t.kids.length c)) w.heap.size (cellsX t.kind t.set A t.kids.length c) ∧
    NewX w (fill6 wr w.heap.size (.int .i64 t.kind) (.int .u64 t.set.a) (.int .u64 t.set.b) (.int .u64 t.set.c) (.int .u64 t.set.d) (.slice A t.kids.length c)) t A c ∧
    Below w.heap.size w (fill6 wr w.heap.size (.int .i64 t.kind) (.int .u64 t.set.a) (.int .u64 t.set.b) (.int .u64 t.set.c) (.int .u64 t.set.d) (.slice A t.kids.length c)) := by
  have hb : Below w.heap.size wr (fill6 wr w.heap.size (.int .i64 t.kind) (.int .u64 t.set.a) (.int .u64 t.set.b) (.int .u64 t.set.c) (.int .u64 t.set.d) (.slice A t.kids.length c)) := fill6_below (Below.refl _ _) (Nat.le_refl _) _ _ _ _ _ _
  have hot : ∀ i, i ≠ w.heap.size → (fill6 wr w.heap.size (.int .i64 t.kind) (.int .u64 t.set.a) (.int .u64 t.set.b) (.int .u64 t.set.c) (.int .u64 t.set.d) (.slice A t.kids.length c)).heap[i]? = wr.heap[i]? := fun i hi => by
    unfold fill6
    rw [Below.heap_setCell _ _ _ _ hi, Below.heap_setCell _ _ _ _ hi, Below.heap_setCell _ _ _ _ hi, Below.heap_setCell _ _ _ _ hi, Below.heap_setCell _ _ _ _ hi, Below.heap_setCell _ _ _ _ hi]
  refine ⟨hz.fill _ _ _ _ _ _, LX.keep (fun b hb2 => ⟨Nat.le_of_lt hb2.1, Nat.lt_of_lt_of_le hb2.2 hb.size⟩) (fun b o hb2 => ?_) _ _ ht, hf.trans hb⟩
  simp only [World.cell?, hot b (show b ≠ w.heap.size by have := hb2.1; omega)]
set_option maxRecDepth 100000 in
set_option maxHeartbeats 3200000 in
theorem Parse_any (s : ByteArray) (w : World) (hsz : s.size ≤ maxLen) : Calls Tryz.prog 89 #[.string s] w (PaPost (parseP s.data.toList) w) := by
  have hsl : s.data.toList.length = s.size := by simp
  obtain ⟨W0, hW0⟩ : ∃ W0, w.alloc (.cells #[.int .i64 0, .int .u64 0, .int .u64 0, .int .u64 0, .int .u64 0, .slice none 0 0] 153) = W0 := ⟨_, rfl⟩
  have hb0 : Below w.heap.size w W0 := by rw [← hW0]; exact (Below.refl _ _).alloc (Nat.le_refl _) _
  have hz0 : ZeroX W0 w.heap.size := by rw [← hW0]; exact ZeroX.new w
  have hs0 : W0.heap.size = w.heap.size + 1 := by rw [← hW0]; simp
  have HW0 := Lib.hid hW0
  unfold maxLen at hsz
  have HP : Hid (parseP s.data.toList = if 200 < s.data.toList.length then (kT 0, 0, 2) else if (topR s.data.toList).e ≠ 0 then (kT 0, (topR s.data.toList).pos, (topR s.data.toList).e) else if checkT (topT s.data.toList).1 ≠ 0 then (kT 0, s.data.toList.length, checkT (topT s.data.toList).1) else ((topT s.data.toList).1, 0, 0)) := rfl
  obtain ⟨P, hPP⟩ : ∃ P, parseP s.data.toList = P := ⟨_, rfl⟩
  rw [hPP] at HP ⊢
  rw [hsl] at HP
  clear hPP hW0
  by_cases h200 : 200 < s.size
  · have d0 : decide ((200 : Int) < (s.size : Int)) = true := decide_eq_true (by omega)
    have HPR : Hid (P = (kT 0, 0, 2)) := by unfold Hid; rw [HP.out, if_pos h200]
    have HD : Hid (PutX (fill6 W0 w.heap.size (.int .i64 0) (.int .u64 0) (.int .u64 0) (.int .u64 0) (.int .u64 0) (.slice none 0 0)) w.heap.size [.int .i64 0, .int .u64 0, .int .u64 0, .int .u64 0, .int .u64 0, .slice none 0 0] ∧
        NewX w (fill6 W0 w.heap.size (.int .i64 0) (.int .u64 0) (.int .u64 0) (.int .u64 0) (.int .u64 0) (.slice none 0 0)) (kT 0) none 0 ∧ Below w.heap.size w (fill6 W0 w.heap.size (.int .i64 0) (.int .u64 0) (.int .u64 0) (.int .u64 0) (.int .u64 0) (.slice none 0 0))) :=
      pa_end (t := kT 0) hz0 hb0 (LX.leaf _ _ _ _ _ _ zero_wfR)
    have ⟨z0, z1, z2, z3, z4, z5⟩ := hz0.cells
    have y0 := hz0.free 0
    have y1 := hz0.free 1
    have y2 := hz0.free 2
    have y3 := hz0.free 3
    have y4 := hz0.free 4
    have y5 := hz0.free 5
    clear HP hb0 hz0 hs0 hsl
    go_enter Tryz.func89, Tryz.ntmps89
    go_upto_region 1 with fail
    rw [HW0.out]
    go_wp2_with fail
    obtain ⟨d1, d2, d3⟩ := HD.out
    have ⟨s0, s1, s2, s3, s4, s5⟩ := d1.cells
    unfold fill6 at s0 s1 s2 s3 s4 s5
    exact bodyPost_ret (v := .tuple #[argX (kT 0) none 0, .int .i64 0, .int .i64 2]) (by simp [results, Tryz.results89, go_sem, s0, s1, s2, s3, s4, s5, argX, kT, Tree.kind, Tree.set, Tree.kids, Set4.zero]) rfl (by rw [HPR.out]; exact ⟨none, 0, rfl, d2, d3⟩)
  · have d0 : decide ((200 : Int) < (s.size : Int)) = false := decide_eq_false (by omega)
    have hs : s.size ≤ 4096 := by omega
    have HP2 : Hid (P = if (topR s.data.toList).e ≠ 0 then (kT 0, (topR s.data.toList).pos, (topR s.data.toList).e) else if checkT (topT s.data.toList).1 ≠ 0 then (kT 0, s.size, checkT (topT s.data.toList).1) else ((topT s.data.toList).1, 0, 0)) := by unfold Hid; rw [HP.out, if_neg h200]
    obtain ⟨W1, hW1⟩ : ∃ W1, W0.alloc (.cells #[.string s, .int .i64 0, .int .i64 0, .int .i64 0] 198) = W1 := ⟨_, rfl⟩
    have hr1 : RdAt (w.heap.size + 1) s startR W1 := by rw [← hW1, ← hs0]; exact heap_alloc_new W0 _
    have hb1 : Below w.heap.size w W1 := by rw [← hW1]; exact hb0.alloc (by omega) _
    have hz1 : ZeroX W1 w.heap.size := by rw [← hW1]; exact (Below.heap_alloc _ _ _ (by omega)).trans hz0
    have hs1 : W1.heap.size = w.heap.size + 1 + 1 := by rw [← hW1, World.size_alloc, hs0]
    have hga := good_altD s.data.toList 21 startR (Nat.zero_le _)
    have HAL : Hid (Calls Tryz.prog 125 #[.pointer (some ⟨w.heap.size + 1, 0, none⟩)] W1 (TxPost (w.heap.size + 1) s (topT s.data.toList) W1)) := alt_all s hs 20 0 rfl (w.heap.size + 1) startR W1 hr1 (Nat.zero_le _) rfl
    have HTR : Hid (topR s.data.toList = if (topT s.data.toList).2.e = 0 ∧ (topT s.data.toList).2.pos < s.size then failR (topT s.data.toList).2 3 else (topT s.data.toList).2) := by unfold Hid topR; rw [hsl]
    have hTT : altD s.data.toList 21 startR = topT s.data.toList := rfl
    rw [hTT] at hga
    obtain ⟨T, hT⟩ : ∃ T, topT s.data.toList = T := ⟨_, rfl⟩
    rw [hT] at hga HAL HTR HP2
    have hTp : T.2.pos ≤ s.size := by have := hga.step.inn; omega
    have HGA := Lib.hid hga
    have HS1 := Lib.hid (And.intro hz1 (And.intro hb1 hs1))
    have HW1 := Lib.hid hW1
    clear HP hb0 hz0 hr1 hb1 hz1 hs1 hga hTT hT hW1
    obtain ⟨Q, hQ⟩ : ∃ Q, topR s.data.toList = Q := ⟨_, rfl⟩
    rw [hQ] at HTR HP2
    clear hQ
    go_enter Tryz.func89, Tryz.ntmps89
    go_upto_region 1 with fail
    rw [HW0.out]
    go_upto_region 4 with fail
    -- WAYS
    rw [HW1.out]
    go_wp2_with (go_at_call 125; apply Hid.out)
    unfold Hid
    refine HAL.out.mono ?_
    rintro e w2 ⟨A, c, rfl, hn2, h2⟩
    have hs1 := HS1.out.2.2
    have HPS : Hid (PaSt s w w2.heap.size T A c (w2.alloc (.cells #[.int .i64 T.1.kind, .int .u64 T.1.set.a, .int .u64 T.1.set.b, .int .u64 T.1.set.c, .int .u64 T.1.set.d, .slice A T.1.kids.length c] 153))) := by
      have hal : Below w2.heap.size w2 (w2.alloc (.cells #[.int .i64 T.1.kind, .int .u64 T.1.set.a, .int .u64 T.1.set.b, .int .u64 T.1.set.c, .int .u64 T.1.set.d, .slice A T.1.kids.length c] 153)) := (Below.refl _ _).alloc (Nat.le_refl _) _
      have h12 := h2.2.size
      have hz2 := HS1.out.1.grown h2.2 (by omega)
      exact ⟨h2.1.below hal, (hal.block _ hz2.lt).trans hz2, PutX.new w2 _, LX.keep (fun b hb => ⟨by have := hb.1; omega, by have := hb.2; have := hal.size; omega⟩) (fun b o hb => hal.cell (p := ⟨b, o, none⟩) hb.2) _ _ hn2,
        (below_row HS1.out.2.1 HS1.out.2.1.size h2.2 (Nat.le_succ _)).trans (hal.mono (by omega)), by omega⟩
    clear hn2 h2 hs1 HS1 hs0
    unfold argX
    go_upto_region 5 with fail
    generalize w2.alloc (.cells #[.int .i64 T.1.kind, .int .u64 T.1.set.a, .int .u64 T.1.set.b, .int .u64 T.1.set.c, .int .u64 T.1.set.d, .slice A T.1.kids.length c] 153) = W3 at *
    generalize w2.heap.size = k at *
    have ⟨c0, c1, c2, c3⟩ := HPS.out.rd.cells
    by_cases he : T.2.e = 0
    · have d1 : (T.2.e == 0) = true := by rw [he]; rfl
      by_cases hl : T.2.pos < s.size
      · have d2 : decide ((T.2.pos : Int) < (s.size : Int)) = true := decide_eq_true (by omega)
        obtain ⟨qq, hqq⟩ : ∃ qq : RS, failR T.2 3 = qq := ⟨_, rfl⟩
        have hQ : Q = qq := by rw [HTR.out, if_pos ⟨he, hl⟩, hqq]
        have hQe : qq.e = 3 := by rw [← hqq]; unfold failR; rw [if_pos he]
        have HPR : Hid (P = (kT 0, qq.pos, qq.e)) := by unfold Hid; rw [HP2.out, hQ, if_pos (by rw [hQe]; decide)]
        have d3 : (qq.e != 0) = true := by rw [hQe]; rfl
        have HFL : Hid (Calls Tryz.prog 126 #[.pointer (some ⟨w.heap.size + 1, 0, none⟩), .int .i64 3] W3 fun e w' => e = .returned (.tuple #[]) ∧ PaSt s w k (T.1, qq) A c w') :=
          (fail_any (w.heap.size + 1) s T.2 3 W3 HPS.out.rd).mono (fun e w' ⟨h1, h2⟩ => ⟨h1, by rw [hqq] at h2; exact HPS.out.call h2⟩)
        clear hQ hQe hqq
        go_wp2_with (go_at_call 126; apply Hid.out)
        unfold Hid
        refine HFL.out.mono ?_
        rintro e w4 ⟨rfl, h4⟩
        have ⟨c0, c1, c2, c3⟩ := h4.rd.cells
        have HD : Hid (PutX (fill6 w4 w.heap.size (.int .i64 0) (.int .u64 0) (.int .u64 0) (.int .u64 0) (.int .u64 0) (.slice none 0 0)) w.heap.size [.int .i64 0, .int .u64 0, .int .u64 0, .int .u64 0, .int .u64 0, .slice none 0 0] ∧ NewX w (fill6 w4 w.heap.size (.int .i64 0) (.int .u64 0) (.int .u64 0) (.int .u64 0) (.int .u64 0) (.slice none 0 0)) (kT 0) none 0 ∧ Below w.heap.size w (fill6 w4 w.heap.size (.int .i64 0) (.int .u64 0) (.int .u64 0) (.int .u64 0) (.int .u64 0) (.slice none 0 0))) := pa_end (t := (kT 0)) (A := none) (c := 0) h4.zero h4.low (LX.leaf _ _ _ _ _ _ zero_wfR)
        have ⟨z0, z1, z2, z3, z4, z5⟩ := h4.zero.cells
        have y0 := h4.zero.free 0
        have y1 := h4.zero.free 1
        have y2 := h4.zero.free 2
        have y3 := h4.zero.free 3
        have y4 := h4.zero.free 4
        have y5 := h4.zero.free 5
        go_upto_region 8 with fail
        go_region
        obtain ⟨d1, d2, d3⟩ := HD.out
        have ⟨s0, s1, s2, s3, s4, s5⟩ := d1.cells
        unfold fill6 at s0 s1 s2 s3 s4 s5
        have HDD := Lib.hid (And.intro (NewX.drew d2) d3.drew)
        clear d1 d2 d3 z0 z1 z2 z3 z4 z5 y0 y1 y2 y3 y4 y5 c0 c1 c2 c3
        go_wp2_with fail
        exact bodyPost_ret (v := .tuple #[argX (kT 0) none 0, .int .i64 qq.pos, .int .i64 qq.e]) (by simp [results, Tryz.results89, go_sem, s0, s1, s2, s3, s4, s5, argX, kT, Tree.kind, Tree.set, Tree.kids, Set4.zero]) rfl (by rw [HPR.out]; exact ⟨none, 0, rfl, HDD.out.1, HDD.out.2⟩)
      · have d2 : decide ((T.2.pos : Int) < (s.size : Int)) = false := decide_eq_false (by omega)
        have hQ : Q = T.2 := by rw [HTR.out, if_neg (fun h => hl h.2)]
        have d3 : (T.2.e != 0) = false := by rw [he]; rfl
        have HP3 : Hid (P = if checkT T.1 ≠ 0 then (kT 0, s.size, checkT T.1) else (T.1, 0, 0)) := by unfold Hid; rw [HP2.out, hQ, if_neg (fun h => h he)]
        have hl2 : s.size ≤ T.2.pos := by omega
        clear hQ he hl
        have HCK : Hid (Calls Tryz.prog 127 #[.agg #[.int .i64 T.1.kind, .int .u64 T.1.set.a, .int .u64 T.1.set.b, .int .u64 T.1.set.c, .int .u64 T.1.set.d, .slice A T.1.kids.length c]] W3 fun e w' => e = .returned (.int .i64 (checkT T.1)) ∧ PaSt s w k T A c w') :=
          (Check_any2 T.1 (cellsX T.1.kind T.1.set A T.1.kids.length c) W3 (LX.lt (fun _ hb => hb.2) _ _ HPS.out.tree)).mono (fun e w' ⟨h1, h2⟩ => ⟨h1, HPS.out.more h2⟩)
        have ⟨o0, o1, o2, o3, o4, o5⟩ := (show PutX W3 k [_, _, _, _, _, _] from HPS.out.out).cells
        go_wp2_with (go_at_call 127; apply Hid.out)
        unfold Hid
        refine HCK.out.mono ?_
        rintro e w4 ⟨rfl, h4⟩
        clear c0 c1 c2 c3 o0 o1 o2 o3 o4 o5 HCK d1 d2 d3
        by_cases hce : checkT T.1 = 0
        · have d4 : (checkT T.1 != 0) = false := by rw [hce]; rfl
          have HPR : Hid (P = (T.1, 0, 0)) := by unfold Hid; rw [HP3.out, if_neg (fun h => h hce)]
          have HD : Hid (PutX (fill6 w4 w.heap.size (.int .i64 T.1.kind) (.int .u64 T.1.set.a) (.int .u64 T.1.set.b) (.int .u64 T.1.set.c) (.int .u64 T.1.set.d) (.slice A T.1.kids.length c)) w.heap.size [.int .i64 T.1.kind, .int .u64 T.1.set.a, .int .u64 T.1.set.b, .int .u64 T.1.set.c, .int .u64 T.1.set.d, .slice A T.1.kids.length c] ∧ NewX w (fill6 w4 w.heap.size (.int .i64 T.1.kind) (.int .u64 T.1.set.a) (.int .u64 T.1.set.b) (.int .u64 T.1.set.c) (.int .u64 T.1.set.d) (.slice A T.1.kids.length c)) T.1 A c ∧ Below w.heap.size w (fill6 w4 w.heap.size (.int .i64 T.1.kind) (.int .u64 T.1.set.a) (.int .u64 T.1.set.b) (.int .u64 T.1.set.c) (.int .u64 T.1.set.d) (.slice A T.1.kids.length c))) := pa_end (t := T.1) (A := A) (c := c) h4.zero h4.low (LX.keep (fun b hb => ⟨by have := hb.1; omega, hb.2⟩) (fun _ _ _ => rfl) _ _ h4.tree)
          have ⟨z0, z1, z2, z3, z4, z5⟩ := h4.zero.cells
          have y0 := h4.zero.free 0
          have y1 := h4.zero.free 1
          have y2 := h4.zero.free 2
          have y3 := h4.zero.free 3
          have y4 := h4.zero.free 4
          have y5 := h4.zero.free 5
          have ⟨o0, o1, o2, o3, o4, o5⟩ := (show PutX w4 k [_, _, _, _, _, _] from h4.out).cells
          clear h4 hce
          go_wp2_with fail
          obtain ⟨d1, d2, d3⟩ := HD.out
          have ⟨s0, s1, s2, s3, s4, s5⟩ := d1.cells
          unfold fill6 at s0 s1 s2 s3 s4 s5
          exact bodyPost_ret (v := .tuple #[argX T.1 A c, .int .i64 0, .int .i64 0]) (by simp [results, Tryz.results89, go_sem, s0, s1, s2, s3, s4, s5, argX]) rfl (by rw [HPR.out]; exact ⟨A, c, rfl, d2, d3⟩)
        · have d4 : (checkT T.1 != 0) = true := bne_iff_ne.2 hce
          have HPR : Hid (P = (kT 0, s.size, checkT T.1)) := by unfold Hid; rw [HP3.out, if_pos hce]
          have HD : Hid (PutX (fill6 w4 w.heap.size (.int .i64 0) (.int .u64 0) (.int .u64 0) (.int .u64 0) (.int .u64 0) (.slice none 0 0)) w.heap.size [.int .i64 0, .int .u64 0, .int .u64 0, .int .u64 0, .int .u64 0, .slice none 0 0] ∧ NewX w (fill6 w4 w.heap.size (.int .i64 0) (.int .u64 0) (.int .u64 0) (.int .u64 0) (.int .u64 0) (.slice none 0 0)) (kT 0) none 0 ∧ Below w.heap.size w (fill6 w4 w.heap.size (.int .i64 0) (.int .u64 0) (.int .u64 0) (.int .u64 0) (.int .u64 0) (.slice none 0 0))) := pa_end (t := (kT 0)) (A := none) (c := 0) h4.zero h4.low (LX.leaf _ _ _ _ _ _ zero_wfR)
          have ⟨z0, z1, z2, z3, z4, z5⟩ := h4.zero.cells
          have y0 := h4.zero.free 0
          have y1 := h4.zero.free 1
          have y2 := h4.zero.free 2
          have y3 := h4.zero.free 3
          have y4 := h4.zero.free 4
          have y5 := h4.zero.free 5
          clear h4 hce
          generalize checkT T.1 = ce at *
          go_wp2_with fail
          obtain ⟨d1, d2, d3⟩ := HD.out
          have ⟨s0, s1, s2, s3, s4, s5⟩ := d1.cells
          unfold fill6 at s0 s1 s2 s3 s4 s5
          exact bodyPost_ret (v := .tuple #[argX (kT 0) none 0, .int .i64 s.size, .int .i64 ce]) (by simp [results, Tryz.results89, go_sem, s0, s1, s2, s3, s4, s5, argX, kT, Tree.kind, Tree.set, Tree.kids, Set4.zero]) rfl (by rw [HPR.out]; exact ⟨none, 0, rfl, d2, d3⟩)
    · obtain ⟨qq, hqq⟩ : ∃ qq : RS, T.2 = qq := ⟨_, rfl⟩
      have h4 : PaSt s w k (T.1, qq) A c W3 := by rw [← hqq]; exact HPS.out
      have hQ : Q = T.2 := by rw [HTR.out, if_neg (fun h => he h.1)]
      have HPR : Hid (P = (kT 0, qq.pos, qq.e)) := by unfold Hid; rw [HP2.out, hQ, if_pos he, hqq]
      rw [hqq] at he
      have d1 : (qq.e == 0) = false := beq_eq_false_iff_ne.2 he
      have d3 : (qq.e != 0) = true := bne_iff_ne.2 he
      clear hQ he c0 c1 c2 c3 hqq HPS
      have ⟨c0, c1, c2, c3⟩ := h4.rd.cells
      have HD : Hid (PutX (fill6 W3 w.heap.size (.int .i64 0) (.int .u64 0) (.int .u64 0) (.int .u64 0) (.int .u64 0) (.slice none 0 0)) w.heap.size [.int .i64 0, .int .u64 0, .int .u64 0, .int .u64 0, .int .u64 0, .slice none 0 0] ∧ NewX w (fill6 W3 w.heap.size (.int .i64 0) (.int .u64 0) (.int .u64 0) (.int .u64 0) (.int .u64 0) (.slice none 0 0)) (kT 0) none 0 ∧ Below w.heap.size w (fill6 W3 w.heap.size (.int .i64 0) (.int .u64 0) (.int .u64 0) (.int .u64 0) (.int .u64 0) (.slice none 0 0))) := pa_end (t := (kT 0)) (A := none) (c := 0) h4.zero h4.low (LX.leaf _ _ _ _ _ _ zero_wfR)
      have ⟨z0, z1, z2, z3, z4, z5⟩ := h4.zero.cells
      have y0 := h4.zero.free 0
      have y1 := h4.zero.free 1
      have y2 := h4.zero.free 2
      have y3 := h4.zero.free 3
      have y4 := h4.zero.free 4
      have y5 := h4.zero.free 5
      go_upto_region 8 with fail
      go_region
      obtain ⟨d1, d2, d3⟩ := HD.out
      have ⟨s0, s1, s2, s3, s4, s5⟩ := d1.cells
      unfold fill6 at s0 s1 s2 s3 s4 s5
      have HDD := Lib.hid (And.intro (NewX.drew d2) d3.drew)
      clear d1 d2 d3 z0 z1 z2 z3 z4 z5 y0 y1 y2 y3 y4 y5 c0 c1 c2 c3
      go_wp2_with fail
      exact bodyPost_ret (v := .tuple #[argX (kT 0) none 0, .int .i64 qq.pos, .int .i64 qq.e]) (by simp [results, Tryz.results89, go_sem, s0, s1, s2, s3, s4, s5, argX, kT, Tree.kind, Tree.set, Tree.kids, Set4.zero]) rfl (by rw [HPR.out]; exact ⟨none, 0, rfl, HDD.out.1, HDD.out.2⟩)
end Go.Proofs.YtdkbfljhfhjofaaGreatDoor
