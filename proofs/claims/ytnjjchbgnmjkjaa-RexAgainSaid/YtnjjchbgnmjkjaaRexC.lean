/- The walk of rex.check. -/
import Derived.Test.YtnjjchbgnmjkjaaRexH
import Derived.Test.YtnjjchbgnmjkjaaMem2
import Derived.Deep.QuietTactic
import Derived.BigQuiet
namespace Go.Proofs.Ytnjjchbgnmjkjaa
open Go.RowKit

mutual
theorem chk_rng : ∀ (t : Tree) (deep n : Int), n ≤ 80 → n ≤ (chk t deep n).1 ∧ (chk t deep n).1 ≤ 81 ∧ ((chk t deep n).2 = 0 → (chk t deep n).1 ≤ 80)
  | .node k s ts, deep, n, h => by
    rw [chk]
    by_cases c1 : 80 < n + 1
    · rw [if_pos c1]; exact ⟨by show n ≤ n + 1; omega, by show n + 1 ≤ 81; omega, fun e => absurd (show (2 : Int) = 0 from e) (by decide)⟩
    · rw [if_neg c1]
      by_cases c2 : 20 < deep
      · rw [if_pos c2]; exact ⟨by show n ≤ n + 1; omega, by show n + 1 ≤ 81; omega, fun e => absurd (show (11 : Int) = 0 from e) (by decide)⟩
      · rw [if_neg c2]
        by_cases c3 : badT k s ts.length = true
        · rw [if_pos c3]; exact ⟨by show n ≤ n + 1; omega, by show n + 1 ≤ 81; omega, fun e => absurd (show (1 : Int) = 0 from e) (by decide)⟩
        · rw [if_neg c3]
          have := chkL_rng ts (deep + 1) (n + 1) (by omega)
          exact ⟨by omega, this.2⟩
theorem chkL_rng : ∀ (ts : List Tree) (deep n : Int), n ≤ 80 → n ≤ (chkL ts deep n).1 ∧ (chkL ts deep n).1 ≤ 81 ∧ ((chkL ts deep n).2 = 0 → (chkL ts deep n).1 ≤ 80)
  | [], deep, n, h => by rw [chkL]; exact ⟨Int.le_refl _, by show n ≤ 81; omega, fun _ => h⟩
  | t :: ts, deep, n, h => by
    rw [chkL]
    have h1 := chk_rng t deep n h
    by_cases c : (chk t deep n).2 ≠ 0
    · rw [if_pos c]; exact h1
    · rw [if_neg c]
      have h2 := chkL_rng ts deep _ (h1.2.2 (Classical.not_not.1 c))
      exact ⟨by omega, h2.2⟩
end
theorem chkL_step (ts : List Tree) (i : Nat) (h : i < ts.length) (deep n : Int) : chkL (ts.drop i) deep n = if (chk ts[i] deep n).2 ≠ 0 then chk ts[i] deep n else chkL (ts.drop (i + 1)) deep (chk ts[i] deep n).1 := by
  rw [List.drop_eq_getElem_cons h, chkL]

theorem chk_node (k : Int) (s : Set4) (ts : List Tree) (deep n : Int) : chk (.node k s ts) deep n =
    if 80 < n + 1 then (n + 1, 2) else if 20 < deep then (n + 1, 11) else if badT k s ts.length = true then (n + 1, 1) else chkL ts (deep + 1) (n + 1) := by rw [chk]
/-- A counter that is known whole. -/
def Cnt (w : World) (g : Nat) (n : Int) : Prop := w.heap[g]? = some (.cells #[.int .i64 n] 3 (0, 0))
theorem Cnt.cell {w : World} {g : Nat} {n : Int} (h : Cnt w g n) : w.cell? ⟨g, 0, none⟩ = some (.int .i64 n) := cell_of_row w g 0 _ _ (0, 0) h
theorem Cnt.free {w : World} {g : Nat} {n : Int} (h : Cnt w g n) : w.frozen? ⟨g, 0, none⟩ = false := by unfold Cnt at h; simp [World.frozen?, h]
theorem Cnt.lt {w : World} {g : Nat} {n : Int} (h : Cnt w g n) : g < w.heap.size := by
  rcases Nat.lt_or_ge g w.heap.size with hlt | hge
  · exact hlt
  · unfold Cnt at h; rw [Array.getElem?_eq_none hge] at h; cases h
theorem Cnt.set {w : World} {g : Nat} {n : Int} (h : Cnt w g n) (m : Int) : Cnt (w.setCell ⟨g, 0, none⟩ (.int .i64 m)) g m := by unfold Cnt at h ⊢; simp [World.setCell, Array.getElem?_modify, h]
theorem Cnt.alloc {w : World} {g : Nat} {n : Int} (h : Cnt w g n) (o : Obj) : Cnt (w.alloc o) g n := (Below.heap_alloc w o g h.lt).trans h
theorem Cnt.drewN {w : World} {g : Nat} {n : Int} (h : Cnt w g n) (q : Nat) : Cnt (w.drewN q) g n := h
theorem only_alloc {a w : World} {row : Option Nat} (h : a.grownBy w row) (o : Obj) : a.grownBy (w.alloc o) row :=
  only_below h ((Below.refl _ _).alloc (Nat.le_refl _) o)
theorem LT.only {w w' : World} {g : Nat} {t : Tree} {cs : List Value} (h : LT w g t cs) (hb : w.grownBy w' (some g)) (hg : g < w.heap.size) : LT w' g t cs :=
  LT.keep (Nat.le_refl _) (fun b o hp => World.cell?_of_block (hb.block b (by omega) (fun e => by injection e with e; omega))) t cs h
theorem LK.only {w w' : World} {g : Nat} {ts : List Tree} {A : Option Addr} (h : LK w g ts A) (hb : w.grownBy w' (some g)) (hg : g < w.heap.size) : LK w' g ts A :=
  LK.keep (Nat.le_refl _) (fun b o hp => World.cell?_of_block (hb.block b (by omega) (fun e => by injection e with e; omega))) ts A h

def CheckPost (g : Nat) (r : Int × Int) (w : World) (e : Ending) (w' : World) : Prop := e = .returned (.int .i64 r.2) ∧ Cnt w' g r.1 ∧ w.grownBy w' (some g)
def CheckC (t : Tree) : Prop := ∀ (cs : List Value) (w : World) (g : Nat) (deep n : Int), LT w g t cs → Cnt w g n → 0 ≤ n → n ≤ 80 → 1 ≤ deep → deep ≤ 21 →
  Calls Try.prog 29 #[.agg cs.toArray, .int .i64 deep, .pointer (some ⟨g, 0, none⟩)] w (CheckPost g (chk t deep n) w)

def CkRel (g : Nat) (w W0 : World) (ts : List Tree) (deep n : Int) (i : Value) (wr : World) : Prop :=
  ∃ (k : Nat) (m : Int), k ≤ ts.length ∧ i = .int .i64 k ∧ 0 ≤ m ∧ m ≤ 80 ∧ Hid (chkL (ts.drop k) deep m = chkL ts deep n) ∧ Cnt wr g m ∧ W0.grownBy wr (some g) ∧ w.grownBy wr (some g)

set_option maxRecDepth 100000 in
set_option maxHeartbeats 1600000 in
theorem check_node (k : Int) (s : Set4) (ts : List Tree) (ih : ∀ i (h : i < ts.length), CheckC ts[i]) : CheckC (.node k s ts) := by
  intro cs w g deep n hlt hg h0 h1 d0 d1
  rw [LT] at hlt
  obtain ⟨A, c, rfl, hs, hk⟩ := hlt
  have IH := Lib.hid ih
  have HR := Lib.hid (chk_node k s ts deep n)
  have hc0 := hg.cell
  have hf0 := hg.free
  have hgl := hg.lt
  have hse : ∀ W, _ := fun W => run_set_eql s Set4.zero W
  unfold setV Set4.zero at hse
  dsimp only at hse
  obtain ⟨sa, sb, sc, sd⟩ := s
  unfold cellsX
  dsimp only at hse ⊢
  have HC := Lib.hid hg
  have hn1 : n + 1 ≤ 9223372036854775807 := by omega
  clear ih hg
  have hend : ∀ m : Int, Cnt ((w.setCell ⟨g, 0, none⟩ (.int .i64 m)).alloc (.cells #[.int .i64 k, .int .u64 sa, .int .u64 sb, .int .u64 sc, .int .u64 sd, .slice A ts.length c] 27)) g m ∧ w.grownBy ((w.setCell ⟨g, 0, none⟩ (.int .i64 m)).alloc (.cells #[.int .i64 k, .int .u64 sa, .int .u64 sb, .int .u64 sc, .int .u64 sd, .slice A ts.length c] 27)) (some g) := fun m =>
    ⟨(HC.out.set m).alloc _, only_alloc (only_setCell (World.grownBy.refl _ _) 0 _) _⟩
  have HEND := Lib.hid hend
  clear hend
  by_cases c1 : 80 < n + 1
  · have HR1 := Lib.hid (HR.out.trans (if_pos c1))
    clear hse
    go_enter Try.func29, Try.ntmps29
    go_wp2_with fail
    go_ret
    exact ⟨by rw [HR1.out]; rfl, by rw [HR1.out]; exact HEND.out _⟩
  · by_cases c2 : 20 < deep
    · have HR1 := Lib.hid ((HR.out.trans (if_neg c1)).trans (if_pos c2))
      clear hse
      go_enter Try.func29, Try.ntmps29
      go_wp2_with fail
      go_ret
      exact ⟨by rw [HR1.out]; rfl, by rw [HR1.out]; exact HEND.out _⟩
    · have HR0 := Lib.hid ((HR.out.trans (if_neg c1)).trans (if_neg c2))
      go_enter Try.func29, Try.ntmps29
      go_wp2_with fail
      have hn80 : n + 1 ≤ 80 := by omega
      have hd20 : deep ≤ 20 := by omega
      clear hc0 hf0 hn1 c1 c2
      cases q1 : (kidsI k != (ts.length : Int)) with
      | true =>
        have HR1 : Hid (chk (.node k ⟨sa, sb, sc, sd⟩ ts) deep n = (n + 1, 1)) := HR0.out.trans (if_pos (by unfold badT; rw [q1]; rfl))
        clear hse
        go_quiet ((go_at_call 45; exact Calls.quiet_of_same (kids_any _ _)))
        go_wp2_with fail
        go_ret
        have he := HEND.out (n + 1)
        exact ⟨by rw [HR1.out]; rfl, by rw [HR1.out]; exact ⟨he.1.drewN nq, only_drewN he.2 nq⟩⟩
      | false =>
        cases q2 : (k == 3) == sameB ⟨sa, sb, sc, sd⟩ ⟨0, 0, 0, 0⟩ with
        | true =>
          have HR1 : Hid (chk (.node k ⟨sa, sb, sc, sd⟩ ts) deep n = (n + 1, 1)) := HR0.out.trans (if_pos (by have : ((k == 3) == decide ((⟨sa, sb, sc, sd⟩ : Set4) = Set4.zero)) = true := q2; unfold badT; rw [q1, this]; rfl))
          go_quiet ((go_at_call 45; exact Calls.quiet_of_same (kids_any _ _)))
          go_wp2_with fail
          go_ret
          have he := HEND.out (n + 1)
          exact ⟨by rw [HR1.out]; rfl, by rw [HR1.out]; exact ⟨he.1.drewN nq, only_drewN he.2 nq⟩⟩
        | false =>
          have HR1 : Hid (chk (.node k ⟨sa, sb, sc, sd⟩ ts) deep n = chkL ts (deep + 1) (n + 1)) := HR0.out.trans (if_neg (by have : ((k == 3) == decide ((⟨sa, sb, sc, sd⟩ : Set4) = Set4.zero)) = false := q2; unfold badT; rw [q1, this]; decide))
          have hlen : Hid (kidsI k = ts.length) := by simpa [Hid] using q1
          go_quiet ((go_at_call 45; exact Calls.quiet_of_same (kids_any _ _)))
          go_wp2_with fail
          have hts : ts.length ≤ 2 := by
            have := hlen.out
            have : kidsI k ≤ 2 := by unfold kidsI; split <;> (try split) <;> (try split) <;> omega
            omega
          have he := HEND.out (n + 1)
          have hW : ∃ W : World, W = ((w.setCell ⟨g, 0, none⟩ (.int .i64 (n + 1))).alloc (.cells #[.int .i64 k, .int .u64 sa, .int .u64 sb, .int .u64 sc, .int .u64 sd, .slice A ts.length c] 27)).drewN nq := ⟨_, rfl⟩
          obtain ⟨W, hW⟩ := hW
          have e1 : Cnt W g (n + 1) := by rw [hW]; exact he.1.drewN nq
          have e2 : w.grownBy W (some g) := by rw [hW]; exact only_drewN he.2 nq
          rw [← hW]
          clear he hW hse q1 q2 HEND HC
          go_loopw [44] (fun i wr => CkRel g w W ts (deep + 1) (n + 1) i wr) (fun i _ => ts.length - (intOf i).toNat)
          case atStart => exact ⟨0, n + 1, Nat.zero_le _, rfl, by omega, hn80, rfl, e1, World.grownBy.refl _ _, e2⟩
          case round =>
            obtain ⟨j, m, hj, rfl, hm0, hm1, HM, hcn, hbW, hbw⟩ := hrel
            by_cases hlt : j < ts.length
            · have hk2 := hk.only hbw hgl
              obtain ⟨b, off, cs2, rfl, hbB, hca, hl2⟩ := hk2.at j hlt
              have IHj := IH.out j hlt
              have HST := Lib.hid (chkL_step ts j hlt (deep + 1) m)
              have hrng := chk_rng ts[j] (deep + 1) m hm1
              generalize ts[j] = t2 at *
              obtain ⟨A2, c2, hcs2, hl3⟩ := hl2.parts
              have ⟨y0, y1, y2, y3, y4, y5⟩ := (hcs2 ▸ hca : CellsAt wr b (off + j * 6) (cellsX t2.kind t2.set A2 t2.kids.length c2)).six
              have hzr : w.heap.size ≤ wr.heap.size := hbw.size
              have hq1 : b < wr.heap.size := by omega
              have hq2 : g < wr.heap.size := by omega
              have HQ : Hid (∀ W, Calls Try.prog 29 #[.agg #[.int .i64 t2.kind, .int .u64 t2.set.a, .int .u64 t2.set.b, .int .u64 t2.set.c, .int .u64 t2.set.d, .slice A2 t2.kids.length c2], .int .i64 (deep + 1), .pointer (some ⟨g, 0, none⟩)] (wr.alloc W) (CheckPost g (chk t2 (deep + 1) m) (wr.alloc W))) := fun W =>
                IHj _ (wr.alloc W) g (deep + 1) m ((hcs2 ▸ hl2 : LT wr g t2 (cellsX t2.kind t2.set A2 t2.kids.length c2)).keep (Nat.le_refl _) (fun bb o hp => ((Below.refl wr.heap.size wr).alloc (Nat.le_refl _) W).cell (p := ⟨bb, o, none⟩) (by show bb < wr.heap.size; omega))) (hcn.alloc W) hm0 hm1 (by omega) (by omega)
              have hd1 : deep + 1 ≤ 9223372036854775807 := by omega
              clear IHj hl2 hca hcs2 hl3
              cases hr : chk t2 (deep + 1) m with
              | mk rn re =>
                rw [hr] at hrng HQ HST
                have hst := HST.out
                dsimp only at hrng hst
                clear HST
                by_cases hre : re = 0
                · subst hre
                  rw [if_neg (by simp)] at hst
                  have HST := Lib.hid hst
                  have hr80 := hrng.2.2 rfl
                  have hr81 := hrng.1
                  clear hr hst hrng
                  go_wp2_with fail
                  refine (HQ.out _).mono ?_
                  rintro e w2 ⟨rfl, hcn2, hb2⟩
                  clear y0 y1 y2 y3 y4 y5
                  go_wp2_with fail
                  go_roundw
                  case rel => exact ⟨j + 1, rn, by omega, by go_num, by omega, hr80, HST.out.symm.trans HM.out, hcn2, only_trans (only_alloc hbW _) hb2, only_trans (only_alloc hbw _) hb2⟩
                  case measure => simp [intOf] <;> omega
                · rw [if_pos hre] at hst
                  have HST := Lib.hid hst
                  have qe : (re != 0) = true := bne_iff_ne.2 hre
                  clear hr hre hst
                  go_wp2_with fail
                  refine (HQ.out _).mono ?_
                  rintro e w2 ⟨rfl, hcn2, hb2⟩
                  clear y0 y1 y2 y3 y4 y5
                  go_wp2_with fail
                  go_ret
                  have HF := HR1.out.trans (HM.out.symm.trans HST.out)
                  exact ⟨by rw [HF]; rfl, by rw [HF]; exact ⟨hcn2, only_trans (only_alloc hbw _) hb2⟩⟩
            · obtain rfl : j = ts.length := by omega
              have HM2 : Hid (chkL ts (deep + 1) (n + 1) = (m, 0)) := by
                unfold Hid
                rw [← HM.out, List.drop_length, chkL]
              go_wp2_with fail
              go_ret
              exact ⟨by rw [HR1.out, HM2.out]; rfl, by rw [HR1.out, HM2.out]; exact ⟨hcn, hbw⟩⟩

theorem check_any (t : Tree) : CheckC t :=
  match t with
  | .node k s ts => check_node k s ts fun i h => check_any ts[i]
termination_by SizeOf.sizeOf t
decreasing_by
  have := List.sizeOf_lt_of_mem (List.getElem_mem h)
  simp only [Tree.node.sizeOf_spec]
  omega
def checkT (t : Tree) : Int := (chk t 1 0).2
set_option maxRecDepth 100000 in
theorem Check_any2 (t : Tree) (cs : List Value) (w : World) (h : LT w w.heap.size t cs) :
    Calls Try.prog 13 #[.agg cs.toArray] w fun e w' => e = .returned (.int .i64 (checkT t)) ∧ Below w.heap.size w w' := by
  obtain ⟨A2, c2, rfl, _⟩ := h.parts
  have HC : Hid (∀ (o : Obj), Calls Try.prog 29 #[.agg #[.int .i64 t.kind, .int .u64 t.set.a, .int .u64 t.set.b, .int .u64 t.set.c, .int .u64 t.set.d, .slice A2 t.kids.length c2], .int .i64 1, .pointer (some ⟨w.heap.size + 1, 0, none⟩)] ((w.alloc o).alloc (.cells #[.int .i64 0] 3)) (CheckPost (w.heap.size + 1) (chk t 1 0) ((w.alloc o).alloc (.cells #[.int .i64 0] 3)))) := fun o =>
    check_any t _ _ (w.heap.size + 1) 1 0 (h.keep (Nat.le_succ _) (fun b o' hp => (((Below.refl w.heap.size w).alloc (Nat.le_refl _) o).alloc (by simp) _).cell (p := ⟨b, o', none⟩) hp)) (by have := heap_alloc_new (w.alloc o) (.cells #[.int .i64 0] 3); simpa [Cnt] using this) (by decide) (by decide) (by decide) (by decide)
  clear h
  unfold cellsX
  go_enter Try.func13, Try.ntmps13
  go_wp2_with fail
  refine (HC.out _).mono ?_
  rintro e w2 ⟨rfl, _, hb2⟩
  go_wp2_with fail
  go_ret
  have hbx : ∀ o o', Below w.heap.size w ((w.alloc o).alloc o') := fun o o' => ((Below.refl _ _).alloc (Nat.le_refl _) o).alloc (by simp) o'
  exact ⟨rfl, (hbx _ _).trans ⟨hb2.os, hb2.tape, hb2.output, hb2.size, fun i hi => hb2.block i (by simp; omega) (fun e => by injection e with e; omega)⟩⟩
end Go.Proofs.Ytnjjchbgnmjkjaa
