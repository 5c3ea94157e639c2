/- Part 8 of the proof: lemmas and walks that the last texts use. -/
import Derived.Test.YthfjmlcjkbgboaaGreatDoorM04
import Derived.Test.YthfjmlcjkbgboaaGreatDoorM05
import Derived.Test.YthfjmlcjkbgboaaGreatDoorM07
import Derived.BigRegion
import Derived.IntWalk
import Derived.Shelf.GgClosure.Gives
namespace Go.Proofs.YthfjmlcjkbgboaaGreatDoor
open Go.RowKit
/-- Two cells that are known whole. -/
def Two (w : World) (g : Nat) (a b : Value) : Prop := w.heap[g]? = some (.cells #[a, b] 311 (0, 0))
theorem Two.cells {w : World} {g : Nat} {a b : Value} (h : Two w g a b) : w.cell? ⟨g, 0, none⟩ = some a ∧ w.cell? ⟨g, 1, none⟩ = some b := ⟨cell_of_row w g 0 _ _ (0, 0) h, cell_of_row w g 1 _ _ (0, 0) h⟩
theorem Two.below {w w' : World} {B g : Nat} {a b : Value} (h : Two w g a b) (hb : Below B w w') (hg : g < B) : Two w' g a b := (hb.block g hg).trans h
section
variable {ops : Array Oper} {rest : List Oper} {o : Oper} {a : Act} {Q : Exit → Act → World → Prop} {w : World}
end
end Go.Proofs.YthfjmlcjkbgboaaGreatDoor
namespace Go.Proofs.YthfjmlcjkbgboaaGreatDoor
open Go.RowKit
theorem zero_wf : Set4.zero.Wf := ⟨⟨by decide, by decide⟩, ⟨by decide, by decide⟩, ⟨by decide, by decide⟩, ⟨by decide, by decide⟩⟩
end Go.Proofs.YthfjmlcjkbgboaaGreatDoor
namespace Go.Proofs.YthfjmlcjkbgboaaGreatDoor
open Go.RowKit
mutual
def WfT : Tree → Prop
  | .node _ s ts => s.Wf ∧ WfL ts
def WfL : List Tree → Prop
  | [] => True
  | t :: ts => WfT t ∧ WfL ts
end
mutual
theorem LT.wf {w : World} {B : Nat} : ∀ (t : Tree) (cs : List Value), LT w B t cs → WfT t
  | .node k s ts, cs, h => by
    rw [LT] at h
    obtain ⟨A, c, _, h2, h3⟩ := h
    rw [WfT]
    exact ⟨h2, LK.wf ts A h3⟩
theorem LK.wf {w : World} {B : Nat} : ∀ (ts : List Tree) (A : Option Addr), LK w B ts A → WfL ts
  | [], _, _ => by rw [WfL]; trivial
  | t :: ts, A, h => by
    rw [LK] at h
    obtain ⟨b, off, cs, _, _, _, _, h5, h6⟩ := h
    rw [WfL]
    exact ⟨LT.wf t cs h5, LK.wf ts _ h6⟩
end
theorem code_wf {t : Tree} {at_ : Nat} {l : List Ins} (h : Code t at_ l) : WfT t → ∀ x ∈ l, x.set.Wf := by
  induction h with
  | none S at_ | byte S at_ => intro hw x hx; rw [WfT] at hw; rw [List.mem_singleton] at hx; subst hx; exact hw.1
  | begin S at_ | finish S at_ => intro hw x hx; rw [List.mem_singleton] at hx; subst hx; exact zero_wf
  | empty => intro _ x hx; simp at hx
  | cat S a b at_ la lb _ _ h1 h2 =>
    intro hw x hx
    rw [WfT, WfL, WfL, WfL] at hw
    rcases List.mem_append.1 hx with h | h
    · exact h1 hw.2.1 x h
    · exact h2 hw.2.2.1 x h
  | alt S a b at_ la lb _ _ h1 h2 =>
    intro hw x hx
    rw [WfT, WfL, WfL, WfL] at hw
    rcases List.mem_cons.1 hx with h | hx
    · subst h; exact zero_wf
    · rcases List.mem_append.1 hx with h | hx
      · exact h1 hw.2.1 x h
      · rcases List.mem_cons.1 hx with h | h
        · subst h; exact zero_wf
        · exact h2 hw.2.2.1 x h
  | star S a at_ la _ h1 =>
    intro hw x hx
    rw [WfT, WfL, WfL] at hw
    rcases List.mem_cons.1 hx with h | hx
    · subst h; exact zero_wf
    · rcases List.mem_append.1 hx with h | hx
      · exact h1 hw.2.1 x h
      · rw [List.mem_singleton] at hx
        subst hx; exact zero_wf
theorem prog_wf {t : Tree} {l : List Ins} (h : Code t 0 l) (hw : WfT t) : ∀ n (hn : n < (l ++ [(⟨6, 0, 0, .zero⟩ : Ins)]).length), (l ++ [(⟨6, 0, 0, .zero⟩ : Ins)])[n].set.Wf := fun n hn => by
  have hm := List.getElem_mem hn
  rcases List.mem_append.1 hm with h1 | h1
  · exact code_wf h hw _ h1
  · rw [List.mem_singleton.1 h1]; exact zero_wf
theorem prog_last {t : Tree} {l : List Ins} (h : Code t 0 l) : ∀ n (hn : n < (l ++ [(⟨6, 0, 0, .zero⟩ : Ins)]).length), (l ++ [(⟨6, 0, 0, .zero⟩ : Ins)])[n].kind = 6 ↔ n = (l ++ [(⟨6, 0, 0, .zero⟩ : Ins)]).length - 1 := fun n hn => by
  have hl : (l ++ [(⟨6, 0, 0, .zero⟩ : Ins)]).length = l.length + 1 := by simp
  rw [hl] at hn ⊢
  by_cases c : n < l.length
  · rw [List.getElem_append_left c]
    have := code_tgt h l[n] (List.getElem_mem c)
    unfold Tgt at this
    constructor
    · intro e; omega
    · intro e; omega
  · obtain rfl : n = l.length := by omega
    simp
end Go.Proofs.YthfjmlcjkbgboaaGreatDoor
namespace Go.Proofs.YthfjmlcjkbgboaaGreatDoor
open Go.RowKit
set_option maxRecDepth 100000 in
theorem ready_any (P : List Ins) (A : Option Addr) (c : Nat) (s : ByteArray) (w : World) (h : Sl w w.heap.size 7 A P.length (P.flatMap cellsP)) (hok : OkP P) (h0 : 0 < P.length) (h4 : P.length ≤ 400) :
    Calls Tryz.prog 240 #[.slice A P.length c, .string s] w fun e w' => e = .returned (.int .i64 (if 8192 < s.size then 2 else 0)) ∧ Below w.heap.size w w' := by
  have HC := Lib.hid (PCheck_any P A c w h hok h0 h4)
  clear hok h
  by_cases hs : 8192 < s.size
  · have d1 : decide (8192 < (s.size : Int)) = true := by simp; omega
    rw [if_pos hs]
    go_enter Tryz.func240, Tryz.ntmps240
    go_wp2_with fail
    refine HC.out.mono ?_
    rintro e w1 ⟨rfl, hb⟩
    go_wp2_with fail
    go_ret
    exact ⟨rfl, hb⟩
  · have d1 : decide (8192 < (s.size : Int)) = false := by simp; omega
    rw [if_neg hs]
    go_enter Tryz.func240, Tryz.ntmps240
    go_wp2_with fail
    refine HC.out.mono ?_
    rintro e w1 ⟨rfl, hb⟩
    go_wp2_with fail
    go_ret
    exact ⟨rfl, hb⟩
end Go.Proofs.YthfjmlcjkbgboaaGreatDoor
namespace Go.Proofs.YthfjmlcjkbgboaaGreatDoor
open Go.RowKit
theorem OwnP.sl {w : World} {b g n c : Nat} {l : List Ins} (h : OwnP w b (.slice (some ⟨g, 0, none⟩) n c) l) : Sl w w.heap.size 7 (some ⟨g, 0, none⟩) l.length (l.flatMap cellsP) := by
  obtain ⟨A, c', e, hs⟩ := h.form
  injection e with e1 _ _
  rw [e1]; exact hs
end Go.Proofs.YthfjmlcjkbgboaaGreatDoor
namespace Go.Proofs.YthfjmlcjkbgboaaGreatDoor
open Go.RowKit
def SomeAt (P : List Ins) (s : List UInt8) (n : Nat) : Prop := ∃ i j, j < n + 1 ∧ R P s i (P.length - 1) j
def InRelE (P : List Ins) (s : ByteArray) (pv : Value) (w : World) (t : Nat) (wx : World) (G : Nat → Nat) (lg : List Nat) (f gt2 gF2 : Nat) (vq : Value) (wq : World) : Prop :=
  ∃ q vl2 H lh f1 tu1, vq = .int .i64 ((q : Nat) : Int) ∧ q ≤ lg.length ∧ InRT P s pv w t wx G lg false f q wq gt2 gF2 vl2 H lh false f1 tu1
def RunRelE (P : List Ins) (s : ByteArray) (pv : Value) (w : World) (vn vt : Value) (wr : World) : Prop :=
  ∃ t gt gF vl F ls f tu, vt = .int .i64 ((t : Nat) : Int) ∧ t ≤ s.size + 1 ∧ vn = .pointer (some ⟨gt, 0, none⟩) ∧ RunR P s pv w t wr gt gF vl F ls false f tu
def RunPostE (P : List Ins) (s : ByteArray) (w : World) (e : Ending) (w' : World) : Prop :=
  ∃ found f tu, e = .returned (.agg #[.int .i64 ((f : Nat) : Int), .int .i64 ((tu : Nat) : Int), .bool found]) ∧ (found = true ↔ SomeAt P s.data.toList s.size) ∧ Below w.heap.size w w'
set_option maxRecDepth 100000 in
set_option maxHeartbeats 1600000 in
theorem runE_any (P : List Ins) (hok : OkP P) (hkm : ∀ n (h : n < P.length), P[n].kind = 6 ↔ n = P.length - 1) (hwf : ∀ n (h : n < P.length), P[n].set.Wf) (h0 : 0 < P.length) (h4 : P.length ≤ 400) (s : ByteArray) (hs : s.size ≤ 8192) (pv : Value) (w : World) (hP : OwnP w 0 pv P) :
    Calls Tryz.prog 241 #[pv, .string s, .bool true] w (RunPostE P s w) := by
  obtain ⟨gp, cp, rfl, hgp⟩ := OwnP.head hP h0
  have HOK := Lib.hid hok
  have HKM := Lib.hid hkm
  have HWF := Lib.hid hwf
  clear hkm hwf
  go_enter Tryz.func241, Tryz.ntmps241
  go_wp2_with (at_make; refine wpList_make_n rfl _ _ rfl P.length (w.heap.size + 1 + 1) (by simp) rfl rfl (by omega) ?_; intro w1 hF1 hb1 hz1)
  go_loopw [8, 9] (fun vn vt wr => RunRelE P s (.slice (some ⟨gp, 0, none⟩) P.length cp) w vn vt wr) (fun _ vt _ => s.size + 1 - (intOf vt).toNat)
  case atStart =>
    have hz : w.heap.size + 1 + 1 < w1.heap.size := hz1
    have hk : ∀ j, j < w.heap.size + 1 + 1 → ∀ o, (w1.alloc o).heap[j]? = w1.heap[j]? := fun j hj o => Below.heap_alloc _ _ _ (by omega)
    have hB : Below w.heap.size w w1 := (((Below.refl _ _).alloc (Nat.le_refl _) _).alloc (by simp) _).trans (hb1.mono (by simp; omega))
    refine ⟨0, w1.heap.size, w.heap.size + 1 + 1, .slice none 0 0, fun _ => 0, [], 0, 0, rfl, Nat.zero_le _, rfl, ⟨ThM.fresh ⟨P.length, heap_alloc_new _ _⟩ (hF1.keep (Below.heap_alloc _ _ _ hz)), Thr.zero 0, fun _ k _ h => absurd h (by omega), fun _ => Nat.le_refl _, best_none _, ?_, ?_, ?_, ⟨by omega, by omega, fun g hg => by cases hg⟩, hB.alloc hB.size _⟩⟩
    · refine (hk _ (by omega) _).trans ((hb1.block _ (by simp)).trans ?_)
      have := heap_alloc_new (w.alloc (.cells #[.int .i64 0, .int .i64 0, .bool false] 313)) (.cells #[.int .i64 0, .int .i64 0, .bool false] 313)
      simpa using this
    · refine (hk _ (by omega) _).trans ((hb1.block _ (by simp; omega)).trans ((Below.heap_alloc _ _ _ (by simp)).trans (heap_alloc_new _ _)))
    · exact hP.keep fun g hg => ((hk g (by have := (World.ownsRow.lt hP g hg).2; omega) _).trans (hB.block g (World.ownsRow.lt hP g hg).2))
  case round =>
    obtain ⟨t, gt, gF, vl, F, ls, f, tu, rfl, ht, rfl, hR⟩ := hrel
    obtain ⟨⟨x0, x1, x2⟩, y0, y1, y2⟩ := hR.cells.three
    obtain ⟨⟨u0, u1, u2⟩, v0, v1, v2⟩ := hR.res.three
    by_cases hlt : t ≤ s.size
    · have d1 : decide ((t : Int) ≤ (s.size : Int)) = true := by simp; omega
      have hsz := hR.below.size
      obtain ⟨l1, l2, l3⟩ := hR.low
      have hgtl : gt < wr.heap.size := by obtain ⟨_, hb⟩ := hR.thm.blk; exact heap_lt hb
      have hgFl : gF < wr.heap.size := heap_lt hR.thm.frm
      have HR := Lib.hid hR
      have HA := Lib.hid (add_any P hok h4 s t 0 t h0 (by omega) F ls gt gF _ vl wr hR.thm hR.prg hgFl hgtl)
      clear hR
      go_upto_if 30 with fail
      go_cut [8, 9] from 22 to 106 (fun s8 s9 wx => s8 = .pointer (some ⟨gt, 0, none⟩) ∧ s9 = .int .i64 ((t : Nat) : Int) ∧ ∃ vl' G lg, MidR P s (.slice (some ⟨gp, 0, none⟩) P.length cp) w t wx gt gF vl' G lg false f tu)
      case first =>
        go_wp2_with fail
        refine HA.out.mono ?_
        rintro e w2 ⟨G, lg, vl2, rfl, hT2, hA2, hP2, hK2⟩
        have HM := HR.out.added hT2 hA2 hP2 hK2
        go_wp2_with fail
        go_meet
        exact ⟨rfl, rfl, _, _, _, HM⟩
      case rest =>
        obtain ⟨rfl, rfl, vl', G, lg, hM⟩ := hcut
        obtain ⟨wx, rfl⟩ : ∃ wx : World, wx = wc := ⟨_, rfl⟩
        clear x0 x1 x2 y0 y1 y2 u0 u1 u2 v0 v1 v2 HR HA hsz l1 l2 l3 hgtl hgFl
        obtain ⟨A1, cl, hvl⟩ := hM.thm.lst.form
        subst hvl
        have hgtl : gt < wx.heap.size := by obtain ⟨_, hb⟩ := hM.thm.blk; exact heap_lt hb
        have hMB := hM.thm.blk
        have HM := Lib.hid hM
        clear hM
        go_wp2_with (at_make; refine wpList_make_n rfl _ _ rfl P.length wx.heap.size rfl rfl rfl (by omega) ?_; intro w5 hF5 hb5 hz5; have ⟨p0, p1, ⟨_, p2⟩, p3, p4⟩ := (hMB.keep (hb5.block gt hgtl)).cells; have hgt5 : gt < w5.heap.size := Nat.lt_of_lt_of_le hgtl hb5.size)
        go_loopw [47] (fun vq wq => InRelE P s (.slice (some ⟨gp, 0, none⟩) P.length cp) w t wx G lg f w5.heap.size wx.heap.size vq wq) (fun vq _ => lg.length - (intOf vq).toNat)
        case atStart =>
          have hT5 : ThM (w5.alloc (.cells #[.slice (some ⟨gp, 0, none⟩) P.length cp, .string s, .slice (some ⟨wx.heap.size, 0, none⟩) P.length P.length, .slice none 0 0] 344)) w5.heap.size (.slice (some ⟨gp, 0, none⟩) P.length cp) s wx.heap.size P.length (.slice none 0 0) (fun _ => 0) [] :=
            ThM.fresh ⟨P.length, heap_alloc_new _ _⟩ (hF5.keep (Below.heap_alloc _ _ _ hz5))
          exact ⟨0, _, _, _, _, _, rfl, Nat.zero_le _, HM.out.start hT5 (hb5.alloc hb5.size _) hb5.size (Nat.le_refl _)⟩
        case round =>
          obtain ⟨q, vl2, H, lh, f1, tu1, rfl, hq, hI⟩ := hrel
          have HI := Lib.hid hI
          have hNow := hI.now HM.out
          obtain ⟨m0, m1, ⟨_, m2⟩, m3, m4⟩ := hNow.blk.cells
          clear p0 p1 p2 p3 p4
          by_cases hql : q < lg.length
          · have d2 : decide ((q : Int) < (lg.length : Int)) = true := by simp; omega
            obtain ⟨gl, cl', e, hgl⟩ := hNow.lst.head (by omega)
            injection e with e1 _ e2
            subst e1; subst e2
            have hlc := hNow.lst.cell q hql
            have HQ : Hid (lg[q]? = some lg[q]) := Lib.hid (List.getElem?_eq_getElem hql)
            have hG0 : G lg[q] ≠ 0 := (HM.out.thr.mem _).1 (List.getElem_mem hql)
            generalize lg[q] = n at hlc HQ hG0
            obtain ⟨k, hk, hRk⟩ := HM.out.thr.real n hG0
            have hRk0 := Lib.hid hRk
            have hn : n < P.length := HM.out.thr.lt hok h0 hG0
            have hmax := HM.out.max n
            have hGF := (hNow.frm.cell n hn).1
            rw [hk] at hGF
            have HK := Lib.hid hk
            have hP1 := HI.out.prg HM.out hP
            have hx := HOK.out n hn
            have HPK : Hid (P[n]? = some P[n]) := Lib.hid (List.getElem?_eq_getElem hn)
            have ⟨z0, z1, z2, z3, z4, z5, z6⟩ : Ins7 wr gp (n * 7) P[n] := ⟨(hP1.spot n hn 0 (by decide)).1, (hP1.spot n hn 1 (by decide)).1, (hP1.spot n hn 2 (by decide)).1, (hP1.spot n hn 3 (by decide)).1, (hP1.spot n hn 4 (by decide)).1, (hP1.spot n hn 5 (by decide)).1, (hP1.spot n hn 6 (by decide)).1⟩
            have hm := HKM.out n hn
            have hwf := HWF.out n hn
            generalize P[n] = x at hx HPK z0 z1 z2 z3 z4 z5 z6 hm hwf
            obtain ⟨kd, xa, xb, ⟨sa, sb, sc, sd⟩⟩ := x
            dsimp only at hx hm hwf z0 z1 z2 z3 z4 z5 z6
            have HX := Lib.hid hx
            have HMM := Lib.hid hm
            clear hx hm
            have hgz : w.heap.size + 1 < wr.heap.size := heap_lt hI.cells
            obtain ⟨⟨x0, x1, x2⟩, y0, y1, y2⟩ := hI.cells.three
            have i6 : wrap64 (k : Int) = (k : Int) := IntWalk.wrap64_in _ (by omega)
            have i7 : IntKind.i64.wrap ((q : Int) + 1) = (q : Int) + 1 := IntWalk.i64_in _ (by have := HM.out.thm.len; omega)
            have j4 : (n : Int) < (P.length : Int) := by omega
            have hk9 : k ≤ 8192 := Nat.le_trans (Nat.le_of_succ_le_succ (Nat.le_trans (Nat.le_of_eq hk.symm) hmax)) (Nat.le_trans hlt hs)
            have HADD : Hid (∀ w4, n + 1 < P.length → Below wr.heap.size wr w4 → Calls Tryz.prog 276 #[.pointer (some ⟨w5.heap.size, 0, none⟩), .int .i64 ((n : Int) + 1), .int .i64 ((t : Int) + 1), .int .i64 (k : Int)] w4 (AddW P s (t + 1) (n + 1) k H lh w5.heap.size wx.heap.size (.slice (some ⟨gp, 0, none⟩) P.length cp) vl2 w4)) :=
              fun w4 h1 h2 => hI.call HM.out hP HOK.out h4 h1 hk9 h2
            clear hNow hI hP1 hG0 hRk hk hk9
            · have hcount : false = true → k ≤ f1 := fun e => by cases e
              have HC := Lib.hid hcount
              go_upto_region 13 with fail
              go_cut [12, 13, 47, 67] from 47 to 105 (fun s12 s13 s47 s67 wx => s12 = .int .i64 (n : Int) ∧ s13 = .int .i64 (k : Int) ∧ s47 = .int .i64 (q : Int) ∧ s67 = .bool false ∧ wx = wr)
              case first =>
                go_wp2_with fail
                go_meet
                exact ⟨rfl, rfl, rfl, rfl, rfl⟩
              case rest =>
                obtain ⟨rfl, rfl, rfl, rfl, rfl⟩ := hcut
                clear hcount
                have hm := HMM.out
                rcases HX.out with ⟨rfl, _⟩ | ⟨rfl, _⟩ | ⟨rfl | rfl | rfl, hi⟩ | rfl
                · have hnm : n = P.length - 1 → false = true ∧ f1 + 1 < G n := fun e => absurd (hm.2 e) (by decide)
                  have hnb : ByteAt P s.data.toList t n → false = true ∧ f1 + 1 < G n := fun hb => by
                    obtain ⟨y, _, h1, h2, _⟩ := hb
                    rw [HPK.out] at h1; injection h1 with h1; subst h1
                    dsimp only at h2; omega
                  have HN := Lib.hid hnm
                  have HB := Lib.hid hnb
                  clear hnm hnb hm
                  go_wp2_with fail
                  go_region
                  go_wp2_with fail
                  exact ⟨⟨q + 1, vl2, H, lh, f1, tu1, rfl, by omega, HI.out.pass (heap_lt HM.out.cells) HQ.out ((Below.refl _ _).alloc (Nat.le_refl _) _).drew HB.out HN.out⟩, by dsimp only [intOf]; omega⟩
                · have hnm : n = P.length - 1 → false = true ∧ f1 + 1 < G n := fun e => absurd (hm.2 e) (by decide)
                  have hnb : ByteAt P s.data.toList t n → false = true ∧ f1 + 1 < G n := fun hb => by
                    obtain ⟨y, _, h1, h2, _⟩ := hb
                    rw [HPK.out] at h1; injection h1 with h1; subst h1
                    dsimp only at h2; omega
                  have HN := Lib.hid hnm
                  have HB := Lib.hid hnb
                  clear hnm hnb hm
                  go_wp2_with fail
                  go_region
                  go_wp2_with fail
                  exact ⟨⟨q + 1, vl2, H, lh, f1, tu1, rfl, by omega, HI.out.pass (heap_lt HM.out.cells) HQ.out ((Below.refl _ _).alloc (Nat.le_refl _) _).drew HB.out HN.out⟩, by dsimp only [intOf]; omega⟩
                · have hnm : n ≠ P.length - 1 := fun e => absurd (hm.2 e) (by decide)
                  have HN := Lib.hid hnm
                  clear hnm hm
                  by_cases hts : t < s.size
                  · have i9 : (t : Int) < (s.size : Int) := by omega
                    obtain ⟨c, hcx⟩ : ∃ c, s[t] = c := ⟨_, rfl⟩
                    have HCX : Hid (s.data.toList[t]? = some c) := by
                      unfold Hid
                      rw [← hcx, List.getElem?_eq_getElem (by simpa using hts)]
                      rfl
                    have HSM := HK.out
                    have hhas := fun x W => Has_any ⟨sa, sb, sc, sd⟩ x W hwf
                    unfold setV at hhas
                    dsimp only at hhas
                    have HHAS := Lib.hid hhas
                    have HI1 := Lib.hid hi
                    clear hi
                    clear hhas HSM
                    go_wp2_with fail
                    have hW := heap_alloc_new wc (.cells #[.int .i64 1, .int .i64 xa, .int .i64 xb, .int .u64 sa, .int .u64 sb, .int .u64 sc, .int .u64 sd] 262)
                    have hBW : Below wc.heap.size wc (wc.alloc (.cells #[.int .i64 1, .int .i64 xa, .int .i64 xb, .int .u64 sa, .int .u64 sb, .int .u64 sc, .int .u64 sd] 262)) := (Below.refl _ _).alloc (Nat.le_refl _) _
                    generalize wc.alloc (.cells #[.int .i64 1, .int .i64 xa, .int .i64 xb, .int .u64 sa, .int .u64 sb, .int .u64 sc, .int .u64 sd] 262) = W at *
                    have g0 := cell_of_row _ wc.heap.size 0 _ _ _ hW
                    have g3 := cell_of_row _ wc.heap.size 3 _ _ _ hW
                    have g4 := cell_of_row _ wc.heap.size 4 _ _ _ hW
                    have g5 := cell_of_row _ wc.heap.size 5 _ _ _ hW
                    have g6 := cell_of_row _ wc.heap.size 6 _ _ _ hW
                    simp only [List.getElem?_toArray, List.getElem?_cons_zero, List.getElem?_cons_succ] at g0 g3 g4 g5 g6
                    have HBW := Lib.hid hBW
                    clear hW hBW
                    go_region_held3 (fun w' => w'.cell? ⟨wc.heap.size, 0, none⟩ = some (.int .i64 1) ∧ w'.cell? ⟨wc.heap.size, 3, none⟩ = some (.int .u64 sa) ∧ w'.cell? ⟨wc.heap.size, 4, none⟩ = some (.int .u64 sb) ∧ w'.cell? ⟨wc.heap.size, 5, none⟩ = some (.int .u64 sc) ∧ w'.cell? ⟨wc.heap.size, 6, none⟩ = some (.int .u64 sd))
                      (first | go_keep | (refine ⟨cell_kept hb8 ?_, cell_kept hb8 ?_, cell_kept hb8 ?_, cell_kept hb8 ?_, cell_kept hb8 ?_⟩ <;> assumption))
                      (first | (go_at_call 208; refine (HHAS.out _ _).mono ?_; rintro e w8 ⟨rfl, hb8⟩))
                    have hb9 : Below W.heap.size W w8 := undrew hb8
                    have HB9 : Hid (Below wc.heap.size wc w8) := HBW.out.trans (hb9.mono HBW.out.size)
                    clear hb8 hb9 g0 g3 g4 g5 g6 HBW
                    cases hh : hasB ⟨sa, sb, sc, sd⟩ c with
                    | false =>
                      have HNB : Hid (ByteAt P s.data.toList t n → false = true ∧ f1 + 1 < G n) := fun hb => by
                        obtain ⟨y, c', h1, h2, h3, h5⟩ := hb
                        rw [HPK.out] at h1; injection h1 with h1; subst h1
                        rw [HCX.out] at h3; injection h3 with h3; subst h3
                        rw [hh] at h5; cases h5
                      clear hh
                      go_wp2_with fail
                      exact ⟨⟨q + 1, vl2, H, lh, f1, tu1, rfl, by omega, HI.out.pass (heap_lt HM.out.cells) HQ.out HB9.out HNB.out (fun e => absurd e HN.out)⟩, by dsimp only [intOf]; omega⟩
                    | true =>
                      have HBY : Hid (ByteAt P s.data.toList t n) := ⟨_, c, HPK.out, rfl, HCX.out, hh⟩
                      clear hh m0 m1 m2 m3 m4 hlc hGF z0 z1 z2 z3 z4 z5 z6 x0 x1 x2 y0 y1 y2 hcx i9 hMB hF5 hb5 i6 hwf HHAS
                      go_wp2_with fail
                      refine (HADD.out _ (HI1.out) HB9.out).mono ?_
                      rintro e w9 ⟨H', lh', vl3, rfl, hT, hA, _, hK⟩
                      have HPUSH := Lib.hid (HI.out.push HM.out HQ.out HBY.out HN.out HK.out HB9.out hT hA hK)
                      clear hT hA hK HADD
                      go_wp2_with fail
                      exact ⟨⟨q + 1, vl3, H', lh', f1, tu1, rfl, by omega, HPUSH.out⟩, by dsimp only [intOf]; omega⟩
                  · have HNB : Hid (ByteAt P s.data.toList t n → false = true ∧ f1 + 1 < G n) := fun hb => by
                      obtain ⟨y, _, h1, h2, h3, _⟩ := hb
                      exact absurd h3 (by rw [List.getElem?_eq_none (by simpa using hts)]; intro e; cases e)
                    have i9 : decide ((t : Int) < (s.size : Int)) = false := by simp; omega
                    go_wp2_with fail
                    go_region
                    go_wp2_with fail
                    exact ⟨⟨q + 1, vl2, H, lh, f1, tu1, rfl, by omega, HI.out.pass (heap_lt HM.out.cells) HQ.out ((Below.refl _ _).alloc (Nat.le_refl _) _).drew HNB.out (fun e => absurd e HN.out)⟩, by dsimp only [intOf]; omega⟩
                · have hnm : n = P.length - 1 → false = true ∧ f1 + 1 < G n := fun e => absurd (hm.2 e) (by decide)
                  have hnb : ByteAt P s.data.toList t n → false = true ∧ f1 + 1 < G n := fun hb => by
                    obtain ⟨y, _, h1, h2, _⟩ := hb
                    rw [HPK.out] at h1; injection h1 with h1; subst h1
                    dsimp only at h2; omega
                  have HN := Lib.hid hnm
                  have HB := Lib.hid hnb
                  clear hnm hnb hm
                  go_wp2_with fail
                  go_region
                  go_wp2_with fail
                  exact ⟨⟨q + 1, vl2, H, lh, f1, tu1, rfl, by omega, HI.out.pass (heap_lt HM.out.cells) HQ.out ((Below.refl _ _).alloc (Nat.le_refl _) _).drew HB.out HN.out⟩, by dsimp only [intOf]; omega⟩
                · have hnm : n = P.length - 1 → false = true ∧ f1 + 1 < G n := fun e => absurd (hm.2 e) (by decide)
                  have hnb : ByteAt P s.data.toList t n → false = true ∧ f1 + 1 < G n := fun hb => by
                    obtain ⟨y, _, h1, h2, _⟩ := hb
                    rw [HPK.out] at h1; injection h1 with h1; subst h1
                    dsimp only at h2; omega
                  have HN := Lib.hid hnm
                  have HB := Lib.hid hnb
                  clear hnm hnb hm
                  go_wp2_with fail
                  go_region
                  go_wp2_with fail
                  exact ⟨⟨q + 1, vl2, H, lh, f1, tu1, rfl, by omega, HI.out.pass (heap_lt HM.out.cells) HQ.out ((Below.refl _ _).alloc (Nat.le_refl _) _).drew HB.out HN.out⟩, by dsimp only [intOf]; omega⟩
                · have hne : n = P.length - 1 := hm.1 rfl
                  have HN := Lib.hid hne
                  have hnb : ¬ ByteAt P s.data.toList t n := fun hb => by
                    obtain ⟨y, _, h1, h2, _⟩ := hb
                    rw [HPK.out] at h1; injection h1 with h1; subst h1
                    dsimp only at h2; omega
                  have HB := Lib.hid hnb
                  clear hnb hm hne
                  have HRK := hRk0
                  have HB1 : Hid (BestB wc (w.heap.size + 1) f1 tu1 false) := HI.out.cells
                  have HR1 : Hid (BestB wc w.heap.size 0 0 false) := (HI.out.keep _ (by have := heap_lt HM.out.cells; omega) (by omega)).trans HM.out.res
                  have HBW := Lib.hid HI.out.below
                  go_upto_region 18 with fail
                  have HT := take_world HB1.out k t (.cells #[.int .i64 6, .int .i64 xa, .int .i64 xb, .int .u64 sa, .int .u64 sb, .int .u64 sc, .int .u64 sd] 262)
                  obtain ⟨W, hWe⟩ : ∃ W : World, (((wc.setCell ⟨w.heap.size + 1, 0, none⟩ (.int .i64 (k : Int))).setCell ⟨w.heap.size + 1, 1, none⟩ (.int .i64 (t : Int))).setCell ⟨w.heap.size + 1, 2, none⟩ (.bool true)).alloc (.cells #[.int .i64 6, .int .i64 xa, .int .i64 xb, .int .u64 sa, .int .u64 sb, .int .u64 sc, .int .u64 sd] 262) = W := ⟨_, rfl⟩
                  rw [hWe] at HT ⊢
                  have hE1 : BestB W (w.heap.size + 1) k t true := HT.1
                  have hE0 : BestB W w.heap.size 0 0 false := (HT.2.1 _ (by omega) (by omega)).trans HR1.out
                  have hBe : Below w.heap.size w W := by
                    rw [← hWe]
                    exact (((HBW.out.setCell (p := ⟨w.heap.size + 1, 0, none⟩) (Nat.le_succ _) _).setCell (p := ⟨w.heap.size + 1, 1, none⟩) (Nat.le_succ _) _).setCell (p := ⟨w.heap.size + 1, 2, none⟩) (Nat.le_succ _) _).alloc (by simp; omega) _
                  have HYES : Hid (SomeAt P s.data.toList s.size) := ⟨k, t, by omega, HN.out ▸ HRK.out⟩
                  clear HT hWe m0 m1 m2 m3 m4 hlc hGF z0 z1 z2 z3 z4 z5 z6 x0 x1 x2 y0 y1 y2 HB1 HR1 HBW
                  obtain ⟨⟨x0, x1, x2⟩, y0, y1, y2⟩ := hE1.three
                  obtain ⟨⟨z0, z1, z2⟩, v0, v1, v2⟩ := hE0.three
                  go_wp2_with fail
                  have hW := ((hBe.setCell (p := ⟨w.heap.size, 0, none⟩) (Nat.le_refl _) (.int .i64 (k : Int))).setCell (p := ⟨w.heap.size, 1, none⟩) (Nat.le_refl _) (.int .i64 (t : Int))).setCell (p := ⟨w.heap.size, 2, none⟩) (Nat.le_refl _) (.bool true)
                  have hE : BestB _ w.heap.size k t true := hE0.setAll
                  generalize (((W.setCell ⟨w.heap.size, 0, none⟩ (.int .i64 (k : Int))).setCell ⟨w.heap.size, 1, none⟩ (.int .i64 (t : Int))).setCell ⟨w.heap.size, 2, none⟩ (.bool true)) = WF at *
                  obtain ⟨⟨z0, z1, z2⟩, _⟩ := hE.three
                  exact bodyPost_ret (v := .agg #[.int .i64 (k : Int), .int .i64 (t : Int), .bool true]) (by simp [results, Tryz.results241, go_sem, z0, z1, z2]) rfl ⟨true, k, t, rfl, ⟨fun _ => HYES.out, fun _ => rfl⟩, hW⟩
          · have d2 : decide ((q : Int) < (lg.length : Int)) = false := by simp; omega
            obtain rfl : q = lg.length := by omega
            have hz : IntKind.i64.wrap ((t : Int) + 1) = (t : Int) + 1 := IntWalk.i64_in _ (by omega)
            have hRR := HI.out.stop HM.out hP
            clear hNow hI HI HM
            go_wp2_with fail
            exact ⟨⟨t + 1, w5.heap.size, wx.heap.size, vl2, H, lh, f1, tu1, rfl, by omega, rfl, hRR⟩, by dsimp only [intOf]; omega⟩
    · obtain rfl : t = s.size + 1 := by omega
      have d1 : decide (((s.size + 1 : Nat) : Int) ≤ (s.size : Int)) = false := by simp; omega
      go_wp2_with fail
      have hW := ((hR.below.setCell (p := ⟨w.heap.size, 0, none⟩) (Nat.le_refl _) (.int .i64 (f : Int))).setCell (p := ⟨w.heap.size, 1, none⟩) (Nat.le_refl _) (.int .i64 (tu : Int))).setCell (p := ⟨w.heap.size, 2, none⟩) (Nat.le_refl _) (.bool false)
      have hE : BestB _ w.heap.size f tu false := hR.res.setAll
      generalize (((wr.setCell ⟨w.heap.size, 0, none⟩ (.int .i64 (f : Int))).setCell ⟨w.heap.size, 1, none⟩ (.int .i64 (tu : Int))).setCell ⟨w.heap.size, 2, none⟩ (.bool false)) = WF at *
      obtain ⟨⟨z0, z1, z2⟩, _⟩ := hE.three
      exact bodyPost_ret (v := .agg #[.int .i64 (f : Int), .int .i64 (tu : Int), .bool false]) (by simp [results, Tryz.results241, go_sem, z0, z1, z2]) rfl ⟨false, f, tu, rfl, ⟨fun e => (by cases e), fun ⟨i, j, h1, h2⟩ => absurd h2 ((hR.best.2 rfl).1 i j h1)⟩, hW⟩
end Go.Proofs.YthfjmlcjkbgboaaGreatDoor
