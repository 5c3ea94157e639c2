/- The walk of RexAgain. -/
import Derived.Test.YtnjjchbgnmjkjaaRqs
namespace Go.Proofs.Ytnjjchbgnmjkjaa
open Go.RowKit

theorem lt_wf {w : World} {B : Nat} {t : Tree} {cs : List Value} (h : LT w B t cs) : WfT t := LT.wf t cs h

set_option maxRecDepth 100000 in
set_option maxHeartbeats 6400000 in
theorem rexAgain_walk (s : ByteArray) (w : World) (hs : s.size ≤ maxLen) :
    Calls Try.prog 3 #[.string s] w fun e w' => e = .returned (.bool true) ∧ Below w.heap.size w w' := by
  have hcc := Parse_any (ByteArray.mk #[40, 97, 124, 98, 41, 36]) w (by decide +kernel)
  have hcl : (ByteArray.mk #[40, 97, 124, 98, 41, 36]).data.toList = againS := rfl
  rw [hcl] at hcc
  have hct := again_const
  obtain ⟨C, hC⟩ : ∃ C, parseP againS = C := ⟨_, rfl⟩
  rw [hC] at hcc hct
  have HCC := Lib.hid hcc
  have HPA : Hid (∀ W, Calls Try.prog 7 #[.string s] W (PaPost (parseP s.data.toList) W)) := fun W => Parse_any s W hs
  have HBAD := Lib.hid (parse_bad (s := s.data.toList))
  have HGOOD := Lib.hid (parse_good (s := s.data.toList))
  have hsl : s.data.toList.length = s.size := by simp
  rw [hsl] at HBAD
  unfold maxLen at hs
  obtain ⟨P, hP⟩ : ∃ P, parseP s.data.toList = P := ⟨_, rfl⟩
  rw [hP] at HPA HBAD HGOOD
  obtain ⟨ct, cp, ce⟩ := C
  obtain ⟨x, pos, er⟩ := P
  dsimp only at hct HBAD HGOOD
  have q1 : (ce != 0) = false := by rw [hct.1]; rfl
  have q2 : (ct.kind != 4) = false := by rw [hct.2]; rfl
  unfold PaPost at HCC HPA
  dsimp only at HCC HPA
  clear hcc hcl hct hC hP hsl
  go_enter Try.func3, Try.ntmps3
  go_wp2_with (go_at_call 7; apply Hid.out)
  unfold Hid
  refine HCC.out.mono ?_
  rintro e w1 ⟨A1, c1, rfl, hn1, hb1⟩
  have hal : Below w1.heap.size w1 (w1.alloc (.cells #[.int .i64 ct.kind, .int .u64 ct.set.a, .int .u64 ct.set.b, .int .u64 ct.set.c, .int .u64 ct.set.d, .slice A1 ct.kids.length c1] 27)) := (Below.refl _ _).alloc (Nat.le_refl _) _
  have HX1 : Hid (PutX (w1.alloc (.cells #[.int .i64 ct.kind, .int .u64 ct.set.a, .int .u64 ct.set.b, .int .u64 ct.set.c, .int .u64 ct.set.d, .slice A1 ct.kids.length c1] 27)) w1.heap.size [.int .i64 ct.kind, .int .u64 ct.set.a, .int .u64 ct.set.b, .int .u64 ct.set.c, .int .u64 ct.set.d, .slice A1 ct.kids.length c1]) := PutX.new w1 _
  have HB1 : Hid (Below w.heap.size w (w1.alloc (.cells #[.int .i64 ct.kind, .int .u64 ct.set.a, .int .u64 ct.set.b, .int .u64 ct.set.c, .int .u64 ct.set.d, .slice A1 ct.kids.length c1] 27))) := hb1.trans (hal.mono hb1.size)
  clear hn1 hb1 hal HCC
  unfold argX
  go_upto_region 2 with fail
  generalize w1.alloc (.cells #[.int .i64 ct.kind, .int .u64 ct.set.a, .int .u64 ct.set.b, .int .u64 ct.set.c, .int .u64 ct.set.d, .slice A1 ct.kids.length c1] 27) = w2 at *
  generalize w1.heap.size = g1 at *
  have ⟨x0, x1, x2, x3, x4, x5⟩ := HX1.out.cells
  go_upto_region 4 with fail
  clear x0 x1 x2 x3 x4 x5 HX1 q1 q2
  have HP2 := Lib.hid (HPA.out w2)
  go_wp2_with (go_at_call 7; apply Hid.out)
  unfold Hid
  refine HP2.out.mono ?_
  rintro e w3 ⟨A3, c3, rfl, hn3, hb3⟩
  have hb3w : Below w.heap.size w w3 := HB1.out.trans (hb3.mono HB1.out.size)
  have hal : Below w3.heap.size w3 (w3.alloc (.cells #[.int .i64 x.kind, .int .u64 x.set.a, .int .u64 x.set.b, .int .u64 x.set.c, .int .u64 x.set.d, .slice A3 x.kids.length c3] 27)) := (Below.refl _ _).alloc (Nat.le_refl _) _
  have hl3 := hn3.lt
  have HWF := Lib.hid (lt_wf hl3)
  have HX3 : Hid (PutX (w3.alloc (.cells #[.int .i64 x.kind, .int .u64 x.set.a, .int .u64 x.set.b, .int .u64 x.set.c, .int .u64 x.set.d, .slice A3 x.kids.length c3] 27)) w3.heap.size [.int .i64 x.kind, .int .u64 x.set.a, .int .u64 x.set.b, .int .u64 x.set.c, .int .u64 x.set.d, .slice A3 x.kids.length c3] ∧ LT (w3.alloc (.cells #[.int .i64 x.kind, .int .u64 x.set.a, .int .u64 x.set.b, .int .u64 x.set.c, .int .u64 x.set.d, .slice A3 x.kids.length c3] 27)) (w3.alloc (.cells #[.int .i64 x.kind, .int .u64 x.set.a, .int .u64 x.set.b, .int .u64 x.set.c, .int .u64 x.set.d, .slice A3 x.kids.length c3] 27)).heap.size x (cellsX x.kind x.set A3 x.kids.length c3)) := ⟨PutX.new w3 _, hl3.later hal⟩
  have HB4 : Hid (Below w.heap.size w (w3.alloc (.cells #[.int .i64 x.kind, .int .u64 x.set.a, .int .u64 x.set.b, .int .u64 x.set.c, .int .u64 x.set.d, .slice A3 x.kids.length c3] 27))) := hb3w.trans (hal.mono hb3w.size)
  clear hn3 hb3 hb3w hal hl3 HP2
  unfold argX
  go_upto_region 5 with fail
  generalize w3.alloc (.cells #[.int .i64 x.kind, .int .u64 x.set.a, .int .u64 x.set.b, .int .u64 x.set.c, .int .u64 x.set.d, .slice A3 x.kids.length c3] 27) = w4 at *
  generalize w3.heap.size = g3 at *
  have ⟨x0, x1, x2, x3, x4, x5⟩ := HX3.out.1.cells
  by_cases he : er = 0
  rotate_left
  · obtain ⟨hk, hp⟩ := HBAD.out he
    have d1 : (er != 0) = true := bne_iff_ne.2 he
    have d2 : (x.kind == 0) = true := by rw [hk]; rfl
    have d3 : decide ((0 : Int) ≤ (pos : Int)) = true := decide_eq_true (by omega)
    have d4 : decide ((pos : Int) ≤ (s.size : Int)) = true := decide_eq_true (by omega)
    clear hk HGOOD HBAD
    go_wp2_with fail
    exact bodyPost_ret (v := .bool true) (by simp [results, Try.results3, go_sem]) rfl ⟨rfl, HB4.out⟩
  · obtain ⟨hck, hnn⟩ := HGOOD.out he
    have d1 : (er != 0) = false := by rw [he]; rfl
    have hpp : printP x = (showT x, 0) := by unfold printP; rw [if_neg (fun h => h hck)]
    have hpr := Print_any x A3 c3 w4 HX3.out.2
    rw [hpp] at hpr
    have hps := parse_show hck HWF.out
    have hpa := fun W => Parse_any (bs (showT x)) W (by rw [bs_size]; have := show_small hck; unfold maxLen; omega)
    rw [bs_toList] at hpa
    obtain ⟨T, hT⟩ : ∃ T : ByteArray, bs (showT x) = T := ⟨_, rfl⟩
    obtain ⟨Q, hQ⟩ : ∃ Q, parseP (showT x) = Q := ⟨_, rfl⟩
    rw [hT] at hpr
    rw [hT, hQ] at hpa
    rw [hQ] at hps
    have hTl : T.size = (showT x).length := by rw [← hT, bs_size]
    rw [← hTl] at hps
    have hpx : ∀ (A : Option Addr) (c : Nat) (W : World), LT W W.heap.size x (cellsX x.kind x.set A x.kids.length c) → Calls Try.prog 8 #[argX x A c] W fun e w' => e = .returned (.tuple #[.string T, .int .i64 0]) ∧ Below W.heap.size W w' := fun A c W h => by
      have := Print_any x A c W h
      rw [hpp] at this
      dsimp only at this
      rw [hT] at this
      exact this
    have HPX := Lib.hid hpx
    have HSM := Lib.hid (same_any x (chk_fine x 1 0 hck))
    unfold argX at hpr
    have HPR := Lib.hid hpr
    have HP5 := Lib.hid hpa
    have HPS := Lib.hid (And.intro hps.1 (fun h => hps.2.1 h hnn))
    obtain ⟨y, py, ey⟩ := Q
    unfold PaPost at HP5
    dsimp only at HP5
    clear hpr hpp hps hpa hT hQ hTl hpx hck hnn he HGOOD HBAD
    go_wp2_with (go_at_call 8; apply Hid.out)
    unfold Hid
    refine HPR.out.mono ?_
    rintro e w5 ⟨rfl, hb5⟩
    have HB5 : Hid (Below w.heap.size w w5) := HB4.out.trans (hb5.mono HB4.out.size)
    have HX5 : Hid (PutX w5 g3 [.int .i64 x.kind, .int .u64 x.set.a, .int .u64 x.set.b, .int .u64 x.set.c, .int .u64 x.set.d, .slice A3 x.kids.length c3] ∧ LT w5 w5.heap.size x (cellsX x.kind x.set A3 x.kids.length c3)) := ⟨(hb5.block g3 HX3.out.1.lt).trans HX3.out.1, HX3.out.2.later hb5⟩
    have HP6 := Lib.hid (HP5.out w5)
    clear hb5 x0 x1 x2 x3 x4 x5 HPR HX3
    go_wp2_with (go_at_call 7; apply Hid.out)
    unfold Hid
    refine HP6.out.mono ?_
    rintro e w6 ⟨A6, c6, rfl, hn6, hb6⟩
    have hb6w : Below w.heap.size w w6 := HB5.out.trans (hb6.mono HB5.out.size)
    have hal : Below w6.heap.size w6 (w6.alloc (.cells #[.int .i64 y.kind, .int .u64 y.set.a, .int .u64 y.set.b, .int .u64 y.set.c, .int .u64 y.set.d, .slice A6 y.kids.length c6] 27)) := (Below.refl _ _).alloc (Nat.le_refl _) _
    have hl6 := hn6.lt
    have hx6 : PutX w6 g3 [.int .i64 x.kind, .int .u64 x.set.a, .int .u64 x.set.b, .int .u64 x.set.c, .int .u64 x.set.d, .slice A3 x.kids.length c3] := (hb6.block g3 HX5.out.1.lt).trans HX5.out.1
    have HX7 : Hid (PutX (w6.alloc (.cells #[.int .i64 y.kind, .int .u64 y.set.a, .int .u64 y.set.b, .int .u64 y.set.c, .int .u64 y.set.d, .slice A6 y.kids.length c6] 27)) w6.heap.size [.int .i64 y.kind, .int .u64 y.set.a, .int .u64 y.set.b, .int .u64 y.set.c, .int .u64 y.set.d, .slice A6 y.kids.length c6] ∧ LT (w6.alloc (.cells #[.int .i64 y.kind, .int .u64 y.set.a, .int .u64 y.set.b, .int .u64 y.set.c, .int .u64 y.set.d, .slice A6 y.kids.length c6] 27)) (w6.alloc (.cells #[.int .i64 y.kind, .int .u64 y.set.a, .int .u64 y.set.b, .int .u64 y.set.c, .int .u64 y.set.d, .slice A6 y.kids.length c6] 27)).heap.size y (cellsX y.kind y.set A6 y.kids.length c6) ∧ PutX (w6.alloc (.cells #[.int .i64 y.kind, .int .u64 y.set.a, .int .u64 y.set.b, .int .u64 y.set.c, .int .u64 y.set.d, .slice A6 y.kids.length c6] 27)) g3 [.int .i64 x.kind, .int .u64 x.set.a, .int .u64 x.set.b, .int .u64 x.set.c, .int .u64 x.set.d, .slice A3 x.kids.length c3] ∧ LT (w6.alloc (.cells #[.int .i64 y.kind, .int .u64 y.set.a, .int .u64 y.set.b, .int .u64 y.set.c, .int .u64 y.set.d, .slice A6 y.kids.length c6] 27)) (w6.alloc (.cells #[.int .i64 y.kind, .int .u64 y.set.a, .int .u64 y.set.b, .int .u64 y.set.c, .int .u64 y.set.d, .slice A6 y.kids.length c6] 27)).heap.size x (cellsX x.kind x.set A3 x.kids.length c3)) :=
      ⟨PutX.new w6 _, hl6.later hal, (hal.block g3 hx6.lt).trans hx6, (HX5.out.2.later hb6).later hal⟩
    have HB7 : Hid (Below w.heap.size w (w6.alloc (.cells #[.int .i64 y.kind, .int .u64 y.set.a, .int .u64 y.set.b, .int .u64 y.set.c, .int .u64 y.set.d, .slice A6 y.kids.length c6] 27))) := hb6w.trans (hal.mono hb6w.size)
    clear hn6 hb6 hb6w hal hl6 hx6 HX5 HP6
    unfold argX
    go_upto_region 11 with fail
    generalize w6.alloc (.cells #[.int .i64 y.kind, .int .u64 y.set.a, .int .u64 y.set.b, .int .u64 y.set.c, .int .u64 y.set.d, .slice A6 y.kids.length c6] 27) = w7 at *
    generalize w6.heap.size = g6 at *
    have ⟨v0, v1, v2, v3, v4, v5⟩ := HX7.out.1.cells
    rcases Nat.lt_or_ge 200 T.size with hl | hl
    · have hQ := HPS.out.1 hl
      injection hQ with hy hQ
      injection hQ with hp2 he2
      subst he2; subst hp2
      have hpy := Print_any y A6 c6 w7 HX7.out.2.1
      unfold argX at hpy
      obtain ⟨PU, hPU⟩ : ∃ PU, printP y = PU := ⟨_, rfl⟩
      rw [hPU] at hpy
      obtain ⟨U, hU⟩ : ∃ U : ByteArray, bs PU.1 = U := ⟨_, rfl⟩
      rw [hU] at hpy
      have HPY := Lib.hid hpy
      clear hpy hPU hU hy HPS HSM HPX
      go_wp2_with (go_at_call 8; apply Hid.out)
      unfold Hid
      refine HPY.out.mono ?_
      rintro e w8 ⟨rfl, hb8⟩
      have HB8 : Hid (Below w.heap.size w w8) := HB7.out.trans (hb8.mono HB7.out.size)
      clear hb8
      go_wp2_with fail
      exact bodyPost_ret (v := .bool true) (by simp [results, Try.results3, go_sem]) rfl ⟨rfl, HB8.out⟩
    · have hQ := HPS.out.2 hl
      injection hQ with hy hQ
      injection hQ with hp2 he2
      subst he2; subst hp2; subst hy
      have hpy := HPX.out A6 c6 w7 HX7.out.2.1
      unfold argX at hpy
      have HPY := Lib.hid hpy
      clear hpy HPS HPX
      go_wp2_with (go_at_call 8; apply Hid.out)
      unfold Hid
      refine HPY.out.mono ?_
      rintro e w8 ⟨rfl, hb8⟩
      have HB8 : Hid (Below w.heap.size w w8) := HB7.out.trans (hb8.mono HB7.out.size)
      have ⟨v0, v1, v2, v3, v4, v5⟩ := (show PutX w8 g6 [.int .i64 y.kind, .int .u64 y.set.a, .int .u64 y.set.b, .int .u64 y.set.c, .int .u64 y.set.d, .slice A6 y.kids.length c6] from (hb8.block g6 HX7.out.1.lt).trans HX7.out.1).cells
      have ⟨x0, x1, x2, x3, x4, x5⟩ := (show PutX w8 g3 [.int .i64 y.kind, .int .u64 y.set.a, .int .u64 y.set.b, .int .u64 y.set.c, .int .u64 y.set.d, .slice A3 y.kids.length c3] from (hb8.block g3 HX7.out.2.2.1.lt).trans HX7.out.2.2.1).cells
      have hsm := HSM.out A3 A6 c3 c6 w8 (HX7.out.2.2.2.later hb8) (HX7.out.2.1.later hb8)
      unfold argX at hsm
      have HSM8 := Lib.hid hsm
      have dT : (T.toList == T.toList) = true := by simp
      clear hb8 hsm HSM
      go_wp2_with (go_at_call 9; apply Hid.out)
      unfold Hid
      refine HSM8.out.mono ?_
      rintro e w9 ⟨rfl, hb9⟩
      have HB9 : Hid (Below w.heap.size w w9) := HB8.out.trans (hb9.mono HB8.out.size)
      clear hb9
      go_wp2_with fail
      exact bodyPost_ret (v := .bool true) (by simp [results, Try.results3, go_sem]) rfl ⟨rfl, HB9.out⟩
theorem rexAgain_any (s : ByteArray) (w : World) (hs : s.size ≤ 140737488351232) :
    Calls Try.prog 3 #[.string s] w fun e w' => e = .returned (.bool true) ∧ Below w.heap.size w w' :=
  rexAgain_walk s w (by unfold maxLen; omega)
end Go.Proofs.Ytnjjchbgnmjkjaa
