/- The walk of RexBack. -/
import Derived.Test.YtnjjchbgnmjkjaaRqr
import Derived.Test.YtnjjchbgnmjkjaaRexO
namespace Go.Proofs.Ytnjjchbgnmjkjaa
open Go.RowKit

theorem LT.later {w w' : World} {t : Tree} {cs : List Value} (h : LT w w.heap.size t cs) (hb : Below w.heap.size w w') : LT w' w'.heap.size t cs := (h.below hb).more hb.size
theorem NewX.lt {w w' : World} {t : Tree} {A : Option Addr} {c : Nat} (h : NewX w w' t A c) : LT w' w'.heap.size t (cellsX t.kind t.set A t.kids.length c) := LX.lt (fun _ hb => hb.2) _ _ h

set_option maxRecDepth 100000 in
set_option maxHeartbeats 6400000 in
theorem rexBack_walk (t : Tree) (A : Option Addr) (c : Nat) (w : World) (h : LT w w.heap.size t (cellsX t.kind t.set A t.kids.length c)) :
    Calls Try.prog 4 #[argX t A c] w fun e w' => e = .returned (.bool true) ∧ Below w.heap.size w w' := by
  have hw := LT.wf t _ h
  obtain ⟨W0, hW0⟩ : ∃ W0, w.alloc (.cells #[.int .i64 t.kind, .int .u64 t.set.a, .int .u64 t.set.b, .int .u64 t.set.c, .int .u64 t.set.d, .slice A t.kids.length c] 27) = W0 := ⟨_, rfl⟩
  have hbx : ∀ W, Below (w.heap.size + 1) W0 W → PutX W w.heap.size [.int .i64 t.kind, .int .u64 t.set.a, .int .u64 t.set.b, .int .u64 t.set.c, .int .u64 t.set.d, .slice A t.kids.length c] ∧ Below w.heap.size w W := fun W hW => by
    have hz : W0.heap.size = w.heap.size + 1 := by rw [← hW0]; simp
    have hp : PutX W0 w.heap.size [.int .i64 t.kind, .int .u64 t.set.a, .int .u64 t.set.b, .int .u64 t.set.c, .int .u64 t.set.d, .slice A t.kids.length c] := by rw [← hW0]; exact PutX.new w _
    have hb : Below w.heap.size w W0 := by rw [← hW0]; exact (Below.refl _ _).alloc (Nat.le_refl _) _
    exact ⟨(hW.block _ (Nat.lt_succ_self _)).trans hp, hb.trans (hW.mono (Nat.le_succ _))⟩
  have hz0 : W0.heap.size = w.heap.size + 1 := by rw [← hW0]; simp
  have HBX : Hid (∀ W, Below (w.heap.size + 1) W0 W → PutX W w.heap.size [.int .i64 t.kind, .int .u64 t.set.a, .int .u64 t.set.b, .int .u64 t.set.c, .int .u64 t.set.d, .slice A t.kids.length c] ∧ Below w.heap.size w W) := hbx
  have HTR : Hid (∀ W, Below (w.heap.size + 1) W0 W → LT W W.heap.size t (cellsX t.kind t.set A t.kids.length c)) := fun W hW => h.later (hbx W hW).2
  have HZ : Hid (∀ W, Below (w.heap.size + 1) W0 W → w.heap.size + 1 ≤ W.heap.size) := fun W hW => by have := hW.size; omega
  have HW0 := Lib.hid hW0
  have HWF := Lib.hid hw
  have HR0 : Hid (Below (w.heap.size + 1) W0 W0) := Below.refl _ _
  unfold argX
  clear h hw hbx hW0 hz0
  go_enter Try.func4, Try.ntmps4
  go_upto_region 1 with fail
  rw [HW0.out]
  have HL1 := Lib.hid (letterF_any 97 W0)
  go_wp2_with (go_at_call 11; apply Hid.out)
  unfold Hid
  refine HL1.out.mono ?_
  rintro e w1 ⟨A1, c1, rfl, hl1, hb1⟩
  have HB1 : Hid (Below (w.heap.size + 1) W0 w1) := HR0.out.trans (hb1.mono (HZ.out _ HR0.out))
  have HL2 := Lib.hid (letterF_any 46 w1)
  have HT1 := Lib.hid hl1
  clear hl1 hb1
  unfold argX
  go_wp2_with (go_at_call 11; apply Hid.out)
  unfold Hid
  refine HL2.out.mono ?_
  rintro e w2 ⟨A2, c2, rfl, hl2, hb2⟩
  have HB2 : Hid (Below (w.heap.size + 1) W0 w2) := HB1.out.trans (hb2.mono (HZ.out _ HB1.out))
  have HT2 : Hid (LT w2 w2.heap.size (byT (leF 97)) (cellsX (byT (leF 97)).kind (byT (leF 97)).set A1 (byT (leF 97)).kids.length c1)) := HT1.out.later hb2
  have hst := star_any (byT (leF 46)) A2 c2 w2 hl2
  clear hl2 hb2
  unfold argX at hst
  have HST := Lib.hid hst
  clear hst
  unfold argX
  go_wp2_with (go_at_call 12; apply Hid.out)
  unfold Hid
  refine HST.out.mono ?_
  rintro e w3 ⟨A3, c3, rfl, hl3, hb3⟩
  have HB3 : Hid (Below (w.heap.size + 1) W0 w3) := HB2.out.trans (hb3.mono (HZ.out _ HB2.out))
  have htw := two_any 4 (byT (leF 97)) (starT (byT (leF 46))) A1 A3 c1 c3 w3 (HT2.out.later hb3) hl3
  clear hl3 hb3
  unfold argX at htw
  have HTW := Lib.hid htw
  clear htw
  go_wp2_with (go_at_call 10; apply Hid.out)
  unfold Hid
  refine HTW.out.mono ?_
  rintro e w4 ⟨A4, c4, rfl, hl4, hb4⟩
  have HB4 : Hid (Below (w.heap.size + 1) W0 w4) := HB3.out.trans (hb4.mono (HZ.out _ HB3.out))
  have hpr := Print_any backT A4 c4 w4 hl4
  rw [back_const] at hpr
  unfold argX at hpr
  have HPR := Lib.hid hpr
  clear hpr hl4 hb4
  unfold argX
  go_wp2_with (go_at_call 8; apply Hid.out)
  unfold Hid
  refine HPR.out.mono ?_
  rintro e w5 ⟨rfl, hb5⟩
  have HB5 : Hid (Below (w.heap.size + 1) W0 w5) := HB4.out.trans (hb5.mono (HZ.out _ HB4.out))
  clear hb5 HL1 HL2 HT1 HT2 HST HTW HPR
  have hpr := Print_any t A c w5 (HTR.out _ HB5.out)
  unfold argX at hpr
  obtain ⟨ce, hce⟩ : ∃ ce, checkT t = ce := ⟨_, rfl⟩
  have hpp : printP t = if ce ≠ 0 then ([], ce) else (showT t, 0) := by unfold printP; rw [hce]
  rw [hpp] at hpr
  have ⟨x0, x1, x2, x3, x4, x5⟩ := (HBX.out _ HB5.out).1.cells
  by_cases h0 : ce = 0
  rotate_left
  · rw [if_pos h0] at hpr
    have HPR := Lib.hid hpr
    have q1 : (ce != 0) = true := bne_iff_ne.2 h0
    have q2 : (ce == ce) = true := by simp
    have HCK : Hid (∀ W, Below (w.heap.size + 1) W0 W → Calls Try.prog 13 #[.agg #[.int .i64 t.kind, .int .u64 t.set.a, .int .u64 t.set.b, .int .u64 t.set.c, .int .u64 t.set.d, .slice A t.kids.length c]] W fun e w' => e = .returned (.int .i64 ce) ∧ Below W.heap.size W w') := fun W hW => by
      have := Check_any2 t (cellsX t.kind t.set A t.kids.length c) W (HTR.out _ hW)
      rw [hce] at this
      exact this
    clear hpr hpp hce h0
    go_wp2_with (go_at_call 8; apply Hid.out)
    unfold Hid
    refine HPR.out.mono ?_
    rintro e w6 ⟨rfl, hb6⟩
    have HB6 : Hid (Below (w.heap.size + 1) W0 w6) := HB5.out.trans (hb6.mono (HZ.out _ HB5.out))
    have ⟨x0, x1, x2, x3, x4, x5⟩ := (HBX.out _ HB6.out).1.cells
    have HC6 := Lib.hid (HCK.out _ HB6.out)
    clear hb6
    go_wp2_with (go_at_call 13; apply Hid.out)
    unfold Hid
    refine HC6.out.mono ?_
    rintro e w7 ⟨rfl, hb7⟩
    have HB7 := Lib.hid (HBX.out _ (HB6.out.trans (hb7.mono (HZ.out _ HB6.out)))).2
    clear hb7
    go_wp2_with fail
    exact bodyPost_ret (v := .bool true) (by simp [results, Try.results4, go_sem]) rfl ⟨rfl, HB7.out⟩
  · rw [if_neg (fun h => h h0)] at hpr
    have hc0 : checkT t = 0 := by rw [hce, h0]
    have hps := parse_show hc0 HWF.out
    have hpa := fun W => Parse_any (bs (showT t)) W (by rw [bs_size]; have := show_small hc0; unfold maxLen; omega)
    rw [bs_toList] at hpa
    obtain ⟨T, hT⟩ : ∃ T : ByteArray, bs (showT t) = T := ⟨_, rfl⟩
    obtain ⟨P, hP⟩ : ∃ P, parseP (showT t) = P := ⟨_, rfl⟩
    rw [hT] at hpr
    rw [hT, hP] at hpa
    rw [hP] at hps
    have hTl : T.size = (showT t).length := by rw [← hT, bs_size]
    rw [← hTl] at hps
    have HPR := Lib.hid hpr
    have HPA := Lib.hid hpa
    have hNO := none_any t (chk_fine t 1 0 hc0)
    have HNO : Hid (∀ W, Below (w.heap.size + 1) W0 W → Calls Try.prog 14 #[.agg #[.int .i64 t.kind, .int .u64 t.set.a, .int .u64 t.set.b, .int .u64 t.set.c, .int .u64 t.set.d, .slice A t.kids.length c]] W fun e w' => e = .returned (.bool (asksT 1 t)) ∧ Below W.heap.size W w') := fun W hW => by
      have := hNO A c W (HTR.out _ hW)
      unfold argX at this
      exact this
    have HSM := Lib.hid (same_any t (chk_fine t 1 0 hc0))
    have HNA := Lib.hid (non_asks t)
    obtain ⟨no, hno⟩ : ∃ no, asksT 1 t = no := ⟨_, rfl⟩
    rw [hno] at HNO HNA
    have HPS := Lib.hid hps
    obtain ⟨x, pos, er⟩ := P
    dsimp only at HPA HPS
    unfold PaPost at HPA
    dsimp only at HPA
    clear hpr hpp hpa hps hT hP hTl hc0 hce hNO hno h0
    go_wp2_with (go_at_call 8; apply Hid.out)
    unfold Hid
    refine HPR.out.mono ?_
    rintro e w6 ⟨rfl, hb6⟩
    have HB6 : Hid (Below (w.heap.size + 1) W0 w6) := HB5.out.trans (hb6.mono (HZ.out _ HB5.out))
    have HP6 := Lib.hid (HPA.out w6)
    clear hb6 x0 x1 x2 x3 x4 x5
    go_wp2_with (go_at_call 7; apply Hid.out)
    unfold Hid
    refine HP6.out.mono ?_
    rintro e w7 ⟨A7, c7, rfl, hn7, hb7⟩
    have HB7 : Hid (Below (w.heap.size + 1) W0 w7) := HB6.out.trans (hb7.mono (HZ.out _ HB6.out))
    have hl7 := hn7.lt
    unfold argX
    have hal : Below w7.heap.size w7 (w7.alloc (.cells #[.int .i64 x.kind, .int .u64 x.set.a, .int .u64 x.set.b, .int .u64 x.set.c, .int .u64 x.set.d, .slice A7 x.kids.length c7] 27)) := (Below.refl _ _).alloc (Nat.le_refl _) _
    have HX7 : Hid (PutX (w7.alloc (.cells #[.int .i64 x.kind, .int .u64 x.set.a, .int .u64 x.set.b, .int .u64 x.set.c, .int .u64 x.set.d, .slice A7 x.kids.length c7] 27)) w7.heap.size [.int .i64 x.kind, .int .u64 x.set.a, .int .u64 x.set.b, .int .u64 x.set.c, .int .u64 x.set.d, .slice A7 x.kids.length c7] ∧ LT (w7.alloc (.cells #[.int .i64 x.kind, .int .u64 x.set.a, .int .u64 x.set.b, .int .u64 x.set.c, .int .u64 x.set.d, .slice A7 x.kids.length c7] 27)) (w7.alloc (.cells #[.int .i64 x.kind, .int .u64 x.set.a, .int .u64 x.set.b, .int .u64 x.set.c, .int .u64 x.set.d, .slice A7 x.kids.length c7] 27)).heap.size x (cellsX x.kind x.set A7 x.kids.length c7) ∧ w7.heap.size < (w7.alloc (.cells #[.int .i64 x.kind, .int .u64 x.set.a, .int .u64 x.set.b, .int .u64 x.set.c, .int .u64 x.set.d, .slice A7 x.kids.length c7] 27)).heap.size) := ⟨PutX.new w7 _, hl7.later hal, (PutX.new w7 _).lt⟩
    have HB8 : Hid (Below (w.heap.size + 1) W0 (w7.alloc (.cells #[.int .i64 x.kind, .int .u64 x.set.a, .int .u64 x.set.b, .int .u64 x.set.c, .int .u64 x.set.d, .slice A7 x.kids.length c7] 27))) := HB7.out.trans (hal.mono (HZ.out _ HB7.out))
    clear hn7 hb7 hl7 hal
    go_upto_region 8 with fail
    generalize w7.alloc (.cells #[.int .i64 x.kind, .int .u64 x.set.a, .int .u64 x.set.b, .int .u64 x.set.c, .int .u64 x.set.d, .slice A7 x.kids.length c7] 27) = w8 at *
    generalize w7.heap.size = g at *
    have ⟨x0, x1, x2, x3, x4, x5⟩ := (HBX.out _ HB8.out).1.cells
    have HN8 := Lib.hid (HNO.out _ HB8.out)
    go_wp2_with (go_at_call 14; apply Hid.out)
    unfold Hid
    refine HN8.out.mono ?_
    rintro e w9 ⟨rfl, hb9⟩
    have HB9 : Hid (Below (w.heap.size + 1) W0 w9) := HB8.out.trans (hb9.mono (HZ.out _ HB8.out))
    have HX9 : Hid (PutX w9 g [.int .i64 x.kind, .int .u64 x.set.a, .int .u64 x.set.b, .int .u64 x.set.c, .int .u64 x.set.d, .slice A7 x.kids.length c7] ∧ LT w9 w9.heap.size x (cellsX x.kind x.set A7 x.kids.length c7)) := ⟨(hb9.block g HX7.out.2.2).trans HX7.out.1, HX7.out.2.1.later hb9⟩
    have ⟨x0, x1, x2, x3, x4, x5⟩ := (HBX.out _ HB9.out).1.cells
    have HBW9 := Lib.hid (HBX.out _ HB9.out).2
    have ⟨v0, v1, v2, v3, v4, v5⟩ := HX9.out.1.cells
    clear hb9
    cases no with
    | true =>
      have hnn : ¬ NoN t := fun h => by have := HNA.out.1 h; cases this
      have he : er = 3 ∨ er = 2 := by
        rcases Nat.lt_or_ge 200 T.size with hl | hl
        · have := HPS.out.1 hl; injection this with _ this; injection this with _ this; exact .inr this
        · exact .inl (HPS.out.2.2 hl hnn)
      clear HPS HSM
      rcases he with rfl | rfl
      · go_wp2_with fail
        exact bodyPost_ret (v := .bool true) (by simp [results, Try.results4, go_sem]) rfl ⟨rfl, HBW9.out⟩
      · go_wp2_with fail
        exact bodyPost_ret (v := .bool true) (by simp [results, Try.results4, go_sem]) rfl ⟨rfl, HBW9.out⟩
    | false =>
      have hnn : NoN t := HNA.out.2 rfl
      rcases Nat.lt_or_ge 200 T.size with hl | hl
      · have hP := HPS.out.1 hl
        injection hP with hx hP
        injection hP with hp he
        subst he; subst hp
        have hl3 : decide ((200 : Int) < (T.size : Int)) = true := decide_eq_true (by omega)
        clear HPS HSM
        go_wp2_with fail
        exact bodyPost_ret (v := .bool true) (by simp [results, Try.results4, go_sem]) rfl ⟨rfl, HBW9.out⟩
      · have hP := HPS.out.2.1 hl hnn
        injection hP with hx hP
        injection hP with hp he
        subst he; subst hp; subst hx
        have hsm := HSM.out A7 A c7 c w9 HX9.out.2 (HTR.out _ HB9.out)
        unfold argX at hsm
        have HSM9 := Lib.hid hsm
        clear HPS HSM hsm
        go_wp2_with (go_at_call 9; apply Hid.out)
        unfold Hid
        refine HSM9.out.mono ?_
        rintro e w10 ⟨rfl, hb10⟩
        have HBW10 : Hid (Below w.heap.size w w10) := HBW9.out.trans (hb10.mono HBW9.out.size)
        clear hb10
        go_wp2_with fail
        exact bodyPost_ret (v := .bool true) (by simp [results, Try.results4, go_sem]) rfl ⟨rfl, HBW10.out⟩
theorem rexBack_any (a : XArg) (w : World) {v : Value} (x : RexArg w v a) (_ : True) :
    Calls Try.prog 4 #[argX a.t a.A a.c] w fun e w' => e = .returned (.bool true) ∧ Below w.heap.size w w' :=
  rexBack_walk a.t a.A a.c w x.lt
end Go.Proofs.Ytnjjchbgnmjkjaa
