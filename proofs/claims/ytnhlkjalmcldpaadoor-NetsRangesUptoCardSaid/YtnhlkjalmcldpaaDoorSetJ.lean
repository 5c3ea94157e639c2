/- The walk of NetsRanges. -/
import Derived.Test.YtnhlkjalmcldpaaDoorSetB
import Derived.Deep.RegionHeld3
import Derived.Deep.CutRange
namespace Go.Proofs.YtnhlkjalmcldpaaDoor
open Go.RowKit

theorem run_eq64W (d : Nat) (x y : Int) (w : World) : (Op.equalIn (d + 1) 22 (.int .u64 x) (.int .u64 y)).run Tryd.prog w = .ok (x == y) w := by
  simp [Op.equalIn, run_underlying Tryd.underlying22]
theorem plain_u64W : Tryd.prog.plainKey 22 = true := by kernel_rfl
theorem cellsOf_u64W : Tryd.prog.cellsOf 22 = 1 := by kernel_rfl
theorem info_u64X : ∃ i, Tryd.prog.info? 22 = some i := by
  cases h : Tryd.prog.info? 22 with
  | some i => exact ⟨i, rfl⟩
  | none => exact absurd (show (Tryd.prog.info? 22).isSome = true by kernel_rfl) (by rw [h]; decide)
theorem items_oneW (d i : Nat) (is : List Nat) (xs ys : Array Value) (x y : Int) (hx : xs[i]? = some (.int .u64 x)) (hy : ys[i]? = some (.int .u64 y)) (w : World) :
    (Op.eqItems (d + 1) 22 1 xs ys (i :: is)).run Tryd.prog w = if x = y then (Op.eqItems (d + 1) 22 1 xs ys is).run Tryd.prog w else .ok false w := by
  simp only [Op.eqItems, Sem.run_bind, Nat.mul_one, run_part_plain w plain_u64W hx, run_part_plain w plain_u64W hy, Result.andThen_ok, run_eq64W]
  by_cases h : x = y
  · subst h; simp
  · have : (x == y) = false := beq_eq_false_iff_ne.2 h
    simp [h]
set_option maxRecDepth 100000 in
theorem run_setA (x y : Set4) (w : World) : (Op.equal 24 (setA x) (setA y)).run Tryd.prog w = .ok (decide (x = y)) w := by
  obtain ⟨i, hi⟩ := info_u64X
  obtain ⟨a, b, c, d⟩ := x
  obtain ⟨a', b', c', d'⟩ := y
  have h := run_equalIn_array (P := Tryd.prog) (w := w) 9999 #[.int .u64 a, .int .u64 b, .int .u64 c, .int .u64 d] #[.int .u64 a', .int .u64 b', .int .u64 c', .int .u64 d'] Tryd.underlying24 hi
  rw [cellsOf_u64W] at h
  unfold Op.equal setA
  refine h.trans ?_
  rw [show List.range 4 = [0, 1, 2, 3] from rfl, items_oneW 9998 0 _ _ _ a a' rfl rfl, items_oneW 9998 1 _ _ _ b b' rfl rfl, items_oneW 9998 2 _ _ _ c c' rfl rfl, items_oneW 9998 3 _ _ _ d d' rfl rfl]
  by_cases h1 : a = a' <;> by_cases h2 : b = b' <;> by_cases h3 : c = c' <;> by_cases h4 : d = d' <;> simp [h1, h2, h3, h4, Op.eqItems]
theorem run_setA_same (x : Set4) (w : World) : (binOp .eql 24 (setA x) (setA x)).run Tryd.prog w = .ok (.bool true) w := by
  have h := run_setA x x w
  rw [decide_eq_true rfl] at h
  unfold setA at h ⊢
  simp only [binOp, Sem.run_bind]
  rw [h]
  rfl
theorem run_setA_not (x : Set4) (w : World) : (binOp .neq 24 (setA x) (setA x)).run Tryd.prog w = .ok (.bool false) w := by
  have h := run_setA x x w
  rw [decide_eq_true rfl] at h
  unfold setA at h ⊢
  simp only [binOp, Sem.run_bind]
  rw [h]
  rfl
theorem undrewW {B : Nat} {W w' : World} (hb : Below B W.drew w') : Below B W w' := ⟨hb.os, hb.tape, hb.output, hb.size, hb.block⟩
def constP (k : Nat) : Bool := ((k : Int) == 9) || ((k : Int) == 65) || ((k : Int) == 66)
set_option maxRecDepth 100000 in
theorem ranges1_any (k : Nat) (w : World) : Calls Tryd.prog 11 (#[.int .i64 (k : Int)] ++ #[]) w (BoolPost (constP k) w) := by
  have HC : Hid (constP k = (((k : Int) == 9) || ((k : Int) == 65) || ((k : Int) == 66))) := rfl
  generalize q1 : ((k : Int) == 9) = b1 at *
  generalize q2 : ((k : Int) == 65) = b2 at *
  generalize q3 : ((k : Int) == 66) = b3 at *
  cases b1 <;> cases b2 <;> cases b3
  all_goals
    go_enter Tryd.func11, Tryd.ntmps11
    go_wp2_with fail
    go_ret
    exact ⟨ret_bool (by rw [HC.out]; rfl), Below.refl _ _⟩
set_option maxRecDepth 100000 in
theorem ranges2_any (f g : Nat → Bool) (ga gb : Nat) (k : Nat) (hk : k < 256) (w : World) (ha : FourW w ga (setF f)) (hb : FourW w gb (setF g)) :
    Calls Tryd.prog 12 (#[.int .i64 (k : Int)] ++ #[.pointer (some ⟨ga, 0, none⟩), .pointer (some ⟨gb, 0, none⟩)]) w (BoolPost (f k || g k) w) := by
  have H1 := Lib.hid (Is_any f k hk w)
  have H2 : Hid (∀ W, _) := fun W => Is_any g k hk W
  have HB := Lib.hid hb
  obtain ⟨a0, a1, a2, a3⟩ := ha.cells
  unfold setA at *
  clear ha hb
  cases hf : f k with
  | true =>
    rw [hf] at H1
    clear hf
    go_enter Tryd.func12, Tryd.ntmps12
    go_wp2_with fail
    refine H1.out.mono ?_
    rintro e w1 ⟨rfl, hb1⟩
    go_wp2_with fail
    go_ret
    exact ⟨rfl, hb1⟩
  | false =>
    rw [hf] at H1
    clear hf
    go_enter Tryd.func12, Tryd.ntmps12
    go_wp2_with fail
    refine H1.out.mono ?_
    rintro e w1 ⟨rfl, hb1⟩
    obtain ⟨b0, b1, b2, b3⟩ := (HB.out.below hb1 HB.out.lt).cells
    go_wp2_with fail
    refine (H2.out _).mono ?_
    rintro e w2 ⟨rfl, hb2⟩
    go_wp2_with fail
    go_ret
    exact ⟨rfl, hb1.trans (hb2.mono hb1.size)⟩

set_option maxRecDepth 100000 in
set_option maxHeartbeats 1600000 in
theorem netsRanges_any (s t : ByteArray) (w : World) (hs : s.size ≤ 1048576) (ht : t.size ≤ 1048576) (hlib : LibOk w) :
    Calls Tryd.prog 3 #[.string s, .string t] w fun e w' => e = .returned (.bool true) ∧ Below w.heap.size w w' := by
  have HBY : Hid (∀ (x : ByteArray) W, Below w.heap.size w W → x.size ≤ 4194304 → Calls Tryd.prog 9 #[.string x] W (BytesPost x.data.toList W)) := fun x W hb hx => Bytes_any x W (hlib.below hb) hx
  have hc0 : bytesR [57, 44, 54, 53, 45, 54, 54] = (setF constP, 0) := by
    unfold bytesR
    rw [if_pos const_ok, setF_congr (g := constP) const_in]
  have HC0 : Hid (∀ W, Below w.heap.size w W → Calls Tryd.prog 9 #[.string (ByteArray.mk #[57, 44, 54, 53, 45, 54, 54])] W fun e w' => e = .returned (.tuple #[setA (setF constP), .int .i64 0]) ∧ Below W.heap.size W w') := fun W hb => by
    have := HBY.out (ByteArray.mk #[57, 44, 54, 53, 45, 54, 54]) W hb (by decide)
    unfold BytesPost at this
    rw [show (ByteArray.mk #[57, 44, 54, 53, 45, 54, 54]).data.toList = [57, 44, 54, 53, 45, 54, 54] from rfl, hc0] at this
    exact this
  have HW0 : Hid (∀ W, Calls Tryd.prog 10 #[.func (.func 11) #[] #[]] W (SetPostW (setF constP) W)) := fun W =>
    WhereF_any 11 #[] (enters_of Tryd.func11 (by kernel_rfl) rfl) constP W fun W' k _ _ => ranges1_any k W'
  have HNE := Lib.hid (fun W => run_setA_not (setF constP) W)
  generalize setF constP = S0 at *
  clear hc0
  have hst : (s ++ ByteArray.mk #[44] ++ t).data.toList = s.data.toList ++ 44 :: t.data.toList := by simp
  have hBS : ∀ (x : ByteArray) (R : Set4 × Int), bytesR x.data.toList = R → ∀ W, Below w.heap.size w W → x.size ≤ 4194304 → Calls Tryd.prog 9 #[.string x] W fun e w' => e = .returned (.tuple #[setA R.1, .int .i64 R.2]) ∧ Below W.heap.size W w' := fun x R h W hb hx => by
    have := HBY.out x W hb hx
    unfold BytesPost at this
    rw [h] at this
    exact this
  have hss : (s ++ ByteArray.mk #[44] ++ t).size ≤ 4194304 := by rw [ByteArray.size_append, ByteArray.size_append]; show s.size + 1 + t.size ≤ _; omega
  obtain ⟨RA, hRA⟩ : ∃ R, bytesR s.data.toList = R := ⟨_, rfl⟩
  obtain ⟨RB, hRB⟩ : ∃ R, bytesR t.data.toList = R := ⟨_, rfl⟩
  obtain ⟨RC, hRC⟩ : ∃ R, bytesR (s ++ ByteArray.mk #[44] ++ t).data.toList = R := ⟨_, rfl⟩
  have HA : Hid (∀ W, _ → _) := fun W hb => hBS s RA hRA W hb (by omega)
  have HB : Hid (∀ W, _ → _) := fun W hb => hBS t RB hRB W hb (by omega)
  have HC : Hid (∀ W, _ → _) := fun W hb => hBS _ RC hRC W hb hss
  rw [hst] at hRC
  have HCASE : Hid ((∃ f g, RA = (setF f, 0) ∧ RB = (setF g, 0) ∧ RC = (setF fun k => f k || g k, 0)) ∨ ((RA.2 = 3 ∨ (RA.2 = 0 ∧ RB.2 = 3)) ∧ RC = (.zero, 3))) := by
    unfold Hid
    rw [← hRA, ← hRB, ← hRC]
    unfold bytesR
    rw [okB_append]
    cases okB s.data.toList with
    | false => exact .inr ⟨.inl rfl, rfl⟩
    | true =>
      cases okB t.data.toList with
      | false => exact .inr ⟨.inr ⟨rfl, rfl⟩, rfl⟩
      | true => exact .inl ⟨inB s.data.toList, inB t.data.toList, rfl, rfl, by simp only [Bool.and_self, if_true]; rw [setF_congr fun k _ => inB_append s.data.toList t.data.toList k]⟩
  have HLT : s.size + 1 + t.size ≤ 9223372036854775807 := by omega
  clear hst hBS hss hRA hRB hRC HBY hlib
  obtain ⟨SA, ea⟩ := RA
  obtain ⟨SB, eb⟩ := RB
  obtain ⟨SC, ec⟩ := RC
  dsimp only at HA HB HC HCASE
  go_enter Tryd.func3, Tryd.ntmps3
  go_wp2_with fail
  refine (HC0.out _ (Below.refl _ _)).mono ?_
  rintro e w1 ⟨rfl, hb1⟩
  unfold setA
  go_upto_region 2 with fail
  have hF5 : FourW (w1.alloc (.cells #[.int .u64 S0.a, .int .u64 S0.b, .int .u64 S0.c, .int .u64 S0.d] 24)) w1.heap.size S0 := heap_alloc_new w1 _
  have hbW : Below w.heap.size w (w1.alloc (.cells #[.int .u64 S0.a, .int .u64 S0.b, .int .u64 S0.c, .int .u64 S0.d] 24)) := hb1.alloc hb1.size _
  generalize w1.alloc (.cells #[.int .u64 S0.a, .int .u64 S0.b, .int .u64 S0.c, .int .u64 S0.d] 24) = W1 at *
  generalize w1.heap.size = g5 at *
  go_cut [23] from 17 to 23 (fun s23 wx => s23 = .bool false ∧ Below w.heap.size w wx)
  case first =>
    have hne := HNE.out
    unfold setA at hne
    have HF5 := Lib.hid hF5
    obtain ⟨c0, c1, c2, c3⟩ := hF5.cells
    have HWW : Hid (∀ W, Calls Tryd.prog 10 #[.func (.func 11) #[] #[]] W (SetPostW S0 W)) := HW0.out
    clear hb1 hF5
    go_region_held3 (fun w' => w'.cell? ⟨g5, 0, none⟩ = some (.int .u64 S0.a) ∧ w'.cell? ⟨g5, 1, none⟩ = some (.int .u64 S0.b) ∧ w'.cell? ⟨g5, 2, none⟩ = some (.int .u64 S0.c) ∧ w'.cell? ⟨g5, 3, none⟩ = some (.int .u64 S0.d))
      (first | go_keep | exact (HF5.out.below hb66 HF5.out.lt).cells)
      (first | (go_at_call 10; refine (HWW.out _).mono ?_; rintro e w6 ⟨rfl, hb6⟩; have hb66 : Below W1.heap.size W1 w6 := (by first | exact hb6 | exact undrewW hb6); unfold setA))
    all_goals
      go_wp2_with fail
      go_meet
      exact ⟨rfl, (by first | exact hbW.trans (hb66.mono hbW.size) | exact (hbW.trans (hb66.mono hbW.size)).drew)⟩
  case rest =>
    obtain ⟨rfl, hb2⟩ := hcut
    clear hb1 hbW hF5
    go_wp2_with fail
    refine (HA.out _ hb2).mono ?_
    rintro e w3 ⟨rfl, hc3⟩
    have hd3 := hb2.trans (hc3.mono hb2.size)
    unfold setA
    clear hc3 hb2
    go_wp2_with fail
    have hFA : FourW (w3.alloc (.cells #[.int .u64 SA.a, .int .u64 SA.b, .int .u64 SA.c, .int .u64 SA.d] 24)) w3.heap.size SA := heap_alloc_new w3 _
    have hb3 := hd3.alloc hd3.size (.cells #[.int .u64 SA.a, .int .u64 SA.b, .int .u64 SA.c, .int .u64 SA.d] 24)
    generalize w3.alloc (.cells #[.int .u64 SA.a, .int .u64 SA.b, .int .u64 SA.c, .int .u64 SA.d] 24) = W3 at *
    generalize w3.heap.size = ga at *
    clear hd3
    refine (HB.out _ hb3).mono ?_
    rintro e w4 ⟨rfl, hc4⟩
    have hd4 := hb3.trans (hc4.mono hb3.size)
    have hFA := hFA.below hc4 hFA.lt
    unfold setA
    clear hc4 hb3
    go_wp2_with fail
    have hFB : FourW (w4.alloc (.cells #[.int .u64 SB.a, .int .u64 SB.b, .int .u64 SB.c, .int .u64 SB.d] 24)) w4.heap.size SB := heap_alloc_new w4 _
    have hb4 := hd4.alloc hd4.size (.cells #[.int .u64 SB.a, .int .u64 SB.b, .int .u64 SB.c, .int .u64 SB.d] 24)
    have hFA := hFA.below ((Below.refl _ _).alloc (Nat.le_refl _) (.cells #[.int .u64 SB.a, .int .u64 SB.b, .int .u64 SB.c, .int .u64 SB.d] 24)) hFA.lt
    generalize w4.alloc (.cells #[.int .u64 SB.a, .int .u64 SB.b, .int .u64 SB.c, .int .u64 SB.d] 24) = W4 at *
    generalize w4.heap.size = gb at *
    clear hd4
    refine (HC.out _ hb4).mono ?_
    rintro e w5 ⟨rfl, hc5⟩
    have hd5 := hb4.trans (hc5.mono hb4.size)
    have hFA := hFA.below hc5 hFA.lt
    have hFB := hFB.below hc5 hFB.lt
    unfold setA
    clear hc5 hb4
    go_upto_region 7 with fail
    have hFC : FourW (w5.alloc (.cells #[.int .u64 SC.a, .int .u64 SC.b, .int .u64 SC.c, .int .u64 SC.d] 24)) w5.heap.size SC := heap_alloc_new w5 _
    have hb5 := hd5.alloc hd5.size (.cells #[.int .u64 SC.a, .int .u64 SC.b, .int .u64 SC.c, .int .u64 SC.d] 24)
    have hFA := hFA.below ((Below.refl _ _).alloc (Nat.le_refl _) (.cells #[.int .u64 SC.a, .int .u64 SC.b, .int .u64 SC.c, .int .u64 SC.d] 24)) hFA.lt
    have hFB := hFB.below ((Below.refl _ _).alloc (Nat.le_refl _) (.cells #[.int .u64 SC.a, .int .u64 SC.b, .int .u64 SC.c, .int .u64 SC.d] 24)) hFB.lt
    generalize w5.alloc (.cells #[.int .u64 SC.a, .int .u64 SC.b, .int .u64 SC.c, .int .u64 SC.d] 24) = W5 at *
    generalize w5.heap.size = gc at *
    clear hd5 HA HB HC HC0 HNE HW0
    rcases HCASE.out with ⟨f, g, h1, h2, h3⟩ | ⟨h1, h3⟩
    · injection h1 with h1 h1'
      injection h2 with h2 h2'
      injection h3 with h3 h3'
      subst h1'
      subst h2'
      subst h3'
      clear HCASE
      obtain ⟨c0, c1, c2, c3⟩ := hFC.cells
      rw [h1] at hFA
      rw [h2] at hFB
      have hrs := fun W => run_setA_same SC W
      have HWW : Hid (∀ W, Below W5.heap.size W5 W → Calls Tryd.prog 10 #[.func (.func 12) #[] #[.pointer (some ⟨ga, 0, none⟩), .pointer (some ⟨gb, 0, none⟩)]] W (SetPostW SC W)) := fun W hb => by
        rw [h3]
        exact WhereF_any 12 _ (enters_of Tryd.func12 (by kernel_rfl) rfl) (fun k => f k || g k) W fun W' k hk hb' =>
          ranges2_any f g ga gb k hk W' ((hFA.below hb hFA.lt).below hb' (Nat.lt_of_lt_of_le hFA.lt hb.size)) ((hFB.below hb hFB.lt).below hb' (Nat.lt_of_lt_of_le hFB.lt hb.size))
      have HFC := Lib.hid hFC
      unfold setA at hrs
      clear hFA hFB h1 h2 h3 hFC
      go_wp2_with fail
      go_region_held3 (fun w' => w'.cell? ⟨gc, 0, none⟩ = some (.int .u64 SC.a) ∧ w'.cell? ⟨gc, 1, none⟩ = some (.int .u64 SC.b) ∧ w'.cell? ⟨gc, 2, none⟩ = some (.int .u64 SC.c) ∧ w'.cell? ⟨gc, 3, none⟩ = some (.int .u64 SC.d))
        (first | go_keep | exact (HFC.out.below hb66 HFC.out.lt).cells)
        (first | (go_at_call 10; refine (HWW.out _ ?_).mono ?_; (first | exact Below.refl _ _ | exact (Below.refl _ _).drew); rintro e w6 ⟨rfl, hb6⟩; have hb66 : Below W5.heap.size W5 w6 := (by first | exact hb6 | exact undrewW hb6); unfold setA))
      all_goals
        go_wp2_with fail
        go_ret
        exact ⟨rfl, (by first | exact hb5.trans (hb66.mono hb5.size) | exact (hb5.trans (hb66.mono hb5.size)).drew)⟩
    · injection h3 with h3 h3'
      subst h3'
      subst h3
      obtain ⟨c0, c1, c2, c3⟩ := hFC.cells
      have hrs := fun W => run_setA_same Set4.zero W
      unfold setA at hrs
      rw [show Set4.zero.a = 0 from rfl, show Set4.zero.b = 0 from rfl, show Set4.zero.c = 0 from rfl, show Set4.zero.d = 0 from rfl] at *
      clear hFA hFB hFC HCASE
      rcases h1 with h1 | ⟨h1, h2⟩
      · subst h1
        go_wp2_with fail
        go_ret
        exact ⟨rfl, hb5⟩
      · subst h1
        subst h2
        go_wp2_with fail
        go_ret
        exact ⟨rfl, hb5⟩
end Go.Proofs.YtnhlkjalmcldpaaDoor
