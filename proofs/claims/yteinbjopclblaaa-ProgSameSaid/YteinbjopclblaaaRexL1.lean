/- The walk of RexLaws. -/
import Derived.Test.YteinbjopclblaaaRexW
import Derived.Test.YteinbjopclblaaaRexO
import Derived.Laws.StructEq
import Derived.Deep.Cut
namespace Go.Proofs.Yteinbjopclblaaa
open Go.RowKit

def sameSp (a b c d : Int) : Bool := a == c && b == d
theorem run_span_neq (a b c d : Int) (w : World) : (binOp .neq 66 (spanV a b) (spanV c d)).run Try.prog w = .ok (.bool (!sameSp a b c d)) w := by
  unfold spanV
  rw [run_neq_struct, run_equalIn_agg w 9999 66 _ _ (by kernel_rfl) (by kernel_rfl)]
  have hf : (Try.prog.fieldsOf 66).toList.map (fun f => (f.name, f.type, f.offset)) = [("From", 3, 0), ("To", 3, 1)] := by kernel_rfl
  match hq : (Try.prog.fieldsOf 66).toList with
  | [f0, f1] =>
    rw [hq] at hf
    simp only [List.map_cons, List.map_nil, List.cons.injEq, Prod.mk.injEq, and_true] at hf
    obtain ⟨⟨n0, t0, o0⟩, n1, t1, o1⟩ := hf
    have hp : Try.prog.plainKey 3 = true := by kernel_rfl
    simp only [Op.eqFields, n0, n1, t0, t1, o0, o1, Sem.run_bind, Sem.run_ite]
    rw [if_pos (by decide)]
    rw [run_part_plain w hp (xs := #[.int .i64 a, .int .i64 b]) (off := 0) (v := .int .i64 a) rfl]
    simp only [Result.andThen_ok]
    rw [run_part_plain w hp (xs := #[.int .i64 c, .int .i64 d]) (off := 0) (v := .int .i64 c) rfl]
    simp only [Result.andThen_ok]
    rw [run_equalIn_int w 9998 3 .i64 .i64 a c Try.underlying3]
    simp only [Result.andThen_ok]
    unfold sameSp
    cases h1 : a == c with
    | false => simp
    | true =>
      rw [if_neg (by decide)]
      rw [run_part_plain w hp (xs := #[.int .i64 a, .int .i64 b]) (off := 1) (v := .int .i64 b) rfl]
      simp only [Result.andThen_ok]
      rw [run_part_plain w hp (xs := #[.int .i64 c, .int .i64 d]) (off := 1) (v := .int .i64 d) rfl]
      simp only [Result.andThen_ok]
      rw [run_equalIn_int w 9998 3 .i64 .i64 b d Try.underlying3]
      cases h2 : b == d <;> simp
  | [] => rw [hq] at hf; cases hf
  | [_] => rw [hq] at hf; simp at hf
  | _ :: _ :: _ :: _ => rw [hq] at hf; simp at hf
theorem chk_xabb : checkT (catT (letT 97) (starT (letT 98))) = 0 := by decide +kernel
theorem err_xabb : errF (catT (letT 97) (starT (letT 98))) 4 = 0 := by
  unfold errF; rw [if_neg (by rw [chk_xabb]; decide), if_neg (by decide)]

theorem found_xabb (A : Option Addr) (c : Nat) (W : World) (h : LT W W.heap.size (catT (letT 97) (starT (letT 98))) (cellsX (catT (letT 97) (starT (letT 98))).kind (catT (letT 97) (starT (letT 98))).set A (catT (letT 97) (starT (letT 98))).kids.length c)) :
    Calls Try.prog 34 #[argX (catT (letT 97) (starT (letT 98))) A c, .string (ByteArray.mk #[120, 97, 98, 98])] W fun e w' => e = .returned (.tuple #[.agg #[.int .i64 1, .int .i64 4], .bool true, .bool true]) ∧ Below W.heap.size W w' :=
  (found_any _ A c _ W h).mono fun e w' ⟨is, i, j, he, hf, hb⟩ => by
    obtain ⟨rfl, rfl, rfl⟩ := xabb_found (hf.2 err_xabb)
    have he0 : errF (catT (letT 97) (starT (letT 98))) (ByteArray.mk #[120, 97, 98, 98]).size = 0 := err_xabb
    rw [he0] at he
    exact ⟨he, hb⟩
theorem same_span (a b : Int) : sameSp a b a b = true := by unfold sameSp; simp
theorem err_fine {t : Tree} {n : Nat} (h : errF t n = 0) : Fine t := by
  unfold errF at h
  by_cases c : checkT t ≠ 0
  · rw [if_pos c] at h; exact absurd h c
  · exact chk_fine t 1 0 (Classical.not_not.1 c)
theorem law_boxes {w W : World} {c0 c1 c2 c3 c4 c5 d0 d1 d2 d3 d4 d5 : Value} {t t' : TypeId} (hb : Below (w.heap.size + 1 + 1) ((w.alloc (.cells #[c0, c1, c2, c3, c4, c5] t)).alloc (.cells #[d0, d1, d2, d3, d4, d5] t')) W) :
    (W.cell? ⟨w.heap.size, 0, none⟩ = some c0 ∧ W.cell? ⟨w.heap.size, 1, none⟩ = some c1 ∧ W.cell? ⟨w.heap.size, 2, none⟩ = some c2 ∧ W.cell? ⟨w.heap.size, 3, none⟩ = some c3 ∧ W.cell? ⟨w.heap.size, 4, none⟩ = some c4 ∧ W.cell? ⟨w.heap.size, 5, none⟩ = some c5) ∧
    (W.cell? ⟨w.heap.size + 1, 0, none⟩ = some d0 ∧ W.cell? ⟨w.heap.size + 1, 1, none⟩ = some d1 ∧ W.cell? ⟨w.heap.size + 1, 2, none⟩ = some d2 ∧ W.cell? ⟨w.heap.size + 1, 3, none⟩ = some d3 ∧ W.cell? ⟨w.heap.size + 1, 4, none⟩ = some d4 ∧ W.cell? ⟨w.heap.size + 1, 5, none⟩ = some d5) ∧ Below w.heap.size w W := by
  have hb' : Below ((w.alloc (.cells #[c0, c1, c2, c3, c4, c5] t)).alloc (.cells #[d0, d1, d2, d3, d4, d5] t')).heap.size ((w.alloc (.cells #[c0, c1, c2, c3, c4, c5] t)).alloc (.cells #[d0, d1, d2, d3, d4, d5] t')) W := by simpa using hb
  have h1 := box_six hb'
  have h2 := box_six (below_new hb' (Nat.le_refl _))
  rw [World.size_alloc] at h1
  exact ⟨h2.1, h1.1, h2.2⟩

set_option maxRecDepth 100000 in
set_option maxHeartbeats 3200000 in
theorem rexLaws_walk (tr tq : Tree) (A1 A2 : Option Addr) (c1 c2 : Nat) (s more : ByteArray) (w : World) (h1 : LT w w.heap.size tr (cellsX tr.kind tr.set A1 tr.kids.length c1)) (h2 : LT w w.heap.size tq (cellsX tq.kind tq.set A2 tq.kids.length c2))
    (hs : s.size ≤ 140737488351232) (hm : more.size ≤ 140737488351232) :
    Calls Try.prog 10 #[argX tr A1 c1, argX tq A2 c2, .string s, .string more] w (BoolPost true w) := by
  have HR : Hid (∀ W, Below w.heap.size w W → LT W W.heap.size tr (cellsX tr.kind tr.set A1 tr.kids.length c1)) := fun W hb => (h1.below hb).more hb.size
  have HQ : Hid (∀ W, Below w.heap.size w W → LT W W.heap.size tq (cellsX tq.kind tq.set A2 tq.kids.length c2)) := fun W hb => (h2.below hb).more hb.size
  have HFR : Hid (∀ W S, Below w.heap.size w W → Calls Try.prog 34 #[argX tr A1 c1, .string S] W (FoundPost tr S W)) := fun W S hb => found_any tr A1 c1 S W (HR.out W hb)
  have HFQ : Hid (∀ W S, Below w.heap.size w W → Calls Try.prog 34 #[argX tq A2 c2, .string S] W (FoundPost tq S W)) := fun W S hb => found_any tq A2 c2 S W (HQ.out W hb)
  have HALT : Hid (∀ W, Below w.heap.size w W → Calls Try.prog 35 #[.int .i64 5, argX tr A1 c1, argX tq A2 c2] W (TreePost (altT tr tq) W)) := fun W hb => two_any 5 tr tq A1 A2 c1 c2 W (HR.out W hb) (HQ.out W hb)
  have HBEG : Hid (∀ W, Below w.heap.size w W → Calls Try.prog 35 #[.int .i64 4, .agg #[.int .i64 7, .int .u64 0, .int .u64 0, .int .u64 0, .int .u64 0, .slice none 0 0], argX tr A1 c1] W (TreePost (catT beginT tr) W)) := fun W hb => two_any 4 beginT tr none A1 0 c1 W (by unfold beginT; rw [LT]; exact ⟨none, 0, rfl, zero_wf, LK.nil _ _ _⟩) (HR.out W hb)
  have HASK : Hid (Fine tr → ∀ W, Below w.heap.size w W → Calls Try.prog 38 #[argX tr A1 c1, .int .i64 8] W (BoolPost (asksT 8 tr) W)) := fun hf W hb => asks_any tr hf 8 A1 c1 W (HR.out W hb)
  have hsn := fun a b c d W => run_span_neq a b c d W
  have hlen : s.data.toList.length = s.size := by simp
  have HLEN := Lib.hid hlen
  have hadd : s.size + more.size ≤ 9223372036854775807 := by omega
  unfold spanV at hsn
  unfold argX at *
  have HEND : Hid (∀ W A c, LT W W.heap.size (catT beginT tr) (cellsX (catT beginT tr).kind (catT beginT tr).set A (catT beginT tr).kids.length c) → Calls Try.prog 35 #[.int .i64 4, argX (catT beginT tr) A c, .agg #[.int .i64 8, .int .u64 0, .int .u64 0, .int .u64 0, .int .u64 0, .slice none 0 0]] W (TreePost (wholeT tr) W)) := fun W A c h => two_any 4 (catT beginT tr) endT A none c 0 W h (by unfold endT; rw [LT]; exact ⟨none, 0, rfl, zero_wf, LK.nil _ _ _⟩)
  clear h1 h2 hlen
  go_enter Try.func10, Try.ntmps10
  go_wp2_with fail
  have HB0 : Hid (∀ W, Below (w.heap.size + 1 + 1) ((w.alloc (.cells #[.int .i64 tr.kind, .int .u64 tr.set.a, .int .u64 tr.set.b, .int .u64 tr.set.c, .int .u64 tr.set.d, .slice A1 tr.kids.length c1] 64)).alloc (.cells #[.int .i64 tq.kind, .int .u64 tq.set.a, .int .u64 tq.set.b, .int .u64 tq.set.c, .int .u64 tq.set.d, .slice A2 tq.kids.length c2] 64)) W → _) := fun W hb => law_boxes hb
  obtain ⟨W0, hW0⟩ : ∃ W0, (w.alloc (.cells #[.int .i64 tr.kind, .int .u64 tr.set.a, .int .u64 tr.set.b, .int .u64 tr.set.c, .int .u64 tr.set.d, .slice A1 tr.kids.length c1] 64)).alloc (.cells #[.int .i64 tq.kind, .int .u64 tq.set.a, .int .u64 tq.set.b, .int .u64 tq.set.c, .int .u64 tq.set.d, .slice A2 tq.kids.length c2] 64) = W0 := ⟨_, rfl⟩
  have hz0 : w.heap.size + 1 + 1 ≤ W0.heap.size := by rw [← hW0]; simp
  rw [hW0] at HB0 ⊢
  clear hW0
  refine (letter_any 97 (.inl rfl) _).mono ?_
  rintro e w1 ⟨A3, c3, rfl, hl1, hb1⟩
  have hB1 := hb1.mono hz0
  go_wp2_with fail
  refine (letter_any 98 (.inr rfl) _).mono ?_
  rintro e w2 ⟨A4, c4, rfl, hl2, hb2⟩
  have hl1 := (hl1.below hb2).more hb2.size
  have hB2 := hB1.trans (hb2.mono (Nat.le_trans hz0 hB1.size))
  go_wp2_with fail
  refine (star_any _ A4 c4 _ hl2).mono ?_
  rintro e w3 ⟨A5, c5, rfl, hl3, hb3⟩
  have hl1 := (hl1.below hb3).more hb3.size
  have hB3 := hB2.trans (hb3.mono (Nat.le_trans hz0 hB2.size))
  go_wp2_with fail
  refine (show Calls _ _ _ _ (TreePost (catT (letT 97) (starT (letT 98))) _) from two_any 4 _ _ A3 A5 c3 c5 _ hl1 hl3).mono ?_
  rintro e w4 ⟨A6, c6, rfl, hl4, hb4⟩
  have hB4 := hB3.trans (hb4.mono (Nat.le_trans hz0 hB3.size))
  go_wp2_with fail
  refine (found_xabb A6 c6 _ hl4).mono ?_
  rintro e w5 ⟨rfl, hb5⟩
  have hB5 := hB4.trans (hb5.mono (Nat.le_trans hz0 hB4.size))
  clear hl1 hl2 hl3 hl4 hb1 hb2 hb3 hb4 hb5 hB1 hB2 hB3 hB4
  have qs : sameSp 1 4 1 4 = true := same_span 1 4
  have ⟨⟨x0, x1, x2, x3, x4, x5⟩, ⟨y0, y1, y2, y3, y4, y5⟩, hbw5⟩ := HB0.out _ hB5
  have hz5 : w.heap.size + 1 + 1 ≤ w5.heap.size := Nat.le_trans hz0 hB5.size
  have hz5a : w.heap.size < w5.heap.size := by omega
  have hz5b : w.heap.size + 1 < w5.heap.size := by omega
  have HC := fun o => HFR.out (w5.alloc o) s (hbw5.alloc hbw5.size o)
  have HC1 := Lib.hid HC
  clear HC
  go_wp2_with fail
  refine (HC1.out _).mono ?_
  rintro e w6 ⟨is1, i1, j1, rfl, hf1, hb6⟩
  have hB6 := (hB5.alloc hz5 _).trans (hb6.mono (by simp; omega))
  clear x0 x1 x2 x3 x4 x5 y0 y1 y2 y3 y4 y5 hb6 HC1 hB5 hz5 hz5a hz5b hbw5 qs
  have ⟨⟨x0, x1, x2, x3, x4, x5⟩, ⟨y0, y1, y2, y3, y4, y5⟩, hbw6⟩ := HB0.out _ hB6
  have hz6 : w.heap.size + 1 + 1 ≤ w6.heap.size := Nat.le_trans hz0 hB6.size
  have hz6a : w.heap.size < w6.heap.size := by omega
  have hz6b : w.heap.size + 1 < w6.heap.size := by omega
  have HC1 := Lib.hid fun o => HFQ.out (w6.alloc o) s (hbw6.alloc hbw6.size o)
  have HF1 := Lib.hid hf1
  unfold spanV
  clear hf1
  go_wp2_with fail
  refine (HC1.out _).mono ?_
  rintro e w7 ⟨is2, i2, j2, rfl, hf2, hb7⟩
  have hB7 := (hB6.alloc hz6 _).trans (hb7.mono (by simp; omega))
  clear x0 x1 x2 x3 x4 x5 y0 y1 y2 y3 y4 y5 hb7 HC1 hB6 hz6 hz6a hz6b hbw6
  have ⟨⟨x0, x1, x2, x3, x4, x5⟩, ⟨y0, y1, y2, y3, y4, y5⟩, hbw7⟩ := HB0.out _ hB7
  have hz7 : w.heap.size + 1 + 1 ≤ w7.heap.size := Nat.le_trans hz0 hB7.size
  have hz7a : w.heap.size < w7.heap.size := by omega
  have hz7b : w.heap.size + 1 < w7.heap.size := by omega
  have HC1 := Lib.hid fun o => HALT.out (w7.alloc o) (hbw7.alloc hbw7.size o)
  have HF2 := Lib.hid hf2
  unfold spanV
  clear hf2
  go_wp2_with fail
  refine (HC1.out _).mono ?_
  rintro e w8 ⟨A7, c7, rfl, hl8, hb8⟩
  have hB8 := (hB7.alloc hz7 _).trans (hb8.mono (by simp; omega))
  clear x0 x1 x2 x3 x4 x5 y0 y1 y2 y3 y4 y5 hb8 HC1 hB7 hz7 hz7a hz7b hbw7
  go_wp2_with fail
  refine (found_any _ A7 c7 s _ hl8).mono ?_
  rintro e w9 ⟨is3, i3, j3, rfl, hf3, hb9⟩
  have hB9 := hB8.trans (hb9.mono (Nat.le_trans hz0 hB8.size))
  have ⟨⟨x0, x1, x2, x3, x4, x5⟩, _, hbw9⟩ := HB0.out _ hB9
  have hz9 : w.heap.size + 1 + 1 ≤ w9.heap.size := Nat.le_trans hz0 hB9.size
  have hz9a : w.heap.size < w9.heap.size := by omega
  have HF3 := Lib.hid hf3
  unfold spanV
  clear hf3 hb9 hB8 hl8
  have HC3 : Hid (errF tr s.size = 0 → errF tq s.size = 0 → errF (altT tr tq) s.size = 0 → is3 = (is1 || is2)) := fun e1 e2 e3 => by
    rw [← HLEN.out] at e1 e2 e3
    exact alt_found (HF1.out.2 e1) (HF2.out.2 e2) (HF3.out.2 e3)
  generalize errF (altT tr tq) s.size = ee3 at *
  go_upto_region 7 with fail
  go_cut [13, 14, 16, 17, 19, 20, 85] from 28 (fun s13 s14 _ _ _ _ s85 wx => s13 = .bool is1 ∧ s14 = .bool (errF tr s.size == 0) ∧ s85 = .bool false ∧ wx = w9.alloc (.cells #[.int .i64 (i3 : Int), .int .i64 (j3 : Int)] 66))
  case first =>
    by_cases k1 : errF tr s.size = 0
    · by_cases k2 : errF tq s.size = 0
      · by_cases k3 : ee3 = 0
        · have h3 := HC3.out k1 k2 k3
          subst h3
          have q1 : (errF tr s.size == 0) = true := beq_iff_eq.2 k1
          have q2 : (errF tq s.size == 0) = true := beq_iff_eq.2 k2
          have q3 : (ee3 == 0) = true := beq_iff_eq.2 k3
          clear k1 k2 k3
          cases is1 <;> cases is2
          all_goals
            go_wp2_with fail
            go_meet
            exact ⟨rfl, by rw [q1], rfl, rfl⟩
        · have q1 : (errF tr s.size == 0) = true := beq_iff_eq.2 k1
          have q2 : (errF tq s.size == 0) = true := beq_iff_eq.2 k2
          have q3 : (ee3 == 0) = false := beq_eq_false_iff_ne.2 k3
          clear k1 k2 k3
          go_wp2_with fail
          go_meet
          exact ⟨rfl, by rw [q1], rfl, rfl⟩
      · have q1 : (errF tr s.size == 0) = true := beq_iff_eq.2 k1
        have q2 : (errF tq s.size == 0) = false := beq_eq_false_iff_ne.2 k2
        clear k1 k2
        go_wp2_with fail
        go_meet
        exact ⟨rfl, by rw [q1], rfl, rfl⟩
    · have q1 : (errF tr s.size == 0) = false := beq_eq_false_iff_ne.2 k1
      clear k1
      go_wp2_with fail
      go_meet
      exact ⟨rfl, by rw [q1], rfl, rfl⟩
  case rest =>
    obtain ⟨rfl, rfl, rfl, rfl⟩ := hcut
    have HC1 := Lib.hid fun o => HBEG.out (w9.alloc o) (hbw9.alloc hbw9.size o)
    go_wp2_with fail
    refine (HC1.out _).mono ?_
    rintro e w10 ⟨A8, c8, rfl, hl10, hb10⟩
    have hB10 := (hB9.alloc hz9 _).trans (hb10.mono (by simp; omega))
    clear x0 x1 x2 x3 x4 x5 hb10 HC1 hB9 hz9a hbw9
    go_wp2_with fail
    refine (HEND.out _ A8 c8 hl10).mono ?_
    rintro e w11 ⟨A9, c9, rfl, hl11, hb11⟩
    have hB11 := hB10.trans (hb11.mono (Nat.le_trans hz0 hB10.size))
    have HC1 : Hid (∀ o, Calls Try.prog 34 #[argX (wholeT tr) A9 c9, .string s] (w11.alloc o) (FoundPost (wholeT tr) s (w11.alloc o))) := fun o => found_any (wholeT tr) A9 c9 s (w11.alloc o) ((hl11.below ((Below.refl _ _).alloc (Nat.le_refl _) o)).more (by simp))
    unfold argX at HC1 ⊢
    clear hl10 hb11 hB10 hl11
    go_wp2_with fail
    refine (HC1.out _).mono ?_
    rintro e w12 ⟨is4, i4, j4, rfl, hf4, hb12⟩
    have hz11 : w.heap.size + 1 + 1 ≤ w11.heap.size := Nat.le_trans hz0 hB11.size
    have hB12 := (hB11.alloc hz11 _).trans (hb12.mono (by simp; omega))
    have hz12 : w.heap.size + 1 + 1 ≤ w12.heap.size := Nat.le_trans hz0 hB12.size
    have HF4 : Hid (errF (wholeT tr) s.size = 0 → is4 = true → i4 = 0 ∧ j4 = s.size) := fun e1 e2 => by
      rw [← HLEN.out] at e1 ⊢
      exact (whole_found (hf4.2 e1)).1 e2
    unfold spanV
    clear hf4 hb12 HC1 hB11 hz11 hz9
    generalize errF (wholeT tr) s.size = ee4 at *
    go_upto_region 11 with fail
    go_cut [13, 14, 23, 24, 108] from 28 (fun s13 s14 _ _ s108 wx => s13 = .bool is1 ∧ s14 = .bool (errF tr s.size == 0) ∧ s108 = .bool false ∧ wx = w12.alloc (.cells #[.int .i64 (i4 : Int), .int .i64 (j4 : Int)] 66))
    case first =>
      by_cases k4 : ee4 = 0
      · have q4 : (ee4 == 0) = true := beq_iff_eq.2 k4
        cases is4 with
        | true =>
          obtain ⟨rfl, rfl⟩ := HF4.out k4 rfl
          have qs : sameSp 0 s.size 0 s.size = true := same_span _ _
          clear k4
          go_wp2_with fail
          go_meet
          exact ⟨rfl, rfl, rfl, rfl⟩
        | false =>
          clear k4
          go_wp2_with fail
          go_meet
          exact ⟨rfl, rfl, rfl, rfl⟩
      · have q4 : (ee4 == 0) = false := beq_eq_false_iff_ne.2 k4
        clear k4
        go_wp2_with fail
        go_meet
        exact ⟨rfl, rfl, rfl, rfl⟩
    case rest =>
      obtain ⟨rfl, rfl, rfl, rfl⟩ := hcut
      by_cases k1 : errF tr s.size = 0
      · have q1 : (errF tr s.size == 0) = true := beq_iff_eq.2 k1
        have hfine := err_fine k1
        have hf1 := HF1.out.2 (by rw [HLEN.out]; exact k1)
        have ⟨⟨x0, x1, x2, x3, x4, x5⟩, _, hbw12⟩ := HB0.out _ hB12
        have hz12a : w.heap.size < w12.heap.size := by omega
        have HC1 := Lib.hid fun o => HASK.out hfine (w12.alloc o) (hbw12.alloc hbw12.size o)
        have HFB : Hid (∀ is5 i5 j5, asksT 8 tr = false → FindIs tr (s ++ more).data.toList is5 i5 j5 → errF tr (s ++ more).size = 0 → is1 = true → is5 = true) := fun is5 i5 j5 ha hf5 he hi => by
          have hl5 : (s ++ more).data.toList = s.data.toList ++ more.data.toList := by simp
          have he5 : errF tr (s ++ more).data.toList.length = 0 := by
            have : (s ++ more).data.toList.length = (s ++ more).size := by simp
            rw [this]; exact he
          have hfd := hf5.2 he5
          rw [hl5] at hfd
          exact behind_found hf1 hfd ha hi
        generalize asksT 8 tr = ab at *
        clear k1 hf1 hfine HASK
        go_wp2_with fail
        refine (HC1.out _).mono ?_
        rintro e w13 ⟨rfl, hb13⟩
        have hB13 := (hB12.alloc hz12 _).trans (hb13.mono (by simp; omega))
        have hz13 : w.heap.size + 1 + 1 ≤ w13.heap.size := Nat.le_trans hz0 hB13.size
        have hbw13 := (HB0.out _ hB13).2.2
        clear x0 x1 x2 x3 x4 x5 hb13 HC1
        cases ab with
        | true =>
          go_wp2_with fail
          go_ret
          exact ⟨rfl, hbw13⟩
        | false =>
          have ⟨⟨x0, x1, x2, x3, x4, x5⟩, _, _⟩ := HB0.out _ hB13
          have HC2 := Lib.hid (HFR.out w13 (s ++ more) hbw13)
          go_wp2_with fail
          refine HC2.out.mono ?_
          rintro e w14 ⟨is5, i5, j5, rfl, hf5, hb14⟩
          have hbw14 := hbw13.trans (hb14.mono hbw13.size)
          have HF5 := Lib.hid (HFB.out is5 i5 j5 (by trivial) hf5)
          unfold spanV
          clear hf5 hb14 x0 x1 x2 x3 x4 x5
          generalize errF tr (s ++ more).size = ee5 at *
          by_cases k5 : ee5 = 0
          · have q5 : (ee5 == 0) = true := beq_iff_eq.2 k5
            cases is1 with
            | true =>
              obtain rfl := HF5.out k5 rfl
              clear k5
              go_wp2_with fail
              go_ret
              exact ⟨rfl, hbw14.alloc hbw14.size _⟩
            | false =>
              clear k5
              go_wp2_with fail
              go_ret
              exact ⟨rfl, hbw14.alloc hbw14.size _⟩
          · have q5 : (ee5 == 0) = false := beq_eq_false_iff_ne.2 k5
            clear k5
            go_wp2_with fail
            go_ret
            exact ⟨rfl, hbw14.alloc hbw14.size _⟩
      · have q1 : (errF tr s.size == 0) = false := beq_eq_false_iff_ne.2 k1
        have hbw12 := (HB0.out _ hB12).2.2
        clear k1
        go_wp2_with fail
        go_ret
        exact ⟨rfl, hbw12.alloc hbw12.size _⟩
theorem rexLaws_any (a b : XArg) (s more : ByteArray) (w : World) {v : Value} (x : RexArg w v a) (_ : True) {u : Value} (y : RexArg w u b) (_ : True) (hs : s.size ≤ 140737488351232) (hm : more.size ≤ 140737488351232) :
    Calls Try.prog 10 #[argX a.t a.A a.c, argX b.t b.A b.c, .string s, .string more] w fun e w' => e = .returned (.bool true) ∧ Below w.heap.size w w' :=
  rexLaws_walk a.t b.t a.A b.A a.c b.c s more w x.lt y.lt hs hm
end Go.Proofs.Yteinbjopclblaaa
