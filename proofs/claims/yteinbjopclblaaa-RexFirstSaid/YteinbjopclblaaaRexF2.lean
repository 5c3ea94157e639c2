/- The walk of RexFirst. -/
import Derived.Test.YteinbjopclblaaaRexF1
namespace Go.Proofs.Yteinbjopclblaaa
open Go.RowKit

theorem chk_baa : checkT (starT (letT 97)) = 0 := by decide +kernel
theorem err_baa : errF (starT (letT 97)) 3 = 0 := by
  unfold errF; rw [if_neg (by rw [chk_baa]; decide), if_neg (by decide)]
theorem found_baa (A : Option Addr) (c : Nat) (W : World) (h : LT W W.heap.size (starT (letT 97)) (cellsX (starT (letT 97)).kind (starT (letT 97)).set A (starT (letT 97)).kids.length c)) :
    Calls Try.prog 34 #[argX (starT (letT 97)) A c, .string (ByteArray.mk #[98, 97, 97])] W fun e w' => e = .returned (.tuple #[.agg #[.int .i64 0, .int .i64 0], .bool true, .bool true]) ∧ Below W.heap.size W w' :=
  (found_any _ A c _ W h).mono fun e w' ⟨is, i, j, he, hf, hb⟩ => by
    obtain ⟨rfl, rfl, rfl⟩ := baa_found (hf.2 err_baa)
    have he0 : errF (starT (letT 97)) (ByteArray.mk #[98, 97, 97]).size = 0 := err_baa
    rw [he0] at he
    exact ⟨he, hb⟩
theorem first_boxes {w W : World} {c0 c1 c2 c3 c4 c5 d0 : Value} {t t' : TypeId} (hb : Below (w.heap.size + 1 + 1) ((w.alloc (.cells #[c0, c1, c2, c3, c4, c5] t)).alloc (.cells #[d0] t')) W) :
    (W.cell? ⟨w.heap.size, 0, none⟩ = some c0 ∧ W.cell? ⟨w.heap.size, 1, none⟩ = some c1 ∧ W.cell? ⟨w.heap.size, 2, none⟩ = some c2 ∧ W.cell? ⟨w.heap.size, 3, none⟩ = some c3 ∧ W.cell? ⟨w.heap.size, 4, none⟩ = some c4 ∧ W.cell? ⟨w.heap.size, 5, none⟩ = some c5) ∧
    W.cell? ⟨w.heap.size + 1, 0, none⟩ = some d0 ∧ Below w.heap.size w W := by
  have hb' : Below ((w.alloc (.cells #[c0, c1, c2, c3, c4, c5] t)).alloc (.cells #[d0] t')).heap.size ((w.alloc (.cells #[c0, c1, c2, c3, c4, c5] t)).alloc (.cells #[d0] t')) W := by simpa using hb
  have h1 := new_cell hb' 0
  have h2 := box_six (below_new hb' (Nat.le_refl _))
  rw [World.size_alloc] at h1
  exact ⟨h2.1, h1, h2.2⟩

def FOut (s : List UInt8) (t : Tree) (B : Nat) (W0 w : World) (f : Value) (wr : World) : Prop :=
  ∃ k : Nat, k ≤ s.length + 1 ∧ f = .int .i64 k ∧ Hid (∀ a b, a < k → ¬ M s t a b) ∧ Below B W0 wr ∧ Below w.heap.size w wr
def FIn (s : List UInt8) (t : Tree) (k B : Nat) (W0 w : World) (v : Value) (wr : World) : Prop :=
  ∃ z : Int, (k : Int) - 1 ≤ z ∧ z ≤ s.length ∧ v = .int .i64 z ∧ Hid (∀ b : Nat, z < b → ¬ M s t k b) ∧ Below B W0 wr ∧ Below w.heap.size w wr

set_option maxRecDepth 100000 in
set_option maxHeartbeats 3200000 in
theorem rexFirst_walk (tr : Tree) (A1 : Option Addr) (c1 : Nat) (s : ByteArray) (w : World) (h1 : LT w w.heap.size tr (cellsX tr.kind tr.set A1 tr.kids.length c1)) (hs : s.size ≤ 140737488351232) :
    Calls Try.prog 11 #[argX tr A1 c1, .string s] w (BoolPost true w) := by
  have HR : Hid (∀ W, Below w.heap.size w W → LT W W.heap.size tr (cellsX tr.kind tr.set A1 tr.kids.length c1)) := fun W hb => (h1.below hb).more hb.size
  have HFR : Hid (∀ W S, Below w.heap.size w W → Calls Try.prog 34 #[argX tr A1 c1, .string S] W (FoundPost tr S W)) := fun W S hb => found_any tr A1 c1 S W (HR.out W hb)
  have HBEG : Hid (∀ W, Below w.heap.size w W → Calls Try.prog 35 #[.int .i64 4, .agg #[.int .i64 7, .int .u64 0, .int .u64 0, .int .u64 0, .int .u64 0, .slice none 0 0], argX tr A1 c1] W (TreePost (catT beginT tr) W)) := fun W hb => two_any 4 beginT tr none A1 0 c1 W (by unfold beginT; rw [LT]; exact ⟨none, 0, rfl, zero_wf, LK.nil _ _ _⟩) (HR.out W hb)
  have HASK : Hid (Fine tr → ∀ q W, Below w.heap.size w W → Calls Try.prog 38 #[argX tr A1 c1, .int .i64 q] W (BoolPost (asksT q tr) W)) := fun hf q W hb => asks_any tr hf q A1 c1 W (HR.out W hb)
  have hsn := fun a b c d W => run_span_neq a b c d W
  have hse := fun a b c d W => run_span_eql a b c d W
  have hlen : s.data.toList.length = s.size := by simp
  have HLEN := Lib.hid hlen
  unfold spanV at hsn hse
  unfold argX at *
  have HEND : Hid (∀ W A c, LT W W.heap.size (catT beginT tr) (cellsX (catT beginT tr).kind (catT beginT tr).set A (catT beginT tr).kids.length c) → Calls Try.prog 35 #[.int .i64 4, argX (catT beginT tr) A c, .agg #[.int .i64 8, .int .u64 0, .int .u64 0, .int .u64 0, .int .u64 0, .slice none 0 0]] W (TreePost (wholeT tr) W)) := fun W A c h => two_any 4 (catT beginT tr) endT A none c 0 W h (by unfold endT; rw [LT]; exact ⟨none, 0, rfl, zero_wf, LK.nil _ _ _⟩)
  clear h1 hlen
  go_enter Try.func11, Try.ntmps11
  go_wp2_with fail
  have HB0 : Hid (∀ W, Below (w.heap.size + 1 + 1) ((w.alloc (.cells #[.int .i64 tr.kind, .int .u64 tr.set.a, .int .u64 tr.set.b, .int .u64 tr.set.c, .int .u64 tr.set.d, .slice A1 tr.kids.length c1] 64)).alloc (.cells #[.string s] 9)) W → _) := fun W hb => first_boxes hb
  obtain ⟨W0, hW0⟩ : ∃ W0, (w.alloc (.cells #[.int .i64 tr.kind, .int .u64 tr.set.a, .int .u64 tr.set.b, .int .u64 tr.set.c, .int .u64 tr.set.d, .slice A1 tr.kids.length c1] 64)).alloc (.cells #[.string s] 9) = W0 := ⟨_, rfl⟩
  have hz0 : w.heap.size + 1 + 1 ≤ W0.heap.size := by rw [← hW0]; simp
  rw [hW0] at HB0 ⊢
  clear hW0
  refine (letter_any 97 (.inl rfl) _).mono ?_
  rintro e w1 ⟨A3, c3, rfl, hl1, hb1⟩
  have hB1 := hb1.mono hz0
  go_wp2_with fail
  refine (star_any _ A3 c3 _ hl1).mono ?_
  rintro e w3 ⟨A5, c5, rfl, hl3, hb3⟩
  have hB3 := hB1.trans (hb3.mono (Nat.le_trans hz0 hB1.size))
  go_wp2_with fail
  refine (found_baa A5 c5 _ hl3).mono ?_
  rintro e w5 ⟨rfl, hb5⟩
  have hB5 := hB3.trans (hb5.mono (Nat.le_trans hz0 hB3.size))
  clear hl1 hl3 hb1 hb3 hb5 hB1 hB3
  have qs : sameSp 0 0 0 0 = true := same_span 0 0
  have ⟨⟨x0, x1, x2, x3, x4, x5⟩, y0, hbw5⟩ := HB0.out _ hB5
  have hz5 : w.heap.size + 1 + 1 ≤ w5.heap.size := Nat.le_trans hz0 hB5.size
  have hz5a : w.heap.size < w5.heap.size := by omega
  have hz5b : w.heap.size + 1 < w5.heap.size := by omega
  have HC1 := Lib.hid fun o => HFR.out (w5.alloc o) s (hbw5.alloc hbw5.size o)
  go_wp2_with fail
  refine (HC1.out _).mono ?_
  rintro e w6 ⟨is1, i1, j1, rfl, hf1, hb6⟩
  have hB6 := (hB5.alloc hz5 _).trans (hb6.mono (by simp; omega))
  clear x0 x1 x2 x3 x4 x5 y0 hb6 HC1 hB5 hz5 hz5a hz5b hbw5 qs
  have ⟨⟨x0, x1, x2, x3, x4, x5⟩, y0, hbw6⟩ := HB0.out _ hB6
  have hz6 : w.heap.size + 1 + 1 ≤ w6.heap.size := Nat.le_trans hz0 hB6.size
  have hz6a : w.heap.size < w6.heap.size := by omega
  have hz6b : w.heap.size + 1 < w6.heap.size := by omega
  unfold spanV
  by_cases k1 : errF tr s.size = 0
  · have q1 : (errF tr s.size == 0) = true := beq_iff_eq.2 k1
    have hfine := err_fine k1
    have hf1 := hf1.2 (by rw [HLEN.out]; exact k1)
    have hs3 : s.size ≤ 300 := by
      unfold errF at k1
      by_cases c : checkT tr ≠ 0
      · rw [if_pos c] at k1; exact absurd k1 c
      · rw [if_neg c] at k1
        by_cases c2 : 300 < s.size
        · rw [if_pos c2] at k1; cases k1
        · omega
    have HF1 := Lib.hid hf1
    have HASK2 := Lib.hid (HASK.out hfine)
    have HB7 : Hid (∀ W, Below (w6.heap.size + 1) (w6.alloc (.cells #[.int .i64 (i1 : Int), .int .i64 (j1 : Int)] 66)) W →
        ((W.cell? ⟨w.heap.size, 0, none⟩ = some (.int .i64 tr.kind) ∧ W.cell? ⟨w.heap.size, 1, none⟩ = some (.int .u64 tr.set.a) ∧ W.cell? ⟨w.heap.size, 2, none⟩ = some (.int .u64 tr.set.b) ∧ W.cell? ⟨w.heap.size, 3, none⟩ = some (.int .u64 tr.set.c) ∧ W.cell? ⟨w.heap.size, 4, none⟩ = some (.int .u64 tr.set.d) ∧ W.cell? ⟨w.heap.size, 5, none⟩ = some (.slice A1 tr.kids.length c1)) ∧
          W.cell? ⟨w.heap.size + 1, 0, none⟩ = some (.string s) ∧ (W.cell? ⟨w6.heap.size, 0, none⟩ = some (.int .i64 (i1 : Int)) ∧ W.cell? ⟨w6.heap.size, 1, none⟩ = some (.int .i64 (j1 : Int))) ∧ Below w.heap.size w W)) := fun W hb => by
      have hb' : Below (w6.alloc (.cells #[.int .i64 (i1 : Int), .int .i64 (j1 : Int)] 66)).heap.size (w6.alloc (.cells #[.int .i64 (i1 : Int), .int .i64 (j1 : Int)] 66)) W := by simpa using hb
      have h6 := below_new hb' (Nat.le_refl _)
      have h0 := HB0.out W (hB6.trans (h6.mono hz6))
      exact ⟨h0.1, h0.2.1, ⟨new_cell hb' 0, new_cell hb' 1⟩, h0.2.2⟩
    obtain ⟨W7, hW7⟩ : ∃ W7, w6.alloc (.cells #[.int .i64 (i1 : Int), .int .i64 (j1 : Int)] 66) = W7 := ⟨_, rfl⟩
    have hz7 : w6.heap.size + 1 ≤ W7.heap.size := by rw [← hW7]; simp
    rw [hW7] at HB7
    clear k1 hf1 HASK
    obtain ⟨a7, h7⟩ : ∃ a7, asksT 7 tr = a7 := ⟨_, rfl⟩
    obtain ⟨a8, h8⟩ : ∃ a8, asksT 8 tr = a8 := ⟨_, rfl⟩
    have HC7 := Lib.hid (HASK2.out 7 W7 (HB7.out W7 (Below.refl _ _)).2.2.2)
    rw [h7] at HC7
    have H7 := Lib.hid h7
    have H8 := Lib.hid h8
    clear h7 h8 hfine
    have hW7' := Lib.hid hW7
    clear hW7
    go_wp2_with fail
    rw [hW7'.out]
    refine HC7.out.mono ?_
    rintro e w7 ⟨rfl, hb7⟩
    have hB7 := hb7.mono hz7
    clear x0 x1 x2 x3 x4 x5 y0 hb7 hz6a hz6b HC7
    have ⟨⟨x0, x1, x2, x3, x4, x5⟩, y0, ⟨s0, s1⟩, hbw7⟩ := HB7.out _ hB7
    cases a7 with
    | true =>
      clear x0 x1 x2 x3 x4 x5 y0 s0 s1
      go_wp2_with fail
      go_ret
      exact ⟨rfl, hbw7⟩
    | false =>
      have HC8 := Lib.hid (HASK2.out 8 w7 hbw7)
      rw [H8.out] at HC8
      go_wp2_with fail
      refine HC8.out.mono ?_
      rintro e w8 ⟨rfl, hb8⟩
      have hB8 := hB7.trans (hb8.mono (Nat.le_trans hz7 hB7.size))
      clear x0 x1 x2 x3 x4 x5 y0 s0 s1 hb8 HC8 hB7 hbw7
      have ⟨⟨x0, x1, x2, x3, x4, x5⟩, y0, ⟨s0, s1⟩, hbw8⟩ := HB7.out _ hB8
      cases a8 with
      | true =>
        clear x0 x1 x2 x3 x4 x5 y0 s0 s1
        go_wp2_with fail
        go_ret
        exact ⟨rfl, hbw8⟩
      | false =>
        have HC9 := Lib.hid (HBEG.out w8 hbw8)
        clear s0 s1
        go_wp2_with fail
        refine HC9.out.mono ?_
        rintro e w9 ⟨A8, c8, rfl, hl9, hb9⟩
        have hB9 := hB8.trans (hb9.mono (Nat.le_trans hz7 hB8.size))
        clear x0 x1 x2 x3 x4 x5 y0 hb9 HC9 hB8 hbw8
        go_wp2_with fail
        refine (HEND.out _ A8 c8 hl9).mono ?_
        rintro e w10 ⟨A9, c9, rfl, hl10, hb10⟩
        have hB10 := hB9.trans (hb10.mono (Nat.le_trans hz7 hB9.size))
        clear hl9 hb10 hB9
        go_wp2_with fail
        refine (show Calls Try.prog 40 #[argX (wholeT tr) A9 c9] w10 (fun e w' => e = .returned (.int .i64 (checkT (wholeT tr))) ∧ Below w10.heap.size w10 w') from Check_any2 (wholeT tr) _ w10 hl10).mono ?_
        rintro e w11 ⟨rfl, hb11⟩
        have hB11 := hB10.trans (hb11.mono (Nat.le_trans hz7 hB10.size))
        have ⟨⟨x0, x1, x2, x3, x4, x5⟩, y0, ⟨s0, s1⟩, hbw11⟩ := HB7.out _ hB11
        clear hl10 hb11 hB10
        by_cases kc : checkT (wholeT tr) = 0
        · have qc : (checkT (wholeT tr) != 0) = false := by rw [kc]; rfl
          have HWH : Hid (∀ W (f t : Nat), Below (w6.heap.size + 1) W7 W → f ≤ t → t ≤ s.size → Calls Try.prog 39 #[.int .i64 (f : Int), .int .i64 (t : Int), .pointer (some ⟨w.heap.size, 0, none⟩), .pointer (some ⟨w.heap.size + 1, 0, none⟩)] W (WholeIs s.data.toList tr f t W)) := fun W f t hb hft hts => by
            obtain ⟨⟨x0, x1, x2, x3, x4, x5⟩, y0, _, hbw⟩ := HB7.out W hb
            exact whole_any tr A1 c1 s w.heap.size (w.heap.size + 1) f t W (HR.out W hbw) x0 x1 x2 x3 x4 x5 y0 kc hs3 H7.out H8.out hft hts
          generalize checkT (wholeT tr) = ck at *
          clear kc x0 x1 x2 x3 x4 x5
          by_cases h12 : 12 < s.size
          · cases is1 with
            | false =>
              go_wp2_with fail
              go_ret
              exact ⟨rfl, hbw11⟩
            | true =>
              have hM := (HF1.out.best).1
              have hle := hM.le
              rw [HLEN.out] at hle
              have HC := Lib.hid (HWH.out w11 i1 j1 hB11 hle.1 hle.2)
              have HM := Lib.hid hM
              clear hM
              go_wp2_with fail
              refine HC.out.mono ?_
              rintro e w12 ⟨r, rfl, hr, hb12⟩
              have hrt : r = true := hr.2 HM.out
              subst hrt
              clear hr
              go_wp2_with fail
              go_ret
              exact ⟨rfl, hbw11.trans (hb12.mono hbw11.size)⟩
          · go_wp2_with fail
            clear y0 s0 s1
            go_loopw [12] (fun f wr => FOut s.data.toList tr (w6.heap.size + 1) W7 w f wr) (fun f _ => s.size + 1 - (intOf f).toNat)
            case atStart => exact ⟨0, Nat.zero_le _, rfl, (fun a b h => absurd h (by omega)), hB11, hbw11⟩
            case round =>
              obtain ⟨k, hk, rfl, HNO, hB, hbw⟩ := hrel
              rw [HLEN.out] at hk
              have ⟨_, y0, _, _⟩ := HB7.out _ hB
              by_cases hlt : k ≤ s.size
              · have i0 : (k : Int) ≤ (s.size : Int) := by omega
                go_wp2_with fail
                clear y0
                go_loopw [13] (fun v wi => FIn s.data.toList tr k (w6.heap.size + 1) W7 w v wi) (fun v _ => (intOf v + 1).toNat)
                case atStart => exact ⟨_, by omega, by rw [HLEN.out]; exact Int.le_refl _, rfl, (fun b hb m => by have h2 := m.le; rw [HLEN.out] at h2; omega), hB, hbw⟩
                case round =>
                  obtain ⟨z, hz1, hz2, rfl, HNO2, hBi, hbwi⟩ := hrel
                  rw [HLEN.out] at hz2
                  by_cases hz : (k : Int) ≤ z
                  · obtain ⟨t, rfl⟩ := Int.eq_ofNat_of_zero_le (show 0 ≤ z by omega)
                    have hkt : k ≤ t := by omega
                    have hts : t ≤ s.size := by omega
                    have HC := Lib.hid (HWH.out _ k t hBi hkt hts)
                    go_wp2_with fail
                    refine HC.out.mono ?_
                    rintro e w13 ⟨r, rfl, hr, hb13⟩
                    have hB13 := hBi.trans (hb13.mono (Nat.le_trans hz7 hBi.size))
                    have ⟨_, _, ⟨s0, s1⟩, hbw13⟩ := HB7.out _ hB13
                    cases r with
                    | true =>
                      have hM : M s.data.toList tr k t := hr.1 rfl
                      have hmax : ∀ a b, M s.data.toList tr a b → k < a ∨ (k = a ∧ b ≤ t) := fun a b m => by
                        by_cases c1 : k < a
                        · exact .inl c1
                        · have c2 : ¬ a < k := fun h => HNO.out a b h m
                          obtain rfl : a = k := by omega
                          refine .inr ⟨rfl, ?_⟩
                          by_cases c3 : t < b
                          · exact absurd m (HNO2.out b (by omega))
                          · omega
                      have his : is1 = true := HF1.out.iff.2 ⟨k, t, hM⟩
                      subst his
                      obtain ⟨e1, e2⟩ := HF1.out.uniq hM hmax
                      subst e1; subst e2
                      have qs : sameSp (i1 : Int) (j1 : Int) (i1 : Int) (j1 : Int) = true := same_span _ _
                      clear hM hmax hr
                      go_wp2_with fail
                      go_ret
                      exact ⟨rfl, hbw13⟩
                    | false =>
                      have HNO3 : Hid (∀ b : Nat, (t : Int) - 1 < b → ¬ M s.data.toList tr k b) := fun b hb m => by
                        by_cases e : b = t
                        · subst e; exact absurd (hr.2 m) (by decide)
                        · exact HNO2.out b (by omega) m
                      clear hr s0 s1
                      go_wp2_with fail
                      go_roundw
                      case rel => exact ⟨_, by omega, by rw [HLEN.out]; omega, rfl, HNO3, hB13, hbw13⟩
                      case measure => simp [intOf] <;> omega
                  · obtain rfl : z = (k : Int) - 1 := by omega
                    have HNO4 : Hid (∀ a b, a < k + 1 → ¬ M s.data.toList tr a b) := fun a b ha m => by
                      by_cases e : a = k
                      · subst e
                        have := m.le
                        exact HNO2.out b (by omega) m
                      · exact HNO.out a b (by omega) m
                    go_wp2_with fail
                    go_roundw
                    case rel => exact ⟨k + 1, by rw [HLEN.out]; omega, by go_num, HNO4, hBi, hbwi⟩
                    case measure => simp [intOf] <;> omega
              · obtain rfl : k = s.size + 1 := by omega
                have his : is1 = false := by
                  cases hq : is1 with
                  | false => rfl
                  | true =>
                    obtain ⟨a, b, m⟩ := HF1.out.iff.1 hq
                    have h2 := m.le
                    rw [HLEN.out] at h2
                    exact absurd m (HNO.out a b (by omega))
                subst his
                have i0 : ¬ ((s.size + 1 : Nat) : Int) ≤ (s.size : Int) := by omega
                go_wp2_with fail
                go_ret
                exact ⟨rfl, hbw⟩
        · have qc : (checkT (wholeT tr) != 0) = true := bne_iff_ne.2 kc
          generalize checkT (wholeT tr) = ck at *
          clear kc x0 x1 x2 x3 x4 x5 y0 s0 s1
          go_wp2_with fail
          go_ret
          exact ⟨rfl, hbw11⟩
  · have q1 : (errF tr s.size == 0) = false := beq_eq_false_iff_ne.2 k1
    obtain ⟨rfl, rfl, rfl⟩ := hf1.1 (by rw [HLEN.out]; exact k1)
    clear k1 hf1
    go_wp2_with fail
    go_ret
    exact ⟨rfl, hbw6.alloc hbw6.size _⟩
theorem rexFirst_any (a : XArg) (s : ByteArray) (w : World) {v : Value} (x : RexArg w v a) (_ : True) (hs : s.size ≤ 140737488351232) :
    Calls Try.prog 11 #[argX a.t a.A a.c, .string s] w fun e w' => e = .returned (.bool true) ∧ Below w.heap.size w w' :=
  rexFirst_walk a.t a.A a.c s w x.lt hs
end Go.Proofs.Yteinbjopclblaaa
