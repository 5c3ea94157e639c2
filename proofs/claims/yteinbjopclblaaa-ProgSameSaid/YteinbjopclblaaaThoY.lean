/- The walk of ProgSame. -/
import Derived.Test.YteinbjopclblaaaThoX
import Derived.Test.YteinbjopclblaaaThoF
import Derived.Test.YteinbjopclblaaaRexW
import Derived.Test.YteinbjopclblaaaRexO
import Derived.Test.YteinbjopclblaaaRexF1
namespace Go.Proofs.Yteinbjopclblaaa
open Go.RowKit

theorem chk_star : checkT (starT (letT 97)) = 0 := by decide +kernel
theorem err_parts {t : Tree} {n : Nat} (h : errF t n = 0) : n ≤ 300 := by
  unfold errF at h
  by_cases c : checkT t ≠ 0
  · rw [if_pos c] at h; exact absurd h c
  · rw [if_neg c] at h
    by_cases c2 : 300 < n
    · rw [if_pos c2] at h; cases h
    · omega

set_option maxRecDepth 100000 in
set_option maxHeartbeats 1600000 in
theorem progSame_walk (tr : Tree) (A1 : Option Addr) (c1 : Nat) (s : ByteArray) (w : World) (h1 : LT w w.heap.size tr (cellsX tr.kind tr.set A1 tr.kids.length c1)) :
    Calls Try.prog 18 #[argX tr A1 c1, .string s] w (BoolPost true w) := by
  have HWF := Lib.hid (LT.wf _ _ h1)
  have HR : Hid (∀ W, Below w.heap.size w W → LT W W.heap.size tr (cellsX tr.kind tr.set A1 tr.kids.length c1)) := fun W hb => (h1.below hb).more hb.size
  have HMK : Hid (∀ W, Below w.heap.size w W → Calls Try.prog 56 #[argX tr A1 c1] W (MakePost tr W)) := fun W hb => Make_any tr A1 c1 W (HR.out W hb)
  have HRF : Hid (∀ W, Below w.heap.size w W → Calls Try.prog 57 #[argX tr A1 c1, .string s] W (FindPost tr s W)) := fun W hb => Find_any tr A1 c1 s W (HR.out W hb)
  have hse := fun a b c d W => run_span_eql a b c d W
  have hlen : s.data.toList.length = s.size := by simp
  have HLEN := Lib.hid hlen
  unfold spanV at hse
  unfold argX at *
  clear h1 hlen
  go_enter Try.func18, Try.ntmps18
  go_wp2_with fail
  refine (letter_any 97 (.inl rfl) _).mono ?_
  rintro e w1 ⟨A3, c3, rfl, hl1, hb1⟩
  go_wp2_with fail
  refine (star_any _ A3 c3 _ hl1).mono ?_
  rintro e w3 ⟨A5, c5, rfl, hl3, hb3⟩
  go_wp2_with fail
  refine (Make_any _ A5 c5 _ hl3).mono ?_
  rintro e w5 ⟨v5, rfl, _, hm5, hb5⟩
  obtain ⟨l5, hc5, _, hO5⟩ := hm5 chk_star
  have hl5 : (l5 ++ [(⟨6, 0, 0, .zero⟩ : Ins)]).length = 4 := by rw [List.length_append, code_star_len hc5]; rfl
  obtain ⟨A6, c6, rfl, _⟩ := hO5.form
  rw [hl5, chk_star]
  have hB5 : Below (w.heap.size + 1) (w.alloc (.cells #[.int .i64 tr.kind, .int .u64 tr.set.a, .int .u64 tr.set.b, .int .u64 tr.set.c, .int .u64 tr.set.d, .slice A1 tr.kids.length c1] 64)) w5 :=
    ((hb1.mono (by simp)).trans (hb3.mono (by have := hb1.size; simp at this; exact this))).trans (hb5.mono (by have := hb1.size; have := hb3.size; simp at *; omega))
  have HB0 : Hid (∀ W, Below w5.heap.size w5 W → _) := fun W hb => box_six (by simpa using hB5.trans (hb.mono (by have := hB5.size; simpa using this)))
  have ⟨⟨x0, x1, x2, x3, x4, x5⟩, hbw5⟩ := HB0.out w5 (Below.refl _ _)
  clear hl1 hl3 hb1 hb3 hb5 hB5 hm5 hO5 hl5 hc5
  go_wp2_with fail
  refine (HMK.out _ hbw5).mono ?_
  rintro e w6 ⟨v6, rfl, hn6, hm6, hb6⟩
  have hbw6 := hbw5.trans (hb6.mono hbw5.size)
  by_cases hc : checkT tr = 0
  · obtain ⟨l, hcl, hll, hO6⟩ := hm6 hc
    have hpl : (l ++ [(⟨6, 0, 0, .zero⟩ : Ins)]).length = l.length + 1 := by simp
    have hO0 : OwnP w6 0 v6 (l ++ [(⟨6, 0, 0, .zero⟩ : Ins)]) := ⟨hO6.1, hO6.2.imp_right fun ⟨g, cap, cur, h1, _, h3⟩ => ⟨g, cap, cur, h1, Nat.zero_le _, h3⟩⟩
    have HPF : Hid (∀ W, Below w6.heap.size w6 W → Calls Try.prog 58 #[v6, .string s] W (PFindPost (l ++ [(⟨6, 0, 0, .zero⟩ : Ins)]) s W)) := fun W hb => PFind_any _ (code_ok hcl) (prog_last hcl) (prog_wf hcl HWF.out) (by omega) (by omega) s v6 W (hO0.below hb)
    have HBS : Hid (∀ found is f tt i j, BestI (l ++ [(⟨6, 0, 0, .zero⟩ : Ins)]) s.data.toList ((l ++ [(⟨6, 0, 0, .zero⟩ : Ins)]).length - 1) (fun j => j < s.data.toList.length + 1) found f tt → Found s.data.toList tr is i j → found = is ∧ f = i ∧ tt = j) := fun _ _ _ _ _ _ h1 h2 => best_same hcl (chk_fine tr 1 0 hc) h1 h2
    obtain ⟨gp, cp, e6, hgp⟩ := OwnP.head hO0 (by omega)
    have HPC : Hid (∀ W, Below w6.heap.size w6 W → Calls Try.prog 59 #[v6] W fun e w' => e = .returned (.int .i64 0) ∧ Below W.heap.size W w') := fun W hb => by
      rw [e6]
      have := hO0.below hb
      rw [e6] at this
      exact PCheck_any _ _ _ W this.sl (code_ok hcl) (by omega) (by omega)
    have hcz : (checkT tr != 0) = false := by rw [hc]; rfl
    have ⟨⟨y0, y1, y2, y3, y4, y5⟩, _⟩ := HB0.out w6 hb6
    have HC0 := Lib.hid hc
    clear hn6 hm6 hcl hll hO6 hpl hO0 e6 hgp hc x0 x1 x2 x3 x4 x5
    go_wp2_with fail
    refine (HRF.out _ hbw6).mono ?_
    rintro e w7 ⟨is, i, j, rfl, hf7, hb7⟩
    unfold spanV
    have HF7 := Lib.hid hf7
    clear hf7
    have hb67 := hb7.alloc hb7.size (.cells #[.int .i64 (i : Int), .int .i64 (j : Int)] 66)
    have hbw7 := hbw6.trans (hb67.mono hbw6.size)
    clear y0 y1 y2 y3 y4 y5 hb7
    go_wp2_with fail
    refine (HPF.out _ hb67).mono ?_
    rintro e w8 ⟨found, f, tu, rfl, hB8, hb8⟩
    unfold spanV
    have HB8 := Lib.hid hB8
    obtain ⟨r8, hr8⟩ : ∃ r8 : Int, (if 8192 < s.size then (2 : Int) else 0) = r8 := ⟨_, rfl⟩
    rw [hr8]
    have HR8 := Lib.hid hr8
    clear hr8
    have hb68 := (hb67.trans (hb8.mono hb67.size)).alloc (Nat.le_trans hb67.size hb8.size) (.cells #[.int .i64 (f : Int), .int .i64 (tu : Int)] 66)
    have hT8 := (two_new hb8).1
    clear hB8 hb8 hb67
    go_wp2_with fail
    refine (HPC.out _ hb68).mono ?_
    rintro e w9 ⟨rfl, hb9⟩
    have hbw9 := hbw6.trans ((hb68.trans (hb9.mono hb68.size)).mono hbw6.size)
    have hU9 := (two_new hb9).1
    have hT9 := hT8.below (two_new hb9).2 (heap_lt hT8)
    have ⟨t0, t1⟩ := hT9.cells
    have ⟨u0, u1⟩ := hU9.cells
    clear hb9 hb68 hT8 hT9 hU9 hbw7
    by_cases k1 : errF tr s.size = 0
    · have hsz := err_parts k1
      have hf := HF7.out.2 (by rw [HLEN.out]; exact k1)
      obtain ⟨rfl, rfl, rfl⟩ := HBS.out _ _ _ _ _ _ (by rw [HLEN.out]; exact HB8.out (by omega)) hf
      have h8 := HR8.out
      rw [if_neg (show ¬ 8192 < s.size by omega)] at h8
      subst h8
      have q1 : (errF tr s.size != 0) = false := by rw [k1]; rfl
      have qs : sameSp (f : Int) (tu : Int) (f : Int) (tu : Int) = true := same_span _ _
      clear hf k1 hsz
      go_wp2_with fail
      go_ret
      exact ⟨rfl, hbw9⟩
    · have q1 : (errF tr s.size != 0) = true := bne_iff_ne.2 k1
      generalize errF tr s.size = er at *
      clear k1
      go_wp2_with fail
      go_ret
      exact ⟨rfl, hbw9⟩
  · have hcz : (checkT tr != 0) = true := bne_iff_ne.2 hc
    obtain rfl := hn6 hc
    have hbw := hbw6
    generalize checkT tr = ck at *
    clear hm6 hc
    go_wp2_with fail
    go_ret
    exact ⟨rfl, hbw⟩
theorem progSame_any (a : XArg) (s : ByteArray) (w : World) {v : Value} (x : RexArg w v a) (_ : True) (_ : s.size ≤ 140737488351232) :
    Calls Try.prog 18 #[argX a.t a.A a.c, .string s] w fun e w' => e = .returned (.bool true) ∧ Below w.heap.size w w' :=
  progSame_walk a.t a.A a.c s w x.lt
end Go.Proofs.Yteinbjopclblaaa
