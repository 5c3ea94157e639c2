/- The walk of OctetBack. -/
import Derived.Test.YtnhlkjalmcldpaaDoorUnqW
import Derived.Test.YtnhlkjalmcldpaaDoorOctC
import Derived.Test.YtnhlkjalmcldpaaDoorHexW
import Derived.Test.YtnhlkjalmcldpaaDoorRest
import Derived.Test.YtnhlkjalmcldpaaDoorShelf
import Derived.Test.YtnhlkjalmcldpaaDoorPatJ
namespace Go.Proofs.YtnhlkjalmcldpaaDoor
open Go.RowKit Go.Sort

theorem below_growN (w : World) (k : Nat) (os : Array Obj) : Below w.heap.size w (grow (w.drewN k) os) :=
  ⟨rfl, rfl, rfl, by rw [size_grow]; exact Nat.le_add_right _ _, fun j hj => heap_grow_old (w.drewN k) os hj⟩
theorem quoteB_plain (b : UInt8) : (quoteB b).all (fun c => c != 32 && c != 10) = true :=
  all_bytes (p := fun b => (quoteB b).all (fun c => c != 32 && c != 10)) (by decide +kernel) b
theorem quote_plain (s : List UInt8) : ∀ c ∈ quoteL s, c ≠ 32 ∧ c ≠ 10 := by
  intro c hc
  unfold quoteL at hc
  split at hc
  · simp at hc; subst hc; decide
  · split at hc
    · simp at hc; rcases hc with rfl | rfl <;> decide
    · obtain ⟨b, _, hb⟩ := List.mem_flatMap.1 hc
      have := List.all_eq_true.1 (quoteB_plain b) c hb
      simpa using this
theorem quote_ne (s : List UInt8) : quoteL s ≠ [] := by
  unfold quoteL
  split
  · simp
  · split
    · simp
    · rename_i h1 _
      cases s with
      | nil => exact absurd rfl h1
      | cons b s => rw [List.flatMap_cons]; intro h; exact (quoteB_ne b).1 (List.append_eq_nil_iff.1 h).1
theorem quote_size (s : List UInt8) : (quoteL s).length ≤ 4 * s.length + 2 := by
  have := quote_len s
  unfold quoteL
  (repeat' split) <;> first | omega | (simp only [List.length_cons, List.length_nil]; omega)

set_option maxRecDepth 100000 in
set_option maxHeartbeats 1600000 in
theorem octetBack_walk (n : Int) (s : ByteArray) (w : World) (hs : s.size ≤ 1048576) (hlib : LibOk w) (htz : TzOk w) (htab : Lib.TabIs Tryd.prog w "internal/strconv.uint64pow10" .u64 Lib.pow10Tab) :
    Calls Tryd.prog 7 #[.int .i64 n, .string s] w fun e w' => e = .returned (.bool true) ∧ Below w.heap.size w w' := by
  have HR : Hid (∀ (m : Int) W, 0 < m → m ≤ 4611686018427387904 → _) := fun m W h0 h1 => RestN_any n m W h0 h1
  have HI : Hid (∀ k : Nat, (k : Int) < 1000000000 → Calls Tryd.prog 25 #[.int .i64 (k : Int)] w fun e w' => e = .returned (.string (bs (Lib.decDigits k))) ∧ Below w.heap.size w w') := fun k hk =>
    (Tryd.strconv_Itoa (k : Int) (by omega) (by omega) w htab).mono fun e w' ⟨h1, k', os, h2⟩ => by
      subst h2
      refine ⟨?_, below_growN w k' os⟩
      rw [h1]
      unfold Lib.itoa
      rw [if_neg (by omega)]
      rfl
  have HD : Hid (∀ k : Nat, (k : Int) < 1000000000 → ∀ W, Calls Tryd.prog 24 #[.string (bs (Lib.decDigits k))] W fun e w' => e = .returned (.tuple #[.int .i64 (k : Int), .int .i64 0]) ∧ w' = W) := fun k hk W => by
    have h1 := dec_len 8 k (by show k < 1000000000; omega)
    have h2 := Dec_any (bs (Lib.decDigits k)) W (by rw [bs_size]; unfold maxLen; omega)
    rw [bs_toList, dec_num k (by omega)] at h2
    exact h2
  have HX : Hid (∀ k : Nat, (k : Int) < 268435456 → ∀ W, Calls Tryd.prog 26 #[.string (bs (hexF 6 k))] W fun e w' => e = .returned (.tuple #[.int .i64 (k : Int), .int .i64 0]) ∧ w' = W) := fun k hk W => by
    have h1 := hex_len 6 k
    have h2 := Hex_any (bs (hexF 6 k)) W (by rw [bs_size]; unfold maxLen; omega)
    rw [bs_toList, hex_num k (by omega)] at h2
    exact h2
  have HF : Hid (∀ k : Nat, (k : Int) < 268435456 → ∀ W, Below w.heap.size w W → _) := fun k hk W hb => strFormatInt16 k (by omega) W (htz.below hb)
  have hsz := quote_size s.data.toList
  rw [show s.data.toList.length = s.size by simp] at hsz
  have HQ : Hid (∀ W, _) := fun W => Quote_any s W hs
  have HU : Hid (∀ W, Calls Tryd.prog 29 #[.string (bs (quoteL s.data.toList))] W fun e w' => e = .returned (.tuple #[.string s, .int .i64 0]) ∧ Below W.heap.size W w') := fun W => by
    have := Unquote_any (bs (quoteL s.data.toList)) W (by rw [bs_size]; omega)
    rw [bs_toList, unquote_quote] at this
    exact this
  have hf1 : findL (quoteL s.data.toList) [32] 0 = -1 := find_none _ _ fun a b e => (quote_plain s.data.toList 32 (by rw [e]; simp)).1 rfl
  have hf2 : findL (quoteL s.data.toList) [10] 0 = -1 := find_none _ _ fun a b e => (quote_plain s.data.toList 10 (by rw [e]; simp)).2 rfl
  have HF1 : Hid (∀ W, Below w.heap.size w W → Calls Tryd.prog 19 #[.string (bs (quoteL s.data.toList)), .string (ByteArray.mk #[32]), .int .i64 0] W fun e w' => e = .returned (.int .i64 (-1)) ∧ w' = W) := fun W hb => by
    have := Find_any (bs (quoteL s.data.toList)) (ByteArray.mk #[32]) 0 W (by rw [bs_size]; omega) (hlib.below hb)
    rw [bs_toList, show (ByteArray.mk #[32]).data.toList = [32] from rfl, hf1] at this
    exact this
  have HF2 : Hid (∀ W, Below w.heap.size w W → Calls Tryd.prog 19 #[.string (bs (quoteL s.data.toList)), .string (ByteArray.mk #[10]), .int .i64 0] W fun e w' => e = .returned (.int .i64 (-1)) ∧ w' = W) := fun W hb => by
    have := Find_any (bs (quoteL s.data.toList)) (ByteArray.mk #[10]) 0 W (by rw [bs_size]; omega) (hlib.below hb)
    rw [bs_toList, show (ByteArray.mk #[10]).data.toList = [10] from rfl, hf2] at this
    exact this
  have hqe : (bs (quoteL s.data.toList)).toList.isEmpty = false := by
    rw [bs_list]
    cases h : quoteL s.data.toList with
    | nil => exact absurd h (quote_ne _)
    | cons _ _ => rfl
  have hse : (s.toList == s.toList) = true := beq_self_eq_true _
  generalize bs (quoteL s.data.toList) = q at *
  clear hf1 hf2 hsz hlib htz htab
  go_enter Tryd.func7, Tryd.ntmps7
  go_wp2_with fail
  refine (HR.out _ _ (by decide) (by decide)).mono ?_
  rintro e w1 ⟨k, rfl, hk, hw1⟩
  subst hw1
  go_wp2_with fail
  refine (HI.out k hk).mono ?_
  rintro e w2 ⟨rfl, hb2⟩
  go_wp2_with fail
  refine (HD.out k hk _).mono ?_
  rintro e w3 ⟨rfl, rfl⟩
  go_wp2_with fail
  refine (HR.out _ _ (by decide) (by decide)).mono ?_
  rintro e w4 ⟨x, rfl, hx, hw4⟩
  subst hw4
  go_wp2_with fail
  refine (HF.out x hx _ hb2).mono ?_
  rintro e w5 ⟨rfl, hb5⟩
  have hb5 := hb2.trans (hb5.mono hb2.size)
  go_wp2_with fail
  refine (HX.out x hx _).mono ?_
  rintro e w6 ⟨rfl, rfl⟩
  go_wp2_with fail
  refine (HQ.out _).mono ?_
  rintro e w7 ⟨rfl, hb7⟩
  have hb7 := hb5.trans (hb7.mono hb5.size)
  go_wp2_with fail
  refine (HU.out _).mono ?_
  rintro e w8 ⟨rfl, hb8⟩
  have hb8 := hb7.trans (hb8.mono hb7.size)
  go_wp2_with fail
  refine (HF1.out _ hb8).mono ?_
  rintro e w9 ⟨rfl, rfl⟩
  go_wp2_with fail
  refine (HF2.out _ hb8).mono ?_
  rintro e w10 ⟨rfl, rfl⟩
  go_wp2_with fail
  go_ret
  exact ⟨rfl, hb8⟩
theorem octetBack_any (n : Int) (s : ByteArray) (w : World) (_ : -9223372036854775808 ≤ n ∧ n ≤ 9223372036854775807) (hs : s.size ≤ 1048576) (hlib : LibOk w) (htab : Lib.TabIs Tryd.prog w "internal/strconv.uint64pow10" .u64 Lib.pow10Tab) (hdb : Lib.TabIs Tryd.prog w "math/bits.deBruijn64tab" .u8 dbTab) :
    Calls Tryd.prog 7 #[.int .i64 n, .string s] w fun e w' => e = .returned (.bool true) ∧ Below w.heap.size w w' := octetBack_walk n s w hs hlib (tz_of_tab hdb) htab
end Go.Proofs.YtnhlkjalmcldpaaDoor
