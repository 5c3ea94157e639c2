/- The walks of strconv at base 16. -/
import Derived.Test.YtnpopobeinbplaaDoorHexL
import Derived.Test.YtnpopobeinbplaaDoorMem
import Derived.Laws.Bits64b
import Derived.Lib.LaidTab
import Derived.Lib.IndexBytes
namespace Go.Proofs.YtnpopobeinbplaaDoor
open Go.RowKit

/-- The table that TrailingZeros64 reads, where it reads it. -/
def TzOk (w : World) : Prop := w.cell? ⟨5, 15, none⟩ = some (.int .u8 4)
def dbTab : List Int := [0, 1, 56, 2, 57, 49, 28, 3, 61, 58, 42, 50, 38, 29, 17, 4, 62, 47, 59, 36, 45, 43, 51, 22, 53, 39, 33, 30, 24, 18, 12, 5, 63, 55, 48, 27, 60, 41, 37, 16, 46, 35, 44, 21, 52, 32, 23, 11, 54, 26, 40, 15, 34, 20, 31, 10, 25, 14, 19, 9, 13, 8, 7, 6]
theorem tz_of_tab {w : World} (h : Lib.TabIs Tryd.prog w "math/bits.deBruijn64tab" .u8 dbTab) : TzOk w := h.cell (g := 5) (by kernel_rfl) 15 (by decide)
theorem TzOk.below {w w' : World} (h : TzOk w) (hb : Below w.heap.size w w') : TzOk w' := (hb.cell (World.block_lt_of_cell? w _ h)).trans h
set_option maxRecDepth 100000 in
theorem tz64_any (w : World) (h : TzOk w) : Calls Tryd.prog 123 #[.int .u64 16] w fun e w' => e = .returned (.int .i64 4) ∧ w' = w := by
  unfold TzOk at h
  have hx : IntKind.u64.wrap (bits .and .u64 16 (IntKind.u64.wrap (-16)) * 285870213051353865) / 288230376151711744 = 15 := by decide +kernel
  go_enter Tryd.func123, Tryd.ntmps123
  go_wp2_with fail
  go_ret
  exact ⟨rfl, rfl⟩
set_option maxRecDepth 100000 in
theorem tz_any (w : World) (h : TzOk w) : Calls Tryd.prog 115 #[.int .u64 16] w fun e w' => e = .returned (.int .i64 4) ∧ w' = w := by
  have H := Lib.hid (tz64_any w h)
  clear h
  go_enter Tryd.func115, Tryd.ntmps115
  go_wp2_with fail
  refine H.out.mono ?_
  rintro e w1 ⟨rfl, rfl⟩
  go_wp2_with fail
  go_ret
  exact ⟨rfl, rfl⟩
set_option maxRecDepth 100000 in
theorem pow2_any (w : World) : Calls Tryd.prog 114 #[.int .i64 16] w fun e w' => e = .returned (.bool true) ∧ w' = w := by
  have hx : (bits .and .i64 16 15 == 0) = true := by decide +kernel
  go_enter Tryd.func114, Tryd.ntmps114
  go_wp2_with fail
  go_ret
  exact ⟨rfl, rfl⟩

theorem and_15 (u : Nat) (h : u < 18446744073709551616) : bits .and .u64 (u : Int) 15 = ((u % 16 : Nat) : Int) := by
  have := bits_and_u64_nat u 15 h (by decide)
  rw [show (15 : Nat) = 2 ^ 4 - 1 from rfl, Nat.and_two_pow_sub_one_eq_mod] at this
  exact this
theorem dig_all : ((List.range 16).all fun n => (ByteArray.mk #[48, 49, 50, 51, 52, 53, 54, 55, 56, 57, 97, 98, 99, 100, 101, 102, 103, 104, 105, 106, 107, 108, 109, 110, 111, 112, 113, 114, 115, 116, 117, 118, 119, 120, 121, 122]).data.toList[n]? == some (hexC n)) = true := by decide
theorem dig_at (n : Nat) (h16 : n < 16) (h : n < (ByteArray.mk #[48, 49, 50, 51, 52, 53, 54, 55, 56, 57, 97, 98, 99, 100, 101, 102, 103, 104, 105, 106, 107, 108, 109, 110, 111, 112, 113, 114, 115, 116, 117, 118, 119, 120, 121, 122]).size) : (ByteArray.mk #[48, 49, 50, 51, 52, 53, 54, 55, 56, 57, 97, 98, 99, 100, 101, 102, 103, 104, 105, 106, 107, 108, 109, 110, 111, 112, 113, 114, 115, 116, 117, 118, 119, 120, 121, 122])[n] = hexC n := by
  have h1 := List.all_eq_true.1 dig_all n (List.mem_range.2 h16)
  have h2 := Lib.data_getElem? (ByteArray.mk #[48, 49, 50, 51, 52, 53, 54, 55, 56, 57, 97, 98, 99, 100, 101, 102, 103, 104, 105, 106, 107, 108, 109, 110, 111, 112, 113, 114, 115, 116, 117, 118, 119, 120, 121, 122]) n h
  rw [h2] at h1
  simpa using h1
theorem zero65 : Tryd.zeroCells165 = (List.replicate 65 (Value.int .u8 0)).toArray := by kernel_rfl
theorem zeros_new (w : World) : BytesAt (w.alloc (.cells Tryd.zeroCells165 165)) w.heap.size (List.replicate 65 0) := by
  refine ⟨by simp, fun j hj => ?_⟩
  have hj' : j < 65 := by simpa using hj
  refine ⟨?_, ?_⟩
  · rw [cell_of_row _ w.heap.size j _ _ (0, 0) (heap_alloc_new w _), zero65]
    rw [List.getElem_replicate, List.getElem?_toArray, List.getElem?_replicate, if_pos hj']
    rfl
  · have := heap_alloc_new w (.cells Tryd.zeroCells165 165)
    generalize w.alloc (.cells Tryd.zeroCells165 165) = W at *
    generalize w.heap.size = g at *
    simp [World.frozen?, this]
theorem set_tail (m : Nat) (tail : List UInt8) (x : UInt8) : (List.replicate (m + 1) 0 ++ tail).set m x = List.replicate m 0 ++ (x :: tail) := by
  rw [List.replicate_succ', List.append_assoc, List.set_append_right m _ (by simp)]
  simp
theorem run_slice65 (g m : Nat) (hm : m ≤ 64) (w : World) : (Instr.sliceAt 165 (.pointer (some ⟨g, 0, none⟩)) (some (.int .i64 (m : Int))) none none).run Tryd.prog w = .ok (.slice (some ⟨g, m, none⟩) (65 - m) (65 - m)) w := by
  obtain ⟨i0, hi, hz0, hz1, hz2⟩ := info_parts info_u8
  have hs : (Go.sizeOf 5).run Tryd.prog w = .ok 1 w := by simp [Go.sizeOf, typeInfo, hi, hz1]
  have h1 : ¬ 65 = m := by omega
  have h2 : m ≤ 65 := by omega
  simp [Instr.sliceAt, Instr.sureAddr, run_underlying Tryd.underlying165, Instr.sliceBounds, Instr.sliceBound, asIntOf, go_sem, hs, h1, h2]
def FbRel (n g : Nat) (w : World) (u i : Value) (wr : World) : Prop :=
  ∃ (m v : Nat) (tail : List UInt8), 58 ≤ m ∧ m ≤ 64 ∧ u = .int .u64 v ∧ i = .int .i64 ((m : Int) + 1) ∧ Hid (hexF 6 n = hexF (m - 58) v ++ tail) ∧ tail.length = 64 - m ∧ Hid (v < 16 ^ (m - 57)) ∧ v < 268435456 ∧ BytesAt wr g (List.replicate (m + 1) 0 ++ tail) ∧ Below w.heap.size w wr

set_option maxRecDepth 100000 in
set_option maxHeartbeats 1600000 in
theorem formatBits_any (n : Nat) (hn : n < 268435456) (w : World) (h : TzOk w) : Calls Tryd.prog 99 #[.slice none 0 0, .int .u64 n, .int .i64 16, .bool false, .bool false] w
    fun e w' => e = .returned (.tuple #[.slice none 0 0, .string (bs (hexF 6 n))]) ∧ Below w.heap.size w w' := by
  have hb0 : ∀ o, Below w.heap.size w (w.alloc o) := fun o => (Below.refl _ _).alloc (Nat.le_refl _) o
  have HTZ : Hid (∀ o, _) := fun o => tz_any (w.alloc o) (h.below (hb0 o))
  have HP2 : Hid (∀ W, _) := fun W => pow2_any W
  have HB0 := Lib.hid hb0
  clear h hb0
  go_enter Tryd.func99, Tryd.ntmps99
  go_wp2_with fail
  refine (HP2.out _).mono ?_
  rintro e w1 ⟨rfl, hw1⟩
  subst hw1
  go_wp2_with fail
  refine (HTZ.out _).mono ?_
  rintro e w1 ⟨rfl, hw1⟩
  have hZ := zeros_new w
  have hBW := HB0.out (.cells Tryd.zeroCells165 165)
  rw [← hw1] at hZ hBW
  clear hw1
  have H0 : Hid (FbRel n w.heap.size w (.int .u64 n) (.int .i64 65) w1) := ⟨64, n, [], by decide, by decide, rfl, rfl, by simp [Hid], rfl, by unfold Hid; simpa using hn, hn, by rw [List.append_nil]; exact hZ, hBW⟩
  clear hZ hBW HP2 HTZ HB0
  have dg := dig_at
  have DG := Lib.hid dg
  clear dg
  go_wp2_with fail
  go_loopw [1, 13] (fun u i wr => FbRel n w.heap.size w u i wr) (fun u _ _ => (intOf u).toNat)
  case atStart => exact H0.out
  case round =>
    obtain ⟨m, v, tail, hm1, hm2, rfl, rfl, HX, hl, hv, hv2, hB, hb⟩ := hrel
    clear H0
    have hlen : (List.replicate (m + 1) 0 ++ tail).length = 65 := by rw [List.length_append, List.length_replicate, hl]; omega
    have hc := hB.cell (j := m) (by omega)
    have hf := hB.free (j := m) (by omega)
    rw [List.getElem_append_left (by simp), List.getElem_replicate] at hc
    by_cases h16 : 16 ≤ v
    · have d1 : decide ((16 : Int) ≤ (v : Int)) = true := decide_eq_true (by omega)
      have ha := and_15 v (by omega)
      have hdg := dig_at (v % 16) (by omega)
      have hB2 := hB.set (k := m) (by omega) (hexC (v % 16))
      rw [set_tail] at hB2
      have hb2 := hb.setCell (p := ⟨w.heap.size, m, none⟩) (Nat.le_refl _) (.int .u8 (hexC (v % 16)).toNat)
      have hm59 : 59 ≤ m := by
        have := hv.out
        rcases Nat.lt_or_ge m 59 with h | h
        · have : m = 58 := by omega
          subst this
          have : v < 16 := by simpa using hv.out
          omega
        · exact h
      obtain ⟨m', rfl⟩ : ∃ m', m = m' + 1 := ⟨m - 1, by omega⟩
      have HX2 : Hid (hexF 6 n = hexF (m' - 58) (v / 16) ++ (hexC (v % 16) :: tail)) := by
        unfold Hid
        rw [HX.out, show m' + 1 - 58 = (m' - 58) + 1 by omega, hexF, if_neg (by omega), List.append_assoc]
        rfl
      have hv3 : Hid (v / 16 < 16 ^ (m' - 57)) := by
        unfold Hid
        have := hv.out
        rw [show m' + 1 - 57 = (m' - 57) + 1 by omega, Nat.pow_succ] at this
        rw [Nat.div_lt_iff_lt_mul (by decide)]
        exact this
      have HN := Lib.hid (And.intro hB2 hb2)
      clear hB hb hB2 hb2 hlen HX hv
      go_wp2_with fail
      exact ⟨⟨m', v / 16, hexC (v % 16) :: tail, by omega, by omega, rfl, rfl, HX2.out, by rw [List.length_cons, hl]; omega, hv3.out, by omega, HN.out.1, HN.out.2⟩, by dsimp only [intOf]; omega⟩
    · have d1 : decide ((16 : Int) ≤ (v : Int)) = false := decide_eq_false (by omega)
      have hdg := dig_at v (by omega)
      have hB2 := hB.set (k := m) (by omega) (hexC v)
      rw [set_tail] at hB2
      have hb2 := hb.setCell (p := ⟨w.heap.size, m, none⟩) (Nat.le_refl _) (.int .u8 (hexC v).toNat)
      have hx1 : hexF (m - 58) v = [hexC v] := by
        cases hq : m - 58 with
        | zero => rfl
        | succ f => rw [hexF, if_pos (by omega)]
      have HX2 : Hid (hexF 6 n = hexC v :: tail) := by
        unfold Hid
        rw [HX.out, hx1]
        rfl
      have hcv := run_convert_bytes_back (P := Tryd.prog) (wr.setCell ⟨w.heap.size, m, none⟩ (.int .u8 (hexC v).toNat)) 118 9 5 ⟨w.heap.size, m, none⟩ (65 - m) (hexC v :: tail) Tryd.underlying118 Tryd.underlying5 Tryd.underlying9 (fun j hj => by
        have h1 := hB2.cell (j := m + j) (by rw [List.length_append, List.length_replicate]; omega)
        rw [List.getElem_append_right (by simp)] at h1
        have e : (⟨w.heap.size, m, none⟩ : Addr).add j = ⟨w.heap.size, m + j, none⟩ := by unfold Addr.add; split <;> simp_all
        rw [e, h1]
        simp)
      rw [show (hexC v :: tail).length = 65 - m by rw [List.length_cons, hl]; omega] at hcv
      have HB2 := Lib.hid hb2
      have hsl := fun W => run_slice65 w.heap.size m hm2 W
      clear hB hb hB2 hb2 hlen HX hv hx1
      go_wp2_with fail
      exact bodyPost_ret (v := .tuple #[.slice none 0 0, .string (bs (hexC v :: tail))]) (by simp [results, Tryd.results99, go_sem, bs]) rfl ⟨by rw [HX2.out], HB2.out⟩

set_option maxRecDepth 100000 in
theorem formatInt16 (n : Nat) (hn : n < 268435456) (w : World) (h : TzOk w) : Calls Tryd.prog 87 #[.int .i64 n, .int .i64 16] w
    fun e w' => e = .returned (.string (bs (hexF 6 n))) ∧ Below w.heap.size w w' := by
  have H := Lib.hid (formatBits_any n hn w h)
  have d1 : decide ((n : Int) < 0) = false := decide_eq_false (by omega)
  have w1 : IntKind.u64.wrap (n : Int) = (n : Int) := by rw [IntKind.wrap_u64]; omega
  clear h
  go_enter Tryd.func87, Tryd.ntmps87
  go_wp2_with fail
  refine H.out.mono ?_
  rintro e w1 ⟨rfl, hb⟩
  go_wp2_with fail
  go_ret
  exact ⟨rfl, hb⟩
set_option maxRecDepth 100000 in
theorem strFormatInt16 (n : Nat) (hn : n < 268435456) (w : World) (h : TzOk w) : Calls Tryd.prog 79 #[.int .i64 n, .int .i64 16] w
    fun e w' => e = .returned (.string (bs (hexF 6 n))) ∧ Below w.heap.size w w' := by
  have H := Lib.hid (formatInt16 n hn w h)
  clear h
  go_enter Tryd.func79, Tryd.ntmps79
  go_wp2_with fail
  refine H.out.mono ?_
  rintro e w1 ⟨rfl, hb⟩
  go_wp2_with fail
  go_ret
  exact ⟨rfl, hb⟩
end Go.Proofs.YtnpopobeinbplaaDoor
