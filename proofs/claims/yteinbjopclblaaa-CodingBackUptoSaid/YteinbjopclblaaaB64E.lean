/- The walk of Base64Encode. -/
import Derived.Test.YteinbjopclblaaaB64L
namespace Go.Proofs.Yteinbjopclblaaa
open Go.RowKit

def strLen : Value → Nat
  | .string r => r.size
  | _ => 0
def E64Rel (s : ByteArray) (w : World) (t v : Value) (wr : World) : Prop :=
  ∃ (r : ByteArray) (acc : List UInt8), t = .string r ∧ r.size ≤ s.size ∧ OwnB wr w.heap.size v acc ∧ b64E s.data.toList = acc ++ b64E r.data.toList ∧ Below w.heap.size w wr

theorem sgnTab_all : ((List.range 64).all fun n => (ByteArray.mk #[65, 66, 67, 68, 69, 70, 71, 72, 73, 74, 75, 76, 77, 78, 79, 80, 81, 82, 83, 84, 85, 86, 87, 88, 89, 90, 97, 98, 99, 100, 101, 102, 103, 104, 105, 106, 107, 108, 109, 110, 111, 112, 113, 114, 115, 116, 117, 118, 119, 120, 121, 122, 48, 49, 50, 51, 52, 53, 54, 55, 56, 57, 43, 47]).data.toList[n]? == some (sgn n)) = true := by decide +kernel
theorem sgnTab_at (n : Nat) (h : n < (ByteArray.mk #[65, 66, 67, 68, 69, 70, 71, 72, 73, 74, 75, 76, 77, 78, 79, 80, 81, 82, 83, 84, 85, 86, 87, 88, 89, 90, 97, 98, 99, 100, 101, 102, 103, 104, 105, 106, 107, 108, 109, 110, 111, 112, 113, 114, 115, 116, 117, 118, 119, 120, 121, 122, 48, 49, 50, 51, 52, 53, 54, 55, 56, 57, 43, 47]).size) :
    (ByteArray.mk #[65, 66, 67, 68, 69, 70, 71, 72, 73, 74, 75, 76, 77, 78, 79, 80, 81, 82, 83, 84, 85, 86, 87, 88, 89, 90, 97, 98, 99, 100, 101, 102, 103, 104, 105, 106, 107, 108, 109, 110, 111, 112, 113, 114, 115, 116, 117, 118, 119, 120, 121, 122, 48, 49, 50, 51, 52, 53, 54, 55, 56, 57, 43, 47])[n] = sgn n := by
  have h1 := List.all_eq_true.1 sgnTab_all n (List.mem_range.2 h)
  have h2 := Lib.data_getElem? _ n h
  rw [h2] at h1
  simpa using h1
theorem or_b64 (x y : Int) (i : Nat) (hx₀ : 0 ≤ x) (hx : x % 2 ^ i = 0) (hx₁ : x < 4294967296) (hy₀ : 0 ≤ y) (hy : y < 2 ^ i) (hy₁ : y < 4294967296) : bits .or .u32 x y = x + y :=
  bits_join .u32 32 (by decide) (fun n h0 h1 => by rw [IntKind.wrap_u32]; omega) i x y hx₀ hx (by omega) hy₀ hy (by omega)
theorem and63 (x : Int) (h0 : 0 ≤ x) (h1 : x < 4294967296) : bits .and .u32 x 63 = x % 64 :=
  bits_mask .u32 32 (by decide) (fun n h0 h1 => by rw [IntKind.wrap_u32]; omega) 6 (by decide) x h0 (by omega)

theorem ext_size (r : ByteArray) (k : Nat) : (r.extract k r.size).size = r.size - k := by rw [ByteArray.size_extract]; omega
theorem ext_list (r : ByteArray) (k : Nat) : (r.extract k r.size).data.toList = r.data.toList.drop k := by
  rw [← Lib.toList_data, Lib.extract_toList]
  exact List.take_of_length_le (by simp)

theorem b64_ge (l : List UInt8) (h : 0 < l.length) : 4 ≤ (b64E l).length := by
  cases l with
  | nil => simp at h
  | cons a l => cases l with
    | nil => simp [b64E, grp]
    | cons b l => cases l with
      | nil => simp [b64E, grp]
      | cons c l => simp [b64E, grp]

/-- What the walk asks of three bytes' number. -/
structure B64Eq (a b c : Nat) (M N : Int) (q0 q1 q2 q3 : Nat) : Prop where
  h1 : bits BinOp.or IntKind.u32 0 ((a : Int) % 4294967296) = a
  h2 : bits BinOp.or IntKind.u32 ((a : Int) * 256 % 4294967296) ((b : Int) % 4294967296) = M
  h3 : bits BinOp.or IntKind.u32 (M * 256 % 4294967296) ((c : Int) % 4294967296) = N
  m0 : (a : Int) * 256 % 4294967296 = a * 256
  k0 : bits BinOp.and IntKind.u32 (N / 262144) 63 = q0
  k1 : bits BinOp.and IntKind.u32 (N / 4096) 63 = q1
  k2 : bits BinOp.and IntKind.u32 (N / 64) 63 = q2
  k3 : bits BinOp.and IntKind.u32 N 63 = q3
  b0 : q0 < 64
  b1 : q1 < 64
  b2 : q2 < 64
  b3 : q3 < 64
  g : grp (b64N a b c) = [sgn q0, sgn q1, sgn q2, sgn q3]
  n0 : c = 0 → M * 256 % 4294967296 = N
  n1 : b = 0 → c = 0 → (a : Int) * 256 % 4294967296 * 256 % 4294967296 = N
theorem b64_eq (a b c : Nat) (ha : a < 256) (hb : b < 256) (hc : c < 256) : ∃ M N q0 q1 q2 q3, B64Eq a b c M N q0 q1 q2 q3 := by
  have hM : bits BinOp.or IntKind.u32 ((a : Int) * 256 % 4294967296) ((b : Int) % 4294967296) = (a : Int) * 256 + b := by
    rw [or_b64 _ _ 8 (by omega) (by omega) (by omega) (by omega) (by omega) (by omega)]; omega
  have hN : bits BinOp.or IntKind.u32 (((a : Int) * 256 + b) * 256 % 4294967296) ((c : Int) % 4294967296) = ((a : Int) * 256 + b) * 256 + c := by
    rw [or_b64 _ _ 8 (by omega) (by omega) (by omega) (by omega) (by omega) (by omega)]; omega
  refine ⟨_, _, b64N a b c / 262144 % 64, b64N a b c / 4096 % 64, b64N a b c / 64 % 64, b64N a b c % 64, ?_, hM, hN, by omega, ?_, ?_, ?_, ?_, by omega, by omega, by omega, by omega, rfl, by omega, by omega⟩
  · rw [or_b64 _ _ 8 (by omega) (by omega) (by omega) (by omega) (by omega) (by omega)]; omega
  all_goals
    rw [and63 _ (by omega) (by omega)]; unfold b64N; omega

set_option maxRecDepth 100000 in
set_option maxHeartbeats 3200000 in
theorem Base64Encode_any (s : ByteArray) (w : World) (hs : (b64E s.data.toList).length ≤ 140737488351232) :
    Calls Try.prog 44 #[.string s] w (StrPost (bs (b64E s.data.toList)) w) := by
  have ht := sgnTab_at
  go_enter Try.func44, Try.ntmps44
  go_wp2_with fail
  go_loopw [0, 3] (fun t v wr => E64Rel s w t v wr) (fun t _ _ => strLen t)
  case atStart => exact ⟨s, [], rfl, Nat.le_refl _, OwnB.nil _ _, rfl, Below.refl _ _⟩
  case round =>
    obtain ⟨r, acc, rfl, hr, hown, hl, hbl⟩ := hrel
    have hbase := hbl.size
    have hacc := congrArg List.length hl
    rw [List.length_append] at hacc
    have hge := b64_ge r.data.toList
    rw [Array.length_toList] at hge
    have hacc2 : 0 < r.size → acc.length + 4 ≤ 140737488351232 := by intro h; have := hge h; omega
    clear hacc hge
    have HL := Lib.hid hl
    clear hl
    by_cases h3 : 3 ≤ r.size
    · have hm : min 3 (r.size : Int) = 3 := by omega
      have hacc := hacc2 (by omega)
      clear hacc2
      have j0 : (0 : Int) < (r.size : Int) := by omega
      have j1 : (1 : Int) < (r.size : Int) := by omega
      have j2 : (2 : Int) < (r.size : Int) := by omega
      have HR : Hid (r.data.toList = r[0] :: r[1] :: r[2] :: r.data.toList.drop 3) := by
        have e := drop_cons r 0 (by omega)
        rw [drop_cons r 1 (by omega), drop_cons r 2 (by omega)] at e
        exact e
      obtain ⟨M, N, q0, q1, q2, q3, B⟩ := b64_eq r[0].toNat r[1].toNat r[2].toNat r[0].toNat_lt r[1].toNat_lt r[2].toNat_lt
      have e1 := B.h1
      have e2 := B.h2
      have e3 := B.h3
      have k0 := B.k0
      have k1 := B.k1
      have k2 := B.k2
      have k3 := B.k3
      have b0 := B.b0
      have b1 := B.b1
      have b2 := B.b2
      have b3 := B.b3
      go_wp2_with fail
      refine wp_loop_rounds 4 ?_
      rw [rounds_succ]
      go_wp2_with (first | rw [rounds_succ] | fail)
      refine wp_loop_rounds 5 ?_
      rw [rounds_succ]
      go_wp2_with (first | rw [rounds_succ] | (at_builtin; refine wpList_append_b rfl _ _ rfl w.heap.size _ acc rfl (by exact hown) (by exact hbase) _ [sgn q0] rfl 1 1 rfl rfl (by omega) ?_; intro v1 w1 hown1 hb1 hbs1) | (at_builtin; refine wpList_append_b rfl _ _ rfl w.heap.size _ _ rfl (by exact hown1) (by exact hbs1) _ [sgn q1] rfl 1 1 rfl rfl (by simp; omega) ?_; intro v2 w2 hown2 hb2 hbs2) | (at_builtin; refine wpList_append_b rfl _ _ rfl w.heap.size _ _ rfl (by exact hown2) (by exact hbs2) _ [sgn q2] rfl 1 1 rfl rfl (by simp; omega) ?_; intro v3 w3 hown3 hb3 hbs3) | (at_builtin; refine wpList_append_b rfl _ _ rfl w.heap.size _ _ rfl (by exact hown3) (by exact hbs3) _ [sgn q3] rfl 1 1 rfl rfl (by simp; omega) ?_; intro v4 w4 hown4 hb4 hbs4))
      exact ⟨⟨_, _, rfl, by rw [ext_size]; omega, hown4, by rw [HL.out, HR.out, b64E, B.g, ext_list]; simp, hbl.trans (hb1.trans (hb2.trans (hb3.trans hb4)))⟩, by show (r.extract 3 r.size).size < r.size; rw [ext_size]; omega⟩
    · by_cases h2 : 2 ≤ r.size
      · have hm : min 3 (r.size : Int) = 2 := by omega
        have hacc := hacc2 (by omega)
        clear hacc2
        have j0 : (0 : Int) < (r.size : Int) := by omega
        have j1 : (1 : Int) < (r.size : Int) := by omega
        have HR : Hid (r.data.toList = [r[0], r[1]]) := by
          have hd : r.data.toList.drop 2 = [] := List.drop_eq_nil_of_le (by rw [Array.length_toList]; show r.size ≤ 2; omega)
          exact (drop_cons r 0 (by omega)).trans (congrArg (r[0] :: ·) ((drop_cons r 1 (by omega)).trans (congrArg (r[1] :: ·) hd)))
        obtain ⟨M, N, q0, q1, q2, q3, B⟩ := b64_eq r[0].toNat r[1].toNat 0 r[0].toNat_lt r[1].toNat_lt (by omega)
        have e1 := B.h1
        have e2 := B.h2
        have e3 := B.n0 rfl
        have k0 := B.k0
        have k1 := B.k1
        have k2 := B.k2
        have b0 := B.b0
        have b1 := B.b1
        have b2 := B.b2
        go_wp2_with fail
        refine wp_loop_rounds 4 ?_
        rw [rounds_succ]
        go_wp2_with (first | rw [rounds_succ] | fail)
        refine wp_loop_rounds 5 ?_
        rw [rounds_succ]
        go_wp2_with (first | rw [rounds_succ] | (at_builtin; refine wpList_append_b rfl _ _ rfl w.heap.size _ _ rfl (by exact hown) (by exact hbase) _ [sgn q0] rfl 1 1 rfl rfl (by simp; omega) ?_; intro v1 w1 hown1 hb1 hbs1) | (at_builtin; refine wpList_append_b rfl _ _ rfl w.heap.size _ _ rfl (by exact hown1) (by exact hbs1) _ [sgn q1] rfl 1 1 rfl rfl (by simp; omega) ?_; intro v2 w2 hown2 hb2 hbs2) | (at_builtin; refine wpList_append_b rfl _ _ rfl w.heap.size _ _ rfl (by exact hown2) (by exact hbs2) _ [sgn q2] rfl 1 1 rfl rfl (by simp; omega) ?_; intro v3 w3 hown3 hb3 hbs3) | (at_builtin; refine wpList_append_b rfl _ _ rfl w.heap.size _ _ rfl (by exact hown3) (by exact hbs3) _ [61] rfl 1 1 rfl rfl (by simp; omega) ?_; intro v4 w4 hown4 hb4 hbs4))
        exact ⟨⟨_, _, rfl, by rw [ext_size]; omega, hown4, by rw [HL.out, HR.out, b64E, B.g, ext_list, HR.out]; simp [b64E], hbl.trans (hb1.trans (hb2.trans (hb3.trans hb4)))⟩, by show (r.extract 2 r.size).size < r.size; rw [ext_size]; omega⟩
      · by_cases h1 : 1 ≤ r.size
        · have hm : min 3 (r.size : Int) = 1 := by omega
          have hacc := hacc2 (by omega)
          clear hacc2
          have j0 : (0 : Int) < (r.size : Int) := by omega
          have HR : Hid (r.data.toList = [r[0]]) := by
            have hd : r.data.toList.drop 1 = [] := List.drop_eq_nil_of_le (by rw [Array.length_toList]; show r.size ≤ 1; omega)
            exact (drop_cons r 0 (by omega)).trans (congrArg (r[0] :: ·) hd)
          obtain ⟨M, N, q0, q1, q2, q3, B⟩ := b64_eq r[0].toNat 0 0 r[0].toNat_lt (by omega) (by omega)
          have e1 := B.h1
          have e3 := B.n1 rfl rfl
          have k0 := B.k0
          have k1 := B.k1
          have b0 := B.b0
          have b1 := B.b1
          go_wp2_with fail
          refine wp_loop_rounds 4 ?_
          rw [rounds_succ]
          go_wp2_with (first | rw [rounds_succ] | fail)
          refine wp_loop_rounds 5 ?_
          rw [rounds_succ]
          go_wp2_with (first | rw [rounds_succ] | (at_builtin; refine wpList_append_b rfl _ _ rfl w.heap.size _ _ rfl (by exact hown) (by exact hbase) _ [sgn q0] rfl 1 1 rfl rfl (by simp; omega) ?_; intro v1 w1 hown1 hb1 hbs1) | (at_builtin; refine wpList_append_b rfl _ _ rfl w.heap.size _ _ rfl (by exact hown1) (by exact hbs1) _ [sgn q1] rfl 1 1 rfl rfl (by simp; omega) ?_; intro v2 w2 hown2 hb2 hbs2) | (at_builtin; refine wpList_append_b rfl _ _ rfl w.heap.size _ _ rfl (by exact hown2) (by exact hbs2) _ [61] rfl 1 1 rfl rfl (by simp; omega) ?_; intro v3 w3 hown3 hb3 hbs3) | (at_builtin; refine wpList_append_b rfl _ _ rfl w.heap.size _ _ rfl (by exact hown3) (by exact hbs3) _ [61] rfl 1 1 rfl rfl (by simp; omega) ?_; intro v4 w4 hown4 hb4 hbs4))
          exact ⟨⟨_, _, rfl, by rw [ext_size]; omega, hown4, by rw [HL.out, HR.out, b64E, B.g, ext_list, HR.out]; simp [b64E], hbl.trans (hb1.trans (hb2.trans (hb3.trans hb4)))⟩, by show (r.extract 1 r.size).size < r.size; rw [ext_size]; omega⟩
        · have hz : r.size = 0 := by omega
          clear hacc2
          have hacs : acc.length ≤ 140737488351232 := by have := congrArg List.length HL.out; rw [List.length_append] at this; omega
          have hcv := hown.string
          have HF : Hid (b64E s.data.toList = acc) := by
            unfold Hid; rw [HL.out, List.eq_nil_of_length_eq_zero (by rw [Array.length_toList]; exact hz : r.data.toList.length = 0)]; simp [b64E]
          clear hown
          go_wp2_with fail
          go_ret
          exact ⟨by rw [HF.out]; rfl, hbl⟩

end Go.Proofs.Yteinbjopclblaaa
