/- The walk of Base64Encode. -/
import Derived.Test.YtdbipccopijgeaaDoorB64L
namespace Go.Proofs.YtdbipccopijgeaaDoor
open Go.RowKit

def strLen : Value → Nat
  | .string r => r.size
  | _ => 0
def E64Rel (s : ByteArray) (w : World) (t v : Value) (wr : World) : Prop :=
  ∃ (r : ByteArray) (acc : List UInt8), t = .string r ∧ r.size ≤ s.size ∧ OwnB wr w.heap.size v acc ∧ b64E s.data.toList = acc ++ b64E r.data.toList ∧ Below w.heap.size w wr

theorem sgnTab_all : ((List.range 64).all fun n => (ByteArray.mk #[65, 66, 67, 68, 69, 70, 71, 72, 73, 74, 75, 76, 77, 78, 79, 80, 81, 82, 83, 84, 85, 86, 87, 88, 89, 90, 97, 98, 99, 100, 101, 102, 103, 104, 105, 106, 107, 108, 109, 110, 111, 112, 113, 114, 115, 116, 117, 118, 119, 120, 121, 122, 48, 49, 50, 51, 52, 53, 54, 55, 56, 57, 43, 47]).data.toList[n]? == some (sgn n)) = true := by decide +kernel
theorem sgnTab_at (n : Nat) (h : n < (ByteArray.mk #[65, 66, 67, 68, 69, 70, 71, 72, 73, 74, 75, 76, 77, 78, 79, 80, 81, 82, 83, 84, 85, 86, 87, 88, 89, 90, 97, 98, 99, 100, 101, 102, 103, 104, 105, 106, 107, 108, 109, 110, 111, 112, 113, 114, 115, 116, 117, 118, 119, 120, 121, 122, 48, 49, 50, 51, 52, 53, 54, 55, 56, 57, 43, 47]).size) :
    (ByteArray.mk #[65, 66, 67, 68, 69, 70, 71, 72, 73, 74, 75, 76, 77, 78, 79, 80, 81, 82, 83, 84, 85, 86, 87, 88, 89, 90, 97, 98, 99, 100, 101, 102, 103, 104, 105, 106, 107, 108, 109, 110, 111, 112, 113, 114, 115, 116, 117, 118, 119, 120, 121, 122, 48, 49, 50, 51, 52, 53, 54, 55, 56, 57, 43, 47])[n] = sgn n := by
  have h1 := List.all_eq_true.1 sgnTab_all n (List.mem_range.2 h)
  have h2 := Lib.data_getElem? _ n h
  rw [h2] at h1
  simpa using h1
theorem or_b64 (x y : Int) (i : Nat) (hx₀ : 0 ≤ x) (hx : x % 2 ^ i = 0) (hx₁ : x < 4294967296) (hy₀ : 0 ≤ y) (hy : y < 2 ^ i) (hy₁ : y < 4294967296) : bits .or .u32 x y = x + y :=
  bits_join .u32 32 (by decide) (fun n h0 h1 => by rw [IntKind.wrap_u32]; omega) i x y hx₀ hx (by omega) hy₀ hy (by omega)
theorem and63 (x : Int) (h0 : 0 ≤ x) (h1 : x < 4294967296) : bits .and .u32 x 63 = x % 64 :=
  bits_mask .u32 32 (by decide) (fun n h0 h1 => by rw [IntKind.wrap_u32]; omega) 6 (by decide) x h0 (by omega)

theorem ext_size (r : ByteArray) (k : Nat) : (r.extract k r.size).size = r.size - k := by rw [ByteArray.size_extract]; omega
theorem ext_list (r : ByteArray) (k : Nat) : (r.extract k r.size).data.toList = r.data.toList.drop k := by
  rw [← Lib.toList_data, Lib.extract_toList]
  exact List.take_of_length_le (by simp)

theorem b64_ge (l : List UInt8) (h : 0 < l.length) : 4 ≤ (b64E l).length := by
  cases l with
  | nil => simp at h
  | cons a l => cases l with
    | nil => simp [b64E, grp]
    | cons b l => cases l with
      | nil => simp [b64E, grp]
      | cons c l => simp [b64E, grp]

/-- What the walk asks of three bytes' number. -/
structure B64Eq (a b c : Nat) (M N : Int) (q0 q1 q2 q3 : Nat) : Prop where
  h1 : bits BinOp.or IntKind.u32 0 ((a : Int) % 4294967296) = a
  h2 : bits BinOp.or IntKind.u32 ((a : Int) * 256 % 4294967296) ((b : Int) % 4294967296) = M
  h3 : bits BinOp.or IntKind.u32 (M * 256 % 4294967296) ((c : Int) % 4294967296) = N
  m0 : (a : Int) * 256 % 4294967296 = a * 256
  k0 : bits BinOp.and IntKind.u32 (N / 262144) 63 = q0
  k1 : bits BinOp.and IntKind.u32 (N / 4096) 63 = q1
  k2 : bits BinOp.and IntKind.u32 (N / 64) 63 = q2
  k3 : bits BinOp.and IntKind.u32 N 63 = q3
  b0 : q0 < 64
  b1 : q1 < 64
  b2 : q2 < 64
  b3 : q3 < 64
  g : grp (b64N a b c) = [sgn q0, sgn q1, sgn q2, sgn q3]
  n0 : c = 0 → M * 256 % 4294967296 = N
  n1 : b = 0 → c = 0 → (a : Int) * 256 % 4294967296 * 256 % 4294967296 = N
theorem b64_eq (a b c : Nat) (ha : a < 256) (hb : b < 256) (hc : c < 256) : ∃ M N q0 q1 q2 q3, B64Eq a b c M N q0 q1 q2 q3 := by
  have hM : bits BinOp.or IntKind.u32 ((a : Int) * 256 % 4294967296) ((b : Int) % 4294967296) = (a : Int) * 256 + b := by
    rw [or_b64 _ _ 8 (by omega) (by omega) (by omega) (by omega) (by omega) (by omega)]; omega
  have hN : bits BinOp.or IntKind.u32 (((a : Int) * 256 + b) * 256 % 4294967296) ((c : Int) % 4294967296) = ((a : Int) * 256 + b) * 256 + c := by
    rw [or_b64 _ _ 8 (by omega) (by omega) (by omega) (by omega) (by omega) (by omega)]; omega
  refine ⟨_, _, b64N a b c / 262144 % 64, b64N a b c / 4096 % 64, b64N a b c / 64 % 64, b64N a b c % 64, ?_, hM, hN, by omega, ?_, ?_, ?_, ?_, by omega, by omega, by omega, by omega, rfl, by omega, by omega⟩
  · rw [or_b64 _ _ 8 (by omega) (by omega) (by omega) (by omega) (by omega) (by omega)]; omega
  all_goals
    rw [and63 _ (by omega) (by omega)]; unfold b64N; omega

end Go.Proofs.YtdbipccopijgeaaDoor
