/- rex.char: a byte as text. -/
import Derived.Test.YtnjjchbgnmjkjaaRds
import Derived.Test.YtnjjchbgnmjkjaaRdp
import Derived.Laws.IdiomStrings
import Derived.Laws.Concat
namespace Go.Proofs.Ytnjjchbgnmjkjaa
open Go.RowKit

def hexD (k : Nat) : UInt8 := if k < 10 then UInt8.ofNat (48 + k) else UInt8.ofNat (87 + k)
def charP (b : Nat) : List UInt8 :=
  if b = 10 then [92, 110] else if b = 9 then [92, 116] else if b = 13 then [92, 114]
  else if b < 33 ∨ 126 < b then [92, 120, hexD (b / 16), hexD (b % 16)]
  else if isSign b = true then [92, UInt8.ofNat b] else [UInt8.ofNat b]
def CharPost (l : List UInt8) (w : World) (e : Ending) (w' : World) : Prop := e = .returned (.string (bs l)) ∧ Below w.heap.size w w'

set_option maxRecDepth 100000 in
set_option maxHeartbeats 1600000 in
theorem pchar_any (b : Nat) (w : World) (hb : b < 256) : Calls Try.prog 84 #[.int .i64 b] w (CharPost (charP b) w) := by
  by_cases h1 : b = 10
  · subst h1
    go_enter Try.func84, Try.ntmps84
    go_wp2_with fail
    exact bodyPost_ret (v := .string (ByteArray.mk #[92, 110])) (by simp [results, Try.results84, go_sem]) rfl ⟨rfl, Below.refl _ _⟩
  by_cases h2 : b = 9
  · subst h2
    go_enter Try.func84, Try.ntmps84
    go_wp2_with fail
    exact bodyPost_ret (v := .string (ByteArray.mk #[92, 116])) (by simp [results, Try.results84, go_sem]) rfl ⟨rfl, Below.refl _ _⟩
  by_cases h3 : b = 13
  · subst h3
    go_enter Try.func84, Try.ntmps84
    go_wp2_with fail
    exact bodyPost_ret (v := .string (ByteArray.mk #[92, 114])) (by simp [results, Try.results84, go_sem]) rfl ⟨rfl, Below.refl _ _⟩
  have q1 : ((b : Int) == 10) = false := beq_eq_false_iff_ne.2 (by omega)
  have q2 : ((b : Int) == 9) = false := beq_eq_false_iff_ne.2 (by omega)
  have q3 : ((b : Int) == 13) = false := beq_eq_false_iff_ne.2 (by omega)
  by_cases h4 : b < 33 ∨ 126 < b
  · have HS : Hid (charP b = [92, 120, hexD (b / 16), hexD (b % 16)]) := by
      unfold Hid charP
      rw [if_neg h1, if_neg h2, if_neg h3, if_pos h4]
    clear h1 h2 h3
    go_enter Try.func84, Try.ntmps84
    by_cases h5 : b < 33
    · have q4 : decide ((b : Int) < 33) = true := decide_eq_true (by omega)
      clear h4 h5
      have hq1 : 0 ≤ (b : Int) / 16 := by omega
      have hq2 : (b : Int) / 16 < 16 := by omega
      have hq3 : 0 ≤ (b : Int) % 16 := by omega
      have hq4 : (b : Int) % 16 < 16 := by omega
      have hand : bits .and .i64 (b : Int) 15 = (b : Int) % 16 := by
        have h : ∀ k : Fin 256, bits .and .i64 ((k.val : Nat) : Int) 15 = ((k.val : Nat) : Int) % 16 := by decide +kernel
        exact h ⟨b, hb⟩
      have n1 : b / 16 < (ByteArray.mk #[48, 49, 50, 51, 52, 53, 54, 55, 56, 57, 97, 98, 99, 100, 101, 102]).size := by show b / 16 < 16; omega
      have n2 : b % 16 < (ByteArray.mk #[48, 49, 50, 51, 52, 53, 54, 55, 56, 57, 97, 98, 99, 100, 101, 102]).size := by show b % 16 < 16; omega
      have hcv := run_convert_bytes_back (P := Try.prog) (w.alloc (.cells #[.int .u8 ((ByteArray.mk #[48, 49, 50, 51, 52, 53, 54, 55, 56, 57, 97, 98, 99, 100, 101, 102])[b / 16].toNat : Int), .int .u8 ((ByteArray.mk #[48, 49, 50, 51, 52, 53, 54, 55, 56, 57, 97, 98, 99, 100, 101, 102])[b % 16].toNat : Int)] 5)).drew 139 9 5 ⟨w.heap.size, 0, none⟩ 2 [(ByteArray.mk #[48, 49, 50, 51, 52, 53, 54, 55, 56, 57, 97, 98, 99, 100, 101, 102])[b / 16], (ByteArray.mk #[48, 49, 50, 51, 52, 53, 54, 55, 56, 57, 97, 98, 99, 100, 101, 102])[b % 16]] Try.underlying139 Try.underlying5 Try.underlying9 (fun j hj => by
        have hj2 : j < 2 := hj
        rw [addr_add]
        show (w.alloc _).cell? _ = _
        rw [cell_of_row (w.alloc (.cells #[.int .u8 ((ByteArray.mk #[48, 49, 50, 51, 52, 53, 54, 55, 56, 57, 97, 98, 99, 100, 101, 102])[b / 16].toNat : Int), .int .u8 ((ByteArray.mk #[48, 49, 50, 51, 52, 53, 54, 55, 56, 57, 97, 98, 99, 100, 101, 102])[b % 16].toNat : Int)] 5)) w.heap.size j _ _ (0, 0) (heap_alloc_new w _)]
        have : j = 0 ∨ j = 1 := by omega
        rcases this with rfl | rfl <;> rfl)
      have hcv2 : (convert 139 9 (.slice (some ⟨w.heap.size, 0, none⟩) 2 2)).run Try.prog (w.alloc (.cells #[.int .u8 ((ByteArray.mk #[48, 49, 50, 51, 52, 53, 54, 55, 56, 57, 97, 98, 99, 100, 101, 102])[b / 16].toNat : Int), .int .u8 ((ByteArray.mk #[48, 49, 50, 51, 52, 53, 54, 55, 56, 57, 97, 98, 99, 100, 101, 102])[b % 16].toNat : Int)] 5)).drew = .ok (.string (bs [(ByteArray.mk #[48, 49, 50, 51, 52, 53, 54, 55, 56, 57, 97, 98, 99, 100, 101, 102])[b / 16], (ByteArray.mk #[48, 49, 50, 51, 52, 53, 54, 55, 56, 57, 97, 98, 99, 100, 101, 102])[b % 16]])) (w.alloc (.cells #[.int .u8 ((ByteArray.mk #[48, 49, 50, 51, 52, 53, 54, 55, 56, 57, 97, 98, 99, 100, 101, 102])[b / 16].toNat : Int), .int .u8 ((ByteArray.mk #[48, 49, 50, 51, 52, 53, 54, 55, 56, 57, 97, 98, 99, 100, 101, 102])[b % 16].toNat : Int)] 5)).drew := hcv
      have HX : Hid (ByteArray.mk #[92, 120] ++ bs [(ByteArray.mk #[48, 49, 50, 51, 52, 53, 54, 55, 56, 57, 97, 98, 99, 100, 101, 102])[b / 16], (ByteArray.mk #[48, 49, 50, 51, 52, 53, 54, 55, 56, 57, 97, 98, 99, 100, 101, 102])[b % 16]] = bs [92, 120, hexD (b / 16), hexD (b % 16)]) := by
        have e : ∀ k : Fin 16, (ByteArray.mk #[48, 49, 50, 51, 52, 53, 54, 55, 56, 57, 97, 98, 99, 100, 101, 102])[k.val]'(k.isLt) = hexD k.val := by decide +kernel
        have e1 : (ByteArray.mk #[48, 49, 50, 51, 52, 53, 54, 55, 56, 57, 97, 98, 99, 100, 101, 102])[b / 16] = hexD (b / 16) := e ⟨b / 16, n1⟩
        have e2 : (ByteArray.mk #[48, 49, 50, 51, 52, 53, 54, 55, 56, 57, 97, 98, 99, 100, 101, 102])[b % 16] = hexD (b % 16) := e ⟨b % 16, n2⟩
        rw [e1, e2]
        show bs [92, 120] ++ bs _ = _
        rw [bs_append]; rfl
      have k1 : (ByteArray.mk #[92, 120]).size + (bs [(ByteArray.mk #[48, 49, 50, 51, 52, 53, 54, 55, 56, 57, 97, 98, 99, 100, 101, 102])[b / 16], (ByteArray.mk #[48, 49, 50, 51, 52, 53, 54, 55, 56, 57, 97, 98, 99, 100, 101, 102])[b % 16]]).size ≤ 9223372036854775807 := by show 2 + 2 ≤ _; decide
      generalize bs [(ByteArray.mk #[48, 49, 50, 51, 52, 53, 54, 55, 56, 57, 97, 98, 99, 100, 101, 102])[b / 16], (ByteArray.mk #[48, 49, 50, 51, 52, 53, 54, 55, 56, 57, 97, 98, 99, 100, 101, 102])[b % 16]] = X at *
      have y1 : ∀ W, (Op.stringOp .add (ByteArray.mk #[92, 120]) X).run Try.prog W = .ok (.string (ByteArray.mk #[92, 120] ++ X)) W := fun W => run_string_add_sum W _ _ k1
      have HBD : Hid (∀ o, Below w.heap.size w (w.alloc o).drew) := fun o => below_drewN ((Below.refl _ _).alloc (Nat.le_refl _) o) 1
      clear k1 hcv
      go_wp2_with fail
      go_region
      go_wp2_with fail
      exact bodyPost_ret (v := .string (ByteArray.mk #[92, 120] ++ X)) (by simp [results, Try.results84, go_sem]) rfl ⟨by rw [HS.out, HX.out], HBD.out _⟩
    · have q4 : decide ((b : Int) < 33) = false := decide_eq_false (by omega)
      have q5 : decide ((126 : Int) < (b : Int)) = true := decide_eq_true (by omega)
      clear h4 h5
      have hq1 : 0 ≤ (b : Int) / 16 := by omega
      have hq2 : (b : Int) / 16 < 16 := by omega
      have hq3 : 0 ≤ (b : Int) % 16 := by omega
      have hq4 : (b : Int) % 16 < 16 := by omega
      have hand : bits .and .i64 (b : Int) 15 = (b : Int) % 16 := by
        have h : ∀ k : Fin 256, bits .and .i64 ((k.val : Nat) : Int) 15 = ((k.val : Nat) : Int) % 16 := by decide +kernel
        exact h ⟨b, hb⟩
      have n1 : b / 16 < (ByteArray.mk #[48, 49, 50, 51, 52, 53, 54, 55, 56, 57, 97, 98, 99, 100, 101, 102]).size := by show b / 16 < 16; omega
      have n2 : b % 16 < (ByteArray.mk #[48, 49, 50, 51, 52, 53, 54, 55, 56, 57, 97, 98, 99, 100, 101, 102]).size := by show b % 16 < 16; omega
      have hcv := run_convert_bytes_back (P := Try.prog) (w.alloc (.cells #[.int .u8 ((ByteArray.mk #[48, 49, 50, 51, 52, 53, 54, 55, 56, 57, 97, 98, 99, 100, 101, 102])[b / 16].toNat : Int), .int .u8 ((ByteArray.mk #[48, 49, 50, 51, 52, 53, 54, 55, 56, 57, 97, 98, 99, 100, 101, 102])[b % 16].toNat : Int)] 5)).drew 139 9 5 ⟨w.heap.size, 0, none⟩ 2 [(ByteArray.mk #[48, 49, 50, 51, 52, 53, 54, 55, 56, 57, 97, 98, 99, 100, 101, 102])[b / 16], (ByteArray.mk #[48, 49, 50, 51, 52, 53, 54, 55, 56, 57, 97, 98, 99, 100, 101, 102])[b % 16]] Try.underlying139 Try.underlying5 Try.underlying9 (fun j hj => by
        have hj2 : j < 2 := hj
        rw [addr_add]
        show (w.alloc _).cell? _ = _
        rw [cell_of_row (w.alloc (.cells #[.int .u8 ((ByteArray.mk #[48, 49, 50, 51, 52, 53, 54, 55, 56, 57, 97, 98, 99, 100, 101, 102])[b / 16].toNat : Int), .int .u8 ((ByteArray.mk #[48, 49, 50, 51, 52, 53, 54, 55, 56, 57, 97, 98, 99, 100, 101, 102])[b % 16].toNat : Int)] 5)) w.heap.size j _ _ (0, 0) (heap_alloc_new w _)]
        have : j = 0 ∨ j = 1 := by omega
        rcases this with rfl | rfl <;> rfl)
      have hcv2 : (convert 139 9 (.slice (some ⟨w.heap.size, 0, none⟩) 2 2)).run Try.prog (w.alloc (.cells #[.int .u8 ((ByteArray.mk #[48, 49, 50, 51, 52, 53, 54, 55, 56, 57, 97, 98, 99, 100, 101, 102])[b / 16].toNat : Int), .int .u8 ((ByteArray.mk #[48, 49, 50, 51, 52, 53, 54, 55, 56, 57, 97, 98, 99, 100, 101, 102])[b % 16].toNat : Int)] 5)).drew = .ok (.string (bs [(ByteArray.mk #[48, 49, 50, 51, 52, 53, 54, 55, 56, 57, 97, 98, 99, 100, 101, 102])[b / 16], (ByteArray.mk #[48, 49, 50, 51, 52, 53, 54, 55, 56, 57, 97, 98, 99, 100, 101, 102])[b % 16]])) (w.alloc (.cells #[.int .u8 ((ByteArray.mk #[48, 49, 50, 51, 52, 53, 54, 55, 56, 57, 97, 98, 99, 100, 101, 102])[b / 16].toNat : Int), .int .u8 ((ByteArray.mk #[48, 49, 50, 51, 52, 53, 54, 55, 56, 57, 97, 98, 99, 100, 101, 102])[b % 16].toNat : Int)] 5)).drew := hcv
      have HX : Hid (ByteArray.mk #[92, 120] ++ bs [(ByteArray.mk #[48, 49, 50, 51, 52, 53, 54, 55, 56, 57, 97, 98, 99, 100, 101, 102])[b / 16], (ByteArray.mk #[48, 49, 50, 51, 52, 53, 54, 55, 56, 57, 97, 98, 99, 100, 101, 102])[b % 16]] = bs [92, 120, hexD (b / 16), hexD (b % 16)]) := by
        have e : ∀ k : Fin 16, (ByteArray.mk #[48, 49, 50, 51, 52, 53, 54, 55, 56, 57, 97, 98, 99, 100, 101, 102])[k.val]'(k.isLt) = hexD k.val := by decide +kernel
        have e1 : (ByteArray.mk #[48, 49, 50, 51, 52, 53, 54, 55, 56, 57, 97, 98, 99, 100, 101, 102])[b / 16] = hexD (b / 16) := e ⟨b / 16, n1⟩
        have e2 : (ByteArray.mk #[48, 49, 50, 51, 52, 53, 54, 55, 56, 57, 97, 98, 99, 100, 101, 102])[b % 16] = hexD (b % 16) := e ⟨b % 16, n2⟩
        rw [e1, e2]
        show bs [92, 120] ++ bs _ = _
        rw [bs_append]; rfl
      have k1 : (ByteArray.mk #[92, 120]).size + (bs [(ByteArray.mk #[48, 49, 50, 51, 52, 53, 54, 55, 56, 57, 97, 98, 99, 100, 101, 102])[b / 16], (ByteArray.mk #[48, 49, 50, 51, 52, 53, 54, 55, 56, 57, 97, 98, 99, 100, 101, 102])[b % 16]]).size ≤ 9223372036854775807 := by show 2 + 2 ≤ _; decide
      generalize bs [(ByteArray.mk #[48, 49, 50, 51, 52, 53, 54, 55, 56, 57, 97, 98, 99, 100, 101, 102])[b / 16], (ByteArray.mk #[48, 49, 50, 51, 52, 53, 54, 55, 56, 57, 97, 98, 99, 100, 101, 102])[b % 16]] = X at *
      have y1 : ∀ W, (Op.stringOp .add (ByteArray.mk #[92, 120]) X).run Try.prog W = .ok (.string (ByteArray.mk #[92, 120] ++ X)) W := fun W => run_string_add_sum W _ _ k1
      have HBD : Hid (∀ o, Below w.heap.size w (w.alloc o).drew) := fun o => below_drewN ((Below.refl _ _).alloc (Nat.le_refl _) o) 1
      clear k1 hcv
      go_wp2_with fail
      go_region
      go_wp2_with fail
      exact bodyPost_ret (v := .string (ByteArray.mk #[92, 120] ++ X)) (by simp [results, Try.results84, go_sem]) rfl ⟨by rw [HS.out, HX.out], HBD.out _⟩
  · have q4 : decide ((b : Int) < 33) = false := decide_eq_false (by omega)
    have q5 : decide ((126 : Int) < (b : Int)) = false := decide_eq_false (by omega)
    have i8 : IntKind.u8.wrap (b : Int) = (b : Int) := by rw [show IntKind.u8.wrap (b : Int) = (b : Int) % 256 from rfl]; omega
    have HI : Hid (∀ W, Calls Try.prog 106 #[.string (ByteArray.mk #[40, 41, 91, 93, 124, 42, 43, 63, 46, 94, 36, 45, 92]), .int .u8 (b : Int)] W fun e w' => e = .returned (.int .i64 (Lib.indexByte signL (b : Int).toNat.toUInt8)) ∧ w' = W) := fun W => Try.strings_IndexByte _ (b : Int) W
    have HS : Hid (charP b = if decide (0 ≤ Lib.indexByte signL (b : Int).toNat.toUInt8) = true then [92, UInt8.ofNat b] else [UInt8.ofNat b]) := by
      unfold Hid charP
      rw [if_neg h1, if_neg h2, if_neg h3, if_neg h4]
      rfl
    generalize Lib.indexByte signL (b : Int).toNat.toUInt8 = K at *
    clear h1 h2 h3 h4
    go_enter Try.func84, Try.ntmps84
    go_wp2_with (go_at_call 106; apply Hid.out)
    unfold Hid
    refine (HI.out _).mono ?_
    rintro e w1 ⟨rfl, rfl⟩
    have ht : (UInt8.ofNat b).toNat = b := by rw [UInt8.toNat_ofNat']; omega
    have hcv := run_convert_bytes_back (P := Try.prog) (w1.alloc (.cells #[.int .u8 (b : Int)] 5)) 139 9 5 ⟨w1.heap.size, 0, none⟩ 1 [UInt8.ofNat b] Try.underlying139 Try.underlying5 Try.underlying9 (fun j hj => by
      have : j = 0 := by simpa using hj
      subst this
      rw [addr_add, cell_of_row (w1.alloc (.cells #[.int .u8 (b : Int)] 5)) w1.heap.size 0 _ _ (0, 0) (heap_alloc_new w1 _)]
      show some (Value.int .u8 (b : Int)) = some (Value.int .u8 ((UInt8.ofNat b).toNat : Int))
      rw [ht])
    have hcv2 : (convert 139 9 (.slice (some ⟨w1.heap.size, 0, none⟩) 1 1)).run Try.prog (w1.alloc (.cells #[.int .u8 (b : Int)] 5)) = .ok (.string (bs [UInt8.ofNat b])) (w1.alloc (.cells #[.int .u8 (b : Int)] 5)) := hcv
    have HCV := Lib.hid hcv2
    have HB : Hid (∀ o, Below w1.heap.size w1 (w1.alloc o)) := fun o => (Below.refl _ _).alloc (Nat.le_refl _) o
    clear hcv hcv2 ht HI
    by_cases h5 : 0 ≤ K
    · have d5 : decide (0 ≤ K) = true := decide_eq_true h5
      have k1 : (ByteArray.mk #[92]).size + (bs [UInt8.ofNat b]).size ≤ 9223372036854775807 := by show 1 + 1 ≤ _; decide
      rw [d5, if_pos rfl] at HS
      have HE : Hid (ByteArray.mk #[92] ++ bs [UInt8.ofNat b] = bs [92, UInt8.ofNat b]) := by
        show bs [92] ++ bs [UInt8.ofNat b] = _
        rw [bs_append]; rfl
      clear h5
      go_wp2_with fail
      rw [HCV.out]
      generalize bs [UInt8.ofNat b] = X at *
      have y1 : ∀ W, (Op.stringOp .add (ByteArray.mk #[92]) X).run Try.prog W = .ok (.string (ByteArray.mk #[92] ++ X)) W := fun W => run_string_add_sum W _ _ k1
      clear k1
      simp only [Result.andThen]
      rw [Oper.upon_value]
      go_wp2_with fail
      exact bodyPost_ret (v := .string (ByteArray.mk #[92] ++ X)) (by simp [results, Try.results84, go_sem]) rfl ⟨by rw [HS.out, HE.out], HB.out _⟩
    · have d5 : decide (0 ≤ K) = false := decide_eq_false h5
      rw [d5, if_neg (by decide)] at HS
      clear h5
      go_wp2_with fail
      rw [HCV.out]
      simp only [Result.andThen]
      rw [Oper.upon_value]
      go_wp2_with fail
      exact bodyPost_ret (v := .string (bs [UInt8.ofNat b])) (by simp [results, Try.results84, go_sem]) rfl ⟨by rw [HS.out], HB.out _⟩
end Go.Proofs.Ytnjjchbgnmjkjaa
