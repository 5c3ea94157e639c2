/- The walks of octet: sequences of UTF-8. -/
import Derived.Test.YteinbjopclblaaaOctA
import Derived.Test.YteinbjopclblaaaUtfLaw
import Derived.Lib.Strings
import Derived.Lib.IndexBytes
namespace Go.Proofs.Yteinbjopclblaaa
open Go.RowKit

def SizePost (s : ByteArray) (w : World) (e : Ending) (w' : World) : Prop := e = .returned (.int .i64 (sizeL s.data.toList)) ∧ Below w.heap.size w w'

theorem getD_at (s : ByteArray) (k : Nat) (h : k < s.size) : s.data.toList.getD k 0 = s[k] := by
  rw [List.getD_eq_getElem?_getD, Lib.data_getElem? s k h]; rfl
theorem extract_take (s : ByteArray) (i n : Nat) : (s.extract i n).data.toList = (s.data.toList.take n).drop i := by
  rw [Lib.extract_data, List.drop_take]

def SizeRel (s : ByteArray) (l : List UInt8) (n : Nat) (i : Value) : Prop :=
  ∃ k : Nat, k ≤ l.length ∧ i = .int .i64 k ∧ sizeL s.data.toList = (if (l.drop k).all contB then n else 0)

theorem contB_t {b : UInt8} (h : 128 ≤ (b.toNat : Int) ∧ (b.toNat : Int) ≤ 191) : contB b = true := by simp [contB]; omega
theorem contB_f {b : UInt8} (h : (b.toNat : Int) < 128 ∨ 191 < (b.toNat : Int)) : contB b = false := by simp [contB]; omega

set_option maxRecDepth 100000 in
set_option maxHeartbeats 6400000 in
theorem size_any (s : ByteArray) (h0 : 0 < s.size) (w : World) (hs : s.size ≤ maxLen) :
    Calls Try.prog 61 #[.string s] w (SizePost s w) := by
  unfold maxLen at hs
  have hb := s[0].toNat_lt
  have H0 := Lib.hid (getD_at s 0 h0)
  have HL : Hid (s.data.toList.length = s.size) := by unfold Hid; simp
  go_enter Try.func61, Try.ntmps61
  go_wp2_with (refine wpList_to_bytes rfl _ 9 92 5 rfl Try.underlying9 Try.underlying92 Try.underlying5 _ rfl ?_; intro c w1 hc hbt hbl hsz)
  all_goals first
    | (go_ret
       refine ⟨ret_int (by
         try simp only [beq_iff_eq] at *
         try simp only [beq_eq_false_iff_ne] at *
         unfold sizeL seqL
         rw [H0.out, HL.out]
         try rw [getD_at s 1 (by omega)]
         (repeat' (first | rw [if_pos (by omega)] | rw [if_neg (by omega)])) <;> rfl), Below.refl _ _⟩)
    | (first | rw [extract_take] at hbt | rw [show ByteArray.empty.data.toList = (s.data.toList.take 2).drop 2 from (List.drop_eq_nil_of_le (by simp; omega)).symm] at hbt
       have HA : Hid (sizeL s.data.toList = if ((s.data.toList.take 2).drop 2).all contB then 2 else 0) := by
         try simp only [beq_iff_eq] at *
         try simp only [beq_eq_false_iff_ne] at *
         unfold Hid sizeL seqL
         rw [H0.out, HL.out, getD_at s 1 (by omega)]
         (repeat' (first | rw [if_pos (by omega)] | rw [if_neg (by omega)]))
       have hy : ((s.data.toList.take 2).drop 2).length = 2 - 2 := by
         have := HL.out
         simp only [List.length_drop, List.length_take]; omega
       have HY := Lib.hid hy
       clear hy
       generalize (s.data.toList.take 2).drop 2 = y at *
       go_loop [64] (fun i => SizeRel s y 2 i) (fun i => 2 - (intOf i).toNat)
       case atStart => exact ⟨0, Nat.zero_le _, rfl, HA.out⟩
       case round =>
         obtain ⟨k, hk, rfl, hr⟩ := hrel
         have HR := Lib.hid hr
         clear hr
         have hk2 : k ≤ 2 - 2 := by rw [← HY.out]; exact hk
         have hb1 := hbt
         clear hbt
         by_cases hlt : k < 2 - 2
         · exact absurd hlt (by omega)
         · clear hb1
           go_wp2
           go_ret
           exact ⟨ret_int (by rw [HR.out, List.drop_eq_nil_of_le (by rw [HY.out]; omega)]; rfl), hbl⟩)
    | (first | rw [extract_take] at hbt | rw [show ByteArray.empty.data.toList = (s.data.toList.take 2).drop 2 from (List.drop_eq_nil_of_le (by simp; omega)).symm] at hbt
       have HA : Hid (sizeL s.data.toList = if ((s.data.toList.take 3).drop 2).all contB then 3 else 0) := by
         try simp only [beq_iff_eq] at *
         try simp only [beq_eq_false_iff_ne] at *
         unfold Hid sizeL seqL
         rw [H0.out, HL.out, getD_at s 1 (by omega)]
         (repeat' (first | rw [if_pos (by omega)] | rw [if_neg (by omega)]))
       have hy : ((s.data.toList.take 3).drop 2).length = 3 - 2 := by
         have := HL.out
         simp only [List.length_drop, List.length_take]; omega
       have HY := Lib.hid hy
       clear hy
       generalize (s.data.toList.take 3).drop 2 = y at *
       go_loop [64] (fun i => SizeRel s y 3 i) (fun i => 3 - (intOf i).toNat)
       case atStart => exact ⟨0, Nat.zero_le _, rfl, HA.out⟩
       case round =>
         obtain ⟨k, hk, rfl, hr⟩ := hrel
         have HR := Lib.hid hr
         clear hr
         have hk2 : k ≤ 3 - 2 := by rw [← HY.out]; exact hk
         have hb1 := hbt
         clear hbt
         by_cases hlt : k < 3 - 2
         · have hl : k < y.length := by rw [HY.out]; exact hlt
           have hc1 := hb1.cell hl
           have HD : Hid (y.drop k = y[k] :: y.drop (k + 1)) := List.drop_eq_getElem_cons hl
           have hbk := y[k].toNat_lt
           clear hb1 hk
           by_cases g1 : 128 ≤ (y[k].toNat : Int) ∧ (y[k].toNat : Int) ≤ 191
           · have g2 := g1.1
             have g3 := g1.2
             go_wp2
             go_round
             case rel => exact ⟨k + 1, hl, by go_num, by rw [HR.out, HD.out, List.all_cons, contB_t g1]; simp⟩
             case measure => simp [intOf]; omega
           · have HF : Hid (contB y[k] = false) := contB_f (by omega)
             rcases (show (y[k].toNat : Int) < 128 ∨ 191 < (y[k].toNat : Int) by omega) with g2 | g2
             all_goals
               clear g1
               go_wp2
               go_ret
               exact ⟨ret_int (by rw [HR.out, HD.out, List.all_cons, HF.out]; rfl), hbl⟩
         · clear hb1
           go_wp2
           go_ret
           exact ⟨ret_int (by rw [HR.out, List.drop_eq_nil_of_le (by rw [HY.out]; omega)]; rfl), hbl⟩)
    | (first | rw [extract_take] at hbt | rw [show ByteArray.empty.data.toList = (s.data.toList.take 2).drop 2 from (List.drop_eq_nil_of_le (by simp; omega)).symm] at hbt
       have HA : Hid (sizeL s.data.toList = if ((s.data.toList.take 4).drop 2).all contB then 4 else 0) := by
         try simp only [beq_iff_eq] at *
         try simp only [beq_eq_false_iff_ne] at *
         unfold Hid sizeL seqL
         rw [H0.out, HL.out, getD_at s 1 (by omega)]
         (repeat' (first | rw [if_pos (by omega)] | rw [if_neg (by omega)]))
       have hy : ((s.data.toList.take 4).drop 2).length = 4 - 2 := by
         have := HL.out
         simp only [List.length_drop, List.length_take]; omega
       have HY := Lib.hid hy
       clear hy
       generalize (s.data.toList.take 4).drop 2 = y at *
       go_loop [64] (fun i => SizeRel s y 4 i) (fun i => 4 - (intOf i).toNat)
       case atStart => exact ⟨0, Nat.zero_le _, rfl, HA.out⟩
       case round =>
         obtain ⟨k, hk, rfl, hr⟩ := hrel
         have HR := Lib.hid hr
         clear hr
         have hk2 : k ≤ 4 - 2 := by rw [← HY.out]; exact hk
         have hb1 := hbt
         clear hbt
         by_cases hlt : k < 4 - 2
         · have hl : k < y.length := by rw [HY.out]; exact hlt
           have hc1 := hb1.cell hl
           have HD : Hid (y.drop k = y[k] :: y.drop (k + 1)) := List.drop_eq_getElem_cons hl
           have hbk := y[k].toNat_lt
           clear hb1 hk
           by_cases g1 : 128 ≤ (y[k].toNat : Int) ∧ (y[k].toNat : Int) ≤ 191
           · have g2 := g1.1
             have g3 := g1.2
             go_wp2
             go_round
             case rel => exact ⟨k + 1, hl, by go_num, by rw [HR.out, HD.out, List.all_cons, contB_t g1]; simp⟩
             case measure => simp [intOf]; omega
           · have HF : Hid (contB y[k] = false) := contB_f (by omega)
             rcases (show (y[k].toNat : Int) < 128 ∨ 191 < (y[k].toNat : Int) by omega) with g2 | g2
             all_goals
               clear g1
               go_wp2
               go_ret
               exact ⟨ret_int (by rw [HR.out, HD.out, List.all_cons, HF.out]; rfl), hbl⟩
         · clear hb1
           go_wp2
           go_ret
           exact ⟨ret_int (by rw [HR.out, List.drop_eq_nil_of_le (by rw [HY.out]; omega)]; rfl), hbl⟩)

end Go.Proofs.Yteinbjopclblaaa
