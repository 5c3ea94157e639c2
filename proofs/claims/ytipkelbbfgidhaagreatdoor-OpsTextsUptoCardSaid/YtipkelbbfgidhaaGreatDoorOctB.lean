/- The walks of octet: Lower, Trim, Find. -/
import Derived.Test.YtipkelbbfgidhaaGreatDoorBase
import Derived.Lib.Strings
import Derived.Lib.IndexBytes
namespace Go.Proofs.YtipkelbbfgidhaaGreatDoor
open Go.RowKit

def lowerB (b : UInt8) : UInt8 := if 65 ≤ b.toNat ∧ b.toNat ≤ 90 then b + 32 else b
def lowerL (l : List UInt8) : List UInt8 := l.map lowerB
def lowerTo (k : Nat) (l : List UInt8) : List UInt8 := (l.take k).map lowerB ++ l.drop k

theorem lowerTo_length (k : Nat) (l : List UInt8) : (lowerTo k l).length = l.length := by
  simp [lowerTo]; omega
theorem lowerTo_at (k : Nat) (l : List UInt8) (h : k < l.length) (h' : k < (lowerTo k l).length) : (lowerTo k l)[k] = l[k] := by
  have e : (lowerTo k l)[k]? = l[k]? := by
    unfold lowerTo
    rw [List.getElem?_append_right (by simp; omega)]
    simp [Nat.min_eq_left (Nat.le_of_lt h)]
  rw [List.getElem?_eq_getElem h', List.getElem?_eq_getElem h] at e
  exact Option.some.inj e
theorem lowerTo_set (k : Nat) (l : List UInt8) (h : k < l.length) : (lowerTo k l).set k (lowerB l[k]) = lowerTo (k + 1) l := by
  have hlen : ((l.take k).map lowerB).length = k := by simp; omega
  unfold lowerTo
  rw [List.set_append_right k _ (by omega), hlen, Nat.sub_self, List.drop_eq_getElem_cons h, List.set_cons_zero, List.take_succ_eq_append_getElem h, List.map_append, List.append_assoc]
  rfl
theorem lowerTo_keep (k : Nat) (l : List UInt8) (h : k < l.length) (e : lowerB l[k] = l[k]) : lowerTo k l = lowerTo (k + 1) l := by
  rw [← lowerTo_set k l h, e]
  refine (List.ext_getElem (by simp) fun i h1 h2 => ?_).symm
  rw [List.getElem_set]
  split
  · rename_i h3; subst h3; rw [lowerTo_at _ _ h]
  · rfl
theorem lowerTo_zero (l : List UInt8) : lowerTo 0 l = l := by simp [lowerTo]
theorem lowerTo_all (k : Nat) (l : List UInt8) (h : l.length ≤ k) : lowerTo k l = lowerL l := by
  simp [lowerTo, lowerL, List.take_of_length_le h, List.drop_eq_nil_of_le h]

def LowerRel (s : ByteArray) (w : World) (g : Nat) (i : Value) (wr : World) : Prop :=
  ∃ k : Nat, k ≤ s.size ∧ i = .int .i64 k ∧ BytesAt wr g (lowerTo k s.data.toList) ∧ Below w.heap.size w wr
def StrPost (r : ByteArray) (w : World) (e : Ending) (w' : World) : Prop := e = .returned (.string r) ∧ Below w.heap.size w w'

set_option maxRecDepth 100000 in
set_option maxHeartbeats 800000 in
theorem Lower_any (s : ByteArray) (w : World) (hs : s.size ≤ maxLen) :
    Calls Tryz.prog 5 #[.string s] w (StrPost (bs (lowerL s.data.toList)) w) := by
  unfold maxLen at hs
  go_enter Tryz.func5, Tryz.ntmps5
  go_wp2_with (refine wpList_to_bytes rfl _ 9 29 5 rfl Tryz.underlying9 Tryz.underlying29 Tryz.underlying5 _ rfl ?_; intro c w1 hc hbt hbl hsz)
  have HZ := Lib.hid hsz
  clear hsz
  have hg : w.heap.size ≤ w.heap.size := Nat.le_refl _
  go_loopw [10] (fun i wr => LowerRel s w w.heap.size i wr) (fun i _ => s.size - (intOf i).toNat)
  case atStart => exact ⟨0, Nat.zero_le _, rfl, by rw [lowerTo_zero]; exact hbt, hbl⟩
  case round =>
    obtain ⟨k, hk, rfl, hb, hbl2⟩ := hrel
    clear hbt hbl
    have hlen : Hid ((lowerTo k s.data.toList).length = s.size) := by unfold Hid; rw [lowerTo_length]; simp
    by_cases hlt : k < s.size
    · have hl : k < (lowerTo k s.data.toList).length := by rw [hlen.out]; exact hlt
      have hl2 : k < s.data.toList.length := by simpa using hlt
      have hc1 := hb.cell hl
      have hf1 := hb.free hl
      have hat := lowerTo_at k s.data.toList hl2 hl
      rw [hat] at hc1
      have HB := Lib.hid hb
      have hby := (s.data.toList[k]).toNat_lt
      clear hb hat
      have HX : Hid (s.data.toList[k] = s.data.toList[k]) := rfl
      generalize hx : s.data.toList[k] = x at *
      have HXX := Lib.hid hx
      clear hx
      by_cases g1 : 65 ≤ (x.toNat : Int) ∧ (x.toNat : Int) ≤ 90
      · have g2 := g1.1
        have g3 := g1.2
        have hlow : Hid ((lowerB x).toNat = x.toNat + 32) := by
          unfold Hid lowerB; rw [if_pos (by omega), UInt8.toNat_add]; simp; omega
        go_wp2
        go_roundw
        case rel =>
          refine ⟨k + 1, by omega, by go_num, ?_, hbl2.setCell (p := ⟨w.heap.size, k, none⟩) hg _⟩
          rw [← lowerTo_set k _ hl2, HXX.out]
          have := HB.out.set hl (lowerB x)
          rw [hlow.out] at this
          exact this
        case measure => simp [intOf] <;> omega
      · have hlow : lowerB x = x := by unfold lowerB; rw [if_neg (by omega)]
        have HL := Lib.hid hlow
        clear hlow
        rcases (show (x.toNat : Int) < 65 ∨ 90 < (x.toNat : Int) by omega) with g2 | g2
        all_goals
          clear g1
          go_wp2
          go_roundw
          case rel =>
            refine ⟨k + 1, by omega, by go_num, ?_, hbl2⟩
            rw [← lowerTo_keep k _ hl2 (by rw [HXX.out]; exact HL.out)]
            exact HB.out
          case measure => simp [intOf] <;> omega
    · have hcv := run_string_of_bytes (P := Tryz.prog) hb 29 9 5 s.size c (by rw [hlen.out]) Tryz.underlying29 Tryz.underlying5 Tryz.underlying9
      have HK := Lib.hid (lowerTo_all k s.data.toList (by simp; omega))
      clear hb
      go_wp2
      go_ret
      exact ⟨by rw [HK.out]; rfl, hbl2⟩

def blank (b : UInt8) : Bool := b == 32 || b == 9
theorem blank_t {b : UInt8} (h : (b.toNat : Int) = 32 ∨ (b.toNat : Int) = 9) : blank b = true := by
  unfold blank
  rcases h with h | h
  · rw [show b = 32 from UInt8.toNat_inj.1 (show b.toNat = 32 by omega)]; rfl
  · rw [show b = 9 from UInt8.toNat_inj.1 (show b.toNat = 9 by omega)]; rfl
theorem blank_f {b : UInt8} (h : ¬ (b.toNat : Int) = 32) (h' : ¬ (b.toNat : Int) = 9) : blank b = false := by
  unfold blank
  rw [Bool.or_eq_false_iff]
  exact ⟨beq_eq_false_iff_ne.2 (by rintro rfl; exact h rfl), beq_eq_false_iff_ne.2 (by rintro rfl; exact h' rfl)⟩
def rtrimL (l : List UInt8) : List UInt8 := (l.reverse.dropWhile blank).reverse
def trimL (l : List UInt8) : List UInt8 := rtrimL (l.dropWhile blank)
theorem rtrim_snoc_t (l : List UInt8) (b : UInt8) (h : blank b = true) : rtrimL (l ++ [b]) = rtrimL l := by simp [rtrimL, h]
theorem rtrim_snoc_f (l : List UInt8) (b : UInt8) (h : blank b = false) : rtrimL (l ++ [b]) = l ++ [b] := by simp [rtrimL, h]

def TrimRelA (s : ByteArray) (i : Value) : Prop := ∃ k : Nat, k ≤ s.size ∧ i = .int .i64 k ∧ trimL s.data.toList = rtrimL ((s.data.toList.drop k).dropWhile blank)
def TrimRelB (s : ByteArray) (a : Nat) (i : Value) : Prop := ∃ b : Nat, a ≤ b ∧ b ≤ s.size ∧ i = .int .i64 b ∧ trimL s.data.toList = rtrimL ((s.data.toList.take b).drop a)

end Go.Proofs.YtipkelbbfgidhaaGreatDoor
