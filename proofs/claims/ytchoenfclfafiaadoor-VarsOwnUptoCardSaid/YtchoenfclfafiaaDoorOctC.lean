/- The walks of octet: Find, Token. -/
import Derived.Test.YtchoenfclfafiaaDoorShelf
import Derived.Test.YtchoenfclfafiaaDoorOctB
namespace Go.Proofs.YtchoenfclfafiaaDoor
open Go.RowKit

/-- The library's own variable holds some number. -/
def LibOk (w : World) : Prop := ∃ m : Int, w.cell? ⟨0, 0, none⟩ = some (.int .i64 m)
theorem LibOk.pos {w : World} (h : LibOk w) : 0 < w.heap.size := by
  obtain ⟨m, hm⟩ := h
  exact World.block_lt_of_cell? w ⟨0, 0, none⟩ hm
theorem LibOk.below {w w' : World} (h : LibOk w) (hb : Below w.heap.size w w') : LibOk w' := by
  have hp := h.pos
  obtain ⟨m, hm⟩ := h
  exact ⟨m, (hb.cell (p := ⟨0, 0, none⟩) hp).trans hm⟩

def findL (s t : List UInt8) (from_ : Int) : Int :=
  if (s.length : Int) < max from_ 0 then -1 else if 0 ≤ Lib.index (s.drop (max from_ 0).toNat) t then max from_ 0 + Lib.index (s.drop (max from_ 0).toNat) t else -1

def tokSigns : List UInt8 := [33, 35, 36, 37, 38, 39, 42, 43, 45, 46, 94, 95, 124, 126, 96]
def letB (b : UInt8) : Bool := decide (97 ≤ (b ||| 32).toNat) && decide ((b ||| 32).toNat ≤ 122) || decide (48 ≤ b.toNat) && decide (b.toNat ≤ 57)
def tokB (b : UInt8) : Bool := letB b || decide (0 ≤ Lib.indexByte tokSigns b)
def tokenL (l : List UInt8) : Bool := !l.isEmpty && l.all tokB

def TokRel (s : ByteArray) (i : Value) : Prop := ∃ k : Nat, k ≤ s.size ∧ i = .int .i64 k ∧ s.data.toList.all tokB = (s.data.toList.drop k).all tokB
theorem toUInt8_back (b : UInt8) : ((b.toNat : Int)).toNat.toUInt8 = b := by simp

theorem tokB_t {b : UInt8} {c i : Int} (hc : c = (b ||| 32).toNat) (hi : i = Lib.indexByte tokSigns b) (h : (97 ≤ c ∧ c ≤ 122) ∨ (48 ≤ (b.toNat : Int) ∧ (b.toNat : Int) ≤ 57) ∨ 0 ≤ i) : tokB b = true := by
  subst hi; subst hc
  unfold tokB letB
  simp only [Bool.or_eq_true, Bool.and_eq_true, decide_eq_true_eq]
  omega
theorem tokB_f {b : UInt8} {c i : Int} (hc : c = (b ||| 32).toNat) (hi : i = Lib.indexByte tokSigns b) (h : ¬ ((97 ≤ c ∧ c ≤ 122) ∨ (48 ≤ (b.toNat : Int) ∧ (b.toNat : Int) ≤ 57) ∨ 0 ≤ i)) : tokB b = false := by
  subst hi; subst hc
  unfold tokB letB
  simp only [Bool.or_eq_false_iff, Bool.and_eq_false_iff, decide_eq_false_iff_not]
  omega

set_option maxRecDepth 100000 in
set_option maxHeartbeats 1600000 in
theorem Token_any (s : ByteArray) (w : World) (hs : s.size ≤ maxLen) :
    Calls Tryd.prog 64 #[.string s] w fun e w' => e = .returned (.bool (tokenL s.data.toList)) ∧ w' = w := by
  unfold maxLen at hs
  have hL : Hid (s.data.toList.length = s.size) := by unfold Hid; simp
  go_enter Tryd.func64, Tryd.ntmps64
  go_wp2_with fail
  go_loop [8] (fun i => TokRel s i) (fun i => s.size - (intOf i).toNat)
  case atStart => exact ⟨0, Nat.zero_le _, rfl, rfl⟩
  case round =>
    obtain ⟨k, hk, rfl, hr⟩ := hrel
    have HR := Lib.hid hr
    clear hr
    by_cases hlt : k < s.size
    · have HD := Lib.hid (drop_cons s k hlt)
      have hne : Hid (s.data.toList.isEmpty = false) := by
        unfold Hid
        cases h : s.data.toList with
        | nil => have := hL.out; rw [h] at this; simp at this; omega
        | cons _ _ => rfl
      have hcb := s[k].toNat_lt
      obtain ⟨c, hc⟩ : ∃ c : Int, c = (s[k] ||| 32).toNat := ⟨_, rfl⟩
      have hor : bits BinOp.or IntKind.u8 (s[k].toNat : Int) 32 = c := by
        rw [hc, UInt8.toNat_or]; exact u8_or_nat _ _ s[k].toNat_lt (by decide)
      have HC := Lib.hid hc
      clear hc
      obtain ⟨ix, hi⟩ : ∃ ix : Int, ix = Lib.indexByte tokSigns s[k] := ⟨_, rfl⟩
      have HI := Lib.hid hi
      clear hi
      go_wp2_with (go_at_call 78; refine (Tryd.strings_IndexByte _ _ _).mono ?_; rintro e w' ⟨rfl, rfl⟩; rw [toUInt8_back, show (ByteArray.mk #[33, 35, 36, 37, 38, 39, 42, 43, 45, 46, 94, 95, 124, 126, 96]).data.toList = tokSigns from rfl, ← HI.out])
      all_goals first
        | (go_ret
           exact ⟨ret_bool (by unfold tokenL; rw [hne.out, HR.out, HD.out, List.all_cons, tokB_f HC.out HI.out (by omega)]; rfl), rfl⟩)
        | (try simp only [Bool.not_eq_eq_eq_not, Bool.not_false, decide_eq_true_eq] at *
           exact ⟨⟨k + 1, by omega, by go_num, by rw [HR.out, HD.out, List.all_cons, tokB_t HC.out HI.out (by omega)]; rfl⟩, by simp [intOf]; omega⟩)
        | (go_round
           case rel => exact ⟨k + 1, by omega, by go_num, by rw [HR.out, HD.out, List.all_cons, tokB_t HC.out HI.out (by omega)]; rfl⟩
           case measure => simp [intOf] <;> omega)
    · have hk' : k = s.size := by omega
      have HT : Hid (s.data.toList.all tokB = true) := by
        unfold Hid; rw [HR.out, List.drop_eq_nil_of_le (by rw [hL.out]; omega)]; rfl
      clear hk'
      go_wp2
      go_ret
      exact ⟨ret_bool (by unfold tokenL; rw [Lib.toList_data, HT.out, Bool.and_true]), rfl⟩

end Go.Proofs.YtchoenfclfafiaaDoor
