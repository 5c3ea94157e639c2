/- The walk of nets.number. -/
import Derived.Test.YtnpopobeinbplaaDoorSetW
namespace Go.Proofs.YtnpopobeinbplaaDoor
open Go.RowKit

set_option maxRecDepth 100000 in
set_option maxHeartbeats 800000 in
theorem numB_any (s : ByteArray) (most : Int) (w : World) (hs : s.size ≤ maxLen) :
    Calls Tryd.prog 49 #[.string s, .int .i64 most] w fun e w' => e = .returned (.int .i64 (numB most s.data.toList)) ∧ w' = w := by
  have hd := Dec_any s w hs
  cases hn : numL 10 9 s.data.toList with
  | none =>
    rw [hn] at hd
    have HR : Hid (numB most s.data.toList = -1) := by unfold Hid numB; rw [hn]
    have HD := Lib.hid hd
    clear hn hd
    go_enter Tryd.func49, Tryd.ntmps49
    go_wp2_with fail
    refine HD.out.mono ?_
    rintro e w1 ⟨rfl, rfl⟩
    dsimp only [numRes]
    go_wp2_with fail
    go_ret
    exact ⟨ret_int HR.out.symm, rfl⟩
  | some n =>
    rw [hn] at hd
    have hlen : s.data.toList.length = s.size := by simp
    have hpos : 0 < s.size := by
      unfold numL at hn
      split at hn
      · cases hn
      · omega
    have h0 : s.data.toList.head? = some s[0] := by
      have := drop_cons s 0 hpos
      rw [List.drop_zero] at this
      rw [this]; rfl
    have HR : Hid (numB most s.data.toList = if most < n ∨ (s[0].toNat = 48 ∧ 1 < s.size) then -1 else n) := by
      unfold Hid numB
      rw [hn]
      dsimp only
      have : (s.data.toList.head? = some 48) ↔ s[0].toNat = 48 := by
        rw [h0]
        constructor
        · intro h; have := Option.some.inj h; rw [this]; rfl
        · intro h; congr 1; exact UInt8.toNat_inj.1 h
      simp only [this, hlen]
    have HD := Lib.hid hd
    clear hn hd h0 hlen
    by_cases c1 : most < n
    · have d1 : decide (most < n) = true := decide_eq_true c1
      have HR2 : Hid (numB most s.data.toList = -1) := by unfold Hid; rw [HR.out, if_pos (.inl c1)]
      clear HR c1
      go_enter Tryd.func49, Tryd.ntmps49
      go_wp2_with fail
      refine HD.out.mono ?_
      rintro e w1 ⟨rfl, rfl⟩
      dsimp only [numRes]
      go_wp2_with fail
      go_ret
      exact ⟨ret_int HR2.out.symm, rfl⟩
    · have d1 : decide (most < n) = false := decide_eq_false c1
      by_cases c2 : s[0].toNat = 48
      · have d2 : ((s[0].toNat : Int) == 48) = true := by rw [c2]; rfl
        by_cases c3 : 1 < s.size
        · have d3 : decide ((1 : Int) < (s.size : Int)) = true := decide_eq_true (by omega)
          have HR2 : Hid (numB most s.data.toList = -1) := by unfold Hid; rw [HR.out, if_pos (.inr ⟨c2, c3⟩)]
          clear HR c1 c2 c3
          go_enter Tryd.func49, Tryd.ntmps49
          go_wp2_with fail
          refine HD.out.mono ?_
          rintro e w1 ⟨rfl, rfl⟩
          dsimp only [numRes]
          go_wp2_with fail
          go_ret
          exact ⟨ret_int HR2.out.symm, rfl⟩
        · have d3 : decide ((1 : Int) < (s.size : Int)) = false := decide_eq_false (by omega)
          have HR2 : Hid (numB most s.data.toList = n) := by unfold Hid; rw [HR.out, if_neg (fun h => h.elim c1 (fun h => c3 h.2))]
          clear HR c1 c2 c3
          go_enter Tryd.func49, Tryd.ntmps49
          go_wp2_with fail
          refine HD.out.mono ?_
          rintro e w1 ⟨rfl, rfl⟩
          dsimp only [numRes]
          go_wp2_with fail
          go_ret
          exact ⟨ret_int HR2.out.symm, rfl⟩
      · have d2 : ((s[0].toNat : Int) == 48) = false := by rw [beq_eq_false_iff_ne]; omega
        have HR2 : Hid (numB most s.data.toList = n) := by unfold Hid; rw [HR.out, if_neg (fun h => h.elim c1 (fun h => c2 h.1))]
        clear HR c1 c2
        go_enter Tryd.func49, Tryd.ntmps49
        go_wp2_with fail
        refine HD.out.mono ?_
        rintro e w1 ⟨rfl, rfl⟩
        dsimp only [numRes]
        go_wp2_with fail
        go_ret
        exact ⟨ret_int HR2.out.symm, rfl⟩
end Go.Proofs.YtnpopobeinbplaaDoor
