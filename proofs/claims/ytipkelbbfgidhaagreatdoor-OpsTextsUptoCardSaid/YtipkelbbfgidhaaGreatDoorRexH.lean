/- The walks of rex.Has, rex.kids. -/
import Derived.Test.YtipkelbbfgidhaaGreatDoorRexM
import Derived.ChangeKeysEq
namespace Go.Proofs.YtipkelbbfgidhaaGreatDoor
open Go.RowKit

theorem kids_any (k : Int) (w : World) : Calls Tryz.prog 88 #[.int .i64 k] w fun e w' => e = .returned (.int .i64 (kidsI k)) ∧ w' = w := by
  by_cases h4 : k = 4
  · subst h4; go_enter Tryz.func88, Tryz.ntmps88
    go_wp2; go_ret; exact ⟨rfl, rfl⟩
  by_cases h5 : k = 5
  · subst h5; go_enter Tryz.func88, Tryz.ntmps88
    go_wp2; go_ret; exact ⟨rfl, rfl⟩
  by_cases h6 : k = 6
  · subst h6; go_enter Tryz.func88, Tryz.ntmps88
    go_wp2; go_ret; exact ⟨rfl, rfl⟩
  by_cases h1 : k = 1
  · subst h1; go_enter Tryz.func88, Tryz.ntmps88
    go_wp2; go_ret; exact ⟨rfl, rfl⟩
  by_cases h2 : k = 2
  · subst h2; go_enter Tryz.func88, Tryz.ntmps88
    go_wp2; go_ret; exact ⟨rfl, rfl⟩
  by_cases h3 : k = 3
  · subst h3; go_enter Tryz.func88, Tryz.ntmps88
    go_wp2; go_ret; exact ⟨rfl, rfl⟩
  by_cases h7 : k = 7
  · subst h7; go_enter Tryz.func88, Tryz.ntmps88
    go_wp2; go_ret; exact ⟨rfl, rfl⟩
  by_cases h8 : k = 8
  · subst h8; go_enter Tryz.func88, Tryz.ntmps88
    go_wp2; go_ret; exact ⟨rfl, rfl⟩
  have hk : Hid (kidsI k = -1) := by unfold Hid kidsI; rw [if_neg (by omega), if_neg h6, if_neg (by omega)]
  have q1 : (k == 1) = false := beq_eq_false_iff_ne.2 h1
  have q2 : (k == 2) = false := beq_eq_false_iff_ne.2 h2
  have q3 : (k == 3) = false := beq_eq_false_iff_ne.2 h3
  have q4 : (k == 4) = false := beq_eq_false_iff_ne.2 h4
  have q5 : (k == 5) = false := beq_eq_false_iff_ne.2 h5
  have q6 : (k == 6) = false := beq_eq_false_iff_ne.2 h6
  have q7 : (k == 7) = false := beq_eq_false_iff_ne.2 h7
  have q8 : (k == 8) = false := beq_eq_false_iff_ne.2 h8
  clear h1 h2 h3 h4 h5 h6 h7 h8
  go_enter Tryz.func88, Tryz.ntmps88
  go_wp2
  go_ret
  exact ⟨by rw [hk.out]; rfl, rfl⟩

def setV (s : Set4) : Value := .agg #[.int .u64 s.a, .int .u64 s.b, .int .u64 s.c, .int .u64 s.d]
theorem word_at (s : Set4) (k : Nat) (hk : k < 4) : ([.int .u64 s.a, .int .u64 s.b, .int .u64 s.c, .int .u64 s.d] : List Value)[k]? = some (.int .u64 (s.word k)) := by
  match k, hk with
  | 0, _ => rfl
  | 1, _ => rfl
  | 2, _ => rfl
  | 3, _ => rfl
theorem word_wf {s : Set4} (h : s.Wf) (k : Nat) : 0 ≤ s.word k ∧ s.word k ≤ 18446744073709551615 := by
  obtain ⟨h1, h2, h3, h4⟩ := h
  unfold word64 at h1 h2 h3 h4
  unfold Set4.word
  split
  · exact h1
  · split
    · exact h2
    · split
      · exact h3
      · exact h4
set_option maxHeartbeats 800000 in
theorem Has_any (s : Set4) (x : UInt8) (w : World) (h : s.Wf) : Calls Tryz.prog 37 #[setV s, .int .u8 x.toNat] w fun e w' => e = .returned (.bool (hasB s x)) ∧ Below w.heap.size w w' := by
  have hx := x.toNat_lt
  have hat := word_at s (x.toNat / 64) (by omega)
  have hwf := word_wf h (x.toNat / 64)
  have HH : Hid (hasB s x = (s.word (x.toNat / 64) / 2 ^ (x.toNat % 64) % 2 == 1)) := rfl
  generalize s.word (x.toNat / 64) = W at *
  obtain ⟨a, b, c, d⟩ := s
  unfold setV
  dsimp only at hat ⊢
  clear h
  go_enter Tryz.func37, Tryz.ntmps37
  go_wp2_with fail
  have hV : 0 ≤ W / 2 ^ (x.toNat % 64) ∧ W / 2 ^ (x.toNat % 64) < 18446744073709551616 := by
    refine ⟨Int.ediv_nonneg hwf.1 (Int.le_of_lt (Int.pow_pos (by decide))), ?_⟩
    have := Int.ediv_le_self (2 ^ (x.toNat % 64)) hwf.1
    omega
  rw [and_one_u64 _ hV.1 (by omega)]
  go_ret
  exact ⟨by rw [HH.out]; rfl, (Below.refl _ _).alloc (Nat.le_refl _) _⟩

theorem info_u64 : ∃ i, Tryz.prog.info? 34 = some i := by
  cases h : Tryz.prog.info? 34 with
  | some i => exact ⟨i, rfl⟩
  | none => exact absurd (show (Tryz.prog.info? 34).isSome = true by kernel_rfl) (by rw [h]; decide)
theorem run_eq64 (d : Nat) (x y : Int) (w : World) : (Op.equalIn (d + 1) 34 (.int .u64 x) (.int .u64 y)).run Tryz.prog w = .ok (x == y) w := by
  simp [Op.equalIn, run_underlying Tryz.underlying34]
theorem plain_u64 : Tryz.prog.plainKey 34 = true := by kernel_rfl
theorem items_one (d i : Nat) (is : List Nat) (xs ys : Array Value) (x y : Int) (hx : xs[i]? = some (.int .u64 x)) (hy : ys[i]? = some (.int .u64 y)) (w : World) :
    (Op.eqItems (d + 1) 34 1 xs ys (i :: is)).run Tryz.prog w = if x = y then (Op.eqItems (d + 1) 34 1 xs ys is).run Tryz.prog w else .ok false w := by
  simp only [Op.eqItems, Sem.run_bind, Nat.mul_one, run_part_plain w plain_u64 hx, run_part_plain w plain_u64 hy, Result.andThen_ok, run_eq64]
  by_cases h : x = y
  · subst h; simp
  · have : (x == y) = false := beq_eq_false_iff_ne.2 h
    simp [h]
set_option maxRecDepth 100000 in
theorem run_set_equal (x y : Set4) (w : World) : (Op.equal 36 (setV x) (setV y)).run Tryz.prog w = .ok (decide (x = y)) w := by
  obtain ⟨i, hi⟩ := info_u64
  obtain ⟨a, b, c, d⟩ := x
  obtain ⟨a', b', c', d'⟩ := y
  have h := run_equalIn_array (P := Tryz.prog) (w := w) 9999 #[.int .u64 a, .int .u64 b, .int .u64 c, .int .u64 d] #[.int .u64 a', .int .u64 b', .int .u64 c', .int .u64 d'] Tryz.underlying36 hi
  rw [cellsOf_u64] at h
  unfold Op.equal setV
  refine h.trans ?_
  rw [show List.range 4 = [0, 1, 2, 3] from rfl, items_one 9998 0 _ _ _ a a' rfl rfl, items_one 9998 1 _ _ _ b b' rfl rfl, items_one 9998 2 _ _ _ c c' rfl rfl, items_one 9998 3 _ _ _ d d' rfl rfl]
  by_cases h1 : a = a' <;> by_cases h2 : b = b' <;> by_cases h3 : c = c' <;> by_cases h4 : d = d' <;> simp [h1, h2, h3, h4, Op.eqItems]
def sameB (x y : Set4) : Bool := decide (x = y)
theorem run_set_eql (x y : Set4) (w : World) : (binOp .eql 36 (setV x) (setV y)).run Tryz.prog w = .ok (.bool (sameB x y)) w := by
  have h := run_set_equal x y w
  unfold setV at h ⊢
  simp only [binOp, Sem.run_bind]
  rw [h]
  rfl
theorem run_set_neq (x y : Set4) (w : World) : (binOp .neq 36 (setV x) (setV y)).run Tryz.prog w = .ok (.bool (!sameB x y)) w := by
  have h := run_set_equal x y w
  unfold setV at h ⊢
  simp only [binOp, Sem.run_bind]
  rw [h]
  rfl
end Go.Proofs.YtipkelbbfgidhaaGreatDoor
