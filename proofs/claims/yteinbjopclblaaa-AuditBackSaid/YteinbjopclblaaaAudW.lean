/- The walks of audit: Check, four. -/
import Derived.Test.YteinbjopclblaaaAudL
import Derived.Test.YteinbjopclblaaaCFI
import Derived.Laws.EntriesVeiled
namespace Go.Proofs.Yteinbjopclblaaa
open Go.RowKit

def recV (r : Rec) (A : Option Addr) (c : Nat) : Value := .agg #[.int .i64 r.conn, .int .i64 r.out, .int .i64 r.by_, .int .i64 r.score, .slice A r.matched.length c, .string (bs r.target)]

theorem within_any (n lo hi : Int) (w : World) : Calls Try.prog 79 #[.int .i64 n, .int .i64 lo, .int .i64 hi] w fun e w' => e = .returned (.bool (wiB n lo hi)) ∧ w' = w := by
  by_cases h1 : lo ≤ n
  · by_cases h2 : n ≤ hi
    · have HW : Hid (wiB n lo hi = true) := by unfold Hid wiB; simp [h1, h2]
      have d1 : decide (lo ≤ n) = true := by simpa using h1
      go_enter Try.func79, Try.ntmps79
      go_wp2_with fail
      go_ret
      exact ⟨ret_bool HW.out.symm, rfl⟩
    · have HW : Hid (wiB n lo hi = false) := by unfold Hid wiB; simp [h2]
      have d1 : decide (lo ≤ n) = true := by simpa using h1
      have d2 : decide (n ≤ hi) = false := by simpa using h2
      go_enter Try.func79, Try.ntmps79
      go_wp2_with fail
      go_ret
      exact ⟨ret_bool HW.out.symm, rfl⟩
  · have HW : Hid (wiB n lo hi = false) := by unfold Hid wiB; simp [h1]
    have d1 : decide (lo ≤ n) = false := by simpa using h1
    go_enter Try.func79, Try.ntmps79
    go_wp2_with fail
    go_ret
    exact ⟨ret_bool HW.out.symm, rfl⟩

theorem idTest_any (n : Int) (g : Nat) (w : World) (h0 : w.cell? ⟨g, 0, none⟩ = some (.func (.func 79) #[] #[])) :
    Calls Try.prog 81 #[.int .i64 n, .pointer (some ⟨g, 0, none⟩)] w (BoolPost (!(wiB n 1 9999)) w) := by
  go_enter Try.func81, Try.ntmps81
  go_wp2_with fail
  refine (within_any _ _ _ _).mono ?_
  rintro e w1 ⟨rfl, rfl⟩
  go_wp2_with fail
  go_ret
  exact ⟨rfl, Below.refl _ _⟩

theorem ids_any {ms : List Int} (h : ms.any (fun n => !(wiB n 1 9999)) = true) : idsB ms = false := by
  unfold idsB
  rw [List.any_eq_true] at h
  obtain ⟨x, hx, hb⟩ := h
  rw [List.all_eq_false]
  exact ⟨x, hx, by simpa using hb⟩
theorem ids_all {ms : List Int} (h : ms.any (fun n => !(wiB n 1 9999)) = false) : idsB ms = true := by
  unfold idsB
  rw [List.any_eq_false] at h
  rw [List.all_eq_true]
  intro x hx
  simpa using h x hx
set_option maxRecDepth 100000 in
set_option maxHeartbeats 1600000 in
theorem Check_any (r : Rec) (A : Option Addr) (c : Nat) (w : World) (h : Sl w w.heap.size 1 A r.matched.length (r.matched.map (Value.int .i64))) (hl : r.matched.length ≤ 9223372036854775807) :
    Calls Try.prog 45 #[recV r A c] w fun e w' => e = .returned (.int .i64 (checkR r)) ∧ Below w.heap.size w w' := by
  obtain ⟨co, ou, b, sc, ms, tg⟩ := r
  unfold recV
  dsimp only at h hl ⊢
  by_cases c1 : 40 < ms.length
  · have HC : Hid (checkR ⟨co, ou, b, sc, ms, tg⟩ = 2) := by unfold Hid checkR; rw [if_pos (.inl c1)]
    have d1 : decide (40 < (ms.length : Int)) = true := by simp; omega
    go_enter Try.func45, Try.ntmps45
    go_wp2_with fail
    go_ret
    exact ⟨ret_int HC.out.symm, (Below.refl _ _).alloc (Nat.le_refl _) _⟩
  · have d1 : decide (40 < (ms.length : Int)) = false := by simp; omega
    by_cases c2 : 1000 < tg.length
    · have HC : Hid (checkR ⟨co, ou, b, sc, ms, tg⟩ = 2) := by unfold Hid checkR; rw [if_pos (.inr c2)]
      have d2 : decide (1000 < (tg.length : Int)) = true := by simp; omega
      go_enter Try.func45, Try.ntmps45
      go_wp2_with fail
      go_ret
      exact ⟨ret_int HC.out.symm, (Below.refl _ _).alloc (Nat.le_refl _) _⟩
    · have d2 : decide (1000 < (tg.length : Int)) = false := by simp; omega
      have HCK : Hid (checkR ⟨co, ou, b, sc, ms, tg⟩ = if fieldsB ⟨co, ou, b, sc, ms, tg⟩ = false ∨ idsB ms = false then 1 else 0) := by unfold Hid checkR; rw [if_neg (fun e => e.elim c1 c2)]
      cases e1 : wiB co 0 255 with
      | false =>
        have HC : Hid (checkR ⟨co, ou, b, sc, ms, tg⟩ = 1) := by unfold Hid; rw [HCK.out, if_pos (.inl (by unfold fieldsB; dsimp only; simp [e1]))]
        clear HCK
        go_enter Try.func45, Try.ntmps45
        go_wp2_with (go_at_call 79; refine (within_any _ _ _ _).mono ?_; rintro e w1 ⟨rfl, rfl⟩)
        go_ret
        exact ⟨ret_int HC.out.symm, ((Below.refl _ _).alloc (Nat.le_refl _) _).alloc (by simp) _⟩
      | true =>
        cases e0 : (ou == 0) with
        | true =>
          have n0 : (ou != 0) = false := by simpa [bne] using e0
          cases e3 : wiB b 0 9999 with
          | false =>
            have HC : Hid (checkR ⟨co, ou, b, sc, ms, tg⟩ = 1) := by unfold Hid; rw [HCK.out, if_pos (.inl (by unfold fieldsB; dsimp only; simp [e1, e0, e3]))]
            clear HCK
            go_enter Try.func45, Try.ntmps45
            go_wp2_with (go_at_call 79; refine (within_any _ _ _ _).mono ?_; rintro e w1 ⟨rfl, rfl⟩)
            go_ret
            exact ⟨ret_int HC.out.symm, ((Below.refl _ _).alloc (Nat.le_refl _) _).alloc (by simp) _⟩
          | true =>
            cases e4 : wiB sc 0 1000000 with
            | false =>
              have HC : Hid (checkR ⟨co, ou, b, sc, ms, tg⟩ = 1) := by unfold Hid; rw [HCK.out, if_pos (.inl (by unfold fieldsB; dsimp only; simp [e1, e0, e3, e4]))]
              clear HCK
              go_enter Try.func45, Try.ntmps45
              go_wp2_with (go_at_call 79; refine (within_any _ _ _ _).mono ?_; rintro e w1 ⟨rfl, rfl⟩)
              go_ret
              exact ⟨ret_int HC.out.symm, ((Below.refl _ _).alloc (Nat.le_refl _) _).alloc (by simp) _⟩
            | true =>
              have HF : Hid (fieldsB ⟨co, ou, b, sc, ms, tg⟩ = true) := by unfold Hid fieldsB; dsimp only; simp [e1, e0, e3, e4]
              obtain ⟨W2, hW2⟩ : ∃ W2, (w.alloc (.cells #[.int .i64 co, .int .i64 ou, .int .i64 b, .int .i64 sc, .slice A ms.length c, .string (bs tg)] 51)).alloc (.cells #[.func (.func 79) #[] #[]] 121) = W2 := ⟨_, rfl⟩
              have hg : W2.cell? ⟨w.heap.size + 1, 0, none⟩ = some (.func (.func 79) #[] #[]) := by rw [← hW2]; simp
              have hb2 : Below w.heap.size w W2 := by rw [← hW2]; exact ((Below.refl _ _).alloc (Nat.le_refl _) _).alloc (by simp) _
              have h2 : Sl W2 W2.heap.size 1 A ms.length (ms.map (Value.int .i64)) := (h.below hb2).more hb2.size
              have HW2 := Lib.hid hW2
              clear hW2 h
              go_enter Try.func45, Try.ntmps45
              go_wp2_with (go_at_call 79; refine (within_any _ _ _ _).mono ?_; rintro e w1 ⟨rfl, rfl⟩)
              rw [HW2.out]
              refine (ContFI_any 81 #[.pointer (some ⟨w.heap.size + 1, 0, none⟩)] (enters_of Try.func81 (by kernel_rfl) rfl) _ _ _ (ms.map (Value.int .i64)) (fun j => .int .i64 (ms.getD j 0)) (fun j => !(wiB (ms.getD j 0) 1 9999)) _ h2 hl
                (fun j hj => by rw [List.getElem?_map, List.getD_eq_getElem?_getD, List.getElem?_eq_getElem hj]; rfl) (fun W j _ hbW => idTest_any _ _ W (cell_kept hbW hg))).mono ?_
              rintro e w3 ⟨rfl, hb3⟩
              rw [anyN_list (fun n => !(wiB n 1 9999)) ms 0]
              have HB := hb2.trans (hb3.mono hb2.size)
              cases hq : ms.any (fun n => !(wiB n 1 9999)) with
              | true =>
                have HC : Hid (checkR ⟨co, ou, b, sc, ms, tg⟩ = 1) := by unfold Hid; rw [HCK.out, if_pos (.inr (ids_any hq))]
                go_wp2_with fail
                go_ret
                exact ⟨ret_int HC.out.symm, HB⟩
              | false =>
                have HC : Hid (checkR ⟨co, ou, b, sc, ms, tg⟩ = 0) := by unfold Hid; rw [HCK.out, if_neg (by rw [HF.out, ids_all hq]; decide)]
                go_wp2_with fail
                go_ret
                exact ⟨ret_int HC.out.symm, HB⟩
        | false =>
          have n0 : (ou != 0) = true := by simpa [bne] using e0
          cases e2 : wiB ou 400 599 with
          | false =>
            have HC : Hid (checkR ⟨co, ou, b, sc, ms, tg⟩ = 1) := by unfold Hid; rw [HCK.out, if_pos (.inl (by unfold fieldsB; dsimp only; simp [e1, e0, e2]))]
            clear HCK
            go_enter Try.func45, Try.ntmps45
            go_wp2_with (go_at_call 79; refine (within_any _ _ _ _).mono ?_; rintro e w1 ⟨rfl, rfl⟩)
            go_ret
            exact ⟨ret_int HC.out.symm, ((Below.refl _ _).alloc (Nat.le_refl _) _).alloc (by simp) _⟩
          | true =>
            cases e3 : wiB b 0 9999 with
            | false =>
              have HC : Hid (checkR ⟨co, ou, b, sc, ms, tg⟩ = 1) := by unfold Hid; rw [HCK.out, if_pos (.inl (by unfold fieldsB; dsimp only; simp [e1, e0, e2, e3]))]
              clear HCK
              go_enter Try.func45, Try.ntmps45
              go_wp2_with (go_at_call 79; refine (within_any _ _ _ _).mono ?_; rintro e w1 ⟨rfl, rfl⟩)
              go_ret
              exact ⟨ret_int HC.out.symm, ((Below.refl _ _).alloc (Nat.le_refl _) _).alloc (by simp) _⟩
            | true =>
              cases e4 : wiB sc 0 1000000 with
              | false =>
                have HC : Hid (checkR ⟨co, ou, b, sc, ms, tg⟩ = 1) := by unfold Hid; rw [HCK.out, if_pos (.inl (by unfold fieldsB; dsimp only; simp [e1, e0, e2, e3, e4]))]
                clear HCK
                go_enter Try.func45, Try.ntmps45
                go_wp2_with (go_at_call 79; refine (within_any _ _ _ _).mono ?_; rintro e w1 ⟨rfl, rfl⟩)
                go_ret
                exact ⟨ret_int HC.out.symm, ((Below.refl _ _).alloc (Nat.le_refl _) _).alloc (by simp) _⟩
              | true =>
                have HF : Hid (fieldsB ⟨co, ou, b, sc, ms, tg⟩ = true) := by unfold Hid fieldsB; dsimp only; simp [e1, e2, e3, e4]
                obtain ⟨W2, hW2⟩ : ∃ W2, (w.alloc (.cells #[.int .i64 co, .int .i64 ou, .int .i64 b, .int .i64 sc, .slice A ms.length c, .string (bs tg)] 51)).alloc (.cells #[.func (.func 79) #[] #[]] 121) = W2 := ⟨_, rfl⟩
                have hg : W2.cell? ⟨w.heap.size + 1, 0, none⟩ = some (.func (.func 79) #[] #[]) := by rw [← hW2]; simp
                have hb2 : Below w.heap.size w W2 := by rw [← hW2]; exact ((Below.refl _ _).alloc (Nat.le_refl _) _).alloc (by simp) _
                have h2 : Sl W2 W2.heap.size 1 A ms.length (ms.map (Value.int .i64)) := (h.below hb2).more hb2.size
                have HW2 := Lib.hid hW2
                clear hW2 h
                go_enter Try.func45, Try.ntmps45
                go_wp2_with (go_at_call 79; refine (within_any _ _ _ _).mono ?_; rintro e w1 ⟨rfl, rfl⟩)
                rw [HW2.out]
                refine (ContFI_any 81 #[.pointer (some ⟨w.heap.size + 1, 0, none⟩)] (enters_of Try.func81 (by kernel_rfl) rfl) _ _ _ (ms.map (Value.int .i64)) (fun j => .int .i64 (ms.getD j 0)) (fun j => !(wiB (ms.getD j 0) 1 9999)) _ h2 hl
                  (fun j hj => by rw [List.getElem?_map, List.getD_eq_getElem?_getD, List.getElem?_eq_getElem hj]; rfl) (fun W j _ hbW => idTest_any _ _ W (cell_kept hbW hg))).mono ?_
                rintro e w3 ⟨rfl, hb3⟩
                rw [anyN_list (fun n => !(wiB n 1 9999)) ms 0]
                have HB := hb2.trans (hb3.mono hb2.size)
                cases hq : ms.any (fun n => !(wiB n 1 9999)) with
                | true =>
                  have HC : Hid (checkR ⟨co, ou, b, sc, ms, tg⟩ = 1) := by unfold Hid; rw [HCK.out, if_pos (.inr (ids_any hq))]
                  go_wp2_with fail
                  go_ret
                  exact ⟨ret_int HC.out.symm, HB⟩
                | false =>
                  have HC : Hid (checkR ⟨co, ou, b, sc, ms, tg⟩ = 0) := by unfold Hid; rw [HCK.out, if_neg (by rw [HF.out, ids_all hq]; decide)]
                  go_wp2_with fail
                  go_ret
                  exact ⟨ret_int HC.out.symm, HB⟩
end Go.Proofs.Yteinbjopclblaaa
