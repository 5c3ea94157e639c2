/- The walk of prog.Check. -/
import Derived.Test.YteinbjopclblaaaThoM
import Derived.Test.YteinbjopclblaaaRexA
namespace Go.Proofs.Yteinbjopclblaaa
open Go.RowKit

/-- An instruction whose targets lie between. -/
def Tgt (x : Ins) (lo hi : Int) : Prop := (x.kind = 2 ∧ lo ≤ x.a ∧ x.a ≤ hi ∧ lo ≤ x.b ∧ x.b ≤ hi) ∨ (x.kind = 3 ∧ lo ≤ x.a ∧ x.a ≤ hi) ∨ x.kind = 1 ∨ x.kind = 4 ∨ x.kind = 5
theorem Tgt.mono {x : Ins} {lo hi lo' hi' : Int} (h : Tgt x lo hi) (h1 : lo' ≤ lo) (h2 : hi ≤ hi') : Tgt x lo' hi' := by
  unfold Tgt at h ⊢
  omega
theorem code_tgt {t : Tree} {at_ : Nat} {l : List Ins} (h : Code t at_ l) : ∀ x ∈ l, Tgt x at_ (at_ + l.length) := by
  induction h with
  | none | byte | begin | finish => intro x hx; simp only [List.mem_singleton] at hx; subst hx; simp [Tgt]
  | empty => intro x hx; simp at hx
  | cat S a b at_ la lb _ _ h1 h2 =>
    intro x hx
    rw [List.length_append]
    rcases List.mem_append.1 hx with h | h
    · exact (h1 x h).mono (Int.le_refl _) (by omega)
    · exact (h2 x h).mono (by omega) (by omega)
  | alt S a b at_ la lb _ _ h1 h2 =>
    intro x hx
    simp only [List.length_append, List.length_cons]
    rcases List.mem_cons.1 hx with h | hx
    · subst h; left; dsimp only; omega
    · rcases List.mem_append.1 hx with h | hx
      · exact (h1 x h).mono (by omega) (by omega)
      · rcases List.mem_cons.1 hx with h | h
        · subst h; right; left; dsimp only; omega
        · exact (h2 x h).mono (by omega) (by omega)
  | star S a at_ la _ h1 =>
    intro x hx
    simp only [List.length_append, List.length_cons, List.length_nil]
    rcases List.mem_cons.1 hx with h | hx
    · subst h; left; dsimp only; omega
    · rcases List.mem_append.1 hx with h | hx
      · exact (h1 x h).mono (by omega) (by omega)
      · rw [List.mem_singleton] at hx
        subst hx; right; left; dsimp only; omega
/-- All instructions lead somewhere. -/
def OkP (P : List Ins) : Prop := ∀ i (h : i < P.length), (P[i].kind = 2 ∧ (0 ≤ P[i].a ∧ P[i].a < P.length) ∧ 0 ≤ P[i].b ∧ P[i].b < P.length) ∨ (P[i].kind = 3 ∧ 0 ≤ P[i].a ∧ P[i].a < P.length) ∨ ((P[i].kind = 1 ∨ P[i].kind = 4 ∨ P[i].kind = 5) ∧ i + 1 < P.length) ∨ P[i].kind = 6
theorem code_ok {t : Tree} {l : List Ins} (h : Code t 0 l) : OkP (l ++ [⟨6, 0, 0, .zero⟩]) := by
  intro i hi
  rw [List.length_append, List.length_singleton] at hi ⊢
  by_cases c : i < l.length
  · rw [List.getElem_append_left c]
    have := code_tgt h l[i] (List.getElem_mem c)
    unfold Tgt at this
    omega
  · obtain rfl : i = l.length := by omega
    right; right; right
    simp

/-- An instruction lies there. -/
def Ins7 (w : World) (b o : Nat) (x : Ins) : Prop := w.cell? ⟨b, o, none⟩ = some (.int .i64 x.kind) ∧ w.cell? ⟨b, o + 1, none⟩ = some (.int .i64 x.a) ∧ w.cell? ⟨b, o + 2, none⟩ = some (.int .i64 x.b) ∧
      w.cell? ⟨b, o + 3, none⟩ = some (.int .u64 x.set.a) ∧ w.cell? ⟨b, o + 4, none⟩ = some (.int .u64 x.set.b) ∧ w.cell? ⟨b, o + 5, none⟩ = some (.int .u64 x.set.c) ∧ w.cell? ⟨b, o + 6, none⟩ = some (.int .u64 x.set.d)
theorem ins_here {w : World} {B n b off : Nat} {l : List Ins} (h : Sl w B 7 (some ⟨b, off, none⟩) n (l.flatMap cellsP)) (k : Nat) (hk : k < l.length) : Ins7 w b (off + k * 7) l[k] := by
  obtain ⟨b', off', e, _, r⟩ := ins_at h k hk
  injection e with e
  injection e with e1 e2
  subst e1; subst e2
  exact r

set_option maxRecDepth 100000 in
theorem there_any (k : Int) (g : Nat) (n : Nat) (w : World) (h0 : 0 ≤ k) (h1 : k < n) (hc : w.cell? ⟨g, 0, none⟩ = some (.int .i64 (n : Int))) :
    Calls Try.prog 90 #[.int .i64 k, .pointer (some ⟨g, 0, none⟩)] w fun e w' => e = .returned (.bool true) ∧ w' = w := by
  go_enter Try.func90, Try.ntmps90
  go_wp2_with fail
  go_ret
  exact ⟨rfl, rfl⟩

def OkRel (n : Nat) (w : World) (i : Value) (wr : World) : Prop := ∃ k : Nat, k ≤ n ∧ i = .int .i64 k ∧ Below w.heap.size w wr ∧ wr.cell? ⟨w.heap.size, 0, none⟩ = some (.int .i64 (n : Int)) ∧ w.heap.size < wr.heap.size

set_option maxRecDepth 100000 in
set_option maxHeartbeats 1600000 in
theorem PCheck_any (P : List Ins) (A : Option Addr) (c : Nat) (w : World) (h : Sl w w.heap.size 7 A P.length (P.flatMap cellsP)) (hok : OkP P) (h0 : 0 < P.length) (h4 : P.length ≤ 400) :
    Calls Try.prog 59 #[.slice A P.length c] w fun e w' => e = .returned (.int .i64 0) ∧ Below w.heap.size w w' := by
  have HOK := Lib.hid hok
  obtain ⟨b, off, rfl, hbl, hcells⟩ := h.src (by rw [h.len]; omega)
  have HAT : Hid (∀ k (hk : k < P.length) W, Below w.heap.size w W → Ins7 W b (off + k * 7) P[k]) := fun k hk W hb => ins_here (h.below hb) k hk
  have d1 : decide (400 < (P.length : Int)) = false := by simp; omega
  have i1 : ((P.length : Int) == 0) = false := beq_eq_false_iff_ne.2 (by omega)
  clear hok hcells
  go_enter Try.func59, Try.ntmps59
  go_wp2_with fail
  go_loopw [17] (fun i wr => OkRel P.length w i wr) (fun i _ => P.length - (intOf i).toNat)
  case atStart => exact ⟨0, Nat.zero_le _, rfl, (Below.refl _ _).alloc (Nat.le_refl _) _, new_cell (Below.refl _ _) 0, by simp⟩
  case round =>
    obtain ⟨k, hk, rfl, hbr, hcn, hzr⟩ := hrel
    by_cases hlt : k < P.length
    · obtain ⟨x0, x1, x2, x3, x4, x5, x6⟩ := HAT.out k hlt wr hbr
      have hx := HOK.out k hlt
      generalize P[k] = x at x0 x1 x2 x3 x4 x5 x6 hx
      obtain ⟨kd, xa, xb, ⟨sa, sb, sc, sd⟩⟩ := x
      dsimp only at x0 x1 x2 x3 x4 x5 x6 hx
      have i2 : (k : Int) < (P.length : Int) := by omega
      have HC := Lib.hid fun o => (((Below.refl wr.heap.size wr).alloc (Nat.le_refl _) o).cell (p := ⟨w.heap.size, 0, none⟩) hzr).trans hcn
      have HE : ∀ o, OkRel P.length w (.int .i64 ((k + 1 : Nat) : Int)) (wr.alloc o) := fun o => ⟨k + 1, hlt, rfl, hbr.alloc hbr.size o, HC.out o, by simp; omega⟩
      have HEN := Lib.hid HE
      clear HE
      rcases hx with ⟨rfl, ⟨a0, a1⟩, b0, b1⟩ | ⟨rfl, a0, a1⟩ | ⟨rfl | rfl | rfl, hi⟩ | rfl
      · go_wp2_with fail
        refine (there_any xa _ P.length _ a0 a1 (HC.out _)).mono ?_
        rintro e w' ⟨rfl, rfl⟩
        go_wp2_with fail
        refine (there_any xb _ P.length _ b0 b1 (HC.out _)).mono ?_
        rintro e w' ⟨rfl, rfl⟩
        go_wp2_with fail
        go_roundw
        case rel => exact HEN.out _
        case measure => simp [intOf] <;> omega
      · go_wp2_with fail
        refine (there_any xa _ P.length _ a0 a1 (HC.out _)).mono ?_
        rintro e w' ⟨rfl, rfl⟩
        go_wp2_with fail
        go_roundw
        case rel => exact HEN.out _
        case measure => simp [intOf] <;> omega
      · have i3 : (k : Int) + 1 < (P.length : Int) := by omega
        go_wp2_with fail
        go_roundw
        case rel => exact HEN.out _
        case measure => simp [intOf] <;> omega
      · have i3 : (k : Int) + 1 < (P.length : Int) := by omega
        go_wp2_with fail
        go_roundw
        case rel => exact HEN.out _
        case measure => simp [intOf] <;> omega
      · have i3 : (k : Int) + 1 < (P.length : Int) := by omega
        go_wp2_with fail
        go_roundw
        case rel => exact HEN.out _
        case measure => simp [intOf] <;> omega
      · go_wp2_with fail
        go_roundw
        case rel => exact HEN.out _
        case measure => simp [intOf] <;> omega
    · obtain rfl : k = P.length := by omega
      go_wp2_with fail
      go_ret
      exact ⟨rfl, hbr⟩
end Go.Proofs.Yteinbjopclblaaa
