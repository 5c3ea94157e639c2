/- The walk of prog.Make. -/
import Derived.Test.YteinbjopclblaaaThoE
import Derived.Test.YteinbjopclblaaaRexF
namespace Go.Proofs.Yteinbjopclblaaa
open Go.RowKit

theorem code_all (t : Tree) (h : Fine t) : CodeC t := by
  match t, h with
  | .node k S ts, h =>
    have hsh := fine_shape h
    match k, ts, hsh with
    | _, _, .none => exact code_app 1 S _ (.inl ⟨.inl rfl, rfl⟩) fun _ => .none _ _
    | _, _, .empty => exact code_empty S
    | _, _, .byte => exact code_app 3 S _ (.inl ⟨.inr rfl, rfl⟩) fun _ => .byte _ _
    | _, _, .cat a b ha hb => exact code_cat S a b (code_all a ha) (code_all b hb)
    | _, _, .alt a b ha hb => exact code_alt S a b (code_all a ha) (code_all b hb)
    | _, _, .star a ha => exact code_star S a (code_all a ha)
    | _, _, .begin => exact code_app 7 S _ (.inr (.inl ⟨rfl, rfl⟩)) fun _ => .begin _ _
    | _, _, .finish => exact code_app 8 S _ (.inr (.inr ⟨rfl, rfl⟩)) fun _ => .finish _ _
termination_by SizeOf.sizeOf t

mutual
theorem chk_nodes : ∀ (t : Tree) (deep n : Int), (chk t deep n).2 = 0 → (chk t deep n).1 = n + nodes t ∧ n + nodes t ≤ 80
  | .node k s ts, deep, n, h => by
    rw [chk] at h ⊢
    by_cases c1 : 80 < n + 1
    · rw [if_pos c1] at h; exact absurd (show (2 : Int) = 0 from h) (by decide)
    · rw [if_neg c1] at h ⊢
      by_cases c2 : 20 < deep
      · rw [if_pos c2] at h; exact absurd (show (11 : Int) = 0 from h) (by decide)
      · rw [if_neg c2] at h ⊢
        cases c3 : badT k s ts.length with
        | true => rw [c3, if_pos rfl] at h; exact absurd (show (1 : Int) = 0 from h) (by decide)
        | false =>
          rw [c3, if_neg (by decide)] at h
          rw [if_neg (by decide)]
          have := chkL_nodes ts _ _ h
          rw [nodes]
          exact ⟨by rw [this.1]; omega, by have := this.2 (by omega); omega⟩
theorem chkL_nodes : ∀ (ts : List Tree) (deep n : Int), (chkL ts deep n).2 = 0 → (chkL ts deep n).1 = n + nodesL ts ∧ (n ≤ 80 → n + nodesL ts ≤ 80)
  | [], _, _, _ => by rw [chkL, nodesL]; exact ⟨by simp, fun h => by simpa using h⟩
  | t :: ts, deep, n, h => by
    rw [chkL] at h ⊢
    by_cases c : (chk t deep n).2 ≠ 0
    · rw [if_pos c] at h; exact absurd h c
    · rw [if_neg c] at h ⊢
      have h1 := chk_nodes t deep n (Classical.not_not.1 c)
      have h2 := chkL_nodes ts _ _ h
      rw [nodesL]
      rw [h1.1] at h2 ⊢
      exact ⟨by rw [h2.1]; omega, fun _ => by have := h2.2 h1.2; omega⟩
end

def MakePost (t : Tree) (w : World) (e : Ending) (w' : World) : Prop :=
  ∃ v, e = .returned (.tuple #[v, .int .i64 (checkT t)]) ∧ (checkT t ≠ 0 → v = .slice none 0 0) ∧ (checkT t = 0 → ∃ l, Code t 0 l ∧ l.length ≤ 160 ∧ OwnP w' w.heap.size v (l ++ [⟨6, 0, 0, .zero⟩])) ∧ Below w.heap.size w w'

set_option maxRecDepth 100000 in
set_option maxHeartbeats 1600000 in
theorem Make_any (t : Tree) (A : Option Addr) (c : Nat) (w : World) (h : LT w w.heap.size t (cellsX t.kind t.set A t.kids.length c)) :
    Calls Try.prog 56 #[argX t A c] w (MakePost t w) := by
  have HCK : Hid (∀ W, Below w.heap.size w W → Calls Try.prog 40 #[argX t A c] W fun e w' => e = .returned (.int .i64 (checkT t)) ∧ Below W.heap.size W w') := fun W hb => Check_any2 t _ W ((h.below hb).more hb.size)
  have HCD : Hid (checkT t = 0 → ∀ W, Below w.heap.size w W → Calls Try.prog 85 #[.slice none 0 0, argX t A c] W (CodePost t [] w.heap.size W)) := fun hc W hb => by
    have hn := (chk_nodes t 1 0 hc).2
    obtain ⟨A', c', e, _, hk⟩ := h.parts
    exact (code_all t (chk_fine t 1 0 hc)).call h W _ [] hb.size hb (OwnP.nil _ _) (by simp; omega)
  have HLN : Hid (∀ l, checkT t = 0 → Code t 0 l → l.length ≤ 160) := fun l hc hl => by
    have hn := (chk_nodes t 1 0 hc).2
    have := code_len hl
    omega
  clear h
  unfold argX at HCK HCD ⊢
  go_enter Try.func56, Try.ntmps56
  go_wp2_with fail
  refine (HCK.out _ ((Below.refl _ _).alloc (Nat.le_refl _) _)).mono ?_
  rintro e w1 ⟨rfl, hb1⟩
  have hbw : Below w.heap.size w w1 := ((Below.refl _ _).alloc (Nat.le_refl _) _).trans (hb1.mono (by simp))
  by_cases hc : checkT t = 0
  · have qc : (checkT t != 0) = false := by rw [hc]; rfl
    obtain ⟨⟨f0, f1, f2, f3, f4, f5⟩, _⟩ := box_six hb1
    go_wp2_with fail
    refine (HCD.out hc _ hbw).mono ?_
    rintro e w2 ⟨v2, l, rfl, hcl, hO2, hb2, _, _⟩
    have hll := HLN.out l hc hcl
    have hbw2 := hbw.trans hb2
    have hz2 := hbw2.size
    obtain ⟨A2, c2, rfl, _⟩ := hO2.form
    clear f0 f1 f2 f3 f4 f5
    go_wp2_with (at_builtin; refine wpList_append_p rfl (.tmp 11) (.tmp 13) rfl w.heap.size (.slice A2 ([] ++ l).length c2) ([] ++ l) rfl hO2 hz2 _ ⟨6, 0, 0, .zero⟩ rfl w2.heap.size rfl 1 rfl (by simp; omega) ?_; intro v3 w3 hO3 hb3 hk3 hz3)
    exact bodyPost_ret (v := .tuple #[v3, .int .i64 0]) (by simp [results, Try.results56, go_sem]) rfl ⟨v3, by rw [hc], fun h => absurd hc h, fun _ => ⟨l, hcl, hll, hO3⟩, hbw2.trans hb3⟩
  · have qc : (checkT t != 0) = true := by simpa using hc
    go_wp2_with fail
    exact bodyPost_ret (v := .tuple #[.slice none 0 0, .int .i64 (checkT t)]) (by simp [results, Try.results56, go_sem]) rfl ⟨_, rfl, fun _ => rfl, fun h => absurd h hc, hbw⟩
end Go.Proofs.Yteinbjopclblaaa
