/- none; what Parse answers at a printed tree. -/
import Derived.Test.YtnjjchbgnmjkjaaRqq
namespace Go.Proofs.Ytnjjchbgnmjkjaa
open Go.RowKit

mutual
theorem non_asks : ∀ t : Tree, NoN t ↔ asksT 1 t = false
  | .node k S ts => by
    rw [NoN, asksT, Bool.or_eq_false_iff, beq_eq_false_iff_ne, non_asksK ts]
theorem non_asksK : ∀ ts : List Tree, NoNK ts ↔ asksL 1 ts = false
  | [] => by rw [NoNK, asksL]; simp
  | t :: ts => by rw [NoNK, asksL, Bool.or_eq_false_iff, non_asks t, non_asksK ts]
end
def NoneC (t : Tree) : Prop := ∀ (A : Option Addr) (c : Nat) (w : World), LT w w.heap.size t (cellsX t.kind t.set A t.kids.length c) → Calls Try.prog 14 #[argX t A c] w (BoolPost (asksT 1 t) w)
theorem none_kids (ts : List Tree) (ih : ∀ t ∈ ts, NoneC t) (A : Option Addr) (c : Nat) (w : World) (h : LK w w.heap.size ts A) (hn : ts.length ≤ 2) :
    Calls Try.prog 30 #[.slice A ts.length c, .func (.func 14) #[] #[]] w (BoolPost (asksL 1 ts) w) := by
  obtain ⟨xs, hs, hx⟩ := h.flat
  have hp : anyN (fun j => asksT 1 (ts.getD j dT)) ts.length = asksL 1 ts := by rw [anyN_list (asksT 1) ts dT, asksL_any]
  rw [← hp]
  refine ContFX_any 14 #[] (enters_of Try.func14 (by kernel_rfl) rfl) A ts.length c xs (fun j => xs.getD (j * 6) undef) (fun j => xs.getD (j * 6 + 1) undef) (fun j => xs.getD (j * 6 + 2) undef) (fun j => xs.getD (j * 6 + 3) undef) (fun j => xs.getD (j * 6 + 4) undef) (fun j => xs.getD (j * 6 + 5) undef) _ w hs (by omega) (fun j hj => ?_) (fun W j hj hb => ?_)
  · have hl := hs.len
    have hat : ∀ i, i < 6 → xs[j * 6 + i]? = some (xs.getD (j * 6 + i) undef) := fun i hi => by
      rw [List.getD_eq_getElem?_getD, List.getElem?_eq_getElem (by omega)]; rfl
    exact ⟨hat 0 (by decide), hat 1 (by decide), hat 2 (by decide), hat 3 (by decide), hat 4 (by decide), hat 5 (by decide)⟩
  · obtain ⟨A', c', g1, g2⟩ := hx j hj
    have hgd : ts.getD j dT = ts[j] := by rw [List.getD_eq_getElem?_getD, List.getElem?_eq_getElem hj]; rfl
    have hat : ∀ i, i < 6 → ∀ v, (cellsX ts[j].kind ts[j].set A' ts[j].kids.length c')[i]? = some v → xs.getD (j * 6 + i) undef = v := fun i hi v hv => by
      rw [List.getD_eq_getElem?_getD, g2 i hi, hv]; rfl
    have e0 := hat 0 (by decide) _ rfl
    have e1 := hat 1 (by decide) _ rfl
    have e2 := hat 2 (by decide) _ rfl
    have e3 := hat 3 (by decide) _ rfl
    have e4 := hat 4 (by decide) _ rfl
    have e5 := hat 5 (by decide) _ rfl
    rw [Nat.add_zero] at e0
    show Calls _ _ #[_] _ _
    rw [e0, e1, e2, e3, e4, e5]
    show Calls Try.prog 14 #[argX ts[j] A' c'] W (BoolPost (asksT 1 (ts.getD j dT)) W)
    rw [hgd]
    exact ih _ (List.getElem_mem hj) A' c' W ((g1.below hb).more hb.size)

set_option maxRecDepth 100000 in
set_option maxHeartbeats 800000 in
theorem none_node (k : Int) (S : Set4) (ts : List Tree) (hn : ts.length ≤ 2) (ih : ∀ t ∈ ts, NoneC t) : NoneC (.node k S ts) := by
  intro A c w h
  obtain ⟨A', c', e, _, hk⟩ := h.parts
  have e6 : Value.slice A ts.length c = .slice A' ts.length c' := by
    unfold cellsX at e; injection e with _ e; injection e with _ e; injection e with _ e; injection e with _ e; injection e with _ e; injection e with e
  injection e6 with e7 _ e8
  subst e7; subst e8
  have HC : Hid (∀ o, Calls Try.prog 30 #[.slice A ts.length c, .func (.func 14) #[] #[]] (w.alloc o) (BoolPost (asksL 1 ts) (w.alloc o))) := fun o =>
    none_kids ts ih A c _ ((hk.below ((Below.refl _ _).alloc (Nat.le_refl _) o)).more (by simp)) hn
  have HA : Hid (asksT 1 (.node k S ts) = (k == 1 || asksL 1 ts)) := by unfold Hid; rw [asksT]
  unfold argX
  obtain ⟨a, b, c', d⟩ := S
  dsimp only [Tree.kind, Tree.set, Tree.kids]
  clear h e hk ih
  cases hq : k == 1 with
  | true =>
    rw [hq] at HA
    go_enter Try.func14, Try.ntmps14
    go_wp2_with fail
    exact bodyPost_ret (v := .bool true) (by simp [results, Try.results14, go_sem]) rfl ⟨by rw [HA.out]; rfl, (Below.refl _ _).alloc (Nat.le_refl _) _⟩
  | false =>
    rw [hq, Bool.false_or] at HA
    go_enter Try.func14, Try.ntmps14
    go_wp2_with fail
    refine (HC.out _).mono ?_
    rintro e w1 ⟨rfl, hb⟩
    have hbw := below_new hb (Nat.le_refl _)
    clear hb
    go_wp2_with fail
    exact bodyPost_ret (v := .bool (asksL 1 ts)) (by simp [results, Try.results14, go_sem]) rfl ⟨by rw [HA.out], hbw⟩
theorem none_any (t : Tree) (hf : Fine t) : NoneC t :=
  match t, hf with
  | .node k S ts, hf => by
    have hf2 := hf
    rw [Fine] at hf2
    have hn : ts.length ≤ 2 := by rcases fine_cases hf2.1 with ⟨_, h⟩ | ⟨_, h⟩ | ⟨_, h⟩ <;> omega
    refine none_node k S ts hn fun u hu => ?_
    obtain ⟨i, h, e⟩ := List.getElem_of_mem hu
    have := none_any ts[i] (fineL_at hf2.2 i h)
    rw [e] at this
    exact this
termination_by SizeOf.sizeOf t
decreasing_by
  have := List.sizeOf_lt_of_mem (List.getElem_mem h)
  simp only [Tree.node.sizeOf_spec]
  omega
/-- What Parse answers at a printed tree. -/
theorem parse_show {t : Tree} (hc : checkT t = 0) (hw : WfT t) : (200 < (showT t).length → parseP (showT t) = (kT 0, 0, 2)) ∧ ((showT t).length ≤ 200 → NoN t → parseP (showT t) = (t, 0, 0)) ∧ ((showT t).length ≤ 200 → ¬ NoN t → (parseP (showT t)).2.2 = 3) := by
  have hd := chk_deep t 1 0 hc
  have hend : RowEnd (showT t) (startR.pos + (showT t).length) := .inl (List.getElem?_eq_none (by show _ ≤ 0 + _; omega))
  obtain ⟨g1, g2⟩ := (back_any (showT t) t (chk_fine t 1 0 hc) hw).p3 20 startR rfl (Nat.zero_le _) rfl (by omega) (At.self _) hend
  have htop : topT (showT t) = altR (showT t) (rowD (showT t) 20) startR := rfl
  unfold parseP
  refine ⟨fun h => by rw [if_pos h], fun h hN => ?_, fun h hN => ?_⟩
  · have hin : InR (showT t) (t, adv startR (showT t).length) := by show 0 + (showT t).length ≤ _; omega
    have hst : altS (showT t) (rowD (showT t) 20) (t, adv startR (showT t).length) = none := alt_stop (x := (t, adv startR (showT t).length)) (.inl (.inl (List.getElem?_eq_none (show (showT t).length ≤ 0 + (showT t).length by omega))))
    have e : topT (showT t) = (t, adv startR (showT t).length) := by rw [htop, g1 hN, fixI_none (altS_falls (good_rowD (showT t) 20)) hin hst]
    have e2 : topR (showT t) = adv startR (showT t).length := by
      unfold topR
      rw [e, if_neg (fun h => by have hlt : 0 + (showT t).length < (showT t).length := h.2; omega)]
    rw [if_neg (by omega), e2, if_neg (fun h => h rfl), e, if_neg (fun h => h hc)]
  · have e3 : (topT (showT t)).2.e = 3 := by rw [htop]; exact g2 hN
    have e2 : topR (showT t) = (topT (showT t)).2 := by
      unfold topR
      rw [if_neg (fun h => by rw [e3] at h; cases h.1)]
    rw [if_neg (by omega), e2, e3, if_pos (by decide)]
theorem parse_bad {s : List UInt8} (h : (parseP s).2.2 ≠ 0) : (parseP s).1 = kT 0 ∧ (parseP s).2.1 ≤ s.length := by
  have hg := good_altD s 21 startR (Nat.zero_le _)
  unfold parseP at h ⊢
  by_cases h1 : 200 < s.length
  · rw [if_pos h1]; exact ⟨rfl, Nat.zero_le _⟩
  rw [if_neg h1] at h ⊢
  by_cases h2 : (topR s).e ≠ 0
  · rw [if_pos h2]
    refine ⟨rfl, ?_⟩
    have hp : (topT s).2.pos ≤ s.length := hg.step.inn
    show (topR s).pos ≤ _
    unfold topR
    split
    · rw [(failR_facts _ 3 (by decide)).1]; exact hp
    · exact hp
  rw [if_neg h2] at h ⊢
  by_cases h3 : checkT (topT s).1 ≠ 0
  · rw [if_pos h3]; exact ⟨rfl, Nat.le_refl _⟩
  · rw [if_neg h3] at h; exact absurd rfl h
theorem parse_good {s : List UInt8} (h : (parseP s).2.2 = 0) : checkT (parseP s).1 = 0 ∧ NoN (parseP s).1 := by
  have hg := good_altD s 21 startR (Nat.zero_le _)
  unfold parseP at h ⊢
  by_cases h1 : 200 < s.length
  · rw [if_pos h1] at h; cases h
  rw [if_neg h1] at h ⊢
  by_cases h2 : (topR s).e ≠ 0
  · rw [if_pos h2] at h; exact absurd h h2
  rw [if_neg h2] at h ⊢
  by_cases h3 : checkT (topT s).1 ≠ 0
  · rw [if_pos h3] at h; exact absurd h h3
  · rw [if_neg h3]
    exact ⟨by by_cases e : checkT (topT s).1 = 0; exact e; exact absurd e h3, hg.non⟩
/-- The constants of the two laws. -/
def backT : Tree := .node 4 .zero [byT (leF 97), starT (byT (leF 46))]
theorem back_const : printP backT = ([97, 92, 46, 42], 0) := by decide +kernel
def againS : List UInt8 := [40, 97, 124, 98, 41, 36]
theorem again_const : (parseP againS).2.2 = 0 ∧ (parseP againS).1.kind = 4 := by decide +kernel
end Go.Proofs.Ytnjjchbgnmjkjaa
