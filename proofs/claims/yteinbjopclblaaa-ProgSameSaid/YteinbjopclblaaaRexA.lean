/- The walk of asks: has a tree a kind? -/
import Derived.Test.YteinbjopclblaaaRexN4
import Derived.Test.YteinbjopclblaaaCFX
namespace Go.Proofs.Yteinbjopclblaaa
open Go.RowKit

theorem LK.flat {w : World} {B : Nat} : ∀ {ts : List Tree} {A : Option Addr}, LK w B ts A → ∃ xs, Sl w B 6 A ts.length xs ∧ ∀ j (h : j < ts.length), ∃ A' c', LT w B ts[j] (cellsX ts[j].kind ts[j].set A' ts[j].kids.length c') ∧ ∀ i, i < 6 → xs[j * 6 + i]? = (cellsX ts[j].kind ts[j].set A' ts[j].kids.length c')[i]?
  | [], A, _ => ⟨[], ⟨by simp, fun h => absurd h (by simp)⟩, fun j h => absurd h (by simp)⟩
  | t :: ts, A, h => by
    rw [LK] at h
    obtain ⟨b, off, cs, rfl, h2, h3, h4, h5, h6⟩ := h
    obtain ⟨xs, hs, hx⟩ := LK.flat h6
    obtain ⟨A1, c1, rfl, _⟩ := h5.parts
    have hl := hs.len
    refine ⟨cellsX t.kind t.set A1 t.kids.length c1 ++ xs, ⟨by rw [List.length_append, hl, h3, List.length_cons]; omega, fun _ => ⟨b, off, rfl, h2, fun j hj => ?_⟩⟩, fun j hj => ?_⟩
    · by_cases c : j < 6
      · rw [List.getElem_append_left (by rw [h3]; exact c)]
        exact h4 j (by rw [h3]; exact c)
      · rw [List.getElem_append_right (by rw [h3]; omega)]
        rw [List.length_append, h3] at hj
        obtain ⟨b', off', e, _, hc⟩ := hs.src (by omega)
        injection e with e
        injection e with e1 e2
        subst e1; subst e2
        have := hc (j - 6) (by omega)
        rw [show off + 6 + (j - 6) = off + j by omega] at this
        rw [this]
        simp only [h3]
    · cases j with
      | zero => exact ⟨A1, c1, h5, fun i hi => by rw [Nat.zero_mul, Nat.zero_add, List.getElem?_append_left (by rw [h3]; exact hi)]; rfl⟩
      | succ j =>
        obtain ⟨A', c', g1, g2⟩ := hx j (by simpa using hj)
        refine ⟨A', c', g1, fun i hi => ?_⟩
        rw [List.getElem?_append_right (by rw [h3]; omega), h3, show (j + 1) * 6 + i - 6 = j * 6 + i by omega]
        exact g2 i hi

def AskC (t : Tree) : Prop := ∀ (q : Int) (A : Option Addr) (c : Nat) (w : World), LT w w.heap.size t (cellsX t.kind t.set A t.kids.length c) → Calls Try.prog 38 #[argX t A c, .int .i64 q] w (BoolPost (asksT q t) w)

theorem ask1_any {t : Tree} (ih : AskC t) (q : Int) (A : Option Addr) (c g : Nat) (w : World) (h : LT w w.heap.size t (cellsX t.kind t.set A t.kids.length c)) (hg : g < w.heap.size) (hc : w.cell? ⟨g, 0, none⟩ = some (.int .i64 q)) :
    Calls Try.prog 75 #[argX t A c, .pointer (some ⟨g, 0, none⟩)] w (BoolPost (asksT q t) w) := by
  have HI : Hid (∀ o, Calls Try.prog 38 #[argX t A c, .int .i64 q] (w.alloc o) (BoolPost (asksT q t) (w.alloc o))) := fun o => ih q A c _ ((h.below ((Below.refl _ _).alloc (Nat.le_refl _) o)).more (by simp))
  unfold argX at *
  clear h ih
  go_enter Try.func75, Try.ntmps75
  go_wp2_with fail
  refine (HI.out _).mono ?_
  rintro e w1 ⟨rfl, hb⟩
  have hbw := below_new hb (Nat.le_refl _)
  clear hb
  go_wp2_with fail
  go_ret
  exact ⟨rfl, hbw⟩

def dT : Tree := .node 0 .zero []
theorem asksL_any (q : Int) : ∀ ts : List Tree, asksL q ts = ts.any (asksT q)
  | [] => by rw [asksL]; rfl
  | t :: ts => by rw [asksL, asksL_any q ts]; rfl
/-- ContainsFunc over kids. -/
theorem cont_kids (q : Int) (ts : List Tree) (ih : ∀ t ∈ ts, AskC t) (A : Option Addr) (c g : Nat) (w : World) (h : LK w w.heap.size ts A) (hn : ts.length ≤ 2) (hg : g < w.heap.size) (hc : w.cell? ⟨g, 0, none⟩ = some (.int .i64 q)) :
    Calls Try.prog 74 #[.slice A ts.length c, .func (.func 75) #[] #[.pointer (some ⟨g, 0, none⟩)]] w (BoolPost (asksL q ts) w) := by
  obtain ⟨xs, hs, hx⟩ := h.flat
  have hp : anyN (fun j => asksT q (ts.getD j dT)) ts.length = asksL q ts := by rw [anyN_list (asksT q) ts dT, asksL_any]
  rw [← hp]
  refine ContFX_any 75 #[.pointer (some ⟨g, 0, none⟩)] (enters_of Try.func75 (by kernel_rfl) rfl) A ts.length c xs (fun j => xs.getD (j * 6) undef) (fun j => xs.getD (j * 6 + 1) undef) (fun j => xs.getD (j * 6 + 2) undef) (fun j => xs.getD (j * 6 + 3) undef) (fun j => xs.getD (j * 6 + 4) undef) (fun j => xs.getD (j * 6 + 5) undef) _ w hs (by omega) (fun j hj => ?_) (fun W j hj hb => ?_)
  · have hl := hs.len
    have hat : ∀ i, i < 6 → xs[j * 6 + i]? = some (xs.getD (j * 6 + i) undef) := fun i hi => by
      rw [List.getD_eq_getElem?_getD, List.getElem?_eq_getElem (by omega)]; rfl
    exact ⟨hat 0 (by decide), hat 1 (by decide), hat 2 (by decide), hat 3 (by decide), hat 4 (by decide), hat 5 (by decide)⟩
  · obtain ⟨A', c', g1, g2⟩ := hx j hj
    have hgd : ts.getD j dT = ts[j] := by rw [List.getD_eq_getElem?_getD, List.getElem?_eq_getElem hj]; rfl
    have hat : ∀ i, i < 6 → ∀ v, (cellsX ts[j].kind ts[j].set A' ts[j].kids.length c')[i]? = some v → xs.getD (j * 6 + i) undef = v := fun i hi v hv => by
      rw [List.getD_eq_getElem?_getD, g2 i hi, hv]; rfl
    have e0 := hat 0 (by decide) _ rfl
    have e1 := hat 1 (by decide) _ rfl
    have e2 := hat 2 (by decide) _ rfl
    have e3 := hat 3 (by decide) _ rfl
    have e4 := hat 4 (by decide) _ rfl
    have e5 := hat 5 (by decide) _ rfl
    rw [Nat.add_zero] at e0
    show Calls _ _ #[_, _] _ _
    rw [e0, e1, e2, e3, e4, e5]
    show Calls Try.prog 75 #[argX ts[j] A' c', .pointer (some ⟨g, 0, none⟩)] W (BoolPost (asksT q (ts.getD j dT)) W)
    rw [hgd]
    exact ask1_any (ih _ (List.getElem_mem hj)) q A' c' g W ((g1.below hb).more hb.size) (Nat.lt_of_lt_of_le hg hb.size) ((hb.cell (p := ⟨g, 0, none⟩) hg).trans hc)

set_option maxRecDepth 100000 in
set_option maxHeartbeats 800000 in
theorem asks_node (k : Int) (S : Set4) (ts : List Tree) (hn : ts.length ≤ 2) (ih : ∀ t ∈ ts, AskC t) : AskC (.node k S ts) := by
  intro q A c w h
  obtain ⟨A', c', e, _, hk⟩ := h.parts
  have e6 : Value.slice A ts.length c = .slice A' ts.length c' := by
    unfold cellsX at e; injection e with _ e; injection e with _ e; injection e with _ e; injection e with _ e; injection e with _ e; injection e with e
  injection e6 with e7 _ e8
  subst e7; subst e8
  have HC : Hid (∀ o o', o' = .cells #[.int .i64 q] 3 → Calls Try.prog 74 #[.slice A ts.length c, .func (.func 75) #[] #[.pointer (some ⟨w.heap.size + 1, 0, none⟩)]] ((w.alloc o).alloc o') (BoolPost (asksL q ts) ((w.alloc o).alloc o'))) := fun o o' ho => by
    subst ho
    refine cont_kids q ts ih A c (w.heap.size + 1) _ ((hk.below (((Below.refl _ _).alloc (Nat.le_refl _) o).alloc (by simp) _)).more (by simp; omega)) hn (by simp) ?_
    have := cell_of_row ((w.alloc o).alloc (.cells #[.int .i64 q] 3)) (w.heap.size + 1) 0 #[.int .i64 q] 3 (0, 0) (by have := heap_alloc_new (w.alloc o) (.cells #[.int .i64 q] 3); simpa using this)
    exact this
  have HA : Hid (asksT q (.node k S ts) = (k == q || asksL q ts)) := by unfold Hid; rw [asksT]
  unfold argX
  obtain ⟨a, b, c', d⟩ := S
  dsimp only [Tree.kind, Tree.set, Tree.kids]
  clear h e hk ih
  cases hq : k == q with
  | true =>
    rw [hq] at HA
    go_enter Try.func38, Try.ntmps38
    go_wp2_with fail
    go_ret
    exact ⟨by rw [HA.out]; rfl, ((Below.refl _ _).alloc (Nat.le_refl _) _).alloc (by simp) _⟩
  | false =>
    rw [hq, Bool.false_or] at HA
    go_enter Try.func38, Try.ntmps38
    go_wp2_with fail
    refine (HC.out _ _ rfl).mono ?_
    rintro e w1 ⟨rfl, hb⟩
    have hbw := below_new (below_new hb (Nat.le_refl _)) (Nat.le_refl _)
    clear hb
    go_wp2_with fail
    go_ret
    exact ⟨by rw [HA.out]; rfl, hbw⟩
theorem asks_any (t : Tree) (h : Fine t) : AskC t := by
  match t, h with
  | .node k S ts, h =>
    have hsh := fine_shape h
    match k, ts, hsh with
    | _, _, .none => exact asks_node _ S [] (by simp) (by simp)
    | _, _, .empty => exact asks_node _ S [] (by simp) (by simp)
    | _, _, .byte => exact asks_node _ S [] (by simp) (by simp)
    | _, _, .cat a b ha hb => exact asks_node _ S [a, b] (by simp) (fun x hx => by
      rcases List.mem_cons.1 hx with e | hx
      · rw [e]; exact asks_any a ha
      · rw [List.mem_singleton.1 hx]; exact asks_any b hb)
    | _, _, .alt a b ha hb => exact asks_node _ S [a, b] (by simp) (fun x hx => by
      rcases List.mem_cons.1 hx with e | hx
      · rw [e]; exact asks_any a ha
      · rw [List.mem_singleton.1 hx]; exact asks_any b hb)
    | _, _, .star a ha => exact asks_node _ S [a] (by simp) (fun x hx => by rw [List.mem_singleton.1 hx]; exact asks_any a ha)
    | _, _, .begin => exact asks_node _ S [] (by simp) (by simp)
    | _, _, .finish => exact asks_node _ S [] (by simp) (by simp)
termination_by SizeOf.sizeOf t
end Go.Proofs.Yteinbjopclblaaa
