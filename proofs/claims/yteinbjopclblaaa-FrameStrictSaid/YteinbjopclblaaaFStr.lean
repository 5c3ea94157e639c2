/- FrameStrict: the plain law and the walk. -/
import Derived.Test.YteinbjopclblaaaFOf
import Derived.Test.YteinbjopclblaaaClF
import Derived.Test.YteinbjopclblaaaOpen
namespace Go.Proofs.Yteinbjopclblaaa
open Go.RowKit

def cCL : ByteArray := ByteArray.mk #[67, 111, 110, 116, 101, 110, 116, 45, 76, 101, 110, 103, 116, 104]
def fs1 : List (ByteArray × ByteArray) := [(ByteArray.mk #[99, 111, 110, 116, 101, 110, 116, 45, 76, 69, 78, 71, 84, 72], ByteArray.mk #[48, 55])]
theorem of_fs1 : ofL (getL fs1 clen) (getL fs1 tenc) = (2, 7, 0) := by decide +kernel
theorem getL_app (fs gs : List (ByteArray × ByteArray)) (name : ByteArray) : getL (fs ++ gs) name = getL fs name ++ getL gs name := by
  unfold getL; rw [List.filter_append, List.map_append]
theorem getL_yes (n x name : ByteArray) (r : List (ByteArray × ByteArray)) (h : (lowerL n.data.toList == lowerL name.data.toList) = true) : getL ((n, x) :: r) name = x :: getL r name := by
  unfold getL; rw [List.filter_cons_of_pos (p := sameN name) (by exact h)]; rfl
theorem getL_no (n x name : ByteArray) (r : List (ByteArray × ByteArray)) (h : (lowerL n.data.toList == lowerL name.data.toList) = false) : getL ((n, x) :: r) name = getL r name := by
  unfold getL; rw [List.filter_cons_of_neg (p := sameN name) (by show ¬ (lowerL n.data.toList == lowerL name.data.toList) = true; rw [h]; decide)]
def fsB (a b : ByteArray) : List (ByteArray × ByteArray) := [(cCL, a), (tenc, b)]
def fsD (a b : ByteArray) : List (ByteArray × ByteArray) := [(cCL, a), (cCL, b)]
theorem fsB_c (a b : ByteArray) : getL (fsB a b) clen = [a] ∧ getL (fsB a b) tenc = [b] := by
  unfold fsB
  exact ⟨by rw [getL_yes _ _ _ _ (by decide +kernel), getL_no _ _ _ _ (by decide +kernel)]; rfl, by rw [getL_no _ _ _ _ (by decide +kernel), getL_yes _ _ _ _ (by decide +kernel)]; rfl⟩
theorem fsD_c (a b : ByteArray) : getL (fsD a b) clen = [a, b] ∧ getL (fsD a b) tenc = [] := by
  unfold fsD
  exact ⟨by rw [getL_yes _ _ _ _ (by decide +kernel), getL_yes _ _ _ _ (by decide +kernel)]; rfl, by rw [getL_no _ _ _ _ (by decide +kernel), getL_no _ _ _ _ (by decide +kernel)]; rfl⟩
theorem of_both (S C : List ByteArray) (a b : ByteArray) : ofL (S ++ [a]) (C ++ [b]) = (0, 0, 4) := by
  cases S <;> cases C <;> rfl
theorem of_differ (S C : List ByteArray) (a b : ByteArray) (h : (a.toList == b.toList) = false) : ofL (S ++ [a, b]) C = (0, 0, 4) := by
  have hne : ∀ (s : ByteArray) (T : List ByteArray), (∀ x ∈ [a, b], x ∈ s :: T) → ofL (s :: T) [] = (0, 0, 4) := fun s T hT => by
    rw [of_len]
    cases numL 10 9 s.data.toList with
    | none => rfl
    | some n =>
      have : (s :: T).any (fun y => !(y.toList == s.toList)) = true := by
        rw [List.any_eq_true]
        by_cases c : (a.toList == s.toList) = true
        · refine ⟨b, hT b (by simp), ?_⟩
          have c2 := beq_iff_eq.1 c
          have h2 : ¬ a.toList = b.toList := fun e => by rw [e] at h; simp at h
          simp only [Bool.not_eq_true', beq_eq_false_iff_ne]
          intro e; exact h2 (c2.trans e.symm)
        · exact ⟨a, hT a (by simp), by simpa using c⟩
      show (if _ then _ else _) = _
      rw [if_pos this]
  cases C with
  | cons y C' => cases S <;> rfl
  | nil =>
    cases S with
    | nil => exact hne a [b] (fun x hx => hx)
    | cons s S' => exact hne s (S' ++ [a, b]) (fun x hx => by rw [← List.cons_append]; exact List.mem_append_right _ hx)
theorem hcl : cCL.size ≤ maxLen := by decide
theorem hte : tenc.size ≤ maxLen := by decide
theorem szB {fs : List (ByteArray × ByteArray)} {a b : ByteArray} (h : ∀ f ∈ fs, f.1.size ≤ maxLen ∧ f.2.size ≤ maxLen) (ha : a.size ≤ maxLen) (hb : b.size ≤ maxLen) : ∀ f ∈ fs ++ fsB a b, f.1.size ≤ maxLen ∧ f.2.size ≤ maxLen := fun f hf => by
  rcases List.mem_append.1 hf with h1 | h1
  · exact h f h1
  · simp only [fsB, List.mem_cons, List.not_mem_nil, or_false] at h1
    rcases h1 with rfl | rfl
    · exact ⟨hcl, ha⟩
    · exact ⟨hte, hb⟩
theorem szD {fs : List (ByteArray × ByteArray)} {a b : ByteArray} (h : ∀ f ∈ fs, f.1.size ≤ maxLen ∧ f.2.size ≤ maxLen) (ha : a.size ≤ maxLen) (hb : b.size ≤ maxLen) : ∀ f ∈ fs ++ fsD a b, f.1.size ≤ maxLen ∧ f.2.size ≤ maxLen := fun f hf => by
  rcases List.mem_append.1 hf with h1 | h1
  · exact h f h1
  · simp only [fsD, List.mem_cons, List.not_mem_nil, or_false] at h1
    rcases h1 with rfl | rfl
    · exact ⟨hcl, ha⟩
    · exact ⟨hcl, hb⟩
theorem cellsF_app (fs gs : List (ByteArray × ByteArray)) : cellsF (fs ++ gs) = cellsF fs ++ cellsF gs := by unfold cellsF; rw [List.flatMap_append]
theorem cellsF_one (fs : List (ByteArray × ByteArray)) : ∀ u ∈ cellsF fs, u.oneCell' = true := fun u hu => by
  obtain ⟨f, _, h⟩ := List.mem_flatMap.1 hu
  simp only [List.mem_cons, List.not_mem_nil, or_false] at h
  rcases h with rfl | rfl <;> rfl

def OwnF (w : World) (base : Nat) (v : Value) (fs : List (ByteArray × ByteArray)) : Prop := w.ownsRow base 28 2 v fs.length (cellsF fs)
theorem OwnF.form {w : World} {base : Nat} {v : Value} {l : List (ByteArray × ByteArray)} (h : OwnF w base v l) : ∃ A c, v = .slice A l.length c ∧ Sl w w.heap.size 2 A l.length (cellsF l) := by
  rcases h.2 with ⟨h1, h2⟩ | ⟨g, cap, cur, h1, hb, hg, _⟩
  · have : l = [] := List.eq_nil_of_length_eq_zero h2
    subst this
    exact ⟨none, 0, h1, Sl.nil _ _ _ _⟩
  · refine ⟨_, _, h1, cellsF_len l, fun hp => ⟨g, 0, rfl, ?_, fun j hj => ?_⟩⟩
    · exact ((World.ownsRow.lt h g (by rw [h1]; simp [Value.ownBlock])).2)
    · have := World.ownsRow.cells (g := g) h (by rw [h1]; simp [Value.ownBlock]) j _ (List.getElem?_eq_getElem hj)
      rw [addr_add] at this
      rw [Nat.zero_add]
      exact this
theorem OwnF.sl {w : World} {base : Nat} {A : Option Addr} {n c : Nat} {l : List (ByteArray × ByteArray)} (h : OwnF w base (.slice A n c) l) : Sl w w.heap.size 2 A l.length (cellsF l) := by
  obtain ⟨A', c', e, hs⟩ := h.form
  injection e with e1 e2 e3
  subst e1
  exact hs
theorem OwnF.far {w : World} {base g : Nat} {v : Value} {l : List (ByteArray × ByteArray)} (h : OwnF w base v l) (hg : g < base) (j : Nat) (x : Value) : OwnF (w.setCell ⟨g, j, none⟩ x) base v l :=
  ownsRow_setCell_other (a := ⟨g, j, none⟩) h (fun e => by have := (World.ownsRow.lt h g e).1; omega) x
section
variable {ops : Array Oper} {rest : List Oper} {o : Oper} {a : Act} {Q : Exit → Act → World → Prop} {w : World}
theorem wpList_append_f (hgd : o.guard = none) (s x : Operand) (ho : o.op = .call { callee := .builtin .append, args := #[s, x], argTypes := #[22, 22] })
    (base : Nat) (v : Value) (l : List (ByteArray × ByteArray)) (hs : a.eval s = v) (hown : OwnF w base v l) (hbase : base ≤ w.heap.size)
    (vs : List Value) (news : List (ByteArray × ByteArray)) (hv : vs = cellsF news) (m c : Nat) (hx : a.eval x = .slice (some ⟨w.heap.size, 0, none⟩) m c) (hl : news.length = m)
    (hbytes : (l.length + m) * 32 ≤ 140737488355328)
    (h : ∀ v' w', OwnF w' base v' (l ++ news) → Below base w w' → (∀ g, g < w.heap.size → v.ownBlock ≠ some g → w'.heap[g]? = w.heap[g]?) → w.heap.size < w'.heap.size → wpList Try.prog ops Q rest (a.put o.dst v') w') :
    wpList Try.prog ops Q (o :: rest) a (w.alloc (.cells vs.toArray 28)) := by
  subst hv; subst hl
  obtain ⟨i0, hi, hz0, hz1, hz2⟩ := info_parts info_F
  exact wpList_plain hgd fun _ hK => wp_append_kept s x 22 ho base 28 i0 (.agg #[.string ByteArray.empty, .string ByteArray.empty]) 2 32 Try.underlying22 hi hz0 hz1 hz2 rfl (by decide) v l.length (cellsF l) hs hown hbase (cellsF news) news.length c hx (cellsF_len news)
    (cellsF_one news) (by unfold maxLen; omega) (by omega) fun v' w' h1 h2 h3 h4 => hK _ _ (h v' w' (by unfold OwnF; rw [List.length_append, cellsF_app]; exact h1) h2 h3 h4)
end

set_option maxRecDepth 100000 in
set_option maxHeartbeats 1600000 in
theorem frameStrict_any (m t : ByteArray) (A : Option Addr) (n c : Nat) (fs : List (ByteArray × ByteArray)) (a b : ByteArray) (w : World) (hn : n = fs.length) {v : Value} (x : HeadArg w v m t A c fs) (hl : fs.length * 32 ≤ 140737488351232)
    (ha : a.size ≤ 140737488351232) (hb : b.size ≤ 140737488351232) :
    Calls Try.prog 7 #[.agg #[.string m, .string t, .slice A n c], .string a, .string b] w fun e w' => e = .returned (.bool true) ∧ Below w.heap.size w w' := by
  subst hn
  have hma : a.size ≤ maxLen := by unfold maxLen; omega
  have hmb : b.size ≤ maxLen := by unfold maxLen; omega
  have hf := x.sl
  have hs := x.sizes
  clear x
  go_enter Try.func7, Try.ntmps7
  go_wp2_with fail
  refine (Of_any _ _ _ _ _ fs1 _ rfl (Sl.lit (by simp) (by simp) (by rfl) (by rfl)) (by decide) (by decide) (by decide)).mono ?_
  rintro e w1 ⟨rfl, hb1⟩
  rw [of_fs1]
  simp only [ofV]
  have hB1 := below_new (B := w.heap.size + 1) hb1 (by simp)
  obtain ⟨W0, hW0⟩ : ∃ W0, w.alloc (.cells #[.string m, .string t, .slice A fs.length c] 24) = W0 := ⟨_, rfl⟩
  rw [hW0] at hB1
  have hz0 : w.heap.size + 1 ≤ W0.heap.size := by rw [← hW0]; simp
  have hbox : ∀ wr, Below (w.heap.size + 1) W0 wr → (wr.cell? ⟨w.heap.size, 0, none⟩ = some (.string m) ∧ wr.cell? ⟨w.heap.size, 1, none⟩ = some (.string t) ∧ wr.cell? ⟨w.heap.size, 2, none⟩ = some (.slice A fs.length c)) ∧ Below w.heap.size w wr := fun wr hb => by
    rw [← hW0] at hb
    exact ⟨⟨(box_facts hb).1 0, (box_facts hb).1 1, (box_facts hb).1 2⟩, (box_facts hb).2⟩
  have hf0 : Sl W0 w.heap.size 2 A fs.length (cellsF fs) := by rw [← hW0]; exact hf.alloc (Nat.le_refl _) _
  have hz1 : w.heap.size < w1.heap.size := by have := hB1.size; omega
  clear hb1 hW0 hf
  have HBOX := Lib.hid hbox
  have HS := Lib.hid hs
  clear hbox hs
  have ⟨⟨b0, b1, b2⟩, _⟩ := HBOX.out _ hB1
  go_wp2_with fail
  refine (CloneF_any A fs.length c (cellsF fs) _ ((((hf0.below (hB1.mono (Nat.le_succ _))).alloc (Nat.le_of_lt hz1) _).alloc (by simp; omega) _).more (by simp; omega)) (cellsF_one fs) (by omega)).mono ?_
  rintro e w2 ⟨v2, rfl, hown2, hb2⟩
  have hO2 : OwnF w2 (w1.heap.size + 2) v2 fs := by unfold OwnF; simpa using hown2
  have c0 : w2.cell? ⟨w1.heap.size + 1, 0, none⟩ = some (.string m) := by have := new_cell hb2 0; simpa using this
  have c1 : w2.cell? ⟨w1.heap.size + 1, 1, none⟩ = some (.string t) := by have := new_cell hb2 1; simpa using this
  have c2 : w2.cell? ⟨w1.heap.size + 1, 2, none⟩ = some (.slice A fs.length c) := by have := new_cell hb2 2; simpa using this
  have fr : w2.frozen? ⟨w1.heap.size + 1, 2, none⟩ = false := by have := new_free hb2 2; simpa using this
  have hB2 := hB1.trans (below_new (below_new hb2 (Nat.le_refl _) |>.mono (by simp) : Below (w1.alloc _).heap.size (w1.alloc _) w2) (by omega : w.heap.size + 1 ≤ w1.heap.size))
  have hz2 : w1.heap.size + 2 ≤ w2.heap.size := by have := hb2.size; simpa using this
  clear hown2 hb2 b0 b1 b2
  go_wp2_with (at_builtin; refine wpList_append_f rfl _ _ rfl (w1.heap.size + 2) _ fs rfl (by exact hO2) (by omega) _ (fsB a b) rfl 2 2 rfl rfl (by omega) ?_; intro v3 w3 hO3 hb3 _ hz3; obtain ⟨A3, c3, rfl, _⟩ := hO3.form; have d0 := (hb3.cell (p := ⟨w1.heap.size + 1, 0, none⟩) (Nat.lt_succ_self _)).trans c0; have d1 := (hb3.cell (p := ⟨w1.heap.size + 1, 1, none⟩) (Nat.lt_succ_self _)).trans c1; have d2 := (hb3.cell (p := ⟨w1.heap.size + 1, 2, none⟩) (Nat.lt_succ_self _)).trans c2; have fr3 := (hb3.frozen (p := ⟨w1.heap.size + 1, 2, none⟩) (Nat.lt_succ_self _)).trans fr; clear c0 c1 c2 fr)
  have hO4 := hO3.far (g := w1.heap.size + 1) (Nat.lt_succ_self _) 2 (.slice A3 (fs ++ fsB a b).length c3)
  have hB3 := (hB2.trans (hb3.mono (by omega : w.heap.size + 1 ≤ w1.heap.size + 2))).setCell (p := ⟨w1.heap.size + 1, 2, none⟩) (show w.heap.size + 1 ≤ w1.heap.size + 1 by omega) (.slice A3 (fs ++ fsB a b).length c3)
  rw [List.length_append] at hO4 hB3
  refine (Of_any _ _ _ _ _ (fs ++ fsB a b) _ (by rw [List.length_append]) (by have := hO4.sl; rw [List.length_append] at this; exact this) (fun f hf => (szB HS.out hma hmb f hf).1) (fun f hf => (szB HS.out hma hmb f hf).2) (by rw [List.length_append]; show fs.length + 2 ≤ _; omega)).mono ?_
  rintro e w4 ⟨rfl, hb4⟩
  have hB4 := hB3.trans (hb4.mono (Nat.le_trans hz0 hB3.size))
  rw [getL_app, getL_app, (fsB_c a b).1, (fsB_c a b).2, of_both]
  simp only [ofV]
  have hy1 : w.heap.size < w4.heap.size := by have := hB4.size; omega
  clear hb4 hO4 hB3 hO3 hb3 d0 d1 d2 fr3 hO2 hB2 hz1 hz2 hz3
  have ⟨⟨b0, b1, b2⟩, _⟩ := HBOX.out _ hB4
  go_wp2_with fail
  refine (CloneF_any A fs.length c (cellsF fs) _ ((((hf0.below (hB4.mono (Nat.le_succ _))).alloc (Nat.le_of_lt hy1) _).alloc (by simp; omega) _).more (by simp; omega)) (cellsF_one fs) (by omega)).mono ?_
  rintro e w5 ⟨v2, rfl, hown2, hb2⟩
  have hO2 : OwnF w5 (w4.heap.size + 2) v2 fs := by unfold OwnF; simpa using hown2
  have c0 : w5.cell? ⟨w4.heap.size + 1, 0, none⟩ = some (.string m) := by have := new_cell hb2 0; simpa using this
  have c1 : w5.cell? ⟨w4.heap.size + 1, 1, none⟩ = some (.string t) := by have := new_cell hb2 1; simpa using this
  have c2 : w5.cell? ⟨w4.heap.size + 1, 2, none⟩ = some (.slice A fs.length c) := by have := new_cell hb2 2; simpa using this
  have fr : w5.frozen? ⟨w4.heap.size + 1, 2, none⟩ = false := by have := new_free hb2 2; simpa using this
  have hB2 := hB4.trans (below_new (below_new hb2 (Nat.le_refl _) |>.mono (by simp) : Below (w4.alloc _).heap.size (w4.alloc _) w5) (by omega : w.heap.size + 1 ≤ w4.heap.size))
  have hz2 : w4.heap.size + 2 ≤ w5.heap.size := by have := hb2.size; simpa using this
  clear hown2 hb2 b0 b1 b2
  go_wp2_with (at_builtin; refine wpList_append_f rfl _ _ rfl (w4.heap.size + 2) _ fs rfl (by exact hO2) (by omega) _ (fsD a b) rfl 2 2 rfl rfl (by omega) ?_; intro v3 w6 hO3 hb3 _ hz3; obtain ⟨A3, c3, rfl, _⟩ := hO3.form; have d0 := (hb3.cell (p := ⟨w4.heap.size + 1, 0, none⟩) (Nat.lt_succ_self _)).trans c0; have d1 := (hb3.cell (p := ⟨w4.heap.size + 1, 1, none⟩) (Nat.lt_succ_self _)).trans c1; have d2 := (hb3.cell (p := ⟨w4.heap.size + 1, 2, none⟩) (Nat.lt_succ_self _)).trans c2; have fr3 := (hb3.frozen (p := ⟨w4.heap.size + 1, 2, none⟩) (Nat.lt_succ_self _)).trans fr; clear c0 c1 c2 fr)
  have hO4 := hO3.far (g := w4.heap.size + 1) (Nat.lt_succ_self _) 2 (.slice A3 (fs ++ fsD a b).length c3)
  have hB3 := (hB2.trans (hb3.mono (by omega : w.heap.size + 1 ≤ w4.heap.size + 2))).setCell (p := ⟨w4.heap.size + 1, 2, none⟩) (show w.heap.size + 1 ≤ w4.heap.size + 1 by omega) (.slice A3 (fs ++ fsD a b).length c3)
  rw [List.length_append] at hO4 hB3
  refine (Of_any _ _ _ _ _ (fs ++ fsD a b) _ (by rw [List.length_append]) (by have := hO4.sl; rw [List.length_append] at this; exact this) (fun f hf => (szD HS.out hma hmb f hf).1) (fun f hf => (szD HS.out hma hmb f hf).2) (by rw [List.length_append]; show fs.length + 2 ≤ _; omega)).mono ?_
  rintro e w7 ⟨rfl, hb4⟩
  have hB7 := hB3.trans (hb4.mono (Nat.le_trans hz0 hB3.size))
  rw [getL_app, getL_app, (fsD_c a b).1, (fsD_c a b).2]
  cases hab : (a.toList == b.toList) with
  | false =>
    rw [of_differ _ _ _ _ hab]
    simp only [ofV]
    go_wp2_with fail
    go_ret
    exact ⟨rfl, ((HBOX.out _ hB7).2.alloc (HBOX.out _ hB7).2.size _)⟩
  | true =>
    generalize ofL (getL fs clen ++ [a, b]) (getL fs tenc ++ []) = r
    obtain ⟨r0, r1, r2⟩ := r
    simp only [ofV]
    go_wp2_with fail
    go_ret
    exact ⟨rfl, ((HBOX.out _ hB7).2.alloc (HBOX.out _ hB7).2.size _)⟩
end Go.Proofs.Yteinbjopclblaaa
