/- Part 27 of the proof: lemmas and walks that the last texts use. -/
import Derived.Test.YtdkbfljhfhjofaaGreatDoorM07
import Derived.Test.YtdkbfljhfhjofaaGreatDoorM18
import Derived.Test.YtdkbfljhfhjofaaGreatDoorM25
import Derived.Test.YtdkbfljhfhjofaaGreatDoorM26
import Derived.BigRegion
import Derived.IntWalk
import Derived.Shelf.GgClosure.Gives
namespace Go.Proofs.YtdkbfljhfhjofaaGreatDoor
open Go.RowKit
theorem alt_list (p la lb : List Ins) (x y x' y' : Ins) : ((p ++ [x] ++ la ++ [y]).set p.length x' ++ lb).set (p ++ [x] ++ la).length y' = p ++ (x' :: (la ++ y' :: lb)) := by
  have h1 : (p ++ [x] ++ la ++ [y]).set p.length x' = p ++ (x' :: la) ++ [y] := by
    rw [List.append_assoc, List.append_assoc, List.set_append_right _ _ (Nat.le_refl _), Nat.sub_self]
    simp
  have h2 : (p ++ [x] ++ la).length = (p ++ (x' :: la)).length := by simp
  rw [h1, h2, List.append_assoc, List.set_append_right _ _ (Nat.le_refl _), Nat.sub_self]
  simp
theorem alt_at (p la lb : List Ins) (x y x' : Ins) (h : (p ++ [x] ++ la).length < ((p ++ [x] ++ la ++ [y]).set p.length x' ++ lb).length) : ((p ++ [x] ++ la ++ [y]).set p.length x' ++ lb)[(p ++ [x] ++ la).length] = y := by
  rw [List.getElem_append_left (by simp), List.getElem_set_ne (by simp)]
  simp
set_option maxRecDepth 100000 in
set_option maxHeartbeats 1600000 in
theorem code_alt (S : Set4) (ta tb : Tree) (iha : CodeC ta) (ihb : CodeC tb) : CodeC (.node 5 S [ta, tb]) := by
  intro A c w B v p hB hk hO hn
  obtain ⟨bb, off, ca, cb, rfl, hbb, hca, hla, hcb, hlb⟩ := LK.two hk
  obtain ⟨A1, c1, rfl, _, _⟩ := hla.parts
  obtain ⟨A2, c2, rfl, _, _⟩ := hlb.parts
  have HA := Lib.hid (iha.call hla)
  have HB := Lib.hid (ihb.call hlb)
  have HY := Lib.hid fun W hb => six_below hcb (W := W) hb hbb
  have HX := Lib.hid fun W hb => (six_below hca (W := W) hb hbb).six
  simp only [nodes, nodesL] at hn
  obtain ⟨A0, c0, rfl, _⟩ := hO.form
  have hO2 : ∀ o, OwnP (w.alloc o) B (.slice A0 p.length c0) p := fun o => hO.below ((Below.refl _ _).alloc (Nat.le_refl _) o)
  have HBX : Hid (∀ k a b c d A n q W, Keeps (w.alloc (boxX k a b c d A n q)) W → _) := fun k a b c d A n q W h => (box_keeps h).1
  unfold boxX at HBX
  unfold argX at HA HB ⊢
  obtain ⟨a, b, c', d⟩ := S
  dsimp only [Tree.kind, Tree.set, Tree.kids, List.length_nil, List.length_cons] at HBX ⊢
  clear hk iha ihb hla hlb hcb
  have hHA := Lib.hid hO
  have i1 : IntKind.i64.wrap ((p.length : Int) + 1) = (p.length : Int) + 1 := IntWalk.i64_in _ (by omega)
  go_enter Tryz.func128, Tryz.ntmps128
  obtain ⟨x0, x1, x2, x3, x4, x5⟩ := hca.six
  clear hca
  have hq1 : bb < w.heap.size := by omega
  go_wp2_with fail
  have hbA : ∀ o, B ≤ (w.alloc o).heap.size := fun o => by simp; omega
  have HS := Lib.hid fun W hk hb => And.intro (HBX.out 5 a b c' d (some ⟨bb, off, none⟩) 2 c W hk) (HX.out W hb)
  go_region_held3 (fun w' => w'.cell? ⟨w.heap.size, 5, none⟩ = some (.slice (some ⟨bb, off, none⟩) 2 c) ∧ w'.cell? ⟨bb, off, none⟩ = some (.int .i64 ta.kind) ∧ w'.cell? ⟨bb, off + 1, none⟩ = some (.int .u64 ta.set.a) ∧ w'.cell? ⟨bb, off + 2, none⟩ = some (.int .u64 ta.set.b) ∧
      w'.cell? ⟨bb, off + 3, none⟩ = some (.int .u64 ta.set.c) ∧ w'.cell? ⟨bb, off + 4, none⟩ = some (.int .u64 ta.set.d) ∧ w'.cell? ⟨bb, off + 5, none⟩ = some (.slice A1 ta.kids.length c1))
    (first | exact HS.out _ (hkk8.trans hk1) (hbb8.trans hb1) | exact HS.out _ hkk8 hbb8 | go_keep)
    (first
      | (refine step_append_p rfl (.tmp 48) (.tmp 52) rfl B (.slice A0 p.length c0) p rfl (hO2 _).drew (hbA _) _ ⟨2, (p.length : Int) + 1, 0, .zero⟩ rfl (w.heap.size + 1) (by simp) 1 rfl (by omega) ?_; intro v8 w8 hO8 hb8 hk8 hz8; have hkk8 := Keeps.undrew (Keeps.own (hO2 _).drew hk8); have hbb8 : Below B w w8 := ((Below.refl B w).alloc hB _).drew.trans hb8)
      | (go_at_call 128; (with_reducible refine (HA.out w8 v8 (p ++ [⟨2, (p.length : Int) + 1, 0, .zero⟩]) (Nat.le_trans hB hbb8.size) hbb8 hO8 (by rw [List.length_append, List.length_singleton]; omega)).mono ?_); rintro e w1 ⟨v1, la, rfl, hc1, hO1, hb1, hk1, hz1⟩))
  rw [List.length_append, List.length_singleton] at hc1
  have hll := code_len hc1
  have hbw1 := hbb8.trans hb1
  have hkw1 := hkk8.trans hk1
  have HS0 := fun W hk hb => And.intro (HBX.out 5 a b c' d (some ⟨bb, off, none⟩) 2 c W hk) ((HY.out W hb).six)
  clear HA HS HX HBX HY hb1 hk1 hb8 hk8 x0 x1 x2 x3 x4 x5 hO8 hbA
  have hzz := hbw1.size
  have hB1 : B ≤ w1.heap.size := Nat.le_trans hB hbw1.size
  have hbl1 : bb < w1.heap.size := by omega
  obtain ⟨A1', c1', rfl, _⟩ := hO1.form
  have HL1 := Lib.hid (alt_list p la)
  have HL2 := Lib.hid (alt_at p la)
  have HM2 := Lib.hid (star_at p la ⟨2, (p.length : Int) + 1, 0, .zero⟩ ⟨3, 0, 0, .zero⟩)
  have HM4 : Hid ((p ++ [(⟨2, (p.length : Int) + 1, 0, .zero⟩ : Ins)] ++ la).length = p.length + 1 + la.length) := Lib.hid (by simp; omega)
  have HL1' := Lib.hid fun lb x' y' => HL1.out lb ⟨2, (p.length : Int) + 1, 0, .zero⟩ ⟨3, 0, 0, .zero⟩ x' y'
  have HL2' := Lib.hid fun lb x' => HL2.out lb ⟨2, (p.length : Int) + 1, 0, .zero⟩ ⟨3, 0, 0, .zero⟩ x'
  clear HL1 HL2
  generalize hM : p ++ [(⟨2, (p.length : Int) + 1, 0, .zero⟩ : Ins)] ++ la = M at HL1' HL2' HM2 HM4 hO1
  have HM3 : Hid ((M ++ [(⟨3, 0, 0, .zero⟩ : Ins)]).length = p.length + 1 + la.length + 1) := Lib.hid (by rw [List.length_append, List.length_singleton, HM4.out])
  generalize hL : M ++ [(⟨3, 0, 0, .zero⟩ : Ins)] = L at HL1' HL2' HM2 HM3
  have HHB := Lib.hid HS0
  go_wp2_with (at_builtin; refine wpList_append_p rfl _ _ rfl B _ M rfl hO1 hB1 _ ⟨3, 0, 0, .zero⟩ rfl w1.heap.size rfl 1 rfl (by rw [HM4.out]; omega) ?_; intro v2 w2 hO3 hb2 hk2 hz2; rw [hL] at hO3; have hL1 : p.length < L.length := (by rw [HM3.out]; omega); have hL2 : (p.length : Int) < (L.length : Int) := (by omega); obtain ⟨gq, cq, rfl, hgb, hgl⟩ := hO3.head (by omega); have ⟨⟨_, hq2⟩, _, hf2⟩ := hO3.ab p.length hL1; have hst := hO3.setAB p.length hL1 2 (by decide) (.int .i64 (L.length : Int)) ⟨2, (p.length : Int) + 1, (L.length : Int), .zero⟩ (by rw [HM2.out]; rfl); have hkw2 := (hkw1.trans (Keeps.own hO1 hk2)).trans (Keeps.only hO3 hst.2); have hbw2 := (hbw1.trans hb2).setCell hgb (.int .i64 (L.length : Int)) (p := ⟨gq, p.length * 7 + 2, none⟩); have ⟨f5, y0, y1, y2, y3, y4, y5⟩ := HHB.out _ hkw2 hbw2)
  have hB3 : B ≤ (w2.setCell ⟨gq, p.length * 7 + 2, none⟩ (.int .i64 (L.length : Int))).heap.size := Nat.le_trans hB hbw2.size
  have hz3 : w1.heap.size < (w2.setCell ⟨gq, p.length * 7 + 2, none⟩ (.int .i64 (L.length : Int))).heap.size := by simpa using hz2
  have HN3 : Hid ((L.set p.length ⟨2, (p.length : Int) + 1, (L.length : Int), .zero⟩).length = p.length + 1 + la.length + 1) := Lib.hid (List.length_set.trans HM3.out)
  refine (HB.out _ _ (L.set p.length ⟨2, (p.length : Int) + 1, (L.length : Int), .zero⟩) hB3 hbw2 hst.1 (by rw [HN3.out]; omega)).mono ?_
  rintro e w4 ⟨v4, lb, rfl, hc3, hO4, hb4, hk4, hz4⟩
  have hlb := code_len hc3
  have hbw4 := hbw2.trans hb4
  have hkw4 := hkw2.trans hk4
  have HN1 := Lib.hid fun y' => HL1'.out lb ⟨2, (p.length : Int) + 1, (L.length : Int), .zero⟩ y'
  have HN2 := Lib.hid (HL2'.out lb ⟨2, (p.length : Int) + 1, (L.length : Int), .zero⟩)
  have HN4 : Hid ((L.set p.length ⟨2, (p.length : Int) + 1, (L.length : Int), .zero⟩ ++ lb).length = p.length + 1 + la.length + 1 + lb.length) := Lib.hid (by rw [List.length_append, HN3.out])
  rw [HN3.out] at hc3
  clear HB HL1' HL2' HM2 HHB f5 y0 y1 y2 y3 y4 y5 hst hb4 hk4 hkw2 hbw2 hO3 hkw1 hbw1
  generalize L.set p.length ⟨2, (p.length : Int) + 1, (L.length : Int), .zero⟩ ++ lb = N at HN1 HN2 HN4 hO4
  have hJ : M.length < N.length := by rw [HN4.out, HM4.out]; omega
  have hJ2 : (M.length : Int) < (N.length : Int) := by omega
  obtain ⟨gn, cn, rfl, hgnb, hgnl⟩ := hO4.head (by omega)
  have ⟨⟨hq3, _⟩, hf3, _⟩ := hO4.ab M.length hJ
  have hst := hO4.setAB M.length hJ 1 (by decide) (.int .i64 (N.length : Int)) ⟨3, (N.length : Int), 0, .zero⟩ (by rw [HN2.out]; rfl)
  go_wp2_with fail
  go_ret
  rw [HN1.out] at hst
  refine ⟨_, _, rfl, .alt _ _ _ _ _ _ hc1 hc3, ?_, hbw4.setCell hgnb _, ((Keeps.alloc _ _).trans hkw4).trans (Keeps.only hO4 hst.2), by simp; omega⟩
  have h := hst.1
  rw [HN4.out, HM3.out] at h ⊢
  exact h
end Go.Proofs.YtdkbfljhfhjofaaGreatDoor
namespace Go.Proofs.YtdkbfljhfhjofaaGreatDoor
open Go.RowKit
section
variable {ops : Array Oper} {rest : List Oper} {o : Oper} {a : Act} {Q : Exit → Act → World → Prop} {w : World}
end
def isT : Option Value → Bool
  | some (.bool b) => b
  | _ => false
def cntF (w : World) (g n : Nat) : Nat := (List.range n).countP fun j => !isT (w.cell? ⟨g, j, none⟩)
theorem BL.count {w : World} {base g cap n : Nat} {o : List Bool} (h : BL w base g cap n o) : cntF w g n = falN o n := by
  unfold cntF falN
  refine List.countP_congr fun j hj => ?_
  rw [h.cell (List.mem_range.1 hj)]
  simp [isT]
end Go.Proofs.YtdkbfljhfhjofaaGreatDoor
namespace Go.Proofs.YtdkbfljhfhjofaaGreatDoor
open Go.RowKit
/-- Two cells that are known whole. -/
def Two (w : World) (g : Nat) (a b : Value) : Prop := w.heap[g]? = some (.cells #[a, b] 282 (0, 0))
theorem Two.cells {w : World} {g : Nat} {a b : Value} (h : Two w g a b) : w.cell? ⟨g, 0, none⟩ = some a ∧ w.cell? ⟨g, 1, none⟩ = some b := ⟨cell_of_row w g 0 _ _ (0, 0) h, cell_of_row w g 1 _ _ (0, 0) h⟩
theorem Two.below {w w' : World} {B g : Nat} {a b : Value} (h : Two w g a b) (hb : Below B w w') (hg : g < B) : Two w' g a b := (hb.block g hg).trans h
section
variable {ops : Array Oper} {rest : List Oper} {o : Oper} {a : Act} {Q : Exit → Act → World → Prop} {w : World}
end
end Go.Proofs.YtdkbfljhfhjofaaGreatDoor
namespace Go.Proofs.YtdkbfljhfhjofaaGreatDoor
open Go.RowKit
theorem code_all (t : Tree) (h : Fine t) : CodeC t := by
  match t, h with
  | .node k S ts, h =>
    have hsh := fine_shape h
    match k, ts, hsh with
    | _, _, .none => exact code_app 1 S _ (.inl ⟨.inl rfl, rfl⟩) fun _ => .none _ _
    | _, _, .empty => exact code_empty S
    | _, _, .byte => exact code_app 3 S _ (.inl ⟨.inr rfl, rfl⟩) fun _ => .byte _ _
    | _, _, .cat a b ha hb => exact code_cat S a b (code_all a ha) (code_all b hb)
    | _, _, .alt a b ha hb => exact code_alt S a b (code_all a ha) (code_all b hb)
    | _, _, .star a ha => exact code_star S a (code_all a ha)
    | _, _, .begin => exact code_app 7 S _ (.inr (.inl ⟨rfl, rfl⟩)) fun _ => .begin _ _
    | _, _, .finish => exact code_app 8 S _ (.inr (.inr ⟨rfl, rfl⟩)) fun _ => .finish _ _
termination_by SizeOf.sizeOf t
mutual
theorem chk_nodes : ∀ (t : Tree) (deep n : Int), (chk t deep n).2 = 0 → (chk t deep n).1 = n + nodes t ∧ n + nodes t ≤ 80
  | .node k s ts, deep, n, h => by
    rw [chk] at h ⊢
    by_cases c1 : 80 < n + 1
    · rw [if_pos c1] at h; exact absurd (show (2 : Int) = 0 from h) (by decide)
    · rw [if_neg c1] at h ⊢
      by_cases c2 : 20 < deep
      · rw [if_pos c2] at h; exact absurd (show (11 : Int) = 0 from h) (by decide)
      · rw [if_neg c2] at h ⊢
        cases c3 : badT k s ts.length with
        | true => rw [c3, if_pos rfl] at h; exact absurd (show (1 : Int) = 0 from h) (by decide)
        | false =>
          rw [c3, if_neg (by decide)] at h
          rw [if_neg (by decide)]
          have := chkL_nodes ts _ _ h
          rw [nodes]
          exact ⟨by rw [this.1]; omega, by have := this.2 (by omega); omega⟩
theorem chkL_nodes : ∀ (ts : List Tree) (deep n : Int), (chkL ts deep n).2 = 0 → (chkL ts deep n).1 = n + nodesL ts ∧ (n ≤ 80 → n + nodesL ts ≤ 80)
  | [], _, _, _ => by rw [chkL, nodesL]; exact ⟨by simp, fun h => by simpa using h⟩
  | t :: ts, deep, n, h => by
    rw [chkL] at h ⊢
    by_cases c : (chk t deep n).2 ≠ 0
    · rw [if_pos c] at h; exact absurd h c
    · rw [if_neg c] at h ⊢
      have h1 := chk_nodes t deep n (Classical.not_not.1 c)
      have h2 := chkL_nodes ts _ _ h
      rw [nodesL]
      rw [h1.1] at h2 ⊢
      exact ⟨by rw [h2.1]; omega, fun _ => by have := h2.2 h1.2; omega⟩
end
def TMakePost (t : Tree) (w : World) (e : Ending) (w' : World) : Prop :=
  ∃ v, e = .returned (.tuple #[v, .int .i64 (checkT t)]) ∧ (checkT t ≠ 0 → v = .slice none 0 0) ∧ (checkT t = 0 → ∃ l, Code t 0 l ∧ l.length ≤ 160 ∧ OwnP w' w.heap.size v (l ++ [⟨6, 0, 0, .zero⟩])) ∧ Below w.heap.size w w'
set_option maxRecDepth 100000 in
set_option maxHeartbeats 1600000 in
theorem Make_any (t : Tree) (A : Option Addr) (c : Nat) (w : World) (h : LT w w.heap.size t (cellsX t.kind t.set A t.kids.length c)) :
    Calls Tryz.prog 90 #[argX t A c] w (TMakePost t w) := by
  have HCK : Hid (∀ W, Below w.heap.size w W → Calls Tryz.prog 127 #[argX t A c] W fun e w' => e = .returned (.int .i64 (checkT t)) ∧ Below W.heap.size W w') := fun W hb => Check_any2 t _ W ((h.below hb).more hb.size)
  have HCD : Hid (checkT t = 0 → ∀ W, Below w.heap.size w W → Calls Tryz.prog 128 #[.slice none 0 0, argX t A c] W (TCodePost t [] w.heap.size W)) := fun hc W hb => by
    have hn := (chk_nodes t 1 0 hc).2
    obtain ⟨A', c', e, _, hk⟩ := h.parts
    exact (code_all t (chk_fine t 1 0 hc)).call h W _ [] hb.size hb (OwnP.nil _ _) (by simp; omega)
  have HLN : Hid (∀ l, checkT t = 0 → Code t 0 l → l.length ≤ 160) := fun l hc hl => by
    have hn := (chk_nodes t 1 0 hc).2
    have := code_len hl
    omega
  clear h
  unfold argX at HCK HCD ⊢
  go_enter Tryz.func90, Tryz.ntmps90
  go_wp2_with fail
  refine (HCK.out _ ((Below.refl _ _).alloc (Nat.le_refl _) _)).mono ?_
  rintro e w1 ⟨rfl, hb1⟩
  have hbw : Below w.heap.size w w1 := ((Below.refl _ _).alloc (Nat.le_refl _) _).trans (hb1.mono (by simp))
  by_cases hc : checkT t = 0
  · have qc : (checkT t != 0) = false := by rw [hc]; rfl
    obtain ⟨⟨f0, f1, f2, f3, f4, f5⟩, _⟩ := box_six hb1
    go_wp2_with fail
    refine (HCD.out hc _ hbw).mono ?_
    rintro e w2 ⟨v2, l, rfl, hcl, hO2, hb2, _, _⟩
    have hll := HLN.out l hc hcl
    have hbw2 := hbw.trans hb2
    have hz2 := hbw2.size
    obtain ⟨A2, c2, rfl, _⟩ := hO2.form
    clear f0 f1 f2 f3 f4 f5
    go_wp2_with (at_builtin; refine wpList_append_p rfl (.tmp 11) (.tmp 13) rfl w.heap.size (.slice A2 ([] ++ l).length c2) ([] ++ l) rfl hO2 hz2 _ ⟨6, 0, 0, .zero⟩ rfl w2.heap.size rfl 1 rfl (by simp; omega) ?_; intro v3 w3 hO3 hb3 hk3 hz3)
    exact bodyPost_ret (v := .tuple #[v3, .int .i64 0]) (by simp [results, Tryz.results90, go_sem]) rfl ⟨v3, by rw [hc], fun h => absurd hc h, fun _ => ⟨l, hcl, hll, hO3⟩, hbw2.trans hb3⟩
  · have qc : (checkT t != 0) = true := by simpa using hc
    go_wp2_with fail
    exact bodyPost_ret (v := .tuple #[.slice none 0 0, .int .i64 (checkT t)]) (by simp [results, Tryz.results90, go_sem]) rfl ⟨_, rfl, fun _ => rfl, fun h => absurd h hc, hbw⟩
end Go.Proofs.YtdkbfljhfhjofaaGreatDoor
namespace Go.Proofs.YtdkbfljhfhjofaaGreatDoor
open Go.RowKit
/-- An instruction whose targets lie between. -/
def Tgt (x : Ins) (lo hi : Int) : Prop := (x.kind = 2 ∧ lo ≤ x.a ∧ x.a ≤ hi ∧ lo ≤ x.b ∧ x.b ≤ hi) ∨ (x.kind = 3 ∧ lo ≤ x.a ∧ x.a ≤ hi) ∨ x.kind = 1 ∨ x.kind = 4 ∨ x.kind = 5
theorem Tgt.mono {x : Ins} {lo hi lo' hi' : Int} (h : Tgt x lo hi) (h1 : lo' ≤ lo) (h2 : hi ≤ hi') : Tgt x lo' hi' := by
  unfold Tgt at h ⊢
  omega
theorem code_tgt {t : Tree} {at_ : Nat} {l : List Ins} (h : Code t at_ l) : ∀ x ∈ l, Tgt x at_ (at_ + l.length) := by
  induction h with
  | none | byte | begin | finish => intro x hx; simp only [List.mem_singleton] at hx; subst hx; simp [Tgt]
  | empty => intro x hx; simp at hx
  | cat S a b at_ la lb _ _ h1 h2 =>
    intro x hx
    rw [List.length_append]
    rcases List.mem_append.1 hx with h | h
    · exact (h1 x h).mono (Int.le_refl _) (by omega)
    · exact (h2 x h).mono (by omega) (by omega)
  | alt S a b at_ la lb _ _ h1 h2 =>
    intro x hx
    simp only [List.length_append, List.length_cons]
    rcases List.mem_cons.1 hx with h | hx
    · subst h; left; dsimp only; omega
    · rcases List.mem_append.1 hx with h | hx
      · exact (h1 x h).mono (by omega) (by omega)
      · rcases List.mem_cons.1 hx with h | h
        · subst h; right; left; dsimp only; omega
        · exact (h2 x h).mono (by omega) (by omega)
  | star S a at_ la _ h1 =>
    intro x hx
    simp only [List.length_append, List.length_cons, List.length_nil]
    rcases List.mem_cons.1 hx with h | hx
    · subst h; left; dsimp only; omega
    · rcases List.mem_append.1 hx with h | hx
      · exact (h1 x h).mono (by omega) (by omega)
      · rw [List.mem_singleton] at hx
        subst hx; right; left; dsimp only; omega
/-- All instructions lead somewhere. -/
def OkP (P : List Ins) : Prop := ∀ i (h : i < P.length), (P[i].kind = 2 ∧ (0 ≤ P[i].a ∧ P[i].a < P.length) ∧ 0 ≤ P[i].b ∧ P[i].b < P.length) ∨ (P[i].kind = 3 ∧ 0 ≤ P[i].a ∧ P[i].a < P.length) ∨ ((P[i].kind = 1 ∨ P[i].kind = 4 ∨ P[i].kind = 5) ∧ i + 1 < P.length) ∨ P[i].kind = 6
theorem code_ok {t : Tree} {l : List Ins} (h : Code t 0 l) : OkP (l ++ [⟨6, 0, 0, .zero⟩]) := by
  intro i hi
  rw [List.length_append, List.length_singleton] at hi ⊢
  by_cases c : i < l.length
  · rw [List.getElem_append_left c]
    have := code_tgt h l[i] (List.getElem_mem c)
    unfold Tgt at this
    omega
  · obtain rfl : i = l.length := by omega
    right; right; right
    simp
/-- An instruction lies there. -/
def Ins7 (w : World) (b o : Nat) (x : Ins) : Prop := w.cell? ⟨b, o, none⟩ = some (.int .i64 x.kind) ∧ w.cell? ⟨b, o + 1, none⟩ = some (.int .i64 x.a) ∧ w.cell? ⟨b, o + 2, none⟩ = some (.int .i64 x.b) ∧
      w.cell? ⟨b, o + 3, none⟩ = some (.int .u64 x.set.a) ∧ w.cell? ⟨b, o + 4, none⟩ = some (.int .u64 x.set.b) ∧ w.cell? ⟨b, o + 5, none⟩ = some (.int .u64 x.set.c) ∧ w.cell? ⟨b, o + 6, none⟩ = some (.int .u64 x.set.d)
theorem ins_here {w : World} {B n b off : Nat} {l : List Ins} (h : Sl w B 7 (some ⟨b, off, none⟩) n (l.flatMap cellsP)) (k : Nat) (hk : k < l.length) : Ins7 w b (off + k * 7) l[k] := by
  obtain ⟨b', off', e, _, r⟩ := ins_at h k hk
  injection e with e
  injection e with e1 e2
  subst e1; subst e2
  exact r
set_option maxRecDepth 100000 in
theorem there_any (k : Int) (g : Nat) (n : Nat) (w : World) (h0 : 0 ≤ k) (h1 : k < n) (hc : w.cell? ⟨g, 0, none⟩ = some (.int .i64 (n : Int))) :
    Calls Tryz.prog 129 #[.int .i64 k, .pointer (some ⟨g, 0, none⟩)] w fun e w' => e = .returned (.bool true) ∧ w' = w := by
  go_enter Tryz.func129, Tryz.ntmps129
  go_wp2_with fail
  go_ret
  exact ⟨rfl, rfl⟩
def OkRel (n : Nat) (w : World) (i : Value) (wr : World) : Prop := ∃ k : Nat, k ≤ n ∧ i = .int .i64 k ∧ Below w.heap.size w wr ∧ wr.cell? ⟨w.heap.size, 0, none⟩ = some (.int .i64 (n : Int)) ∧ w.heap.size < wr.heap.size
set_option maxRecDepth 100000 in
set_option maxHeartbeats 1600000 in
theorem PCheck_any (P : List Ins) (A : Option Addr) (c : Nat) (w : World) (h : Sl w w.heap.size 7 A P.length (P.flatMap cellsP)) (hok : OkP P) (h0 : 0 < P.length) (h4 : P.length ≤ 400) :
    Calls Tryz.prog 91 #[.slice A P.length c] w fun e w' => e = .returned (.int .i64 0) ∧ Below w.heap.size w w' := by
  have HOK := Lib.hid hok
  obtain ⟨b, off, rfl, hbl, hcells⟩ := h.src (by rw [h.len]; omega)
  have HAT : Hid (∀ k (hk : k < P.length) W, Below w.heap.size w W → Ins7 W b (off + k * 7) P[k]) := fun k hk W hb => ins_here (h.below hb) k hk
  have d1 : decide (400 < (P.length : Int)) = false := by simp; omega
  have i1 : ((P.length : Int) == 0) = false := beq_eq_false_iff_ne.2 (by omega)
  clear hok hcells
  go_enter Tryz.func91, Tryz.ntmps91
  go_wp2_with fail
  go_loopw [17] (fun i wr => OkRel P.length w i wr) (fun i _ => P.length - (intOf i).toNat)
  case atStart => exact ⟨0, Nat.zero_le _, rfl, (Below.refl _ _).alloc (Nat.le_refl _) _, new_cell (Below.refl _ _) 0, by simp⟩
  case round =>
    obtain ⟨k, hk, rfl, hbr, hcn, hzr⟩ := hrel
    by_cases hlt : k < P.length
    · obtain ⟨x0, x1, x2, x3, x4, x5, x6⟩ := HAT.out k hlt wr hbr
      have hx := HOK.out k hlt
      generalize P[k] = x at x0 x1 x2 x3 x4 x5 x6 hx
      obtain ⟨kd, xa, xb, ⟨sa, sb, sc, sd⟩⟩ := x
      dsimp only at x0 x1 x2 x3 x4 x5 x6 hx
      have i2 : (k : Int) < (P.length : Int) := by omega
      have HC := Lib.hid fun o => (((Below.refl wr.heap.size wr).alloc (Nat.le_refl _) o).cell (p := ⟨w.heap.size, 0, none⟩) hzr).trans hcn
      have HE : ∀ o, OkRel P.length w (.int .i64 ((k + 1 : Nat) : Int)) (wr.alloc o) := fun o => ⟨k + 1, hlt, rfl, hbr.alloc hbr.size o, HC.out o, by simp; omega⟩
      have HEN := Lib.hid HE
      clear HE
      rcases hx with ⟨rfl, ⟨a0, a1⟩, b0, b1⟩ | ⟨rfl, a0, a1⟩ | ⟨rfl | rfl | rfl, hi⟩ | rfl
      · go_wp2_with fail
        refine (there_any xa _ P.length _ a0 a1 (HC.out _)).mono ?_
        rintro e w' ⟨rfl, rfl⟩
        go_wp2_with fail
        refine (there_any xb _ P.length _ b0 b1 (HC.out _)).mono ?_
        rintro e w' ⟨rfl, rfl⟩
        go_wp2_with fail
        go_roundw
        case rel => exact HEN.out _
        case measure => simp [intOf] <;> omega
      · go_wp2_with fail
        refine (there_any xa _ P.length _ a0 a1 (HC.out _)).mono ?_
        rintro e w' ⟨rfl, rfl⟩
        go_wp2_with fail
        go_roundw
        case rel => exact HEN.out _
        case measure => simp [intOf] <;> omega
      · have i3 : (k : Int) + 1 < (P.length : Int) := by omega
        go_wp2_with fail
        go_roundw
        case rel => exact HEN.out _
        case measure => simp [intOf] <;> omega
      · have i3 : (k : Int) + 1 < (P.length : Int) := by omega
        go_wp2_with fail
        go_roundw
        case rel => exact HEN.out _
        case measure => simp [intOf] <;> omega
      · have i3 : (k : Int) + 1 < (P.length : Int) := by omega
        go_wp2_with fail
        go_roundw
        case rel => exact HEN.out _
        case measure => simp [intOf] <;> omega
      · go_wp2_with fail
        go_roundw
        case rel => exact HEN.out _
        case measure => simp [intOf] <;> omega
    · obtain rfl : k = P.length := by omega
      go_wp2_with fail
      go_ret
      exact ⟨rfl, hbr⟩
end Go.Proofs.YtdkbfljhfhjofaaGreatDoor
