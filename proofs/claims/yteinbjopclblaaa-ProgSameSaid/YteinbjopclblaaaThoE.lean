/- The walk of prog.code: the choice. -/
import Derived.Test.YteinbjopclblaaaThoD
namespace Go.Proofs.Yteinbjopclblaaa
open Go.RowKit

theorem alt_list (p la lb : List Ins) (x y x' y' : Ins) : ((p ++ [x] ++ la ++ [y]).set p.length x' ++ lb).set (p ++ [x] ++ la).length y' = p ++ (x' :: (la ++ y' :: lb)) := by
  have h1 : (p ++ [x] ++ la ++ [y]).set p.length x' = p ++ (x' :: la) ++ [y] := by
    rw [List.append_assoc, List.append_assoc, List.set_append_right _ _ (Nat.le_refl _), Nat.sub_self]
    simp
  have h2 : (p ++ [x] ++ la).length = (p ++ (x' :: la)).length := by simp
  rw [h1, h2, List.append_assoc, List.set_append_right _ _ (Nat.le_refl _), Nat.sub_self]
  simp
theorem alt_at (p la lb : List Ins) (x y x' : Ins) (h : (p ++ [x] ++ la).length < ((p ++ [x] ++ la ++ [y]).set p.length x' ++ lb).length) : ((p ++ [x] ++ la ++ [y]).set p.length x' ++ lb)[(p ++ [x] ++ la).length] = y := by
  rw [List.getElem_append_left (by simp), List.getElem_set_ne (by simp)]
  simp

set_option maxRecDepth 100000 in
set_option maxHeartbeats 1600000 in
theorem code_alt (S : Set4) (ta tb : Tree) (iha : CodeC ta) (ihb : CodeC tb) : CodeC (.node 5 S [ta, tb]) := by
  intro A c w B v p hB hk hO hn
  obtain ⟨bb, off, ca, cb, rfl, hbb, hca, hla, hcb, hlb⟩ := LK.two hk
  obtain ⟨A1, c1, rfl, _, _⟩ := hla.parts
  obtain ⟨A2, c2, rfl, _, _⟩ := hlb.parts
  have HA := Lib.hid (iha.call hla)
  have HB := Lib.hid (ihb.call hlb)
  have HY := Lib.hid fun W hb => six_below hcb (W := W) hb hbb
  have HX := Lib.hid fun W hb => (six_below hca (W := W) hb hbb).six
  simp only [nodes, nodesL] at hn
  obtain ⟨A0, c0, rfl, _⟩ := hO.form
  have hO2 : ∀ o, OwnP (w.alloc o) B (.slice A0 p.length c0) p := fun o => hO.below ((Below.refl _ _).alloc (Nat.le_refl _) o)
  have HBX : Hid (∀ k a b c d A n q W, Keeps (w.alloc (boxX k a b c d A n q)) W → _) := fun k a b c d A n q W h => (box_keeps h).1
  unfold boxX at HBX
  unfold argX at HA HB ⊢
  obtain ⟨a, b, c', d⟩ := S
  dsimp only [Tree.kind, Tree.set, Tree.kids, List.length_nil, List.length_cons] at HBX ⊢
  clear hk iha ihb hla hlb hcb
  have hHA := Lib.hid hO
  have i1 : IntKind.i64.wrap ((p.length : Int) + 1) = (p.length : Int) + 1 := IntWalk.i64_in _ (by omega)
  go_enter Try.func85, Try.ntmps85
  obtain ⟨x0, x1, x2, x3, x4, x5⟩ := hca.six
  clear hca
  have hq1 : bb < w.heap.size := by omega
  go_wp2_with fail
  have hbA : ∀ o, B ≤ (w.alloc o).heap.size := fun o => by simp; omega
  have HS := Lib.hid fun W hk hb => And.intro (HBX.out 5 a b c' d (some ⟨bb, off, none⟩) 2 c W hk) (HX.out W hb)
  go_region_held3 (fun w' => w'.cell? ⟨w.heap.size, 5, none⟩ = some (.slice (some ⟨bb, off, none⟩) 2 c) ∧ w'.cell? ⟨bb, off, none⟩ = some (.int .i64 ta.kind) ∧ w'.cell? ⟨bb, off + 1, none⟩ = some (.int .u64 ta.set.a) ∧ w'.cell? ⟨bb, off + 2, none⟩ = some (.int .u64 ta.set.b) ∧
      w'.cell? ⟨bb, off + 3, none⟩ = some (.int .u64 ta.set.c) ∧ w'.cell? ⟨bb, off + 4, none⟩ = some (.int .u64 ta.set.d) ∧ w'.cell? ⟨bb, off + 5, none⟩ = some (.slice A1 ta.kids.length c1))
    (first | exact HS.out _ (hkk8.trans hk1) (hbb8.trans hb1) | exact HS.out _ hkk8 hbb8 | go_keep)
    (first
      | (refine step_append_p rfl (.tmp 48) (.tmp 52) rfl B (.slice A0 p.length c0) p rfl (hO2 _).drew (hbA _) _ ⟨2, (p.length : Int) + 1, 0, .zero⟩ rfl (w.heap.size + 1) (by simp) 1 rfl (by omega) ?_; intro v8 w8 hO8 hb8 hk8 hz8; have hkk8 := Keeps.undrew (Keeps.own (hO2 _).drew hk8); have hbb8 : Below B w w8 := ((Below.refl B w).alloc hB _).drew.trans hb8)
      | (go_at_call 85; (with_reducible refine (HA.out w8 v8 (p ++ [⟨2, (p.length : Int) + 1, 0, .zero⟩]) (Nat.le_trans hB hbb8.size) hbb8 hO8 (by rw [List.length_append, List.length_singleton]; omega)).mono ?_); rintro e w1 ⟨v1, la, rfl, hc1, hO1, hb1, hk1, hz1⟩))
  rw [List.length_append, List.length_singleton] at hc1
  have hll := code_len hc1
  have hbw1 := hbb8.trans hb1
  have hkw1 := hkk8.trans hk1
  have HS0 := fun W hk hb => And.intro (HBX.out 5 a b c' d (some ⟨bb, off, none⟩) 2 c W hk) ((HY.out W hb).six)
  clear HA HS HX HBX HY hb1 hk1 hb8 hk8 x0 x1 x2 x3 x4 x5 hO8 hbA
  have hzz := hbw1.size
  have hB1 : B ≤ w1.heap.size := Nat.le_trans hB hbw1.size
  have hbl1 : bb < w1.heap.size := by omega
  obtain ⟨A1', c1', rfl, _⟩ := hO1.form
  have HL1 := Lib.hid (alt_list p la)
  have HL2 := Lib.hid (alt_at p la)
  have HM2 := Lib.hid (star_at p la ⟨2, (p.length : Int) + 1, 0, .zero⟩ ⟨3, 0, 0, .zero⟩)
  have HM4 : Hid ((p ++ [(⟨2, (p.length : Int) + 1, 0, .zero⟩ : Ins)] ++ la).length = p.length + 1 + la.length) := Lib.hid (by simp; omega)
  have HL1' := Lib.hid fun lb x' y' => HL1.out lb ⟨2, (p.length : Int) + 1, 0, .zero⟩ ⟨3, 0, 0, .zero⟩ x' y'
  have HL2' := Lib.hid fun lb x' => HL2.out lb ⟨2, (p.length : Int) + 1, 0, .zero⟩ ⟨3, 0, 0, .zero⟩ x'
  clear HL1 HL2
  generalize hM : p ++ [(⟨2, (p.length : Int) + 1, 0, .zero⟩ : Ins)] ++ la = M at HL1' HL2' HM2 HM4 hO1
  have HM3 : Hid ((M ++ [(⟨3, 0, 0, .zero⟩ : Ins)]).length = p.length + 1 + la.length + 1) := Lib.hid (by rw [List.length_append, List.length_singleton, HM4.out])
  generalize hL : M ++ [(⟨3, 0, 0, .zero⟩ : Ins)] = L at HL1' HL2' HM2 HM3
  have HHB := Lib.hid HS0
  go_wp2_with (at_builtin; refine wpList_append_p rfl _ _ rfl B _ M rfl hO1 hB1 _ ⟨3, 0, 0, .zero⟩ rfl w1.heap.size rfl 1 rfl (by rw [HM4.out]; omega) ?_; intro v2 w2 hO3 hb2 hk2 hz2; rw [hL] at hO3; have hL1 : p.length < L.length := (by rw [HM3.out]; omega); have hL2 : (p.length : Int) < (L.length : Int) := (by omega); obtain ⟨gq, cq, rfl, hgb, hgl⟩ := hO3.head (by omega); have ⟨⟨_, hq2⟩, _, hf2⟩ := hO3.ab p.length hL1; have hst := hO3.setAB p.length hL1 2 (by decide) (.int .i64 (L.length : Int)) ⟨2, (p.length : Int) + 1, (L.length : Int), .zero⟩ (by rw [HM2.out]; rfl); have hkw2 := (hkw1.trans (Keeps.own hO1 hk2)).trans (Keeps.only hO3 hst.2); have hbw2 := (hbw1.trans hb2).setCell hgb (.int .i64 (L.length : Int)) (p := ⟨gq, p.length * 7 + 2, none⟩); have ⟨f5, y0, y1, y2, y3, y4, y5⟩ := HHB.out _ hkw2 hbw2)
  have hB3 : B ≤ (w2.setCell ⟨gq, p.length * 7 + 2, none⟩ (.int .i64 (L.length : Int))).heap.size := Nat.le_trans hB hbw2.size
  have hz3 : w1.heap.size < (w2.setCell ⟨gq, p.length * 7 + 2, none⟩ (.int .i64 (L.length : Int))).heap.size := by simpa using hz2
  have HN3 : Hid ((L.set p.length ⟨2, (p.length : Int) + 1, (L.length : Int), .zero⟩).length = p.length + 1 + la.length + 1) := Lib.hid (List.length_set.trans HM3.out)
  refine (HB.out _ _ (L.set p.length ⟨2, (p.length : Int) + 1, (L.length : Int), .zero⟩) hB3 hbw2 hst.1 (by rw [HN3.out]; omega)).mono ?_
  rintro e w4 ⟨v4, lb, rfl, hc3, hO4, hb4, hk4, hz4⟩
  have hlb := code_len hc3
  have hbw4 := hbw2.trans hb4
  have hkw4 := hkw2.trans hk4
  have HN1 := Lib.hid fun y' => HL1'.out lb ⟨2, (p.length : Int) + 1, (L.length : Int), .zero⟩ y'
  have HN2 := Lib.hid (HL2'.out lb ⟨2, (p.length : Int) + 1, (L.length : Int), .zero⟩)
  have HN4 : Hid ((L.set p.length ⟨2, (p.length : Int) + 1, (L.length : Int), .zero⟩ ++ lb).length = p.length + 1 + la.length + 1 + lb.length) := Lib.hid (by rw [List.length_append, HN3.out])
  rw [HN3.out] at hc3
  clear HB HL1' HL2' HM2 HHB f5 y0 y1 y2 y3 y4 y5 hst hb4 hk4 hkw2 hbw2 hO3 hkw1 hbw1
  generalize L.set p.length ⟨2, (p.length : Int) + 1, (L.length : Int), .zero⟩ ++ lb = N at HN1 HN2 HN4 hO4
  have hJ : M.length < N.length := by rw [HN4.out, HM4.out]; omega
  have hJ2 : (M.length : Int) < (N.length : Int) := by omega
  obtain ⟨gn, cn, rfl, hgnb, hgnl⟩ := hO4.head (by omega)
  have ⟨⟨hq3, _⟩, hf3, _⟩ := hO4.ab M.length hJ
  have hst := hO4.setAB M.length hJ 1 (by decide) (.int .i64 (N.length : Int)) ⟨3, (N.length : Int), 0, .zero⟩ (by rw [HN2.out]; rfl)
  go_wp2_with fail
  go_ret
  rw [HN1.out] at hst
  refine ⟨_, _, rfl, .alt _ _ _ _ _ _ hc1 hc3, ?_, hbw4.setCell hgnb _, ((Keeps.alloc _ _).trans hkw4).trans (Keeps.only hO4 hst.2), by simp; omega⟩
  have h := hst.1
  rw [HN4.out, HM3.out] at h ⊢
  exact h
end Go.Proofs.Yteinbjopclblaaa
