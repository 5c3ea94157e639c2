/- The walk of prog.code: the star and the choice. -/
import Derived.Test.YteinbjopclblaaaThoC
namespace Go.Proofs.Yteinbjopclblaaa
open Go.RowKit

theorem OwnP.drewN {w : World} {base : Nat} {v : Value} {l : List Ins} (h : OwnP w base v l) (n : Nat) : OwnP (w.drewN n) base v l := h
theorem OwnP.drew {w : World} {base : Nat} {v : Value} {l : List Ins} (h : OwnP w base v l) : OwnP w.drew base v l := h
theorem OwnP.spot {w : World} {base g c : Nat} {l : List Ins} (h : OwnP w base (.slice (some ⟨g, 0, none⟩) l.length c) l) (k : Nat) (hk : k < l.length) (j : Nat) (hj : j < 7) :
    w.cell? ⟨g, k * 7 + j, none⟩ = (cellsP l[k])[j]? ∧ w.frozen? ⟨g, k * 7 + j, none⟩ = false := by
  refine ⟨?_, World.ownsRow.frozenAt h _⟩
  have h1 := flat_at cellsP 7 cellsP_len l k j hk hj
  have hl := flat_len cellsP 7 cellsP_len l
  have h2 : k * 7 + j < (l.flatMap cellsP).length := by omega
  have := World.ownsRow.cells (g := g) h (by simp [Value.ownBlock]) (k * 7 + j) _ (List.getElem?_eq_getElem h2)
  rw [addr_add] at this
  rw [this, ← List.getElem?_eq_getElem h2, h1]
theorem OwnP.ab {w : World} {base g c : Nat} {l : List Ins} (h : OwnP w base (.slice (some ⟨g, 0, none⟩) l.length c) l) (k : Nat) (hk : k < l.length) :
    (w.cell? ⟨g, k * 7 + 1, none⟩ = some (.int .i64 l[k].a) ∧ w.cell? ⟨g, k * 7 + 2, none⟩ = some (.int .i64 l[k].b)) ∧ w.frozen? ⟨g, k * 7 + 1, none⟩ = false ∧ w.frozen? ⟨g, k * 7 + 2, none⟩ = false :=
  ⟨⟨(h.spot k hk 1 (by decide)).1, (h.spot k hk 2 (by decide)).1⟩, (h.spot k hk 1 (by decide)).2, (h.spot k hk 2 (by decide)).2⟩
theorem star_list (p la : List Ins) (n : Nat) (k : Int) (hn : n = p.length) : (p ++ [(⟨2, (n : Int) + 1, 0, .zero⟩ : Ins)] ++ la ++ [(⟨3, (n : Int), 0, .zero⟩ : Ins)]).set n ⟨2, (n : Int) + 1, k, .zero⟩ =
    p ++ ((⟨2, (n : Int) + 1, k, .zero⟩ : Ins) :: (la ++ [⟨3, (n : Int), 0, .zero⟩])) := by
  subst hn
  rw [List.append_assoc, List.append_assoc, List.set_append_right _ _ (Nat.le_refl _), Nat.sub_self]
  rfl
theorem star_at (p la : List Ins) (x y : Ins) (h : p.length < (p ++ [x] ++ la ++ [y]).length) : (p ++ [x] ++ la ++ [y])[p.length] = x := by
  simp
theorem Keeps.undrew {w w' : World} (h : Keeps w.drew w') : Keeps w w' := h

set_option maxRecDepth 100000 in
set_option maxHeartbeats 1600000 in
theorem code_star (S : Set4) (ta : Tree) (iha : CodeC ta) : CodeC (.node 6 S [ta]) := by
  intro A c w B v p hB hk hO hn
  obtain ⟨bb, off, ca, rfl, hbb, hca, hla⟩ := LK.one hk
  obtain ⟨A1, c1, rfl, _, _⟩ := hla.parts
  have HA := Lib.hid (iha.call hla)
  have HX := Lib.hid fun W hb => (six_below hca (W := W) hb hbb).six
  simp only [nodes, nodesL] at hn
  obtain ⟨A0, c0, rfl, _⟩ := hO.form
  have hO2 : ∀ o, OwnP (w.alloc o) B (.slice A0 p.length c0) p := fun o => hO.below ((Below.refl _ _).alloc (Nat.le_refl _) o)
  have HBX : Hid (∀ k a b c d A n q W, Keeps (w.alloc (boxX k a b c d A n q)) W → _) := fun k a b c d A n q W h => (box_keeps h).1
  unfold boxX at HBX
  unfold argX at HA ⊢
  obtain ⟨a, b, c', d⟩ := S
  dsimp only [Tree.kind, Tree.set, Tree.kids, List.length_nil, List.length_cons] at HBX ⊢
  clear hk iha hla
  have hHA := Lib.hid hO
  have i1 : IntKind.i64.wrap ((p.length : Int) + 1) = (p.length : Int) + 1 := IntWalk.i64_in _ (by omega)
  go_enter Try.func85, Try.ntmps85
  obtain ⟨x0, x1, x2, x3, x4, x5⟩ := hca.six
  clear hca
  have hq1 : bb < w.heap.size := by omega
  go_wp2_with fail
  have hbA : ∀ o, B ≤ (w.alloc o).heap.size := fun o => by simp; omega
  have HS := Lib.hid fun W hk hb => And.intro (HBX.out 6 a b c' d (some ⟨bb, off, none⟩) 1 c W hk) (HX.out W hb)
  go_region_held3 (fun w' => w'.cell? ⟨w.heap.size, 5, none⟩ = some (.slice (some ⟨bb, off, none⟩) 1 c) ∧ w'.cell? ⟨bb, off, none⟩ = some (.int .i64 ta.kind) ∧ w'.cell? ⟨bb, off + 1, none⟩ = some (.int .u64 ta.set.a) ∧ w'.cell? ⟨bb, off + 2, none⟩ = some (.int .u64 ta.set.b) ∧
      w'.cell? ⟨bb, off + 3, none⟩ = some (.int .u64 ta.set.c) ∧ w'.cell? ⟨bb, off + 4, none⟩ = some (.int .u64 ta.set.d) ∧ w'.cell? ⟨bb, off + 5, none⟩ = some (.slice A1 ta.kids.length c1))
    (first | exact HS.out _ (hkk8.trans hk1) (hbb8.trans hb1) | exact HS.out _ hkk8 hbb8 | go_keep)
    (first
      | (refine step_append_p rfl (.tmp 85) (.tmp 89) rfl B (.slice A0 p.length c0) p rfl (hO2 _).drew (hbA _) _ ⟨2, (p.length : Int) + 1, 0, .zero⟩ rfl (w.heap.size + 1) (by simp) 1 rfl (by omega) ?_; intro v8 w8 hO8 hb8 hk8 hz8; have hkk8 := Keeps.undrew (Keeps.own (hO2 _).drew hk8); have hbb8 : Below B w w8 := ((Below.refl B w).alloc hB _).drew.trans hb8)
      | (go_at_call 85; (with_reducible refine (HA.out w8 v8 (p ++ [⟨2, (p.length : Int) + 1, 0, .zero⟩]) (Nat.le_trans hB hbb8.size) hbb8 hO8 (by rw [List.length_append, List.length_singleton]; omega)).mono ?_); rintro e w1 ⟨v1, la, rfl, hc1, hO1, hb1, hk1, hz1⟩))
  rw [List.length_append, List.length_singleton] at hc1
  have hll := code_len hc1
  have hbw1 := hbb8.trans hb1
  have hkw1 := hkk8.trans hk1
  clear HA HS HX HBX hb1 hk1 hb8 hk8 x0 x1 x2 x3 x4 x5 hO8 hbA
  have hzz := hbw1.size
  have hB1 : B ≤ w1.heap.size := Nat.le_trans hB hbw1.size
  obtain ⟨A1', c1', rfl, _⟩ := hO1.form
  have hl1 : (p ++ [(⟨2, (p.length : Int) + 1, 0, .zero⟩ : Ins)] ++ la).length = p.length + 1 + la.length := by simp; omega
  have HM : Hid (∀ k, ((p ++ [(⟨2, (p.length : Int) + 1, 0, .zero⟩ : Ins)] ++ la ++ [(⟨3, (p.length : Int), 0, .zero⟩ : Ins)]).set p.length ⟨2, (p.length : Int) + 1, k, .zero⟩) = p ++ ((⟨2, (p.length : Int) + 1, k, .zero⟩ : Ins) :: (la ++ [⟨3, (p.length : Int), 0, .zero⟩]))) := Lib.hid fun k => star_list p la _ k rfl
  have HM2 : Hid (∀ h, (p ++ [(⟨2, (p.length : Int) + 1, 0, .zero⟩ : Ins)] ++ la ++ [(⟨3, (p.length : Int), 0, .zero⟩ : Ins)])[p.length]'h = ⟨2, (p.length : Int) + 1, 0, .zero⟩) := fun h => star_at p la _ _ h
  have HM3 : Hid ((p ++ [(⟨2, (p.length : Int) + 1, 0, .zero⟩ : Ins)] ++ la ++ [(⟨3, (p.length : Int), 0, .zero⟩ : Ins)]).length = p.length + 1 + la.length + 1) := Lib.hid (by simp; omega)
  generalize hL : p ++ [(⟨2, (p.length : Int) + 1, 0, .zero⟩ : Ins)] ++ la ++ [(⟨3, (p.length : Int), 0, .zero⟩ : Ins)] = L at HM HM2 HM3
  go_wp2_with (at_builtin; refine wpList_append_p rfl _ _ rfl B _ (p ++ [⟨2, (p.length : Int) + 1, 0, .zero⟩] ++ la) rfl hO1 hB1 _ ⟨3, p.length, 0, .zero⟩ rfl w1.heap.size rfl 1 rfl (by rw [hl1]; omega) ?_; intro v2 w2 hO3 hb2 hk2 hz2; rw [hL] at hO3; have hL1 : p.length < L.length := (by rw [HM3.out]; omega); have hL2 : (p.length : Int) < (L.length : Int) := (by omega); obtain ⟨gq, cq, rfl, hgb, hgl⟩ := hO3.head (by omega); have ⟨⟨_, hq2⟩, _, hf2⟩ := hO3.ab p.length hL1)
  go_ret
  have hst := hO3.setAB p.length hL1 2 (by decide) (.int .i64 (L.length : Int)) ⟨2, (p.length : Int) + 1, ((p.length + 1 + la.length + 1 : Nat) : Int), .zero⟩ (by rw [HM2.out, HM3.out]; rfl)
  rw [HM.out] at hst
  exact ⟨_, _, rfl, .star _ _ _ _ hc1, hst.1, (hbw1.trans hb2).setCell hgb _, (((Keeps.alloc _ _).trans hkw1).trans (Keeps.own hO1 hk2)).trans (Keeps.only hO3 hst.2), by simp; omega⟩
end Go.Proofs.Yteinbjopclblaaa
