/- The walk of rex.ends at one behind the other. -/
import Derived.Test.YteinbjopclblaaaRexN
import Derived.BigRegion
import Derived.IntWalk
namespace Go.Proofs.Yteinbjopclblaaa
open Go.RowKit

def argX (t : Tree) (A : Option Addr) (c : Nat) : Value := .agg #[.int .i64 t.kind, .int .u64 t.set.a, .int .u64 t.set.b, .int .u64 t.set.c, .int .u64 t.set.d, .slice A t.kids.length c]
theorem EndsC.call {t : Tree} (ih : EndsC t) {w : World} {cs : List Value} {A : Option Addr} {c : Nat} (h : LT w w.heap.size t cs) (hcs : cs = cellsX t.kind t.set A t.kids.length c) {s : ByteArray} (hs : s.size ≤ 300) {n : Nat} (hn : n = s.size + 1) :
    ∀ (W : World) (bM gM cM : Nat) (m : List Bool), Below w.heap.size w W → BL W bM gM cM n m → Calls Try.prog 87 #[argX t A c, .string s, .slice (some ⟨gM, 0, none⟩) n cM] W (EndsPost s.data.toList t m n W) := fun W bM gM cM m hb hB => by
  obtain ⟨A', c', e, hwf, hk⟩ := h.parts
  rw [hcs] at e
  have e6 : Value.slice A t.kids.length c = .slice A' t.kids.length c' := by unfold cellsX at e; injection e with _ e; injection e with _ e; injection e with _ e; injection e with _ e; injection e with _ e; injection e with e
  injection e6 with e7 _ e8
  subst e7; subst e8
  exact ih s A c W bM gM cM n m hs hn hwf ((hk.below hb).more hb.size) hB
/-- Two kids in memory. -/
theorem LK.two {w : World} {B : Nat} {a b : Tree} {A : Option Addr} (h : LK w B [a, b] A) : ∃ bb off ca cb, A = some ⟨bb, off, none⟩ ∧ bb < B ∧ CellsAt w bb off ca ∧ LT w B a ca ∧ CellsAt w bb (off + 6) cb ∧ LT w B b cb := by
  rw [LK] at h
  obtain ⟨bb, off, ca, h1, h2, h3, h4, h5, h6⟩ := h
  rw [LK] at h6
  obtain ⟨b2, off2, cb, g1, g2, g3, g4, g5, g6⟩ := h6
  injection g1 with g1
  injection g1 with e1 e2
  subst e1; subst e2
  exact ⟨bb, off, ca, cb, h1, h2, h4, h5, g4, g5⟩
theorem LK.one {w : World} {B : Nat} {a : Tree} {A : Option Addr} (h : LK w B [a] A) : ∃ bb off ca, A = some ⟨bb, off, none⟩ ∧ bb < B ∧ CellsAt w bb off ca ∧ LT w B a ca := by
  rw [LK] at h
  obtain ⟨bb, off, ca, h1, h2, h3, h4, h5, h6⟩ := h
  exact ⟨bb, off, ca, h1, h2, h4, h5⟩

set_option maxRecDepth 100000 in
set_option maxHeartbeats 1600000 in
theorem ends4 (S : Set4) (ta tb : Tree) (iha : EndsC ta) (ihb : EndsC tb) : EndsC (.node 4 S [ta, tb]) := by
  intro s A c w bF gF cF n fr hs hn hwf hk hF
  obtain ⟨bb, off, ca, cb, rfl, hbb, hca, hla, hcb, hlb⟩ := LK.two hk
  obtain ⟨A1, c1, rfl, _, _⟩ := hla.parts
  obtain ⟨A2, c2, rfl, _, _⟩ := hlb.parts
  have HA := Lib.hid (iha.call hla rfl hs hn)
  have HB := Lib.hid (ihb.call hlb rfl hs hn)
  have HEND : Hid (∀ m to, EndsL s.data.toList ta fr m → EndsL s.data.toList tb m to → EndsL s.data.toList (.node 4 S [ta, tb]) fr to) := fun m to h1 h2 => ends_cat h1 h2
  have hn1 : n ≤ 301 := by omega
  have ⟨x0, x1, x2, x3, x4, x5⟩ := hca.six
  have ⟨y0, y1, y2, y3, y4, y5⟩ := hcb.six
  unfold argX at HA HB
  obtain ⟨a, b, c', d⟩ := S
  dsimp only [Tree.kind, Tree.set, Tree.kids, List.length_nil, List.length_cons] at HEND ⊢
  clear hn hk hwf iha ihb hla hlb hca hcb
  go_enter Try.func87, Try.ntmps87
  go_wp2_with (at_make; refine wpList_make_b rfl _ _ rfl n (w.heap.size + 1) (by simp) rfl rfl (by omega) ?_; intro w1 hO hb hz; obtain ⟨⟨f0, f1, f2, f3, f4, f5⟩, hbw⟩ := box_six hb; clear hb)
  have hF1 := hF.below hbw
  have g0 := cell_kept hbw x0
  have g1 := cell_kept hbw x1
  have g2 := cell_kept hbw x2
  have g3 := cell_kept hbw x3
  have g4 := cell_kept hbw x4
  have g5 := cell_kept hbw x5
  have k0 := cell_kept hbw y0
  have k1 := cell_kept hbw y1
  have k2 := cell_kept hbw y2
  have k3 := cell_kept hbw y3
  have k4 := cell_kept hbw y4
  have k5 := cell_kept hbw y5
  clear x0 x1 x2 x3 x4 x5 y0 y1 y2 y3 y4 y5
  go_region_held3 (fun w' => w'.cell? ⟨w.heap.size, 5, none⟩ = some (.slice (some ⟨bb, off, none⟩) 2 c) ∧ w'.cell? ⟨bb, off, none⟩ = some (.int .i64 ta.kind) ∧ w'.cell? ⟨bb, off + 1, none⟩ = some (.int .u64 ta.set.a) ∧ w'.cell? ⟨bb, off + 2, none⟩ = some (.int .u64 ta.set.b) ∧
      w'.cell? ⟨bb, off + 3, none⟩ = some (.int .u64 ta.set.c) ∧ w'.cell? ⟨bb, off + 4, none⟩ = some (.int .u64 ta.set.d) ∧ w'.cell? ⟨bb, off + 5, none⟩ = some (.slice A1 ta.kids.length c1) ∧
      w'.cell? ⟨bb, off + 6, none⟩ = some (.int .i64 tb.kind) ∧ w'.cell? ⟨bb, off + 6 + 1, none⟩ = some (.int .u64 tb.set.a) ∧ w'.cell? ⟨bb, off + 6 + 2, none⟩ = some (.int .u64 tb.set.b) ∧
      w'.cell? ⟨bb, off + 6 + 3, none⟩ = some (.int .u64 tb.set.c) ∧ w'.cell? ⟨bb, off + 6 + 4, none⟩ = some (.int .u64 tb.set.d) ∧ w'.cell? ⟨bb, off + 6 + 5, none⟩ = some (.slice A2 tb.kids.length c2))
    (first | go_keep | (refine ⟨cell_kept hb89 ?_, cell_kept hb89 ?_, cell_kept hb89 ?_, cell_kept hb89 ?_, cell_kept hb89 ?_, cell_kept hb89 ?_, cell_kept hb89 ?_, cell_kept hb89 ?_, cell_kept hb89 ?_, cell_kept hb89 ?_, cell_kept hb89 ?_, cell_kept hb89 ?_, cell_kept hb89 ?_⟩ <;> assumption) | (refine ⟨cell_kept hb18 ?_, cell_kept hb18 ?_, cell_kept hb18 ?_, cell_kept hb18 ?_, cell_kept hb18 ?_, cell_kept hb18 ?_, cell_kept hb18 ?_, cell_kept hb18 ?_, cell_kept hb18 ?_, cell_kept hb18 ?_, cell_kept hb18 ?_, cell_kept hb18 ?_, cell_kept hb18 ?_⟩ <;> assumption))
    (first | (go_at_call 87; (with_reducible refine (HA.out _ _ _ _ _ (by exact hbw.drew) (by exact hF1.drew)).mono ?_); rintro e w8 ⟨g8, c8, m, rfl, hB8, hE8, hb8⟩; have hb18 : Below w1.heap.size w1 w8 := undrew hb8) | (go_at_call 87; (with_reducible refine (HB.out _ _ _ _ _ (by exact hbw.trans (hb18.mono hbw.size)) (by exact hB8)).mono ?_); rintro e w9 ⟨g9, c9, to, rfl, hB9, hE9, hb9⟩; have hb89 : Below w1.heap.size w1 w9 := hb18.trans (hb9.mono hb18.size)))
  clear f0 f1 f2 f3 f4 f5 g0 g1 g2 g3 g4 g5 k0 k1 k2 k3 k4 k5 hb8 hb9
  have hz1 := hbw.size
  have hz2 := hb18.size
  go_wp2_with fail
  go_ret
  exact ⟨g9, c9, to, rfl, hB9.low (by omega), HEND.out m to hE8 hE9, hbw.trans (hb89.mono hbw.size)⟩
end Go.Proofs.Yteinbjopclblaaa
