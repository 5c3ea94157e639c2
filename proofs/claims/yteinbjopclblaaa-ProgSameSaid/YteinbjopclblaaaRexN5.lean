/- The walk of rex.ends at one of two. -/
import Derived.Test.YteinbjopclblaaaRexN4
namespace Go.Proofs.Yteinbjopclblaaa
open Go.RowKit

def AltRel (g n : Nat) (x y : List Bool) (W0 w : World) (i : Value) (wr : World) : Prop :=
  ∃ (k : Nat) (o : List Bool), k ≤ n ∧ i = .int .i64 k ∧ BL wr g g n n o ∧ Hid (∀ j, j < o.length → tt o j = (decide (j < k) && (tt x j || tt y j))) ∧ W0.grownBy wr (some g) ∧ Below w.heap.size w wr
theorem alt_step {o m to : List Bool} {k : Nat} (h : ∀ j, j < o.length → tt o j = (decide (j < k) && (tt m j || tt to j))) (hk : k < o.length) :
    ∀ j, j < (o.set k (tt m k || tt to k)).length → tt (o.set k (tt m k || tt to k)) j = (decide (j < k + 1) && (tt m j || tt to j)) := by
  intro j hj
  rw [List.length_set] at hj
  rw [tt_set hk]
  by_cases c : j = k
  · subst c; rw [if_pos rfl]; simp
  · have c1 : decide (j < k + 1) = decide (j < k) := by simp only [decide_eq_decide]; omega
    rw [if_neg c, h j hj, c1]

set_option maxRecDepth 100000 in
set_option maxHeartbeats 1600000 in
theorem ends5 (S : Set4) (ta tb : Tree) (iha : EndsC ta) (ihb : EndsC tb) : EndsC (.node 5 S [ta, tb]) := by
  intro s A c w bF gF cF n fr hs hn hwf hk hF
  obtain ⟨bb, off, ca, cb, rfl, hbb, hca, hla, hcb, hlb⟩ := LK.two hk
  obtain ⟨A1, c1, rfl, _, _⟩ := hla.parts
  obtain ⟨A2, c2, rfl, _, _⟩ := hlb.parts
  have HA := Lib.hid (iha.call hla rfl hs hn)
  have HB := Lib.hid (ihb.call hlb rfl hs hn)
  have HEND : Hid (∀ x y to, EndsL s.data.toList ta fr x → EndsL s.data.toList tb fr y → to.length = n → (∀ j, j < n → tt to j = (tt x j || tt y j)) → EndsL s.data.toList (.node 5 S [ta, tb]) fr to) := fun x y to h1 h2 h3 h4 => ends_alt h1 h2 (h3.trans hF.len.symm) (fun j hj => h4 j (by rw [← hF.len]; exact hj))
  have hn1 : n ≤ 301 := by omega
  have ⟨x0, x1, x2, x3, x4, x5⟩ := hca.six
  have ⟨y0, y1, y2, y3, y4, y5⟩ := hcb.six
  unfold argX at HA HB
  obtain ⟨a, b, c', d⟩ := S
  dsimp only [Tree.kind, Tree.set, Tree.kids, List.length_nil, List.length_cons] at HEND ⊢
  clear hn hk hwf iha ihb hla hlb hca hcb
  go_enter Try.func87, Try.ntmps87
  go_wp2_with (at_make; refine wpList_make_b rfl _ _ rfl n (w.heap.size + 1) (by simp) rfl rfl (by omega) ?_; intro w1 hO hb hz; obtain ⟨⟨f0, f1, f2, f3, f4, f5⟩, hbw⟩ := box_six hb; clear hb)
  have hF1 := hF.below hbw
  have g0 := cell_kept hbw x0
  have g1 := cell_kept hbw x1
  have g2 := cell_kept hbw x2
  have g3 := cell_kept hbw x3
  have g4 := cell_kept hbw x4
  have g5 := cell_kept hbw x5
  have k0 := cell_kept hbw y0
  have k1 := cell_kept hbw y1
  have k2 := cell_kept hbw y2
  have k3 := cell_kept hbw y3
  have k4 := cell_kept hbw y4
  have k5 := cell_kept hbw y5
  clear x0 x1 x2 x3 x4 x5 y0 y1 y2 y3 y4 y5
  go_region_held3 (fun w' => w'.cell? ⟨w.heap.size, 5, none⟩ = some (.slice (some ⟨bb, off, none⟩) 2 c) ∧ w'.cell? ⟨bb, off, none⟩ = some (.int .i64 ta.kind) ∧ w'.cell? ⟨bb, off + 1, none⟩ = some (.int .u64 ta.set.a) ∧ w'.cell? ⟨bb, off + 2, none⟩ = some (.int .u64 ta.set.b) ∧
      w'.cell? ⟨bb, off + 3, none⟩ = some (.int .u64 ta.set.c) ∧ w'.cell? ⟨bb, off + 4, none⟩ = some (.int .u64 ta.set.d) ∧ w'.cell? ⟨bb, off + 5, none⟩ = some (.slice A1 ta.kids.length c1) ∧
      w'.cell? ⟨bb, off + 6, none⟩ = some (.int .i64 tb.kind) ∧ w'.cell? ⟨bb, off + 6 + 1, none⟩ = some (.int .u64 tb.set.a) ∧ w'.cell? ⟨bb, off + 6 + 2, none⟩ = some (.int .u64 tb.set.b) ∧
      w'.cell? ⟨bb, off + 6 + 3, none⟩ = some (.int .u64 tb.set.c) ∧ w'.cell? ⟨bb, off + 6 + 4, none⟩ = some (.int .u64 tb.set.d) ∧ w'.cell? ⟨bb, off + 6 + 5, none⟩ = some (.slice A2 tb.kids.length c2))
    (first | go_keep | (refine ⟨cell_kept hb89 ?_, cell_kept hb89 ?_, cell_kept hb89 ?_, cell_kept hb89 ?_, cell_kept hb89 ?_, cell_kept hb89 ?_, cell_kept hb89 ?_, cell_kept hb89 ?_, cell_kept hb89 ?_, cell_kept hb89 ?_, cell_kept hb89 ?_, cell_kept hb89 ?_, cell_kept hb89 ?_⟩ <;> assumption) | (refine ⟨cell_kept hb18 ?_, cell_kept hb18 ?_, cell_kept hb18 ?_, cell_kept hb18 ?_, cell_kept hb18 ?_, cell_kept hb18 ?_, cell_kept hb18 ?_, cell_kept hb18 ?_, cell_kept hb18 ?_, cell_kept hb18 ?_, cell_kept hb18 ?_, cell_kept hb18 ?_, cell_kept hb18 ?_⟩ <;> assumption))
    (first | (go_at_call 87; (with_reducible refine (HA.out _ _ _ _ _ (by exact hbw.drew) (by exact hF1.drew)).mono ?_); rintro e w8 ⟨g8, c8, m, rfl, hB8, hE8, hb8⟩; have hb18 : Below w1.heap.size w1 w8 := undrew hb8) | (go_at_call 87; (with_reducible refine (HB.out _ _ _ _ _ (by exact hbw.trans (hb18.mono hbw.size)) (by exact hF1.below hb18)).mono ?_); rintro e w9 ⟨g9, c9, to, rfl, hB9, hE9, hb9⟩; have hb89 : Below w1.heap.size w1 w9 := hb18.trans (hb9.mono hb18.size)))
  clear f0 f1 f2 f3 f4 f5 g0 g1 g2 g3 g4 g5 k0 k1 k2 k3 k4 k5 hb8
  have hz1 := hbw.size
  have hz2 := hb18.size
  have hz3 := hb89.size
  have hO9 := hO.below hb89
  have hB89 := hB8.below (hb9 : Below w8.heap.size w8 w9)
  have hgne1 : g8 ≠ w.heap.size + 1 := by have hq : w1.heap.size ≤ g8 := hB8.lt.1; omega
  have hgne2 : g9 ≠ w.heap.size + 1 := by have hq : w8.heap.size ≤ g9 := hB9.lt.1; omega
  clear hb9
  go_wp2_with fail
  go_loopw [97] (fun i wr => AltRel (w.heap.size + 1) n m to w9 w i wr) (fun i _ => n - (intOf i).toNat)
  case atStart => exact ⟨0, _, Nat.zero_le _, rfl, hO9, fun j hj => by rw [tt_rep]; simp, World.grownBy.refl _ _, hbw.trans (hb89.mono hbw.size)⟩
  case round =>
    obtain ⟨k, o, hk, rfl, hB, HR, hg, hbr⟩ := hrel
    by_cases hlt : k < n
    · have c1 := (hB89.only hg hgne1).cell hlt
      have c2 := (hB9.only hg hgne2).cell hlt
      have c3 := hB.cell hlt
      have c4 := hB.free k
      have HST := Lib.hid (alt_step (m := m) (to := to) HR.out (hB.len ▸ hlt : k < o.length))
      generalize tt o k = q3 at c3
      cases q1 : tt m k with
      | true =>
        rw [q1] at c1 HST
        clear c2 q1
        go_wp2_with fail
        go_roundw
        case rel => exact ⟨k + 1, _, by omega, by go_num, hB.set k true, HST.out, only_setCell hg k _, hbr.setCell (by simp) _⟩
        case measure => simp [intOf] <;> omega
      | false =>
        rw [q1] at c1 HST
        rw [Bool.false_or] at HST
        generalize tt to k = q2 at *
        clear q1
        go_wp2_with fail
        go_roundw
        case rel => exact ⟨k + 1, _, by omega, by go_num, hB.set k q2, HST.out, only_setCell hg k _, hbr.setCell (by simp) _⟩
        case measure => simp [intOf] <;> omega
    · obtain rfl : k = n := by omega
      have hE := HEND.out m to o hE8 hE9 hB.len (fun j hj => by rw [HR.out j (by rw [hB.len]; exact hj), show decide (j < k) = true by simpa using hj]; simp)
      have HE := Lib.hid hE
      clear hE
      go_wp2_with fail
      go_ret
      exact ⟨_, _, o, rfl, hB.low (by omega), HE.out, hbr⟩
end Go.Proofs.Yteinbjopclblaaa
