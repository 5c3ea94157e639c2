/- The walk of rex.ends at a set of bytes. -/
import Derived.Test.YteinbjopclblaaaRexN
import Derived.BigRegion
import Derived.IntWalk
namespace Go.Proofs.Yteinbjopclblaaa
open Go.RowKit

def ByRel (g n : Nat) (s : ByteArray) (S : Set4) (fr : List Bool) (W0 w : World) (i : Value) (wr : World) : Prop :=
  ∃ (k : Nat) (o : List Bool), k ≤ s.size ∧ i = .int .i64 k ∧ BL wr g g n n o ∧ Hid (ByteI s.data.toList S fr k o) ∧ Below g W0 wr ∧ Below w.heap.size w wr

set_option maxRecDepth 100000 in
set_option maxHeartbeats 600000 in
theorem ends3 (S : Set4) : EndsC (.node 3 S []) := by
  intro s A c w bF gF cF n fr hs hn hwf _ hF
  have hlen : s.data.toList.length = s.size := by simp
  have hfl := Lib.hid (hF.len.trans (hn.trans (by rw [← hlen]) : n = s.data.toList.length + 1))
  have hstart : Hid (ByteI s.data.toList S fr 0 (List.replicate n false)) := by
    have := byte_start (s := s.data.toList) (S := S) (fr := fr)
    rwa [hF.len] at this
  have hend : ∀ o, ByteI s.data.toList S fr s.size o → EndsL s.data.toList (.node 3 S []) fr o := fun o h => byte_end (by rw [hlen]; exact h)
  have HEND := Lib.hid hend
  have hn1 : n ≤ 301 := by omega
  have hns : s.size < n := by omega
  have hgF : gF < w.heap.size := hF.lt.2
  have hhas := fun x W => Has_any S x W hwf
  have HL := Lib.hid hlen
  clear hn hlen hend
  obtain ⟨a, b, c', d⟩ := S
  unfold setV at hhas
  dsimp only [Tree.kind, Tree.set, Tree.kids, List.length_nil] at hhas ⊢
  have HHAS := Lib.hid hhas
  clear hhas
  go_enter Try.func87, Try.ntmps87
  go_wp2_with (at_make; refine wpList_make_b rfl _ _ rfl n (w.heap.size + 1) (by simp) rfl rfl (by omega) ?_; intro w1 hO hb hz; obtain ⟨⟨f0, f1, f2, f3, f4, f5⟩, hbw⟩ := box_six hb; clear hb)
  have hzw : w.heap.size + 1 ≤ w1.heap.size := by omega
  have hbx : ∀ W, Below (w.heap.size + 1) w1 W → W.cell? ⟨w.heap.size, 1, none⟩ = some (.int .u64 a) ∧ W.cell? ⟨w.heap.size, 2, none⟩ = some (.int .u64 b) ∧ W.cell? ⟨w.heap.size, 3, none⟩ = some (.int .u64 c') ∧ W.cell? ⟨w.heap.size, 4, none⟩ = some (.int .u64 d) := fun W h =>
    ⟨(h.cell (p := ⟨w.heap.size, 1, none⟩) (Nat.lt_succ_self _)).trans f1, (h.cell (p := ⟨w.heap.size, 2, none⟩) (Nat.lt_succ_self _)).trans f2, (h.cell (p := ⟨w.heap.size, 3, none⟩) (Nat.lt_succ_self _)).trans f3, (h.cell (p := ⟨w.heap.size, 4, none⟩) (Nat.lt_succ_self _)).trans f4⟩
  have HBX := Lib.hid hbx
  clear hbx
  go_loopw [44] (fun i wr => ByRel (w.heap.size + 1) n s ⟨a, b, c', d⟩ fr w1 w i wr) (fun i _ => s.size - (intOf i).toNat)
  case atStart => exact ⟨0, _, Nat.zero_le _, rfl, hO, hstart, Below.refl _ _, hbw⟩
  case round =>
    obtain ⟨k, o, hk, rfl, hB, HB, hb1, hbw2⟩ := hrel
    have hz2 : w.heap.size + 1 < wr.heap.size := hB.lt.2
    clear f0 f1 f2 f3 f4 f5
    by_cases hlt : k < s.size
    · have hkn : k < n := by omega
      have hkn1 : k + 1 < n := by omega
      have hcF := (hF.below hbw2).cell hkn
      have hcO := hB.cell hkn1
      have hfO := hB.free (k + 1)
      have HSTEP := Lib.hid (byte_step (k := k) HB.out (by rw [hF.len, ← hfl.out, hF.len]) (by rw [HL.out]; exact hlt))
      have HX : Hid ((s.data.toList[k]'(by rw [HL.out]; exact hlt)) = s[k]) := rfl
      rw [HX.out] at HSTEP
      obtain ⟨x, hx⟩ : ∃ x, s[k] = x := ⟨_, rfl⟩
      rw [hx] at HSTEP
      cases hq : tt fr k with
      | false =>
        rw [hq] at hcF HSTEP
        have hS : Hid (BL (wr.setCell ⟨w.heap.size + 1, k + 1, none⟩ (.bool false)) (w.heap.size + 1) (w.heap.size + 1) n n (o.set (k + 1) false)) := hB.set (k + 1) false
        clear hq
        go_wp2_with fail
        go_region
        go_wp2_with fail
        go_roundw
        case rel => exact ⟨k + 1, _, by omega, by go_num, hS.out.drew, HSTEP.out, (hb1.setCell (Nat.le_refl _) _).drew, (hbw2.setCell (Nat.le_succ _) _).drew⟩
        case measure => simp [intOf] <;> omega
      | true =>
        rw [hq] at hcF HSTEP
        obtain ⟨g1, g2, g3, g4⟩ := HBX.out wr hb1
        generalize tt o (k + 1) = q2 at hcO
        clear hq
        have i1 : IntKind.i64.wrap ((k : Int) + 1) = (k : Int) + 1 := IntWalk.i64_in _ (by omega)
        have i2 : 0 ≤ (k : Int) + 1 := by omega
        have i3 : ((k : Int) + 1).toNat = k + 1 := by omega
        have i4 : (k : Int) + 1 < (n : Int) := by omega
        have i5 : (k : Int) < (n : Int) := by omega
        have i6 : (0 : Int) ≤ (k : Int) := by omega
        have i7 : (k : Int) < (s.size : Int) := by omega
        have n1 : ¬ gF = w.heap.size + 1 := by omega
        have n2 : ¬ w.heap.size + 1 = gF := by omega
        have n3 : ¬ w.heap.size = w.heap.size + 1 := by omega
        have n4 : ¬ w.heap.size + 1 = w.heap.size := by omega
        go_wp2_with fail
        go_region_held3 (fun w' => w'.cell? ⟨gF, k, none⟩ = some (.bool true) ∧ w'.cell? ⟨w.heap.size, 1, none⟩ = some (.int .u64 a) ∧ w'.cell? ⟨w.heap.size, 2, none⟩ = some (.int .u64 b) ∧ w'.cell? ⟨w.heap.size, 3, none⟩ = some (.int .u64 c') ∧ w'.cell? ⟨w.heap.size, 4, none⟩ = some (.int .u64 d))
          (first | go_keep | (refine ⟨cell_kept hb8 ?_, cell_kept hb8 ?_, cell_kept hb8 ?_, cell_kept hb8 ?_, cell_kept hb8 ?_⟩ <;> assumption))
          (first | (go_at_call 106; refine (HHAS.out _ _).mono ?_; rintro e w8 ⟨rfl, hb8⟩; have q8 : w8.cell? ⟨w.heap.size + 1, k + 1, none⟩ = some (.bool q2) := cell_kept hb8 hcO; have r8 : w8.frozen? ⟨w.heap.size + 1, k + 1, none⟩ = false := free_kept hb8 hcO hfO))
        have hb9 : Below wr.heap.size wr w8 := undrew hb8
        rw [Bool.true_and] at HSTEP
        clear hb8 hcF g1 g2 g3 g4 hcO hfO q8 r8 i1 i2 i3
        go_wp2_with fail
        go_roundw
        case rel => exact ⟨k + 1, _, by omega, by go_num, (hB.below hb9).set (k + 1) _, HSTEP.out, (hb1.trans (hb9.mono (by omega))).setCell (Nat.le_refl _) _, (hbw2.trans (hb9.mono (by omega))).setCell (Nat.le_succ _) _⟩
        case measure => simp [intOf] <;> omega
    · obtain rfl : k = s.size := by omega
      go_wp2_with fail
      go_ret
      exact ⟨_, _, _, rfl, hB.low (by omega), HEND.out o HB.out, hbw2⟩
end Go.Proofs.Yteinbjopclblaaa
