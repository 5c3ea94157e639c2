/- The walk of audit.Encode. -/
import Derived.Test.YteinbjopclblaaaAudW
import Derived.Test.YteinbjopclblaaaAudF
namespace Go.Proofs.Yteinbjopclblaaa
open Go.RowKit

def encRes (r : Rec) : Value := if checkR r = 0 then .tuple #[.string (bs (encL r)), .int .i64 0] else .tuple #[.string (bs []), .int .i64 (checkR r)]
def numsR (r : Rec) : List Int := [r.conn, r.out, r.by_, r.score, (r.matched.length : Int)]
theorem nums_range {r : Rec} (ok : RecOk r) : ∀ n ∈ numsR r, 0 ≤ n ∧ n < 4294967296 := fun n hn => by
  have := ok.len
  simp only [numsR, List.mem_cons, List.not_mem_nil, or_false] at hn
  rcases hn with rfl | rfl | rfl | rfl | rfl
  · exact ok.conn
  · exact ok.out
  · exact ok.by_
  · exact ok.score
  · omega
theorem enc_split (r : Rec) : encL r = 82 :: ((numsR r).flatMap fourL ++ r.matched.flatMap fourL ++ fourL r.target.length) ++ r.target := by
  unfold encL numsR; simp [List.append_assoc]
theorem flat_four (l : List Int) : (l.flatMap fourL).length = 4 * l.length := by
  induction l with
  | nil => rfl
  | cons m ms ih => rw [List.flatMap_cons, List.length_append, ih, fourL_len, List.length_cons]; omega
theorem flat_snoc (l : List Int) (k : Nat) (h : k < l.length) : (l.take (k + 1)).flatMap fourL = (l.take k).flatMap fourL ++ fourL l[k] := by
  rw [List.take_succ_eq_append_getElem h, List.flatMap_append]; simp
def EnRelA (B g : Nat) (W : World) (ns : List Int) (v i : Value) (wr : World) : Prop :=
  ∃ k : Nat, k ≤ ns.length ∧ i = .int .i64 k ∧ OwnB wr B v (82 :: (ns.take k).flatMap fourL) ∧ Below B W wr ∧ wr.heap[g]? = some (.cells (ns.map (Value.int .i64)).toArray 3 (0, 0)) ∧ g < wr.heap.size
def EnRelB (B : Nat) (W : World) (pre ms : List Int) (v i : Value) (wr : World) : Prop :=
  ∃ k : Nat, k ≤ ms.length ∧ i = .int .i64 k ∧ OwnB wr B v (82 :: (pre.flatMap fourL ++ (ms.take k).flatMap fourL)) ∧ Below B W wr

set_option maxRecDepth 100000 in
set_option maxHeartbeats 1600000 in
theorem Encode_any (r : Rec) (A : Option Addr) (c : Nat) (w : World) (h : Sl w w.heap.size 1 A r.matched.length (r.matched.map (Value.int .i64))) (hl : r.matched.length ≤ 9223372036854775807) :
    Calls Try.prog 32 #[recV r A c] w fun e w' => e = .returned (encRes r) ∧ Below w.heap.size w w' := by
  have hck := Check_any r A c
  have HSP := Lib.hid (enc_split r)
  by_cases hc : checkR r = 0
  · have ok := check_ok hc
    have hnr := nums_range ok
    have HR : Hid (encRes r = .tuple #[.string (bs (encL r)), .int .i64 0]) := by unfold Hid encRes; rw [if_pos hc]
    rw [hc] at hck
    have HNS : Hid (numsR r = [r.conn, r.out, r.by_, r.score, (r.matched.length : Int)]) := rfl
    obtain ⟨ns, hns⟩ : ∃ ns, numsR r = ns := ⟨_, rfl⟩
    have hids := ok.ids
    have hlen := ok.len
    have htl := ok.tlen
    rw [hns] at hnr HSP HNS
    have hnl : ns.length = 5 := by rw [HNS.out]; rfl
    clear hns hc ok
    obtain ⟨co, ou, b, sc, ms, tg⟩ := r
    unfold recV at hck ⊢
    dsimp only at hck h hl HNS hids hlen htl HSP ⊢
    have HCK := Lib.hid hck
    clear hck
    go_enter Try.func32, Try.ntmps32
    go_wp2_with fail
    refine (HCK.out _ ((h.alloc (Nat.le_refl _) _).more (by simp)) hl).mono ?_
    rintro e w1 ⟨rfl, hb1⟩
    obtain ⟨W0, hW0⟩ : ∃ W0, w.alloc (.cells #[.int .i64 co, .int .i64 ou, .int .i64 b, .int .i64 sc, .slice A ms.length c, .string (bs tg)] 51) = W0 := ⟨_, rfl⟩
    have hB1 : Below (w.heap.size + 1) W0 w1 := by rw [← hW0]; simpa using hb1
    have hbox : ∀ wr, Below (w.heap.size + 1) W0 wr → (wr.cell? ⟨w.heap.size, 0, none⟩ = some (.int .i64 co) ∧ wr.cell? ⟨w.heap.size, 1, none⟩ = some (.int .i64 ou) ∧ wr.cell? ⟨w.heap.size, 2, none⟩ = some (.int .i64 b) ∧
        wr.cell? ⟨w.heap.size, 3, none⟩ = some (.int .i64 sc) ∧ wr.cell? ⟨w.heap.size, 4, none⟩ = some (.slice A ms.length c) ∧ wr.cell? ⟨w.heap.size, 5, none⟩ = some (.string (bs tg))) ∧ Below w.heap.size w wr := fun wr hb => by
      rw [← hW0] at hb
      have hx := box_facts hb
      exact ⟨⟨hx.1 0, hx.1 1, hx.1 2, hx.1 3, hx.1 4, hx.1 5⟩, hx.2⟩
    have h0 : Sl W0 w.heap.size 1 A ms.length (ms.map (Value.int .i64)) := by rw [← hW0]; exact h.alloc (Nat.le_refl _) _
    have hz1 : w.heap.size < w1.heap.size := by have := hB1.size; rw [← hW0] at this; simp at this; omega
    clear hb1 hW0 h
    have HBOX := Lib.hid hbox
    have HNL := Lib.hid hnl
    clear hbox hnl
    have ⟨⟨b0, b1, b2, b3, b4, b5⟩, _⟩ := HBOX.out _ hB1
    go_wp2_with fail
    clear b0 b1 b2 b3 b4 b5
    have hA1 : Below w1.heap.size w1 w1 := Below.refl _ _
    go_loopw [5, 29] (fun v i wr => EnRelA w1.heap.size (w1.heap.size + 1) w1 ns v i wr) (fun _ i _ => 5 - (intOf i).toNat)
    case atStart =>
      refine ⟨0, Nat.zero_le _, rfl, ?_, ((Below.refl _ _).alloc (Nat.le_refl _) _).alloc (by simp) _, ?_, by simp⟩
      · exact ownsRow_below (World.ownsRow_lit w1 #[.int .u8 82] 1 (Nat.le_refl _) (by decide) rfl) ((Below.refl _ _).alloc (Nat.le_refl _) _)
      · rw [HNS.out]
        have := heap_alloc_new (w1.alloc (.cells #[.int .u8 82] 5)) (.cells #[.int .i64 co, .int .i64 ou, .int .i64 b, .int .i64 sc, .int .i64 (ms.length : Int)] 3)
        simpa using this
    case round =>
      obtain ⟨k, hk, rfl, hO, hb, hg, hgz⟩ := hrel
      have HNL2 : ns.length ≤ 5 ∧ 5 ≤ ns.length := by rw [HNL.out]; omega
      by_cases hlt : k < 5
      · have hkn : k < ns.length := by omega
        have hcell : wr.cell? ⟨w1.heap.size + 1, k, none⟩ = some (.int .i64 ns[k]) := by rw [cell_of_row wr _ k _ _ _ hg]; simp [hkn]
        have hr := hnr _ (List.getElem_mem hkn)
        have HSN := Lib.hid (flat_snoc ns k hkn)
        have hfl : (82 :: (ns.take k).flatMap fourL).length ≤ 1048576 := by rw [List.length_cons, flat_four, List.length_take]; omega
        have hap := own_apart hO hg (by decide)
        have hzr : w1.heap.size ≤ wr.heap.size := hb.size
        have HG := Lib.hid hg
        clear hg
        go_wp2_with fail
        refine (four_any _ hr.1 hr.2 _ _ _ _ hO hzr hfl).mono ?_
        rintro e w2 ⟨v2, rfl, hO2, hb2, hk2, hz2⟩
        go_wp2_with fail
        go_roundw
        case rel => exact ⟨k + 1, by omega, by go_num, by rw [HSN.out]; exact hO2, hb.trans hb2, (hk2 _ hgz hap).trans HG.out, by omega⟩
        case measure => simp [intOf] <;> omega
      · have hk5 : ns.take k = ns := List.take_of_length_le (by omega)
        rw [hk5] at hO
        have hB2 := hB1.trans (hb.mono (by omega : w.heap.size + 1 ≤ w1.heap.size))
        have ⟨⟨b0, b1, b2, b3, b4, b5⟩, _⟩ := HBOX.out _ hB2
        clear hk5
        go_wp2_with fail
        clear b0 b1 b2 b3 b4 b5
        have HO := Lib.hid hO
        clear hO
        obtain ⟨wo, rfl⟩ : ∃ wo : World, wo = wr := ⟨_, rfl⟩
        go_loopw [5, 40] (fun v i wr => EnRelB w1.heap.size w1 ns ms v i wr) (fun _ i _ => ms.length - (intOf i).toNat)
        case atStart => exact ⟨0, Nat.zero_le _, rfl, by simpa using HO.out, hb⟩
        case round =>
          obtain ⟨q, hq, rfl, hO, hbx⟩ := hrel
          have hzr : w1.heap.size ≤ wr.heap.size := hbx.size
          have hfl : (82 :: (ns.flatMap fourL ++ (ms.take q).flatMap fourL)).length ≤ 1048576 := by rw [List.length_cons, List.length_append, flat_four, flat_four, List.length_take, HNL.out]; omega
          have hB3 := hB1.trans (hbx.mono (by omega : w.heap.size + 1 ≤ w1.heap.size))
          have ⟨⟨b0, b1, b2, b3, b4, b5⟩, hbw⟩ := HBOX.out _ hB3
          by_cases hlt2 : q < ms.length
          · obtain ⟨bb, off, rfl, hc0⟩ := srcI (a0 := fun j => .int .i64 (ms.getD j 0)) (h0.below (hB3.mono (Nat.le_succ _))) hlt2 (fun j hj => by rw [List.getElem?_map, List.getD_eq_getElem?_getD, List.getElem?_eq_getElem hj]; rfl)
            have hgd : ms.getD q 0 = ms[q] := by rw [List.getD_eq_getElem?_getD, List.getElem?_eq_getElem hlt2]; rfl
            rw [hgd] at hc0
            have hr := hids _ (List.getElem_mem hlt2)
            have HSN := Lib.hid (flat_snoc ms q hlt2)
            clear hgd b0 b1 b2 b3 b4 b5
            go_wp2_with fail
            refine (four_any _ hr.1 hr.2 _ _ _ _ hO hzr hfl).mono ?_
            rintro e w2 ⟨v2, rfl, hO2, hb2, _, hz2⟩
            go_wp2_with fail
            go_roundw
            case rel => exact ⟨q + 1, by omega, by go_num, by rw [HSN.out]; simpa [List.append_assoc] using hO2, hbx.trans hb2⟩
            case measure => simp [intOf] <;> omega
          · obtain rfl : q = ms.length := by omega
            rw [List.take_length] at hO hfl
            go_wp2_with fail
            refine (four_any _ (by omega) (by omega) _ _ _ _ hO hzr hfl).mono ?_
            rintro e w2 ⟨v2, rfl, hO2, hb2, _, hz2⟩
            have hB4 := hB3.trans (hb2.mono (by omega : w.heap.size + 1 ≤ w1.heap.size))
            obtain ⟨L, hL⟩ : ∃ L, 82 :: (ns.flatMap fourL ++ ms.flatMap fourL) ++ fourL (tg.length : Int) = L := ⟨_, rfl⟩
            rw [hL] at hO2
            have hll : L.length ≤ 1048580 := by rw [← hL, List.length_append, fourL_len]; omega
            have e1 : L.length + tg.length ≤ 9223372036854775807 := by omega
            have HL := Lib.hid hL
            clear hL
            have hst := hO2.string
            clear b0 b1 b2 b3 b4 b5
            have ⟨⟨b0, b1, b2, b3, b4, b5⟩, hbw4⟩ := HBOX.out _ hB4
            go_wp2_with fail
            go_ret2
            exact ⟨by rw [HR.out, HSP.out, ← HL.out]; simp [List.append_assoc], hbw4⟩
  · have HR : Hid (encRes r = .tuple #[.string (bs []), .int .i64 (checkR r)]) := by unfold Hid encRes; rw [if_neg hc]
    have hq : (checkR r != 0) = true := bne_iff_ne.2 hc
    generalize checkR r = e0 at *
    obtain ⟨co, ou, b, sc, ms, tg⟩ := r
    unfold recV at hck ⊢
    dsimp only at hck h hl ⊢
    have HCK := Lib.hid hck
    clear hck hc
    go_enter Try.func32, Try.ntmps32
    go_wp2_with fail
    refine (HCK.out _ ((h.alloc (Nat.le_refl _) _).more (by simp)) hl).mono ?_
    rintro e w1 ⟨rfl, hb1⟩
    have hbw := below_new hb1 (Nat.le_refl _)
    go_wp2_with fail
    go_ret2
    exact ⟨by rw [HR.out]; rfl, hbw⟩
end Go.Proofs.Yteinbjopclblaaa
