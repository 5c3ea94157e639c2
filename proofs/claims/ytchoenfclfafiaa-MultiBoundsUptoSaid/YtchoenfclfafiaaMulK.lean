/- The walk of MultiBack. -/
import Derived.Test.YtchoenfclfafiaaMulQ
import Derived.Test.YtchoenfclfafiaaMulJ
import Derived.Test.YtchoenfclfafiaaArgE
import Derived.Test.YtchoenfclfafiaaOpenG
namespace Go.Proofs.Ytchoenfclfafiaa
open Go.RowKit

theorem ownA_sl {w : World} {b n c : Nat} {A : Option Addr} {l : List Pair} (h : OwnA w b (.slice A n c) l) : Sl w w.heap.size 2 A l.length (l.flatMap cellsA) := by
  obtain ⟨A', c', e, hs⟩ := h.form
  injection e with e1 _ _
  rw [e1]; exact hs
theorem pair_toP (l : List Pair) : (l.map toP).map pairB = l := by
  rw [List.map_map]
  conv => rhs; rw [← List.map_id l]
  rfl
theorem joinE_zero {l : List PartV} {b : List UInt8} (h : joinE l b = 0) : rightB b = true ∧ l.length ≤ 20 := by
  unfold joinE at h
  cases hr : rightB b with
  | false => rw [if_pos hr] at h; cases h
  | true =>
    refine ⟨rfl, ?_⟩
    rw [hr, if_neg (by decide)] at h
    by_cases h2 : 20 < l.length
    · rw [if_pos h2] at h; cases h
    · omega
theorem join_len {l : List Pair} {b : List UInt8} (h : joinE (l.map toP) b = 0) (hz : ∀ x ∈ l, x.1.size + x.2.size ≤ 4194304) : (joinM (l.map toP) b).length ≤ 83900000 := by
  obtain ⟨h1, h2⟩ := joinE_zero h
  rw [List.length_map] at h2
  have h3 := (right_len h1).2
  have h4 := textsP_len b h3 l hz
  unfold joinM
  unfold textsP at h4
  have h5 : l.length * 4194504 ≤ 20 * 4194504 := Nat.mul_le_mul_right _ h2
  have h6 : (lineM b).length = b.length + 2 := rfl
  simp only [List.length_append, List.length_cons, List.length_nil, h6]
  omega
def backM : List Pair := [(ByteArray.mk #[110], ByteArray.mk #[118])]
theorem backM_e : joinE (backM.map toP) [98] = 0 := by decide +kernel
theorem backM_t : bs (joinM (backM.map toP) [98]) = ByteArray.mk #[45, 45, 98, 13, 10, 67, 111, 110, 116, 101, 110, 116, 45, 68, 105, 115, 112, 111, 115, 105, 116, 105, 111, 110, 58, 32, 102, 111, 114, 109, 45, 100, 97, 116, 97, 59, 32, 110, 97, 109, 101, 61, 34, 110, 34, 13, 10, 13, 10, 118, 13, 10, 45, 45, 98, 45, 45, 13, 10] := by
  have : joinM (backM.map toP) [98] = [45, 45, 98, 13, 10, 67, 111, 110, 116, 101, 110, 116, 45, 68, 105, 115, 112, 111, 115, 105, 116, 105, 111, 110, 58, 32, 102, 111, 114, 109, 45, 100, 97, 116, 97, 59, 32, 110, 97, 109, 101, 61, 34, 110, 34, 13, 10, 13, 10, 118, 13, 10, 45, 45, 98, 45, 45, 13, 10] := by decide +kernel
  rw [this]; rfl
theorem bulk_each {l : List Pair} : ∀ x ∈ l, x.1.size + x.2.size ≤ bulkA l := by
  induction l with
  | nil => intro x hx; cases hx
  | cons y l ih =>
    intro x hx
    have e : bulkA (y :: l) = (y.1.size + y.2.size + 2) + bulkA l := by unfold bulkA; rw [List.map_cons, List.sum_cons]
    rcases List.mem_cons.1 hx with h | h
    · subst h; omega
    · have := ih x h; omega

set_option maxRecDepth 100000 in
set_option maxHeartbeats 6400000 in
theorem multiBack_walk (l : List Pair) (A : Option Addr) (c : Nat) (s : ByteArray) (w : World) (hA : Sl w w.heap.size 2 A l.length (l.flatMap cellsA)) (hb : bulkA l ≤ 1048576) (hs : s.size ≤ 1048576) (hlib : LibOk w) :
    Calls Try.prog 5 #[.slice A l.length c, .string s] w fun e w' => e = .returned (.bool true) ∧ Below w.heap.size w w' := by
  have hz : ∀ x ∈ l, x.1.size + x.2.size ≤ 4194304 := fun x hx => by have := bulk_each x hx; omega
  have HA : Hid (∀ W, Below w.heap.size w W → Sl W W.heap.size 2 A l.length (l.flatMap cellsA) ∧ LibOk W) := fun W hb => ⟨(hA.below hb).more hb.size, hlib.below hb⟩
  have HC1 : Hid (∀ W c, LibOk W → Sl W W.heap.size 2 (some ⟨w.heap.size, 0, none⟩) 1 (backM.flatMap cellsA) → Calls Try.prog 17 #[.slice (some ⟨w.heap.size, 0, none⟩) 1 c, .string (ByteArray.mk #[98])] W fun e w' => e = .returned (.tuple #[.string (ByteArray.mk #[45, 45, 98, 13, 10, 67, 111, 110, 116, 101, 110, 116, 45, 68, 105, 115, 112, 111, 115, 105, 116, 105, 111, 110, 58, 32, 102, 111, 114, 109, 45, 100, 97, 116, 97, 59, 32, 110, 97, 109, 101, 61, 34, 110, 34, 13, 10, 13, 10, 118, 13, 10, 45, 45, 98, 45, 45, 13, 10]), .int .i64 0]) ∧ Below W.heap.size W w') := fun W c hl h => by
    have := MJoin_any backM _ c (ByteArray.mk #[98]) W h (by decide) (by decide) hl
    have eb : (ByteArray.mk #[98]).data.toList = [98] := rfl
    unfold JoinPost at this
    rw [eb, backM_e, if_pos rfl, backM_t] at this
    exact this
  have HJ : Hid (∀ W, Below w.heap.size w W → Calls Try.prog 17 #[.slice A l.length c, .string s] W (JoinPost (l.map toP) s.data.toList W)) := fun W h => MJoin_any l A c s W (HA.out W h).1 hz (by unfold maxLen; omega) (HA.out W h).2
  have hl1 : ∀ W, Below w.heap.size w W → LibOk W := fun W h => (HA.out W h).2
  have HL1 := Lib.hid hl1
  clear hl1 hA hb hlib
  go_enter Try.func5, Try.ntmps5
  go_wp2_with (go_at_call 17; apply Hid.out)
  unfold Hid
  refine (HC1.out _ _ (HL1.out _ ?_) (Sl.lit rfl (by simp) rfl rfl)).mono ?_
  · exact (Below.refl _ _).alloc (Nat.le_refl _) _
  rintro e w1 ⟨rfl, hb1⟩
  have hbw1 := below_new hb1 (Nat.le_refl _)
  have HBW1 := Lib.hid hbw1
  have hj2 := HJ.out w1 hbw1
  unfold JoinPost at hj2
  clear hb1 HC1 hbw1 HJ
  by_cases hE : joinE (l.map toP) s.data.toList = 0
  rotate_left
  · rw [if_neg hE] at hj2
    generalize joinE (l.map toP) s.data.toList = x at *
    have q0 : (x != 0) = true := bne_iff_ne.2 hE
    have HJ2 := Lib.hid hj2
    clear hj2 hE
    go_wp2_with (go_at_call 17; apply Hid.out)
    unfold Hid
    refine HJ2.out.mono ?_
    rintro e w2 ⟨rfl, hb2⟩
    have hbw2 := HBW1.out.trans (hb2.mono HBW1.out.size)
    clear hb2
    go_wp2_with fail
    go_ret
    exact ⟨rfl, hbw2⟩
  · have hpb := join_back_m hE
    have hjl := join_len hE hz
    rw [hE, if_pos rfl] at hj2
    generalize joinM (l.map toP) s.data.toList = J at *
    have HJ2 := Lib.hid hj2
    have hps : ∀ W, Below w.heap.size w W → Calls Try.prog 18 #[.string (bs J), .string s, .int .i64 20] W (PartsPost (if 4096 < J.length then (2, []) else (0, l.map toP)) W) := fun W h => by
      have := MParts_any (bs J) s 20 W (by rw [bs_size]; unfold maxLen; omega) (by unfold maxLen; omega) (HL1.out W h)
      rw [bs_toList, hpb] at this
      exact this
    have hbz : (bs J).size = J.length := rfl
    generalize bs J = S at *
    have hl20 : l.length ≤ 20 := by have := (joinE_zero hE).2; rw [List.length_map] at this; exact this
    clear hj2 hE hpb hjl
    by_cases hlong : 4096 < J.length
    · have hps2 : ∀ W, Below w.heap.size w W → Calls Try.prog 18 #[.string S, .string s, .int .i64 20] W (PartsPost (2, []) W) := fun W h => by
        have := hps W h
        rw [if_pos hlong] at this
        exact this
      have HPS := Lib.hid hps2
      have d1 : decide ((4096 : Int) < (S.size : Int)) = true := decide_eq_true (by omega)
      clear hps hps2 hlong hbz
      go_wp2_with (go_at_call 17; apply Hid.out)
      unfold Hid
      refine HJ2.out.mono ?_
      rintro e w2 ⟨rfl, hb2⟩
      have hbw2 := HBW1.out.trans (hb2.mono HBW1.out.size)
      have HBW2 := Lib.hid hbw2
      clear hb2 HBW1 hbw2
      go_wp2_with (go_at_call 18; apply Hid.out)
      unfold Hid
      refine (HPS.out w2 HBW2.out).mono ?_
      rintro e w3 ⟨v, rfl, _, hb3⟩
      have hbw3 := HBW2.out.trans (hb3.mono HBW2.out.size)
      clear hb3 HBW2
      go_wp2_with fail
      go_ret
      exact ⟨rfl, hbw3⟩
    · have hps2 : ∀ W, Below w.heap.size w W → Calls Try.prog 18 #[.string S, .string s, .int .i64 20] W (PartsPost (0, l.map toP) W) := fun W h => by
        have := hps W h
        rw [if_neg hlong] at this
        exact this
      have HPS := Lib.hid hps2
      have d1 : decide ((4096 : Int) < (S.size : Int)) = false := decide_eq_false (by omega)
      clear hps hps2 hlong hbz
      go_wp2_with (go_at_call 17; apply Hid.out)
      unfold Hid
      refine HJ2.out.mono ?_
      rintro e w2 ⟨rfl, hb2⟩
      have hbw2 := HBW1.out.trans (hb2.mono HBW1.out.size)
      have HBW2 := Lib.hid hbw2
      clear hb2 HBW1 hbw2
      go_wp2_with (go_at_call 18; apply Hid.out)
      unfold Hid
      refine (HPS.out w2 HBW2.out).mono ?_
      rintro e w3 ⟨v, rfl, hO3, hb3⟩
      have hbw3 := HBW2.out.trans (hb3.mono HBW2.out.size)
      rw [show ((0 : Int), l.map toP).2 = l.map toP from rfl, pair_toP] at hO3
      obtain ⟨Am, cm, rfl, hSm⟩ := hO3.form
      have HEQ := Lib.hid (EqualA_yes l A Am c cm w3 (HA.out w3 hbw3).1 hSm (by omega))
      have HBW3 := Lib.hid hbw3
      clear hb3 HBW2 hO3 hSm hbw3
      go_wp2_with (go_at_call 19; apply Hid.out)
      unfold Hid
      refine HEQ.out.mono ?_
      rintro e w4 ⟨rfl, hb4⟩
      have hbw4 := HBW3.out.trans (hb4.mono HBW3.out.size)
      clear hb4
      go_wp2_with fail
      go_ret
      exact ⟨rfl, hbw4⟩
theorem multiBack_any (a : GArg) (s : ByteArray) (w : World) {v : Value} (x : ArgsArg w v a) (hb : bulkA a.l ≤ 1048576 ∧ a.l.length ≤ 1048576) (hs : s.size ≤ 1048576) (hlib : LibOk w) :
    Calls Try.prog 5 #[.slice a.A a.l.length a.c, .string s] w fun e w' => e = .returned (.bool true) ∧ Below w.heap.size w w' :=
  multiBack_walk a.l a.A a.c s w x.sl hb.1 hs hlib
end Go.Proofs.Ytchoenfclfafiaa
