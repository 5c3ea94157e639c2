/- Part 29 of the proof: lemmas and walks that the last texts use. -/
import Derived.Test.YthfjmlcjkbgboaaGreatDoorM28
import Derived.Laws.Concat
import Derived.Deep.CutRange
namespace Go.Proofs.YthfjmlcjkbgboaaGreatDoor
open Go.RowKit
def NPrintPost (a : Nat) (b : Int) (w : World) (e : Ending) (w' : World) : Prop :=
  e = .returned (if netOk a b = true then .tuple #[.string (bs (netT a b)), .int .i64 0] else .tuple #[.string (ByteArray.mk #[]), .int .i64 1]) ∧ Below w.heap.size w w'
def octsL (a : Nat) : List ByteArray := [bs (decS (octN a 24)), bs (decS (octN a 16)), bs (decS (octN a 8)), bs (decS (octN a 0))]
def NPRel (a : Nat) (b : Int) (w W0 : World) (v i : Value) (wr : World) : Prop :=
  ∃ (k : Nat) (z : Int), k ≤ 4 ∧ z = 24 - 8 * (k : Int) ∧ i = .int .i64 z ∧ OwnS wr (w.heap.size + 1) v ((octsL a).take k) ∧ NetAt w.heap.size (a : Int) b wr ∧ Below (w.heap.size + 1) W0 wr
set_option maxRecDepth 100000 in
set_option maxHeartbeats 3200000 in
theorem NPrint_any (a : Nat) (b : Int) (w : World) (ha : a < 4294967296) (htab : TabOk w) :
    Calls Tryz.prog 109 #[.agg #[.int .u32 (a : Int), .int .i64 b]] w (NPrintPost a b w) := by
  obtain ⟨W0, hW0⟩ : ∃ W0, w.alloc (.cells #[.int .u32 (a : Int), .int .i64 b] 185) = W0 := ⟨_, rfl⟩
  have hr0 : NetAt w.heap.size (a : Int) b W0 := by rw [← hW0]; exact heap_alloc_new w _
  have hb0 : Below w.heap.size w W0 := by rw [← hW0]; exact (Below.refl _ _).alloc (Nat.le_refl _) _
  have hz0 : w.heap.size < W0.heap.size := by rw [← hW0]; simp
  have ht0 := htab.below hb0
  have HW0 := Lib.hid hW0
  have HT0 := Lib.hid ht0
  have HB0 := Lib.hid hb0
  have HNO : Hid (netOk a b = (decide (0 ≤ b) && decide (b ≤ 32) && (a % 2 ^ topN b == 0))) := rfl
  have HAN : Hid (bits .andNot .u32 (a : Int) (maskN b : Nat) = ((a % 2 ^ topN b : Nat) : Int)) := by
    unfold Hid
    rw [u32_andNot_nat a (maskN b) ha (maskN_lt b)]
    unfold maskN
    rw [andNot_mask _ _ (topN_le b)]
  have HERR : Hid (netOk a b = false → ∀ n, NPrintPost a b w (.returned (.tuple #[.string (ByteArray.mk #[]), .int .i64 1])) (W0.drewN n)) := fun h n => ⟨by rw [h]; rfl, below_drewN HB0.out n⟩
  have HTW := Lib.hid htab
  clear htab hW0 hb0 ht0
  have ⟨r0, r1⟩ := hr0.cells
  have hand := HAN.out
  by_cases c1 : b < 0
  · have d1 : decide (b < 0) = true := decide_eq_true c1
    have HP := Lib.hid (HERR.out (by rw [HNO.out, decide_eq_false (by omega)]; rfl))
    clear c1 HAN hand
    go_enter Tryz.func109, Tryz.ntmps109
    go_upto_region 1 with fail
    rw [HW0.out]
    go_quiet ((go_at_call 157; exact Calls.quiet_of_same (mask_any _ _)))
    go_wp2_with fail
    exact bodyPost_ret (v := .tuple #[.string (ByteArray.mk #[]), .int .i64 1]) (by simp [results, Tryz.results109, go_sem]) rfl (HP.out nq)
  · have d1 : decide (b < 0) = false := decide_eq_false c1
    by_cases c2 : 32 < b
    · have d2 : decide (32 < b) = true := decide_eq_true c2
      have HP := Lib.hid (HERR.out (by rw [HNO.out, decide_eq_false (by omega : ¬ b ≤ 32), Bool.and_false]; rfl))
      clear c1 c2 HAN hand
      go_enter Tryz.func109, Tryz.ntmps109
      go_upto_region 1 with fail
      rw [HW0.out]
      go_quiet ((go_at_call 157; exact Calls.quiet_of_same (mask_any _ _)))
      go_wp2_with fail
      exact bodyPost_ret (v := .tuple #[.string (ByteArray.mk #[]), .int .i64 1]) (by simp [results, Tryz.results109, go_sem]) rfl (HP.out nq)
    · have d2 : decide (32 < b) = false := decide_eq_false c2
      by_cases hz : a % 2 ^ topN b = 0
      rotate_left
      · have HP := Lib.hid (HERR.out (by rw [HNO.out, beq_eq_false_iff_ne.2 hz, Bool.and_false]))
        generalize a % 2 ^ topN b = z at *
        have e1 : ((z : Int) != 0) = true := by simp; omega
        clear c1 c2 HAN hz HNO
        go_enter Tryz.func109, Tryz.ntmps109
        go_upto_region 1 with fail
        rw [HW0.out]
        go_quiet ((go_at_call 157; exact Calls.quiet_of_same (mask_any _ _)))
        go_wp2_with fail
        exact bodyPost_ret (v := .tuple #[.string (ByteArray.mk #[]), .int .i64 1]) (by simp [results, Tryz.results109, go_sem]) rfl (HP.out nq)
      · have HOK : Hid (netOk a b = true) := by unfold Hid; rw [HNO.out, decide_eq_true (by omega), decide_eq_true (by omega), hz]; rfl
        rw [hz] at hand
        clear HAN hz HNO HERR
        go_enter Tryz.func109, Tryz.ntmps109
        go_upto_region 1 with fail
        rw [HW0.out]
        go_quiet ((go_at_call 157; exact Calls.quiet_of_same (mask_any _ _)))
        go_wp2_with fail
        have hr1 : NetAt w.heap.size (a : Int) b (W0.drewN nq) := hr0
        have hb1 : Below (w.heap.size + 1) W0 (W0.drewN nq) := below_drewN (Below.refl _ _) nq
        go_loopw [4, 5] (fun v i wr => NPRel a b w W0 v i wr) (fun _ i _ => (8 + intOf i).toNat)
        case atStart => exact ⟨0, 24, Nat.zero_le _, rfl, rfl, OwnS.nil _ _, hr1, hb1⟩
        case round =>
          obtain ⟨k, z, hk, hzk, rfl, hO, hA, hB⟩ := hrel
          have HA := Lib.hid ha
          clear hr1 hb1 hr0 hand r0 r1 ha
          have hbw : Below w.heap.size w wr := HB0.out.trans (hB.mono (Nat.le_succ _))
          have HI : Hid (∀ n : Nat, n < 256 → Calls Tryz.prog 62 #[.int .i64 (n : Int)] wr fun e w' => e = .returned (.string (bs (decS n))) ∧ Below wr.heap.size wr w') := fun n hn => itoa_any n wr (by omega) (HTW.out.below hbw)
          have hbase : w.heap.size + 1 ≤ wr.heap.size := Nat.le_trans hz0 hB.size
          have ⟨r0, r1⟩ := hA.cells
          obtain ⟨Ao, co, rfl, _⟩ := hO.form
          have hacl : ((octsL a).take k).length ≤ 4 := by rw [List.length_take]; omega
          by_cases hlt : k < 4
          · have h0z : 0 ≤ z := by omega
            have hz32 : z ≤ 32 := by omega
            have d3 : decide (0 ≤ z) = true := decide_eq_true h0z
            have i8 : IntKind.i64.wrap (z - 8) = z - 8 := IntWalk.i64_in _ (by omega)
            have ho := octN_lt a z.toNat
            have hbit : bits .and .u32 ((a : Int) / 2 ^ z.toNat) 255 = ((octN a z.toNat : Nat) : Int) := by
              have e : (a : Int) / 2 ^ z.toNat = ((a / 2 ^ z.toNat : Nat) : Int) := by push_cast; rfl
              have hle : a / 2 ^ z.toNat < 4294967296 := Nat.lt_of_le_of_lt (Nat.div_le_self _ _) HA.out
              rw [e, show (255 : Int) = ((255 : Nat) : Int) from rfl, u32_and_nat _ _ hle (by decide), show 255 = 2 ^ 8 - 1 from rfl, Nat.and_two_pow_sub_one_eq_mod]
              rfl
            have HNX : Hid ((octsL a).take (k + 1) = (octsL a).take k ++ [bs (decS (octN a z.toNat))]) := by
              unfold Hid
              obtain rfl | rfl | rfl | rfl : k = 0 ∨ k = 1 ∨ k = 2 ∨ k = 3 := by omega
              · obtain rfl : z = 24 := by omega
                rfl
              · obtain rfl : z = 16 := by omega
                rfl
              · obtain rfl : z = 8 := by omega
                rfl
              · obtain rfl : z = 0 := by omega
                rfl
            have HIT := Lib.hid (HI.out (octN a z.toNat) ho)
            have i9 : IntKind.i64.wrap ((octN a z.toNat : Nat) : Int) = ((octN a z.toNat : Nat) : Int) := IntWalk.i64_in _ (by omega)
            generalize octN a z.toNat = oc at *
            generalize (octsL a).take k = acc at *
            have HO := Lib.hid hO
            have HAH := Lib.hid hA
            have HBH := Lib.hid hB
            have HZK := Lib.hid hzk
            clear HI ho hA hO hB hzk
            go_wp2_with (first | (go_at_call 62; refine HIT.out.mono ?_; rintro e w2 ⟨rfl, hb2⟩; have hO2 := HO.out.below hb2; have hbase2 := Nat.le_trans hbase hb2.size) | (at_builtin; refine wpList_append_s rfl (.tmp 28) (.tmp 36) rfl (w.heap.size + 1) (.slice Ao acc.length co) acc rfl hO2 hbase2 _ [bs (decS oc)] rfl 1 1 rfl rfl (by omega) ?_; intro v5 w5 hO5 hb5 hk5 hz5))
            have hb25 : Below (w.heap.size + 1) wr w5 := (hb2.mono hbase).trans hb5
            exact ⟨⟨k + 1, z - 8, by omega, by have := HZK.out; omega, rfl, by rw [HNX.out]; exact hO5, HAH.out.below hb25 (Nat.lt_succ_self _), HBH.out.trans hb25⟩, by dsimp only [intOf]; omega⟩
          · obtain rfl : k = 4 := by omega
            obtain rfl : z = -8 := by omega
            have HDL : ∀ i, (decS (octN a i)).length ≤ 6 := fun i => (dec_len 5 (octN a i) (by have := octN_lt a i; omega)).2
            have HAL : (addrT a).length ≤ 30 := by
              unfold addrT
              rw [join_four]
              have h1 := HDL 24
              have h2 := HDL 16
              have h3 := HDL 8
              have h4 := HDL 0
              simp only [List.length_append, List.length_cons]
              omega
            have hSo := hO.sl
            have htk : (octsL a).take 4 = octsL a := rfl
            rw [htk] at hO hSo
            obtain ⟨bo, oo, rfl, hbo, hco⟩ := hSo.src (by rw [List.length_map]; show 0 < 4; decide)
            have hcap : (octsL a).length ≤ co := by
              rcases hO.2 with ⟨e, _⟩ | ⟨_, _, _, e, _, _, h9, _⟩
              · cases e
              · injection e with _ _ e; rw [e]; exact h9
            have hxs : Lib.join ((octsL a).map (·.data.toList)) [46] = addrT a := rfl
            have hj := Tryz.strings_Join bo oo co (octsL a) ⟨#[46]⟩ wr (fun j x hx => by
              have hjl : j < ((octsL a).map Value.string).length := by rw [List.length_map]; exact (List.getElem?_eq_some_iff.1 hx).1
              rw [hco j hjl, List.getElem_map]
              obtain ⟨h9, h10⟩ := List.getElem?_eq_some_iff.1 hx
              rw [h10]) hbo (by show 4 ≤ _; decide) hcap (by show (Lib.join ((octsL a).map (·.data.toList)) [46]).length ≤ _; rw [hxs]; omega)
            rw [show (ByteArray.mk #[46]).data.toList = [46] from rfl, hxs, show ByteArray.mk (addrT a).toArray = bs (addrT a) from rfl] at hj
            obtain ⟨n4, hn4⟩ : ∃ n4, n4 = (octsL a).length := ⟨_, rfl⟩
            rw [htk, ← hn4]
            rw [← hn4] at hj
            have HJN := Lib.hid hj
            have HBH := Lib.hid hbw
            have HAH := Lib.hid hA
            have hzA : (bs (addrT a)).size ≤ 30 := by rw [bs_size]; exact HAL
            clear hj hO hSo hco hcap hxs HDL HAL HI hB hA hzk htk hn4
            by_cases c3 : b < 32
            · have d4 : decide (b < 32) = true := decide_eq_true c3
              obtain ⟨n, rfl⟩ : ∃ n : Nat, b = (n : Int) := ⟨b.toNat, by omega⟩
              have HNT : Hid (bs (netT a (n : Int)) = bs (addrT a) ++ (ByteArray.mk #[47] ++ bs (decS n))) := by
                unfold Hid netT
                rw [if_pos c3, Int.toNat_natCast]
                apply ByteArray.ext
                simp [bs]
              have hzD : (bs (decS n)).size ≤ 6 := by rw [bs_size]; exact (dec_len 5 n (by omega)).2
              have HIT : Hid (∀ W, Below w.heap.size w W → Calls Tryz.prog 62 #[.int .i64 (n : Int)] W fun e w' => e = .returned (.string (bs (decS n))) ∧ Below W.heap.size W w') := fun W hb => itoa_any n W (by omega) (HTW.out.below hb)
              have s1 : (1 : Nat) + (bs (decS n)).size ≤ 9223372036854775807 := by omega
              have s2 : (bs (addrT a)).size + (1 + (bs (decS n)).size) ≤ 9223372036854775807 := by omega
              generalize bs (addrT a) = AT at *
              generalize bs (decS n) = DT at *
              clear c1 c2 c3
              go_wp2_with (first | (go_at_call 119; refine HJN.out.mono ?_; rintro e w5 ⟨rfl, hb5⟩; have hb6 : Below w.heap.size w w5 := HBH.out.trans (hb5.mono HBH.out.size); have hA5 := HAH.out.below hb5 hbase; have ⟨q0, q1⟩ := hA5.cells) | (go_at_call 62; refine (HIT.out _ hb6).mono ?_; rintro e w7 ⟨rfl, hb7⟩))
              exact bodyPost_ret (v := .tuple #[.string (AT ++ (ByteArray.mk #[47] ++ DT)), .int .i64 0]) (by simp [results, Tryz.results109, go_sem]) rfl ⟨by rw [HOK.out, if_pos rfl, HNT.out], hb6.trans (hb7.mono hb6.size)⟩
            · have d4 : decide (b < 32) = false := decide_eq_false c3
              have HNT : Hid (bs (netT a b) = bs (addrT a)) := by unfold Hid netT; rw [if_neg c3]
              generalize bs (addrT a) = AT at *
              clear c1 c2 c3
              go_wp2_with (go_at_call 119; refine HJN.out.mono ?_; rintro e w5 ⟨rfl, hb5⟩; have hb6 : Below w.heap.size w w5 := HBH.out.trans (hb5.mono HBH.out.size); have hA5 := HAH.out.below hb5 hbase; have ⟨q0, q1⟩ := hA5.cells)
              exact bodyPost_ret (v := .tuple #[.string AT, .int .i64 0]) (by simp [results, Tryz.results109, go_sem]) rfl ⟨by rw [HOK.out, if_pos rfl, HNT.out], hb6⟩
end Go.Proofs.YthfjmlcjkbgboaaGreatDoor
namespace Go.Proofs.YthfjmlcjkbgboaaGreatDoor
open Go.RowKit
def netsE : List (List UInt8) → Int
  | [] => 0
  | x :: r => match netP x with
    | .ok _ => netsE r
    | .error e => e
def netsV : List (List UInt8) → List PairN
  | [] => []
  | x :: r => match netP x with
    | .ok p => ((p.1 : Int), p.2) :: netsV r
    | .error _ => netsV r
theorem netsE_bad : ∀ (ps : List (List UInt8)) (k : Nat) (hk : k < ps.length) (e : Int), netsE (ps.take k) = 0 → netP ps[k] = .error e → netsE ps = e
  | [], _, hk, _, _, _ => absurd hk (by simp)
  | x :: r, 0, _, e, _, h => by
    have h' : netP x = .error e := h
    rw [netsE, h']
  | x :: r, k + 1, hk, e, h0, h => by
    rw [List.take_succ_cons, netsE] at h0
    rw [netsE]
    cases hx : netP x with
    | ok p => rw [hx] at h0; exact netsE_bad r k (by simpa using hk) e h0 h
    | error e' =>
      rw [hx] at h0
      dsimp only at h0; rcases netP_err hx with h1 | h1 <;> omega
theorem netsE_next : ∀ (ps : List (List UInt8)) (k : Nat) (hk : k < ps.length) (p : Nat × Int), netsE (ps.take k) = 0 → netP ps[k] = .ok p → netsE (ps.take (k + 1)) = 0 ∧ netsV (ps.take (k + 1)) = netsV (ps.take k) ++ [((p.1 : Int), p.2)]
  | [], _, hk, _, _, _ => absurd hk (by simp)
  | x :: r, 0, _, p, _, h => by
    have h' : netP x = .ok p := h
    have e : (x :: r).take 1 = [x] := rfl
    rw [e, netsE, netsV, h']
    exact ⟨rfl, rfl⟩
  | x :: r, k + 1, hk, p, h0, h => by
    rw [List.take_succ_cons, netsE] at h0
    rw [List.take_succ_cons, List.take_succ_cons, netsE, netsV, netsV]
    cases hx : netP x with
    | ok q =>
      rw [hx] at h0
      obtain ⟨h1, h2⟩ := netsE_next r k (by simpa using hk) p h0 h
      exact ⟨h1, by dsimp only; rw [h2]; rfl⟩
    | error e' =>
      rw [hx] at h0
      dsimp only at h0; rcases netP_err hx with h1 | h1 <;> omega
def netsC (s : List UInt8) : Int := if 30 < (splL 44 s).length then 2 else netsE (splL 44 s)
def NListPost (s : List UInt8) (w : World) (e : Ending) (w' : World) : Prop :=
  ∃ v, e = .returned (.tuple #[v, .int .i64 (netsC s)]) ∧ (netsC s = 0 → OwnN w' w.heap.size v (netsV (splL 44 s))) ∧ (netsC s ≠ 0 → v = .slice none 0 0) ∧ Below w.heap.size w w'
def NqRel (ps : List (List UInt8)) (w w1 : World) (v i : Value) (wr : World) : Prop :=
  ∃ k : Nat, k ≤ ps.length ∧ i = .int .i64 k ∧ Hid (netsE (ps.take k) = 0 ∧ (netsV (ps.take k)).length ≤ 30) ∧ OwnN wr (w.heap.size + 1) v (netsV (ps.take k)) ∧ Below (w.heap.size + 1) w1 wr
theorem netsV_len : ∀ ps : List (List UInt8), (netsV ps).length ≤ ps.length
  | [] => Nat.le_refl _
  | x :: r => by
    have := netsV_len r
    rw [netsV]
    split
    · simpa using this
    · rw [List.length_cons]; omega
set_option maxRecDepth 100000 in
set_option maxHeartbeats 1600000 in
theorem NList_any (s : ByteArray) (w : World) (hs : s.size ≤ 4194304) (hlib : LibOk w) :
    Calls Tryz.prog 144 #[.string s] w (NListPost s.data.toList w) := by
  have HLIB : Hid (∀ W, Below w.heap.size w W → LibOk W) := fun W hb => hlib.below hb
  obtain ⟨m0, hm0⟩ := hlib
  have hlp : 0 < w.heap.size := World.block_lt_of_cell? w _ hm0
  have hsp := Tryz.strings_Split s ⟨#[44]⟩ m0 w (by omega) hm0 (by decide)
  have hps := split_one 44 s
  have hpl := Lib.splitB_all ⟨#[44]⟩ (by decide) 0 _ s rfl
  have hsm := splL_piece 44 s.data.toList
  have hsl : s.data.toList.length = s.size := by simp
  generalize Lib.splitB ⟨#[44]⟩ 0 (Lib.countB s ⟨#[44]⟩) s = ps at hsp hps hpl
  generalize Lib.countB s ⟨#[44]⟩ = n at hsp hpl
  rw [← hpl] at hsp
  have hplen : (splL 44 s.data.toList).length = ps.length := by rw [← hps, List.length_map]
  have hpe : ∀ j (h : j < ps.length) (h2 : j < (splL 44 s.data.toList).length), (splL 44 s.data.toList)[j] = ps[j].data.toList ∧ ps[j].size ≤ 4194304 := fun j h h2 => by
    have e : (splL 44 s.data.toList)[j] = ps[j].data.toList := by simp [← hps]
    refine ⟨e, ?_⟩
    have h3 := hsm _ (List.getElem_mem h2)
    rw [e] at h3
    simp at h3
    omega
  obtain ⟨W1, hW1⟩ : ∃ W1, w.alloc (.cells (ps.map Value.string).toArray 9) = W1 := ⟨_, rfl⟩
  have hcl : ∀ W, Below (w.heap.size + 1) W1 W → ∀ j (h : j < ps.length), W.cell? ⟨w.heap.size, j, none⟩ = some (.string ps[j]) := fun W hb j h => by
    have hb' : Below (w.alloc (.cells (ps.map Value.string).toArray 9)).heap.size (w.alloc (.cells (ps.map Value.string).toArray 9)) W := by rw [← hW1] at hb; simpa using hb
    rw [new_cell hb' j]
    simp [h]
  have hz1 : w.heap.size + 1 ≤ W1.heap.size := by rw [← hW1]; simp
  have hbw1 : Below w.heap.size w W1 := by rw [← hW1]; exact (Below.refl _ _).alloc (Nat.le_refl _) _
  have hsp2 : Calls Tryz.prog 118 #[.string s, .string ⟨#[44]⟩] w fun e w' => e = .returned (.slice (some ⟨w.heap.size, 0, none⟩) ps.length ps.length) ∧ w' = W1 := by rw [← hW1]; exact hsp
  have HSP := Lib.hid hsp2
  have HCL := Lib.hid hcl
  have HBW1 := Lib.hid hbw1
  have HPE := Lib.hid hpe
  have HPOST : Hid (∀ (v : Value) (code : Int) (W : World), code = (if 30 < (splL 44 s.data.toList).length then 2 else netsE (splL 44 s.data.toList)) → (code = 0 → OwnN W w.heap.size v (netsV (splL 44 s.data.toList))) → (code ≠ 0 → v = .slice none 0 0) → Below w.heap.size w W → NListPost s.data.toList w (.returned (.tuple #[v, .int .i64 code])) W) := Lib.hid fun v code W h1 h2 h3 h4 => by
    have e : netsC s.data.toList = code := h1.symm
    unfold NListPost
    rw [e]
    exact ⟨v, rfl, h2, h3, h4⟩
  rw [hplen] at HPOST
  generalize NListPost s.data.toList w = P at *
  generalize splL 44 s.data.toList = qs at *
  clear hsp hsp2 hps hpl hcl hbw1 hpe hW1 hm0 hsm hsl
  by_cases h30 : 30 < ps.length
  · rw [if_pos h30] at HPOST
    have d1 : decide (30 < (ps.length : Int)) = true := by simp; omega
    clear HCL HPE
    go_enter Tryz.func144, Tryz.ntmps144
    go_wp2_with (go_at_call 118; refine HSP.out.mono ?_; rintro e w1 ⟨rfl, hw1⟩; rw [hw1])
    exact HPOST.out _ _ _ rfl (fun e => absurd e (by decide)) (fun _ => rfl) HBW1.out
  · rw [if_neg h30] at HPOST
    have d1 : decide (30 < (ps.length : Int)) = false := by simp; omega
    have HQ := Lib.hid hplen
    go_enter Tryz.func144, Tryz.ntmps144
    go_wp2_with (go_at_call 118; refine HSP.out.mono ?_; rintro e w1 ⟨rfl, hw1⟩; rw [hw1])
    clear hplen
    go_loopw [5, 17] (fun v i wr => NqRel qs w W1 v i wr) (fun _ i _ => ps.length - (intOf i).toNat)
    case atStart => exact ⟨0, Nat.zero_le _, rfl, ⟨rfl, Nat.zero_le _⟩, OwnN.nil _ _, Below.refl _ _⟩
    case round =>
      obtain ⟨k, hk, rfl, hE, hO, hB⟩ := hrel
      rw [HQ.out] at hk
      have hbase : w.heap.size + 1 ≤ wr.heap.size := Nat.le_trans hz1 hB.size
      have hBW : Below w.heap.size w wr := HBW1.out.trans (hB.mono (Nat.le_succ _))
      obtain ⟨Ao, co, rfl, _⟩ := hO.form
      have hkl := hE.out.2
      by_cases hlt : k < ps.length
      · have d2 : decide ((k : Int) < (ps.length : Int)) = true := by simp; omega
        have i7 : IntKind.i64.wrap ((k : Int) + 1) = (k : Int) + 1 := IntWalk.i64_in _ (by omega)
        have hc := HCL.out wr hB k hlt
        obtain ⟨hpe, hpz⟩ := HPE.out k hlt (by rw [HQ.out]; exact hlt)
        have hpa := NParse_any ps[k] wr (HLIB.out wr hBW) hpz
        unfold NParsePost at hpa
        rw [← hpe] at hpa
        cases hn : netP (qs[k]'(by rw [HQ.out]; exact hlt)) with
        | error e0 =>
          have he := netsE_bad qs k (by rw [HQ.out]; exact hlt) e0 hE.out.1 hn
          have he0 := netP_err hn
          rw [hn] at hpa
          have HPW := Lib.hid hpa
          have HE0 := Lib.hid he.symm
          have HBH := Lib.hid hBW
          have hne : (e0 == 0) = false := beq_eq_false_iff_ne.2 (by omega)
          generalize ps[k] = x at *
          clear hO hB hBW hpa hn he hpe HPE HCL hE
          go_wp2_with (first | (go_at_call 191; refine HPW.out.mono ?_; rintro e w2 ⟨rfl, hb2⟩; unfold netV))
          exact HPOST.out _ _ _ HE0.out (fun e => by omega) (fun _ => rfl) ((HBH.out.trans (hb2.mono HBH.out.size)).alloc (HBH.out.trans (hb2.mono HBH.out.size)).size _)
        | ok p =>
          obtain ⟨h1, h2⟩ := netsE_next qs k (by rw [HQ.out]; exact hlt) p hE.out.1 hn
          rw [hn] at hpa
          have HPW := Lib.hid hpa
          have hlen := netsV_len (qs.take (k + 1))
          have hlen2 : (qs.take (k + 1)).length ≤ ps.length := by rw [List.length_take, HQ.out]; omega
          have HNX : Hid (netsE (qs.take (k + 1)) = 0 ∧ (netsV (qs.take (k + 1))).length ≤ 30) := ⟨h1, by omega⟩
          have HNV := Lib.hid h2
          obtain ⟨a, b⟩ := p
          generalize netsV (qs.take k) = acc at *
          generalize ps[k] = x at *
          have HO := Lib.hid hO
          have HBH := Lib.hid hB
          clear hO hB hBW hpa hn h1 h2 hlen hlen2 hpe HPE HCL hE
          go_wp2_with (first | (go_at_call 191; refine HPW.out.mono ?_; rintro e w2 ⟨rfl, hb2⟩; unfold netV; have hO2 := fun o => HO.out.below (hb2.alloc hb2.size o); have hz2 : ∀ o, w.heap.size + 1 ≤ (w2.alloc o).heap.size := fun o => by rw [World.size_alloc]; exact Nat.le_succ_of_le (Nat.le_trans hbase hb2.size)) | (at_builtin; refine wpList_append_n rfl (.tmp 29) (.tmp 31) rfl (w.heap.size + 1) (.slice Ao acc.length co) acc rfl (by exact hO2 _) (by exact hz2 _) _ ((a : Int), b) rfl (w2.heap.size + 1) (by rw [World.size_alloc]) 1 rfl (by omega) ?_; intro v5 w5 hO5 hb5 hk5 hz5))
          have hb25 : Below (w.heap.size + 1) wr w5 := ((hb2.mono hbase).trans ((Below.refl _ _).alloc (Nat.le_trans hbase hb2.size) _)).trans hb5
          exact ⟨⟨k + 1, by rw [HQ.out]; omega, rfl, HNX, by rw [HNV.out]; exact hO5, HBH.out.trans hb25⟩, by dsimp only [intOf]; omega⟩
      · have hkk : k = ps.length := by omega
        subst hkk
        have htk : qs.take ps.length = qs := List.take_of_length_le (Nat.le_of_eq HQ.out)
        rw [htk] at hE hO
        have HO := Lib.hid (hO.low (Nat.le_succ _))
        have HBH := Lib.hid hBW
        have HE := Lib.hid hE.out.1
        rw [htk]
        have HPP : Hid (∀ W, OwnN W w.heap.size (.slice Ao (netsV qs).length co) (netsV qs) → Below w.heap.size w W → P (.returned (.tuple #[.slice Ao (netsV qs).length co, .int .i64 0])) W) := Lib.hid fun W h1 h2 => HPOST.out _ 0 W HE.out.symm (fun _ => h1) (fun e => absurd rfl e) h2
        clear HPOST
        generalize netsV qs = acc at *
        clear hO hB hBW hE HPE HCL
        go_wp2_with fail
        exact HPP.out _ HO.out HBH.out
end Go.Proofs.YthfjmlcjkbgboaaGreatDoor
