/- The walks of HtmlDecode, HexEncode and HexDecode. -/
import Derived.Test.YtdbipccopijgeaaDoorEnt
namespace Go.Proofs.YtdbipccopijgeaaDoor
open Go.RowKit

def HtmlRel (s : ByteArray) (w : World) (v i : Value) (wr : World) : Prop :=
  ∃ (k : Nat) (acc : List UInt8), k ≤ s.size ∧ i = .int .i64 k ∧ acc.length ≤ k ∧ OwnB wr w.heap.size v acc ∧ htmlDecL s.data.toList = acc ++ htmlDecL (s.data.toList.drop k) ∧ Below w.heap.size w wr

theorem OwnB.below {w w' : World} {base : Nat} {v : Value} {l : List UInt8} (h : OwnB w base v l) (hb : Below w.heap.size w w') : OwnB w' base v l :=
  h.kept (row := none) ⟨hb.os, hb.tape, hb.output, hb.size, fun k hk _ => hb.block k hk⟩ (by cases hv : v.ownBlock <;> simp)

set_option maxRecDepth 100000 in
set_option maxHeartbeats 1600000 in
theorem HtmlDecode_any (s : ByteArray) (w : World) (hs : s.size ≤ 140737488351232) :
    Calls Tryd.prog 86 #[.string s] w (StrPost (bs (htmlDecL s.data.toList)) w) := by
  have hL : Hid (s.data.toList.length = s.size) := by unfold Hid; simp
  go_enter Tryd.func86, Tryd.ntmps86
  go_wp2_with fail
  go_loopw [3, 4] (fun v i wr => HtmlRel s w v i wr) (fun _ i _ => s.size - (intOf i).toNat)
  case atStart => exact ⟨0, [], Nat.zero_le _, rfl, Nat.le_refl _, OwnB.nil _ _, rfl, Below.refl _ _⟩
  case round =>
    obtain ⟨k, acc, hk, rfl, hacc, hown, hr, hbl⟩ := hrel
    have hbase := hbl.size
    have HR := Lib.hid hr
    clear hr
    by_cases hlt : k < s.size
    · have HD := Lib.hid (drop_cons s k hlt)
      have HU := Lib.hid (scan_cons htmlStep s[k] (s.data.toList.drop (k + 1)))
      have hcb := s[k].toNat_lt
      by_cases hb1 : s[k] = 38
      · have q1 : ((s[k].toNat : Int) == 38) = true := by rw [hb1]; decide
        have hx : (s.extract k s.size).data.toList = s.data.toList.drop k := Lib.extract_to_end s k
        have hxs : (s.extract k s.size).size = s.size - k := by rw [Lib.size_eq, hx]; simp
        obtain ⟨x, n, hE⟩ : ∃ x n, entL (s.data.toList.drop k) = (x, n) := ⟨_, _, rfl⟩
        have hle := entL_le (s.data.toList.drop k)
        rw [hE, List.length_drop, hL.out] at hle
        have hE2 : entL (38 :: s.data.toList.drop (k + 1)) = (x, n) := by rw [← hE, HD.out, hb1]
        have HX := Lib.hid hx
        have HXS := Lib.hid hxs
        have HE := Lib.hid hE
        simp only [] at hle
        by_cases hz : 0 < n
        · have HS : Hid (htmlStep s[k] (s.data.toList.drop (k + 1)) = ([x], n - 1)) := by unfold Hid htmlStep; rw [hE2, if_pos ⟨hb1, hz⟩]
          have hnz : (0 : Int) < n := by omega
          clear hx hxs hE hE2 hb1
          go_wp2_with (first | (go_at_call 107; refine (entity_any _ _ (by rw [HXS.out]; unfold maxLen; omega)).mono ?_; rintro e w1 ⟨rfl, hb1⟩; rw [HX.out, HE.out]) | (at_builtin; refine wpList_append_b rfl _ _ rfl w.heap.size _ acc rfl (by exact hown.below hb1) (by exact Nat.le_trans hbase hb1.size) _ [x] rfl 1 1 rfl rfl (by omega) ?_; intro v' w2 hown1 hb2 hbs1))
          exact ⟨⟨k + n, acc ++ [x], by omega, by go_num, by simp; omega, hown1, by rw [HR.out, HD.out]; unfold htmlDecL; rw [HU.out, HS.out, List.drop_drop, show k + 1 + (n - 1) = k + n by omega]; simp, (hbl.trans (hb1.mono hbase)).trans hb2⟩, by simp [intOf]; omega⟩
        · have HS : Hid (htmlStep s[k] (s.data.toList.drop (k + 1)) = ([s[k]], 0)) := by unfold Hid htmlStep; rw [hE2, if_neg (fun h => hz h.2)]
          have hn0 : n = 0 := by omega
          subst hn0
          clear hx hxs hE hE2 hb1
          go_wp2_with (first | (go_at_call 107; refine (entity_any _ _ (by rw [HXS.out]; unfold maxLen; omega)).mono ?_; rintro e w1 ⟨rfl, hb1⟩; rw [HX.out, HE.out]) | (at_builtin; refine wpList_append_b rfl _ _ rfl w.heap.size _ acc rfl (by exact hown.below hb1) (by exact Nat.le_trans hbase hb1.size) _ [s[k]] rfl 1 1 rfl rfl (by omega) ?_; intro v' w2 hown1 hb2 hbs1))
          exact ⟨⟨k + 1, acc ++ [s[k]], by omega, by go_num, by simp; omega, hown1, by rw [HR.out, HD.out]; unfold htmlDecL; rw [HU.out, HS.out]; simp, (hbl.trans (hb1.mono hbase)).trans hb2⟩, by simp [intOf]; omega⟩
      · have q1 : ((s[k].toNat : Int) == 38) = false := beq_eq_false_iff_ne.2 (fun h => hb1 (UInt8.toNat_inj.1 (by show s[k].toNat = 38; omega)))
        have HS : Hid (htmlStep s[k] (s.data.toList.drop (k + 1)) = ([s[k]], 0)) := by unfold Hid htmlStep; rw [if_neg (fun h => hb1 h.1)]
        clear hb1
        go_wp2_with (at_builtin; refine wpList_append_b rfl _ _ rfl w.heap.size _ acc rfl (by exact hown) (by exact hbase) _ [s[k]] rfl 1 1 rfl rfl (by omega) ?_; intro v' w1 hown1 hb1 hbs1)
        exact ⟨⟨k + 1, acc ++ [s[k]], by omega, by go_num, by simp; omega, hown1, by rw [HR.out, HD.out]; unfold htmlDecL; rw [HU.out, HS.out]; simp, hbl.trans hb1⟩, by simp [intOf]; omega⟩
    · have hcv := hown.string
      have HF : Hid (htmlDecL s.data.toList = acc) := by unfold Hid; rw [HR.out, List.drop_eq_nil_of_le (by rw [hL.out]; omega)]; unfold htmlDecL; rw [scan_nil, List.append_nil]
      clear hown
      go_wp2_with fail
      go_ret
      exact ⟨by rw [HF.out]; rfl, hbl⟩

/-! HexEncode: the drawn statement appends two digits. -/
def FlatRel (f : UInt8 → List UInt8) (s : ByteArray) (w : World) (v i : Value) (wr : World) : Prop :=
  ∃ k : Nat, k ≤ s.size ∧ i = .int .i64 k ∧ OwnB wr w.heap.size v ((s.data.toList.take k).flatMap f) ∧ Below w.heap.size w wr

def HexRel (s : ByteArray) (w : World) (v i : Value) (wr : World) : Prop :=
  ∃ (k : Nat) (acc : List UInt8), k ≤ s.size ∧ i = .int .i64 k ∧ acc.length ≤ k ∧ OwnB wr w.heap.size v acc ∧ hexDecL s.data.toList = (hexDecL (s.data.toList.drop k)).map (acc ++ ·) ∧ Below w.heap.size w wr

set_option maxRecDepth 100000 in
set_option maxHeartbeats 1600000 in
theorem HexDecode_any (s : ByteArray) (w : World) (hs : s.size ≤ 140737488351232) :
    Calls Tryd.prog 84 #[.string s] w (ResPost (strRes 4 (hexDecL s.data.toList)) w) := by
  have hL : Hid (s.data.toList.length = s.size) := by unfold Hid; simp
  go_enter Tryd.func84, Tryd.ntmps84
  go_wp2_with fail
  go_loopw [4, 5] (fun v i wr => HexRel s w v i wr) (fun _ i _ => s.size - (intOf i).toNat)
  case atStart => exact ⟨0, [], Nat.zero_le _, rfl, Nat.le_refl _, OwnB.nil _ _, by simp, Below.refl _ _⟩
  case round =>
    obtain ⟨k, acc, hk, rfl, hacc, hown, hr, hbl⟩ := hrel
    have hbase := hbl.size
    have HR := Lib.hid hr
    clear hr
    by_cases hlt : k < s.size
    · have hdl : 0 < (s.data.toList.drop k).length := by rw [List.length_drop, hL.out]; omega
      have hrg := pairI_range (s.data.toList.drop k)
      have HB := Lib.hid (hexDec_bad (s.data.toList.drop k) hdl)
      have HS := Lib.hid (hexDec_step (s.data.toList.drop k) hdl)
      obtain ⟨n, hn⟩ : ∃ n, pairI (s.data.toList.drop k) = n := ⟨_, rfl⟩
      rw [hn] at hrg HB HS
      have HN := Lib.hid hn
      obtain ⟨r1, r2, r3⟩ := hrg
      rw [List.length_drop, hL.out] at r3
      clear hn hdl
      by_cases h3 : n < 0
      · have HF := Lib.hid (HB.out h3)
        clear r3
        go_wp2_with (go_at_call 105; refine (pair_any _ _ (by omega) (by omega) _).mono ?_; rintro e w1 ⟨rfl, nq, rfl⟩; rw [Int.toNat_natCast, HN.out])
        go_ret2
        exact ⟨by rw [HR.out, HF.out]; rfl, below_drewN hbl _⟩
      · have h4 : 0 ≤ n := by omega
        have r4 := r3 h4
        have HF := Lib.hid (HS.out h3)
        have HW := Lib.hid (wrap_u8 n h4 r2)
        have hvs : Hid ([Value.int .u8 n] = [UInt8.ofNat n.toNat].map byteV) := by unfold Hid byteV; simp only [List.map_cons, List.map_nil]; rw [HW.out]
        clear r3 h3
        go_wp2_with (first | (go_at_call 105; refine (pair_any _ _ (by omega) (by omega) _).mono ?_; rintro e w1 ⟨rfl, nq, rfl⟩; rw [Int.toNat_natCast, HN.out]) | (at_builtin; refine wpList_append_b rfl _ _ rfl w.heap.size _ acc rfl (by exact hown.drewN _) (by exact hbase) _ [UInt8.ofNat n.toNat] hvs.out 1 1 rfl rfl (by omega) ?_; intro v' w1 hown1 hb1 hbs1))
        exact ⟨⟨k + 2, acc ++ [UInt8.ofNat n.toNat], by omega, by go_num, by simp; omega, hown1, by rw [HR.out, HF.out, List.drop_drop, Option.map_map]; congr 1; funext y; simp, (below_drewN hbl _).trans hb1⟩, by simp [intOf]; omega⟩
    · have hcv := hown.string
      have HF : Hid (hexDecL s.data.toList = some acc) := by unfold Hid; rw [HR.out, List.drop_eq_nil_of_le (by rw [hL.out]; omega), hexDec_nil]; simp
      clear hown
      go_wp2_with fail
      go_ret2
      exact ⟨by rw [HF.out]; rfl, hbl⟩

end Go.Proofs.YtdbipccopijgeaaDoor
