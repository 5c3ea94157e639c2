/- The walk of Unquote. -/
import Derived.Test.YtnhlkjalmcldpaaDoorUnq
import Derived.Test.YtnhlkjalmcldpaaDoorUnqM
namespace Go.Proofs.YtnhlkjalmcldpaaDoor
open Go.RowKit

def strRes (c : Int) (o : Option (List UInt8)) : Value := match o with
  | some l => .tuple #[.string (bs l), .int .i64 0]
  | none => .tuple #[.string (bs []), .int .i64 c]
def ResPost (v : Value) (w : World) (e : Ending) (w' : World) : Prop := e = .returned v ∧ Below w.heap.size w w'
theorem below_drewN {B : Nat} {a w : World} (h : Below B a w) (n : Nat) : Below B a (w.drewN n) := ⟨h.os, h.tape, h.output, h.size, h.block⟩
theorem OwnB.drewN {w : World} {base : Nat} {v : Value} {l : List UInt8} (h : OwnB w base v l) (n : Nat) : OwnB (w.drewN n) base v l := h

def UnqRel (s : ByteArray) (w : World) (v i : Value) (wr : World) : Prop :=
  ∃ (k : Nat) (acc : List UInt8), k ≤ s.size ∧ i = .int .i64 k ∧ acc.length ≤ k ∧ OwnB wr w.heap.size v acc ∧ unqAt s.data.toList = (unqAt (s.data.toList.drop k)).map (acc ++ ·) ∧ Below w.heap.size w wr

set_option maxRecDepth 100000 in
set_option maxHeartbeats 1600000 in
theorem Unquote_any (s : ByteArray) (w : World) (hs : s.size ≤ 140737488351232) :
    Calls Tryd.prog 29 #[.string s] w (ResPost (strRes 3 (unquoteL s.data.toList)) w) := by
  have hL : Hid (s.data.toList.length = s.size) := by unfold Hid; simp
  by_cases h1 : s.data.toList = [45]
  · have hs0 : s = bs [45] := ext_bs h1
    subst hs0
    go_enter Tryd.func29, Tryd.ntmps29
    go_wp2_with fail
    go_ret2
    exact ⟨rfl, Below.refl _ _⟩
  by_cases h0 : s.data.toList = []
  · have hs0 : s = ByteArray.empty := ext_bs h0
    subst hs0
    go_enter Tryd.func29, Tryd.ntmps29
    go_wp2_with fail
    go_ret2
    exact ⟨rfl, Below.refl _ _⟩
  have HQ : Hid (unquoteL s.data.toList = unqAt s.data.toList) := by unfold Hid unquoteL; rw [if_neg h1, if_neg h0]
  have g0 : (s.toList == []) = false := by rw [Lib.toList_data]; exact beq_eq_false_iff_ne.2 h0
  have g1 : (s.toList == [45]) = false := by rw [Lib.toList_data]; exact beq_eq_false_iff_ne.2 h1
  have g2 : s.toList.isEmpty = false := by rw [Lib.toList_data]; cases h : s.data.toList with | nil => exact absurd h h0 | cons _ _ => rfl
  clear h0 h1
  go_enter Tryd.func29, Tryd.ntmps29
  go_wp2_with fail
  go_loopw [4, 5] (fun v i wr => UnqRel s w v i wr) (fun _ i _ => s.size - (intOf i).toNat)
  case atStart => exact ⟨0, [], Nat.zero_le _, rfl, Nat.le_refl _, OwnB.nil _ _, by simp, Below.refl _ _⟩
  case round =>
    obtain ⟨k, acc, hk, rfl, hacc, hown, hr, hbl⟩ := hrel
    have hbase := hbl.size
    have HR := Lib.hid hr
    clear hr
    by_cases hlt : k < s.size
    · have HD := Lib.hid (drop_cons s k hlt)
      have HU := Lib.hid (unqAt_cons s[k] (s.data.toList.drop (k + 1)))
      have hcb := s[k].toNat_lt
      by_cases hb : s[k] = 92
      · have q1 : ((s[k].toNat : Int) == 92) = true := by rw [hb]; decide
        have HB := Lib.hid hb
        clear hb
        have hx : (s.extract (k + 1) s.size).data.toList = s.data.toList.drop (k + 1) := Lib.extract_to_end s (k + 1)
        have hxs : (s.extract (k + 1) s.size).size = s.size - (k + 1) := by rw [Lib.size_eq, hx]; simp
        have HX := Lib.hid hx
        have HXS := Lib.hid hxs
        have hle := escL_le (s.data.toList.drop (k + 1))
        rw [List.length_drop, hL.out] at hle
        clear hx hxs
        obtain ⟨x, n, hE⟩ : ∃ x n, escL (s.data.toList.drop (k + 1)) = (x, n) := ⟨_, _, rfl⟩
        have hU0 : unqAt (s[k] :: s.data.toList.drop (k + 1)) = if n = 0 then none else (unqAt ((s.data.toList.drop (k + 1)).drop n)).map (x :: ·) := by
          rw [HU.out, if_pos HB.out, hE]
        rw [hE] at hle
        have HE := Lib.hid hE
        have HU0 := Lib.hid hU0
        clear hE hU0
        simp only [] at hle
        by_cases hz : n = 0
        · have HU1 := Lib.hid (HU0.out.trans (if_pos hz))
          subst hz
          go_wp2_with (go_at_call 46; refine (escaped_any _ _ (by rw [HXS.out]; unfold maxLen; omega)).mono ?_; rintro e w1 ⟨rfl, nq, rfl⟩; rw [HX.out, HE.out])
          go_ret2
          exact ⟨by rw [HQ.out, HR.out, HD.out, HU1.out]; rfl, below_drewN hbl _⟩
        · have hnz : ((n : Int) == 0) = false := beq_eq_false_iff_ne.2 (by omega)
          have HU2 := Lib.hid (HU0.out.trans (if_neg hz))
          clear hz
          go_wp2_with (first | (go_at_call 46; refine (escaped_any _ _ (by rw [HXS.out]; unfold maxLen; omega)).mono ?_; rintro e w1 ⟨rfl, nq, rfl⟩; rw [HX.out, HE.out]) | (at_builtin; refine wpList_append_b rfl _ _ rfl w.heap.size _ acc rfl (by exact hown.drewN _) (by exact hbase) _ [x] rfl 1 1 rfl rfl (by omega) ?_; intro v' w1 hown1 hb1 hbs1))
          exact ⟨⟨k + 1 + n, acc ++ [x], by omega, by congr 1; omega, by simp; omega, hown1, by rw [HR.out, HD.out, HU2.out, List.drop_drop, Option.map_map]; congr 1; funext y; simp, (below_drewN hbl _).trans hb1⟩, by simp [intOf]; omega⟩
      · have q1 : ((s[k].toNat : Int) == 92) = false := beq_eq_false_iff_ne.2 (fun h => hb (UInt8.toNat_inj.1 (by show s[k].toNat = 92; omega)))
        by_cases hr : s[k] < 33 ∨ 126 < s[k]
        · have HU2 := Lib.hid (HU.out.trans ((if_neg hb).trans (if_pos hr)))
          have hr' : (s[k].toNat : Int) < 33 ∨ 126 < (s[k].toNat : Int) := by
            rcases hr with h | h
            · left; have : s[k].toNat < 33 := h; omega
            · right; have : 126 < s[k].toNat := h; omega
          clear hr hb
          rcases hr' with hr | hr
          all_goals
            go_wp2_with fail
            go_ret2
            exact ⟨by rw [HQ.out, HR.out, HD.out, HU2.out]; rfl, hbl⟩
        · have HU2 := Lib.hid (HU.out.trans ((if_neg hb).trans (if_neg hr)))
          obtain ⟨r1, r2⟩ := not_or.1 hr
          have r3 : 33 ≤ (s[k].toNat : Int) := by have : ¬ s[k].toNat < 33 := r1; omega
          have r4 : (s[k].toNat : Int) ≤ 126 := by have : ¬ 126 < s[k].toNat := r2; omega
          clear hr hb r1 r2
          go_wp2_with (at_builtin; refine wpList_append_b rfl _ _ rfl w.heap.size _ _ rfl hown hbase _ [s[k]] rfl 1 1 rfl rfl (by omega) ?_; intro v' w1 hown1 hb1 hbs1)
          exact ⟨⟨k + 1, acc ++ [s[k]], by omega, by go_num, by simp; omega, hown1, by rw [HR.out, HD.out, HU2.out, Option.map_map]; congr 1; funext y; simp, hbl.trans hb1⟩, by simp [intOf]; omega⟩
    · have hcv := hown.string
      have HF : Hid (unqAt s.data.toList = some acc) := by unfold Hid; rw [HR.out, List.drop_eq_nil_of_le (by rw [hL.out]; omega), unqAt_nil]; simp
      clear hown
      go_wp2_with fail
      go_ret2
      exact ⟨by rw [HQ.out, HF.out]; rfl, hbl⟩

end Go.Proofs.YtnhlkjalmcldpaaDoor
