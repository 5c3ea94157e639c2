/- Part 5 of the proof: lemmas and walks that the last texts use. -/
import Derived.Test.YtdkbfljhfhjofaaGreatDoorM01
import Derived.Test.YtdkbfljhfhjofaaGreatDoorM04
import Derived.Deep.QuietTactic
import Derived.BigQuiet
import Derived.Laws.BitsAllLaws
import Derived.Laws.BitsLemmas
import Derived.Lib.Join
namespace Go.Proofs.YtdkbfljhfhjofaaGreatDoor
open Go.RowKit
theorem list_getD1 (s : ByteArray) (k : Nat) (hk : k + 1 < s.size) : (s.data.toList.drop 1).getD k 0 = s[k + 1] := by
  rw [List.getD_eq_getElem?_getD, List.getElem?_drop, Nat.add_comm 1 k, Lib.data_getElem? s (k + 1) hk]; rfl
theorem IndexByte_any (t : ByteArray) (b : UInt8) (W : World) : Calls Tryz.prog 86 #[.string t, .int .u8 b.toNat] W fun e w' => e = .returned (.int .i64 (Lib.indexByte t.data.toList b)) ∧ w' = W := by
  have := Tryz.strings_IndexByte t b.toNat W
  rw [toUInt8_back] at this; exact this
theorem or_hex (a b : Int) (ha : 0 ≤ a) (ha' : a ≤ 15) (hb : 0 ≤ b) (hb' : b ≤ 15) : bits .or .i64 (a * 16) b = a * 16 + b := by
  obtain ⟨a, rfl⟩ := Int.eq_ofNat_of_zero_le ha
  obtain ⟨b, rfl⟩ := Int.eq_ofNat_of_zero_le hb
  have key : ((List.range 16).all fun x => (List.range 16).all fun y => decide (bits .or .i64 ((x : Int) * 16) (y : Int) = (x : Int) * 16 + (y : Int))) = true := by decide +kernel
  have h1 := List.all_eq_true.1 key a (List.mem_range.2 (by omega))
  exact of_decide_eq_true (List.all_eq_true.1 h1 b (List.mem_range.2 (by omega)))
set_option maxRecDepth 100000 in
set_option maxHeartbeats 1600000 in
theorem escaped_any (s : ByteArray) (w : World) (hs : s.size ≤ maxLen) :
    Calls Tryz.prog 101 #[.string s] w fun e w' => e = .returned (.tuple #[.int .u8 ((escL s.data.toList).1.toNat : Int), .int .i64 ((escL s.data.toList).2 : Int)]) ∧ ∃ n, w' = w.drewN n := by
  unfold maxLen at hs
  by_cases h0 : s.size = 0
  · have hs0 : s = ByteArray.empty := by
      have : s.data.toList = [] := List.eq_nil_of_length_eq_zero (by rw [← Lib.size_eq]; exact h0)
      exact ext_bs this
    subst hs0
    go_enter Tryz.func101, Tryz.ntmps101
    go_wp2_with fail
    go_ret2
    exact ⟨rfl, 0, rfl⟩
  have hpos : 0 < s.size := by omega
  have hne : (s.toList == []) = false := by
    rw [Lib.toList_data]; exact beq_eq_false_iff_ne.2 (fun h => h0 (by rw [Lib.size_eq, h]; rfl))
  have hem : s.toList.isEmpty = false := by
    rw [Lib.toList_data]; cases h : s.data.toList with
    | nil => exact absurd (show s.size = 0 by rw [Lib.size_eq, h]; rfl) h0
    | cons _ _ => rfl
  have HD : Hid (s.data.toList = s[0] :: s.data.toList.drop 1) := by
    have := drop_cons s 0 hpos
    rw [List.drop_zero] at this; exact this
  have HLEN : Hid ((s.data.toList.drop 1).length = s.size - 1) := by unfold Hid; simp
  have HES : Hid ((ByteArray.mk #[110, 114, 116, 115, 92, 45]).data.toList = es) := rfl
  have HHT : Hid ((ByteArray.mk #[48, 49, 50, 51, 52, 53, 54, 55, 56, 57, 97, 98, 99, 100, 101, 102]).data.toList = hexT) := rfl
  clear h0
  rcases es_cases s[0] with ⟨hi, hb⟩ | ⟨hi, hb⟩ | ⟨hi, hb⟩ | ⟨hi, hb⟩ | ⟨hi, hb⟩ | ⟨hi, hb⟩ | ⟨hi, hb⟩
  iterate 6
    rotate_left 0
    · have HI := Lib.hid hi
      have HR : Hid (escL s.data.toList = escL (s[0] :: s.data.toList.drop 1)) := by unfold Hid; rw [← HD.out]
      have HB := Lib.hid hb
      clear hi hb
      go_enter Tryz.func101, Tryz.ntmps101
      go_wp2_with (go_at_call 86; refine (Tryz.strings_IndexByte _ _ _).mono ?_; rintro e w' ⟨rfl, rfl⟩; rw [toUInt8_back, HES.out, HI.out])
      go_ret2
      exact ⟨by rw [HR.out, HB.out]; rfl, 0, rfl⟩
  have HI := Lib.hid hi
  have HR := Lib.hid (escL_hex s[0] (s.data.toList.drop 1) hb)
  have HR2 : Hid (escL s.data.toList = escL (s[0] :: s.data.toList.drop 1)) := by unfold Hid; rw [← HD.out]
  clear hi hb
  by_cases g1 : s[0] = 120
  · have h1 : ((s[0].toNat : Int) != 120) = false := by rw [g1]; decide
    have h1' : ((s[0].toNat : Int) == 120) = true := by rw [g1]; decide
    have HG1 := Lib.hid g1
    clear g1
    by_cases g2 : 3 ≤ s.size
    · have e1 := Lib.hid (list_getD1 s 0 (by omega))
      have e2 := Lib.hid (list_getD1 s 1 (by omega))
      have HRR : Hid (escL s.data.toList = if isHex s[1] = true ∧ isHex s[2] = true then (UInt8.ofNat ((digitI s[1]).toNat * 16 + (digitI s[2]).toNat), 3) else (0, 0)) := by
        unfold Hid
        rw [HR2.out, HR.out, e1.out, e2.out, HLEN.out, HG1.out]
        simp only [true_and]
        by_cases hc : isHex s[1] = true ∧ isHex s[2] = true
        · rw [if_pos hc, if_pos ⟨by omega, hc.1, hc.2⟩]
        · rw [if_neg hc, if_neg (fun h => hc ⟨h.2.1, h.2.2⟩)]
      obtain ⟨i1, hi1⟩ : ∃ i1, i1 = Lib.indexByte hexT s[1] := ⟨_, rfl⟩
      obtain ⟨i2, hi2⟩ : ∃ i2, i2 = Lib.indexByte hexT s[2] := ⟨_, rfl⟩
      have b1 : isHex s[1] = decide (0 ≤ i1) := by rw [hi1]; rfl
      have b2 : isHex s[2] = decide (0 ≤ i2) := by rw [hi2]; rfl
      have d1 := isHex_digit s[1]
      have d2 := isHex_digit s[2]
      have HI1 := Lib.hid hi1
      have HI2 := Lib.hid hi2
      clear hi1 hi2
      by_cases q1 : 0 ≤ i1
      · by_cases q2 : 0 ≤ i2
        · have hx1 : isHex s[1] = true := by rw [b1]; exact decide_eq_true q1
          have hx2 : isHex s[2] = true := by rw [b2]; exact decide_eq_true q2
          obtain ⟨d11, d12⟩ := d1 hx1
          obtain ⟨d21, d22⟩ := d2 hx2
          have HRF := Lib.hid (HRR.out.trans (if_pos ⟨hx1, hx2⟩))
          have hor := or_hex (digitI s[1]) (digitI s[2]) d11 d12 d21 d22
          clear d1 d2 b1 b2 hx1 hx2
          go_enter Tryz.func101, Tryz.ntmps101
          go_wp2_with fail
          refine (IndexByte_any _ _ _).mono ?_
          rintro e w1 ⟨rfl, rfl⟩
          rw [HES.out, HI.out]
          go_wp2_with fail
          refine (IndexByte_any _ _ _).mono ?_
          rintro e w1 ⟨rfl, rfl⟩
          rw [HHT.out, ← HI1.out]
          go_wp2_with fail
          refine (IndexByte_any _ _ _).mono ?_
          rintro e w1 ⟨rfl, rfl⟩
          rw [HHT.out, ← HI2.out]
          go_wp2_with fail
          go_quiet ((go_at_call 143; exact Calls.quiet_of_same (digit_any _ _)))
          go_wp2_with fail
          go_ret2
          refine ⟨?_, nq, rfl⟩
          rw [HRF.out]
          have hlt : (digitI s[1]).toNat * 16 + (digitI s[2]).toNat < 256 := by omega
          have hv : ((UInt8.ofNat ((digitI s[1]).toNat * 16 + (digitI s[2]).toNat)).toNat : Int) = digitI s[1] * 16 + digitI s[2] := by
            rw [UInt8.toNat_ofNat', Nat.mod_eq_of_lt hlt]; omega
          show Ending.returned (.tuple #[.int .u8 (digitI s[1] * 16 + digitI s[2]), .int .i64 3]) = _
          simp only [hv]; rfl
        · have HRF := Lib.hid (HRR.out.trans (if_neg (fun h => q2 (of_decide_eq_true (b2.symm.trans h.2)))))
          clear d1 d2 b1 b2
          go_enter Tryz.func101, Tryz.ntmps101
          go_wp2_with fail
          refine (IndexByte_any _ _ _).mono ?_
          rintro e w1 ⟨rfl, rfl⟩
          rw [HES.out, HI.out]
          go_wp2_with fail
          refine (IndexByte_any _ _ _).mono ?_
          rintro e w1 ⟨rfl, rfl⟩
          rw [HHT.out, ← HI1.out]
          go_wp2_with fail
          refine (IndexByte_any _ _ _).mono ?_
          rintro e w1 ⟨rfl, rfl⟩
          rw [HHT.out, ← HI2.out]
          go_wp2_with fail
          go_ret2
          exact ⟨by rw [HRF.out]; rfl, 0, rfl⟩
      · have HRF := Lib.hid (HRR.out.trans (if_neg (fun h => q1 (of_decide_eq_true (b1.symm.trans h.1)))))
        clear d1 d2 b1 b2
        go_enter Tryz.func101, Tryz.ntmps101
        go_wp2_with fail
        refine (IndexByte_any _ _ _).mono ?_
        rintro e w1 ⟨rfl, rfl⟩
        rw [HES.out, HI.out]
        go_wp2_with fail
        refine (IndexByte_any _ _ _).mono ?_
        rintro e w1 ⟨rfl, rfl⟩
        rw [HHT.out, ← HI1.out]
        go_wp2_with fail
        go_ret2
        exact ⟨by rw [HRF.out]; rfl, 0, rfl⟩
    · have HRF : Hid (escL s.data.toList = (0, 0)) := by
        unfold Hid
        rw [HR2.out, HR.out, HLEN.out, if_neg (by omega)]
      clear h1'
      go_enter Tryz.func101, Tryz.ntmps101
      go_wp2_with fail
      refine (IndexByte_any _ _ _).mono ?_
      rintro e w1 ⟨rfl, rfl⟩
      rw [HES.out, HI.out]
      go_wp2_with fail
      go_ret2
      exact ⟨by rw [HRF.out]; rfl, 0, rfl⟩
  · have HRF : Hid (escL s.data.toList = (0, 0)) := by
      unfold Hid
      rw [HR2.out, HR.out, if_neg (fun h => g1 h.1)]
    have h1 : ((s[0].toNat : Int) != 120) = true := by
      rw [bne_iff_ne]; intro h; exact g1 (UInt8.toNat_inj.1 (by show s[0].toNat = 120; omega))
    clear g1
    go_enter Tryz.func101, Tryz.ntmps101
    go_wp2_with fail
    refine (IndexByte_any _ _ _).mono ?_
    rintro e w1 ⟨rfl, rfl⟩
    rw [HES.out, HI.out]
    go_wp2_with fail
    go_ret2
    exact ⟨by rw [HRF.out]; rfl, 0, rfl⟩
end Go.Proofs.YtdkbfljhfhjofaaGreatDoor
namespace Go.Proofs.YtdkbfljhfhjofaaGreatDoor
def unqGo : Nat → List UInt8 → Option (List UInt8)
  | 0, _ => some []
  | _ + 1, [] => some []
  | f + 1, b :: r => if b = 92 then (if (escL r).2 = 0 then none else (unqGo f (r.drop (escL r).2)).map ((escL r).1 :: ·)) else if b < 33 ∨ 126 < b then none else (unqGo f r).map (b :: ·)
def unqAt (l : List UInt8) : Option (List UInt8) := unqGo l.length l
def unquoteL (l : List UInt8) : Option (List UInt8) := if l = [45] then some [] else if l = [] then none else unqAt l
theorem escL_le (l : List UInt8) : (escL l).2 ≤ l.length := by
  cases l with
  | nil => exact Nat.le_refl _
  | cons b r =>
    unfold escL
    simp only [List.length_cons]
    split
    · exact Nat.succ_le_succ (Nat.zero_le _)
    (repeat' split) <;> omega
theorem unqGo_fuel : ∀ (f g : Nat) (l : List UInt8), l.length ≤ f → l.length ≤ g → unqGo f l = unqGo g l := by
  intro f
  induction f with
  | zero =>
    intro g l hf _
    have : l = [] := List.eq_nil_of_length_eq_zero (by omega)
    subst this
    cases g <;> rfl
  | succ f ih =>
    intro g l hf hg
    cases l with
    | nil => cases g <;> rfl
    | cons b r =>
      cases g with
      | zero => simp at hg
      | succ g =>
        simp only [List.length_cons] at hf hg
        unfold unqGo
        rw [ih g (r.drop (escL r).2) (by rw [List.length_drop]; omega) (by rw [List.length_drop]; omega), ih g r (by omega) (by omega)]
theorem unqAt_nil : unqAt [] = some [] := rfl
theorem unqAt_cons (b : UInt8) (r : List UInt8) : unqAt (b :: r) =
    if b = 92 then (if (escL r).2 = 0 then none else (unqAt (r.drop (escL r).2)).map ((escL r).1 :: ·)) else if b < 33 ∨ 126 < b then none else (unqAt r).map (b :: ·) := by
  unfold unqAt
  rw [List.length_cons, unqGo]
  rw [unqGo_fuel r.length (r.drop (escL r).2).length (r.drop (escL r).2) (by rw [List.length_drop]; omega) (Nat.le_refl _)]
theorem hex_back : ∀ b : UInt8, isHex (hexD (b >>> 4)) = true ∧ isHex (hexD (b &&& 15)) = true ∧ UInt8.ofNat ((digitI (hexD (b >>> 4))).toNat * 16 + (digitI (hexD (b &&& 15))).toNat) = b := fun b =>
  of_decide_eq_true (all_bytes (p := fun b => decide (isHex (hexD (b >>> 4)) = true ∧ isHex (hexD (b &&& 15)) = true ∧ UInt8.ofNat ((digitI (hexD (b >>> 4))).toNat * 16 + (digitI (hexD (b &&& 15))).toNat) = b)) (by decide +kernel) b)
theorem unqAt_quoteB (b : UInt8) (r : List UInt8) : unqAt (quoteB b ++ r) = (unqAt r).map (b :: ·) := by
  unfold quoteB
  by_cases h1 : b = 10
  · subst h1; rw [if_pos rfl, List.cons_append, unqAt_cons, if_pos rfl]; rfl
  rw [if_neg h1]
  by_cases h2 : b = 13
  · subst h2; rw [if_pos rfl, List.cons_append, unqAt_cons, if_pos rfl]; rfl
  rw [if_neg h2]
  by_cases h3 : b = 9
  · subst h3; rw [if_pos rfl, List.cons_append, unqAt_cons, if_pos rfl]; rfl
  rw [if_neg h3]
  by_cases h4 : b = 32
  · subst h4; rw [if_pos rfl, List.cons_append, unqAt_cons, if_pos rfl]; rfl
  rw [if_neg h4]
  by_cases h5 : b = 92
  · subst h5; rw [if_pos rfl, List.cons_append, unqAt_cons, if_pos rfl]; rfl
  rw [if_neg h5]
  by_cases h6 : b < 33 ∨ 126 < b
  · rw [if_pos h6, List.cons_append, unqAt_cons, if_pos rfl]
    obtain ⟨e1, e2, e3⟩ := hex_back b
    have he : escL ([120, hexD (b >>> 4), hexD (b &&& 15)] ++ r) = (b, 3) := by
      show escL (120 :: ([hexD (b >>> 4), hexD (b &&& 15)] ++ r)) = _
      rw [escL_hex 120 _ (by decide), if_pos ⟨rfl, by simp, e1, e2⟩]
      exact Prod.ext e3 rfl
    rw [he]; rfl
  · rw [if_neg h6]
    show unqAt (b :: r) = _
    rw [unqAt_cons, if_neg h5, if_neg h6]
theorem unqAt_flat (l : List UInt8) : unqAt (l.flatMap quoteB) = some l := by
  induction l with
  | nil => rfl
  | cons b l ih => rw [List.flatMap_cons, unqAt_quoteB, ih]; rfl
theorem quoteB_ne (b : UInt8) : quoteB b ≠ [] ∧ (quoteB b = [45] → b = 45) :=
  of_decide_eq_true (all_bytes (p := fun b => decide (quoteB b ≠ [] ∧ (quoteB b = [45] → b = 45))) (by decide +kernel) b)
theorem unquote_quote (l : List UInt8) : unquoteL (quoteL l) = some l := by
  unfold quoteL
  by_cases h0 : l = []
  · subst h0; rfl
  rw [if_neg h0]
  by_cases h1 : l = [45]
  · subst h1; decide
  rw [if_neg h1]
  unfold unquoteL
  have hne : l.flatMap quoteB ≠ [] := by
    cases l with
    | nil => exact absurd rfl h0
    | cons b l =>
      intro h
      rw [List.flatMap_cons, List.append_eq_nil_iff] at h
      exact (quoteB_ne b).1 h.1
  have hne2 : l.flatMap quoteB ≠ [45] := by
    cases l with
    | nil => exact absurd rfl h0
    | cons b l =>
      intro h
      rw [List.flatMap_cons] at h
      have hq := (quoteB_ne b).1
      have hlen := congrArg List.length h
      rw [List.length_append] at hlen
      have hpos : 0 < (quoteB b).length := List.length_pos_iff.2 hq
      simp only [List.length_cons, List.length_nil] at hlen
      have hr : l.flatMap quoteB = [] := List.eq_nil_of_length_eq_zero (by omega)
      rw [hr, List.append_nil] at h
      have hl : l = [] := by
        cases l with
        | nil => rfl
        | cons c l =>
          rw [List.flatMap_cons, List.append_eq_nil_iff] at hr
          exact absurd hr.1 (quoteB_ne c).1
      rw [hl, (quoteB_ne b).2 h] at h1
      exact h1 rfl
  rw [if_neg hne2, if_neg hne]
  exact unqAt_flat l
/-- What is read has no more bytes than the word. -/
theorem unqAt_len : ∀ (n : Nat) (l r : List UInt8), l.length ≤ n → unqAt l = some r → r.length ≤ l.length := by
  intro n
  induction n with
  | zero =>
    intro l r hl h
    have : l = [] := List.eq_nil_of_length_eq_zero (by omega)
    subst this
    rw [unqAt_nil] at h; cases h; exact Nat.le_refl _
  | succ n ih =>
    intro l r hl h
    cases l with
    | nil => rw [unqAt_nil] at h; cases h; exact Nat.le_refl _
    | cons b l =>
      simp only [List.length_cons] at hl ⊢
      rw [unqAt_cons] at h
      split at h
      · split at h
        · cases h
        · obtain ⟨x, hx, rfl⟩ := Option.map_eq_some_iff.1 h
          have := ih _ _ (by rw [List.length_drop]; omega) hx
          rw [List.length_drop] at this
          simp only [List.length_cons]; omega
      · split at h
        · cases h
        · obtain ⟨x, hx, rfl⟩ := Option.map_eq_some_iff.1 h
          have := ih _ _ (by omega) hx
          simp only [List.length_cons]; omega
theorem unquote_len (l r : List UInt8) (h : unquoteL l = some r) : r.length ≤ l.length := by
  unfold unquoteL at h
  split at h
  · cases h; simp
  · split at h
    · cases h
    · exact unqAt_len _ _ _ (Nat.le_refl _) h
end Go.Proofs.YtdkbfljhfhjofaaGreatDoor
namespace Go.Proofs.YtdkbfljhfhjofaaGreatDoor
open Go.RowKit
def strRes (c : Int) (o : Option (List UInt8)) : Value := match o with
  | some l => .tuple #[.string (bs l), .int .i64 0]
  | none => .tuple #[.string (bs []), .int .i64 c]
def ResPost (v : Value) (w : World) (e : Ending) (w' : World) : Prop := e = .returned v ∧ Below w.heap.size w w'
theorem below_drewN {B : Nat} {a w : World} (h : Below B a w) (n : Nat) : Below B a (w.drewN n) := ⟨h.os, h.tape, h.output, h.size, h.block⟩
theorem OwnB.drewN {w : World} {base : Nat} {v : Value} {l : List UInt8} (h : OwnB w base v l) (n : Nat) : OwnB (w.drewN n) base v l := h
def UnqRel (s : ByteArray) (w : World) (v i : Value) (wr : World) : Prop :=
  ∃ (k : Nat) (acc : List UInt8), k ≤ s.size ∧ i = .int .i64 k ∧ acc.length ≤ k ∧ OwnB wr w.heap.size v acc ∧ unqAt s.data.toList = (unqAt (s.data.toList.drop k)).map (acc ++ ·) ∧ Below w.heap.size w wr
set_option maxRecDepth 100000 in
set_option maxHeartbeats 1600000 in
theorem Unquote_any (s : ByteArray) (w : World) (hs : s.size ≤ 140737488351232) :
    Calls Tryz.prog 61 #[.string s] w (ResPost (strRes 3 (unquoteL s.data.toList)) w) := by
  have hL : Hid (s.data.toList.length = s.size) := by unfold Hid; simp
  by_cases h1 : s.data.toList = [45]
  · have hs0 : s = bs [45] := ext_bs h1
    subst hs0
    go_enter Tryz.func61, Tryz.ntmps61
    go_wp2_with fail
    go_ret2
    exact ⟨rfl, Below.refl _ _⟩
  by_cases h0 : s.data.toList = []
  · have hs0 : s = ByteArray.empty := ext_bs h0
    subst hs0
    go_enter Tryz.func61, Tryz.ntmps61
    go_wp2_with fail
    go_ret2
    exact ⟨rfl, Below.refl _ _⟩
  have HQ : Hid (unquoteL s.data.toList = unqAt s.data.toList) := by unfold Hid unquoteL; rw [if_neg h1, if_neg h0]
  have g0 : (s.toList == []) = false := by rw [Lib.toList_data]; exact beq_eq_false_iff_ne.2 h0
  have g1 : (s.toList == [45]) = false := by rw [Lib.toList_data]; exact beq_eq_false_iff_ne.2 h1
  have g2 : s.toList.isEmpty = false := by rw [Lib.toList_data]; cases h : s.data.toList with | nil => exact absurd h h0 | cons _ _ => rfl
  clear h0 h1
  go_enter Tryz.func61, Tryz.ntmps61
  go_wp2_with fail
  go_loopw [4, 5] (fun v i wr => UnqRel s w v i wr) (fun _ i _ => s.size - (intOf i).toNat)
  case atStart => exact ⟨0, [], Nat.zero_le _, rfl, Nat.le_refl _, OwnB.nil _ _, by simp, Below.refl _ _⟩
  case round =>
    obtain ⟨k, acc, hk, rfl, hacc, hown, hr, hbl⟩ := hrel
    have hbase := hbl.size
    have HR := Lib.hid hr
    clear hr
    by_cases hlt : k < s.size
    · have HD := Lib.hid (drop_cons s k hlt)
      have HU := Lib.hid (unqAt_cons s[k] (s.data.toList.drop (k + 1)))
      have hcb := s[k].toNat_lt
      by_cases hb : s[k] = 92
      · have q1 : ((s[k].toNat : Int) == 92) = true := by rw [hb]; decide
        have HB := Lib.hid hb
        clear hb
        have hx : (s.extract (k + 1) s.size).data.toList = s.data.toList.drop (k + 1) := Lib.extract_to_end s (k + 1)
        have hxs : (s.extract (k + 1) s.size).size = s.size - (k + 1) := by rw [Lib.size_eq, hx]; simp
        have HX := Lib.hid hx
        have HXS := Lib.hid hxs
        have hle := escL_le (s.data.toList.drop (k + 1))
        rw [List.length_drop, hL.out] at hle
        clear hx hxs
        obtain ⟨x, n, hE⟩ : ∃ x n, escL (s.data.toList.drop (k + 1)) = (x, n) := ⟨_, _, rfl⟩
        have hU0 : unqAt (s[k] :: s.data.toList.drop (k + 1)) = if n = 0 then none else (unqAt ((s.data.toList.drop (k + 1)).drop n)).map (x :: ·) := by
          rw [HU.out, if_pos HB.out, hE]
        rw [hE] at hle
        have HE := Lib.hid hE
        have HU0 := Lib.hid hU0
        clear hE hU0
        simp only [] at hle
        by_cases hz : n = 0
        · have HU1 := Lib.hid (HU0.out.trans (if_pos hz))
          subst hz
          go_wp2_with (go_at_call 101; refine (escaped_any _ _ (by rw [HXS.out]; unfold maxLen; omega)).mono ?_; rintro e w1 ⟨rfl, nq, rfl⟩; rw [HX.out, HE.out])
          go_ret2
          exact ⟨by rw [HQ.out, HR.out, HD.out, HU1.out]; rfl, below_drewN hbl _⟩
        · have hnz : ((n : Int) == 0) = false := beq_eq_false_iff_ne.2 (by omega)
          have HU2 := Lib.hid (HU0.out.trans (if_neg hz))
          clear hz
          go_wp2_with (first | (go_at_call 101; refine (escaped_any _ _ (by rw [HXS.out]; unfold maxLen; omega)).mono ?_; rintro e w1 ⟨rfl, nq, rfl⟩; rw [HX.out, HE.out]) | (at_builtin; refine wpList_append_b rfl _ _ rfl w.heap.size _ acc rfl (by exact hown.drewN _) (by exact hbase) _ [x] rfl 1 1 rfl rfl (by omega) ?_; intro v' w1 hown1 hb1 hbs1))
          exact ⟨⟨k + 1 + n, acc ++ [x], by omega, by congr 1; omega, by simp; omega, hown1, by rw [HR.out, HD.out, HU2.out, List.drop_drop, Option.map_map]; congr 1; funext y; simp, (below_drewN hbl _).trans hb1⟩, by simp [intOf]; omega⟩
      · have q1 : ((s[k].toNat : Int) == 92) = false := beq_eq_false_iff_ne.2 (fun h => hb (UInt8.toNat_inj.1 (by show s[k].toNat = 92; omega)))
        by_cases hr : s[k] < 33 ∨ 126 < s[k]
        · have HU2 := Lib.hid (HU.out.trans ((if_neg hb).trans (if_pos hr)))
          have hr' : (s[k].toNat : Int) < 33 ∨ 126 < (s[k].toNat : Int) := by
            rcases hr with h | h
            · left; have : s[k].toNat < 33 := h; omega
            · right; have : 126 < s[k].toNat := h; omega
          clear hr hb
          rcases hr' with hr | hr
          all_goals
            go_wp2_with fail
            go_ret2
            exact ⟨by rw [HQ.out, HR.out, HD.out, HU2.out]; rfl, hbl⟩
        · have HU2 := Lib.hid (HU.out.trans ((if_neg hb).trans (if_neg hr)))
          obtain ⟨r1, r2⟩ := not_or.1 hr
          have r3 : 33 ≤ (s[k].toNat : Int) := by have : ¬ s[k].toNat < 33 := r1; omega
          have r4 : (s[k].toNat : Int) ≤ 126 := by have : ¬ 126 < s[k].toNat := r2; omega
          clear hr hb r1 r2
          go_wp2_with (at_builtin; refine wpList_append_b rfl _ _ rfl w.heap.size _ _ rfl hown hbase _ [s[k]] rfl 1 1 rfl rfl (by omega) ?_; intro v' w1 hown1 hb1 hbs1)
          exact ⟨⟨k + 1, acc ++ [s[k]], by omega, by go_num, by simp; omega, hown1, by rw [HR.out, HD.out, HU2.out, Option.map_map]; congr 1; funext y; simp, hbl.trans hb1⟩, by simp [intOf]; omega⟩
    · have hcv := hown.string
      have HF : Hid (unqAt s.data.toList = some acc) := by unfold Hid; rw [HR.out, List.drop_eq_nil_of_le (by rw [hL.out]; omega), unqAt_nil]; simp
      clear hown
      go_wp2_with fail
      go_ret2
      exact ⟨by rw [HQ.out, HF.out]; rfl, hbl⟩
end Go.Proofs.YtdkbfljhfhjofaaGreatDoor
namespace Go.Proofs.YtdkbfljhfhjofaaGreatDoor
open Go.RowKit
theorem cut_first (c : UInt8) : ∀ (a b : List UInt8), c ∉ a → Lib.cut (a ++ c :: b) [c] = (a, b, true) := by
  intro a b h
  have key : ∀ a : List UInt8, c ∉ a → Lib.index (a ++ c :: b) [c] = (a.length : Int) := by
    intro a
    induction a with
    | nil => intro _; rw [List.nil_append, Lib.index]; simp [List.isPrefixOf]
    | cons x a ih =>
      intro h
      have h1 := ih (fun e => h (by simp [e]))
      rw [List.cons_append, index_cons_ne x c _ (fun e => h (by simp [e])), h1, if_neg (by rw [beq_iff_eq]; omega)]
      simp
  have h1 := key a h
  unfold Lib.cut
  rw [if_pos (by omega), h1]
  simp
end Go.Proofs.YtdkbfljhfhjofaaGreatDoor
namespace Go.Proofs.YtdkbfljhfhjofaaGreatDoor
open Go.RowKit
def topN (b : Int) : Nat := 32 - (min (max b 0) 32).toNat
def maskN (b : Int) : Nat := 4294967296 - 2 ^ topN b
theorem topN_le (b : Int) : topN b ≤ 32 := by unfold topN; omega
theorem pow_le (s : Nat) (h : s ≤ 32) : 1 ≤ 2 ^ s ∧ 2 ^ s ≤ 4294967296 := ⟨Nat.one_le_two_pow, Nat.pow_le_pow_right (by decide) h⟩
theorem maskN_lt (b : Int) : maskN b < 4294967296 := by have := pow_le _ (topN_le b); unfold maskN; omega
theorem andNot_mask (x s : Nat) (hs : s ≤ 32) : x &&& (4294967295 - (4294967296 - 2 ^ s)) = x % 2 ^ s := by
  have := pow_le s hs
  rw [show 4294967295 - (4294967296 - 2 ^ s) = 2 ^ s - 1 by omega, Nat.and_two_pow_sub_one_eq_mod]
def decS (n : Nat) : List UInt8 := Lib.decDigits n
def numsR : List (List UInt8) → Nat → Option Nat
  | [], a => some a
  | x :: r, a => if numB 255 x < 0 then none else numsR r ((a * 256 + (numB 255 x).toNat) % 4294967296)
def bitsR (l : List UInt8) : Int := if (Lib.cut l [47]).2.2 = true then numB 32 (Lib.cut l [47]).2.1 else 32
def netP (l : List UInt8) : Except Int (Nat × Int) :=
  if bitsR l < 0 then .error 3 else if (splL 46 (Lib.cut l [47]).1).length ≠ 4 then .error 3
  else match numsR (splL 46 (Lib.cut l [47]).1) 0 with
  | none => .error 3
  | some a => if a % 2 ^ topN (bitsR l) ≠ 0 then .error 4 else .ok (a, bitsR l)
theorem netP_err {l : List UInt8} {e : Int} (h : netP l = .error e) : e = 3 ∨ e = 4 := by
  unfold netP at h
  split at h
  · cases h; exact .inl rfl
  · split at h
    · cases h; exact .inl rfl
    · split at h
      · cases h; exact .inl rfl
      · split at h
        · cases h; exact .inr rfl
        · cases h
theorem dec_lead (u : Nat) : ∀ d r, Lib.decDigits u = d :: r → (d = 48 → u < 10) ∧ 48 ≤ d.toNat ∧ d.toNat ≤ 57 := by
  induction u using Nat.strongRecOn with
  | ind u ih =>
    intro d r h
    rw [Lib.decDigits] at h
    by_cases hu : u < 10
    · rw [dif_pos hu] at h
      injection h with h1 h2
      refine ⟨fun _ => hu, ?_⟩
      rw [← h1]
      have : (UInt8.ofNat (48 + u)).toNat = 48 + u := by simp; omega
      omega
    · rw [dif_neg hu] at h
      cases hq : Lib.decDigits (u / 10) with
      | nil =>
        have := (dec_len 20 (u / 10))
        exfalso
        have h1 := Lib.decDigits.eq_1 (u / 10)
        rw [hq] at h1
        split at h1
        · cases h1
        · exact absurd h1 (by simp)
      | cons x y =>
        rw [hq, List.cons_append] at h
        injection h with h1 h2
        obtain ⟨a1, a2⟩ := ih (u / 10) (by omega) x y hq
        subst h1
        refine ⟨fun e => ?_, a2⟩
        have h3 := a1 e
        exfalso
        rw [Lib.decDigits, dif_pos h3] at hq
        injection hq with h4 h5
        have h6 : (UInt8.ofNat (48 + u / 10)).toNat = 48 + u / 10 := by simp; omega
        rw [h4, e] at h6
        have : (48 : UInt8).toNat = 48 := rfl
        omega
theorem numB_dec (most : Int) (n : Nat) (h : (n : Int) ≤ most) (hn : n < 1000000000) : numB most (decS n) = (n : Int) := by
  unfold numB decS
  rw [dec_num n hn]
  dsimp only
  rw [if_neg]
  rintro (h1 | ⟨h1, h2⟩)
  · omega
  · cases hd : Lib.decDigits n with
    | nil => rw [hd] at h1; cases h1
    | cons d r =>
      rw [hd] at h1
      have e : d = 48 := by simpa using h1
      have := (dec_lead n d r hd).1 e
      rw [Lib.decDigits, dif_pos this] at hd
      rw [Lib.decDigits, dif_pos this] at h2
      simp at h2
theorem dec_byte (n : Nat) : ∀ b ∈ decS n, 48 ≤ b.toNat ∧ b.toNat ≤ 57 := by
  induction n using Nat.strongRecOn with
  | ind n ih =>
    intro b hb
    unfold decS at hb
    rw [Lib.decDigits] at hb
    by_cases hn : n < 10
    · rw [dif_pos hn, List.mem_singleton] at hb
      rw [hb]
      have : (UInt8.ofNat (48 + n)).toNat = 48 + n := by simp; omega
      omega
    · rw [dif_neg hn, List.mem_append, List.mem_singleton] at hb
      rcases hb with hb | hb
      · exact ih (n / 10) (by omega) b hb
      · rw [hb]
        have : (UInt8.ofNat (48 + n % 10)).toNat = 48 + n % 10 := by simp; omega
        omega
theorem dec_not (n : Nat) (c : UInt8) (h : c.toNat < 48) : c ∉ decS n := fun hm => by have := dec_byte n c hm; omega
/-- What is read as a number without noughts ahead is that number's digits. -/
theorem digit_back (b : UInt8) (h0 : 0 ≤ digitI b) (h1 : digitI b < 10) : UInt8.ofNat (48 + (digitI b).toNat) = b := by
  have := all_bytes (p := fun b => !(decide (0 ≤ digitI b) && decide (digitI b < 10)) || decide (UInt8.ofNat (48 + (digitI b).toNat) = b)) (by decide +kernel) b
  simp only [decide_eq_true h0, decide_eq_true h1, Bool.and_self, Bool.not_true, Bool.false_or] at this
  exact of_decide_eq_true this
theorem canon_go : ∀ (l : List UInt8) (a : Nat) (n : Int), 1 ≤ a → numGo 10 l (a : Int) = some n → Lib.decDigits n.toNat = Lib.decDigits a ++ l
  | [], a, n, _, h => by
    unfold numGo at h
    have e : (a : Int) = n := Option.some.inj h
    rw [← e, Int.toNat_natCast, List.append_nil]
  | b :: l, a, n, ha, h => by
    unfold numGo at h
    split at h
    · cases h
    · rename_i hd
      obtain ⟨d, hdd⟩ : ∃ d : Nat, digitI b = (d : Int) := ⟨(digitI b).toNat, by omega⟩
      have hd10 : d < 10 := by omega
      have e : (a : Int) * 10 + digitI b = ((a * 10 + d : Nat) : Int) := by rw [hdd]; omega
      rw [e] at h
      have ih := canon_go l (a * 10 + d) n (by omega) h
      rw [ih, Lib.decDigits, dif_neg (by omega), show (a * 10 + d) / 10 = a by omega, show (a * 10 + d) % 10 = d by omega, List.append_assoc]
      congr 1
      have hb := digit_back b (by omega) (by omega)
      rw [hdd, Int.toNat_natCast] at hb
      rw [hb]
      rfl
theorem numB_canon {most : Int} {l : List UInt8} (h : 0 ≤ numB most l) : decS (numB most l).toNat = l ∧ numB most l ≤ most := by
  unfold numB at h ⊢
  cases hn : numL 10 9 l with
  | none => rw [hn] at h; dsimp only at h; omega
  | some n =>
    rw [hn] at h
    dsimp only at h ⊢
    split at h
    · exact absurd h (by decide)
    · rename_i hc
      rw [if_neg hc]
      refine ⟨?_, by omega⟩
      unfold numL at hn
      split at hn
      · cases hn
      · rename_i hlen
        match l, hn, hlen, hc with
        | [], _, hlen, _ => exact (hlen (.inl rfl)).elim
        | [b], hn, _, _ =>
          unfold numGo at hn
          split at hn
          · cases hn
          · rename_i hd
            unfold numGo at hn
            have e := Option.some.inj hn
            have h3 : n = digitI b := by omega
            unfold decS
            rw [h3, Lib.decDigits, dif_pos (by omega), digit_back b (by omega) (by omega)]
        | b :: c :: r, hn, _, hc =>
          have hb : b ≠ 48 := fun e => hc (.inr ⟨by rw [e]; rfl, by simp⟩)
          unfold numGo at hn
          split at hn
          · cases hn
          · rename_i hd
            obtain ⟨d, hdd⟩ : ∃ d : Nat, digitI b = (d : Int) := ⟨(digitI b).toNat, by omega⟩
            have hback := digit_back b (by omega) (by omega)
            have hd0 : d ≠ 0 := fun e => by
              rw [hdd, e] at hback
              exact hb hback.symm
            rw [show (0 : Int) * 10 + digitI b = (d : Int) by omega] at hn
            have := canon_go (c :: r) d n (by omega) hn
            unfold decS
            rw [this, Lib.decDigits, dif_pos (by omega)]
            rw [hdd, Int.toNat_natCast] at hback
            rw [hback]
            rfl
theorem numB_255 {x : List UInt8} (h : ¬ numB 255 x < 0) : ∃ k : Nat, numB 255 x = (k : Int) ∧ k < 256 ∧ decS k = x := by
  obtain ⟨h1, h2⟩ := numB_canon (most := 255) (l := x) (by omega)
  exact ⟨(numB 255 x).toNat, by omega, by omega, h1⟩
end Go.Proofs.YtdkbfljhfhjofaaGreatDoor
