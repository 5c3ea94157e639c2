/- The walks of ops.numbers, ops.Made, ops.Holds at numbers; the walk of OpsNumbers. -/
import Derived.Test.YtdbipccopijgeaaGreatDoorOctA
import Derived.Test.YtdbipccopijgeaaGreatDoorMem
namespace Go.Proofs.YtdbipccopijgeaaGreatDoor
open Go.RowKit

/-- What an operator on numbers says. -/
def cmpN (op k n : Int) : Bool := if op = 7 then decide (n < k) else if op = 8 then decide (k < n) else k == n
def tstN (op n : Int) (v : List UInt8) : Bool := match numL 10 9 v with | none => false | some k => cmpN op k n
theorem BoxAt_cell {w : World} {g : Nat} {v : Value} {t : TypeId} (h : w.heap[g]? = some (.cells #[v] t (0, 0))) : w.cell? ⟨g, 0, none⟩ = some v := cell_of_row w g 0 _ _ _ h

set_option maxRecDepth 100000 in
set_option maxHeartbeats 800000 in
theorem numTest_any (v : ByteArray) (g1 g2 : Nat) (op n : Int) (w : World) (hop : op = 7 ∨ op = 8 ∨ op = 9) (h1 : w.cell? ⟨g1, 0, none⟩ = some (.int .i64 op)) (h2 : w.cell? ⟨g2, 0, none⟩ = some (.int .i64 n)) (hv : v.size ≤ maxLen) :
    Calls Tryz.prog 31 #[.string v, .pointer (some ⟨g1, 0, none⟩), .pointer (some ⟨g2, 0, none⟩)] w fun e w' => e = .returned (.bool (tstN op n v.data.toList)) ∧ w' = w := by
  have hd := Dec_any v w hv
  unfold tstN
  cases hk : numL 10 9 v.data.toList with
  | none =>
    rw [hk] at hd
    unfold numRes at hd
    dsimp only at hd ⊢
    have HD := Lib.hid hd
    clear hd hk
    go_enter Tryz.func31, Tryz.ntmps31
    go_wp2_with fail
    refine HD.out.mono ?_
    rintro e w1 ⟨rfl, hw⟩
    rw [hw]
    go_wp2_with fail
    go_ret
    exact ⟨rfl, rfl⟩
  | some k =>
    rw [hk] at hd
    unfold numRes at hd
    dsimp only at hd ⊢
    have HD := Lib.hid hd
    clear hd hk
    unfold cmpN
    rcases hop with rfl | rfl | rfl
    all_goals
      go_enter Tryz.func31, Tryz.ntmps31
      go_wp2_with fail
      refine HD.out.mono ?_
      rintro e w1 ⟨rfl, hw⟩
      rw [hw]
      go_wp2_with fail
      go_ret
      exact ⟨rfl, rfl⟩

def numF (g1 g2 : Nat) : Value := .func (.func 31) #[] #[.pointer (some ⟨g1, 0, none⟩), .pointer (some ⟨g2, 0, none⟩)]
def decN (o : Option Int) : Int := match o with | none => 0 | some n => n
def decE (o : Option Int) : Int := match o with | none => 4 | some _ => 0
theorem numRes_parts (o : Option Int) : numRes o = .tuple #[.int .i64 (decN o), .int .i64 (decE o)] := by cases o <;> rfl
def MadeN (op : Int) (o : Option Int) (w : World) (e : Ending) (w' : World) : Prop :=
  ∃ g1 g2, e = .returned (.tuple #[numF g1 g2, .int .i64 (decE o)]) ∧ w'.cell? ⟨g1, 0, none⟩ = some (.int .i64 op) ∧ w'.cell? ⟨g2, 0, none⟩ = some (.int .i64 (decN o)) ∧ Below w.heap.size w w'

set_option maxRecDepth 100000 in
set_option maxHeartbeats 800000 in
theorem numbers_any (op : Int) (arg : ByteArray) (w : World) (ha : arg.size ≤ maxLen) :
    Calls Tryz.prog 14 #[.int .i64 op, .string arg] w (MadeN op (numL 10 9 arg.data.toList) w) := by
  have hd := Dec_any arg (w.alloc (.cells #[.int .i64 op] 3)) ha
  rw [numRes_parts] at hd
  generalize numL 10 9 arg.data.toList = o at *
  have HD := Lib.hid hd
  clear hd
  have hb : Below w.heap.size w ((w.alloc (.cells #[.int .i64 op] 3)).alloc (.cells #[.int .i64 (decN o)] 3)) := ((Below.refl _ _).alloc (Nat.le_refl _) _).alloc (by simp) _
  have c1 : ((w.alloc (.cells #[.int .i64 op] 3)).alloc (.cells #[.int .i64 (decN o)] 3)).cell? ⟨w.heap.size, 0, none⟩ = some (.int .i64 op) :=
    cell_of_row _ _ 0 _ _ _ ((Below.heap_alloc _ _ _ (by simp)).trans (heap_alloc_new w _))
  have c2 : ((w.alloc (.cells #[.int .i64 op] 3)).alloc (.cells #[.int .i64 (decN o)] 3)).cell? ⟨w.heap.size + 1, 0, none⟩ = some (.int .i64 (decN o)) := by
    have := heap_alloc_new (w.alloc (.cells #[.int .i64 op] 3)) (.cells #[.int .i64 (decN o)] 3)
    rw [World.size_alloc] at this
    exact cell_of_row _ _ 0 _ _ _ this
  have HP : Hid (MadeN op o w (.returned (.tuple #[.func (.func 31) #[] #[.pointer (some ⟨w.heap.size, 0, none⟩), .pointer (some ⟨w.heap.size + 1, 0, none⟩)], .int .i64 (decE o)])) ((w.alloc (.cells #[.int .i64 op] 3)).alloc (.cells #[.int .i64 (decN o)] 3))) :=
    ⟨w.heap.size, w.heap.size + 1, rfl, c1, c2, hb⟩
  clear c1 c2 hb
  go_enter Tryz.func14, Tryz.ntmps14
  go_wp2_with fail
  refine HD.out.mono ?_
  rintro e w1 ⟨rfl, hw⟩
  rw [hw]
  go_wp2_with fail
  exact bodyPost_ret (v := .tuple #[.func (.func 31) #[] #[.pointer (some ⟨w.heap.size, 0, none⟩), .pointer (some ⟨w.heap.size + 1, 0, none⟩)], .int .i64 (decE o)]) (by simp [results, Tryz.results14, go_sem]) rfl HP.out

set_option maxRecDepth 100000 in
set_option maxHeartbeats 1600000 in
theorem MadeN_any (op : Int) (arg : ByteArray) (w : World) (hop : op = 7 ∨ op = 8 ∨ op = 9) (ha : arg.size ≤ maxLen) :
    Calls Tryz.prog 10 #[.int .i64 op, .string arg] w (MadeN op (numL 10 9 arg.data.toList) w) := by
  have hb : Below w.heap.size w ((w.alloc (.cells #[.int .i64 op] 3)).alloc (.cells #[.string arg] 9)) := ((Below.refl _ _).alloc (Nat.le_refl _) _).alloc (by simp) _
  have HN := Lib.hid (numbers_any op arg ((w.alloc (.cells #[.int .i64 op] 3)).alloc (.cells #[.string arg] 9)) ha)
  generalize numL 10 9 arg.data.toList = o at *
  rcases hop with rfl | rfl | rfl
  all_goals
    go_enter Tryz.func10, Tryz.ntmps10
    go_wp2_with fail
    refine HN.out.mono ?_
    rintro e w1 ⟨g1, g2, rfl, h1, h2, hb1⟩
    unfold numF
    have hb2 := hb.trans (hb1.mono hb.size)
    go_wp2_with fail
    exact bodyPost_ret (v := .tuple #[.func (.func 31) #[] #[.pointer (some ⟨g1, 0, none⟩), .pointer (some ⟨g2, 0, none⟩)], .int .i64 (decE o)]) (by simp [results, Tryz.results10, go_sem]) rfl ⟨g1, g2, rfl, h1, h2, hb2⟩

/-- What Holds says: does it hold, what went wrong. -/
def holdN (op : Int) (arg v : List UInt8) : Bool × Int := match numL 10 9 arg with
  | none => (false, 4)
  | some n => if 8192 < v.length then (false, 2) else (tstN op n v, 0)

set_option maxRecDepth 100000 in
set_option maxHeartbeats 1600000 in
theorem HoldsN_any (op : Int) (arg v : ByteArray) (w : World) (hop : op = 7 ∨ op = 8 ∨ op = 9) (ha : arg.size ≤ maxLen) (hv : v.size ≤ maxLen) :
    Calls Tryz.prog 8 #[.int .i64 op, .string arg, .string v] w fun e w' => e = .returned (.tuple #[.bool (holdN op arg.data.toList v.data.toList).1, .int .i64 (holdN op arg.data.toList v.data.toList).2]) ∧ Below w.heap.size w w' := by
  have HM := Lib.hid (MadeN_any op arg w hop ha)
  have hvl : v.data.toList.length = v.size := by simp
  have HH : Hid (holdN op arg.data.toList v.data.toList = match numL 10 9 arg.data.toList with
    | none => (false, 4)
    | some n => if 8192 < v.size then (false, 2) else (tstN op n v.data.toList, 0)) := by unfold Hid holdN; rw [hvl]
  have hlo : decide (op < 1) = false := decide_eq_false (by omega)
  have hhi : decide (12 < op) = false := decide_eq_false (by omega)
  have HT : Hid (∀ (g1 g2 : Nat) (n : Int) (W : World), W.cell? ⟨g1, 0, none⟩ = some (.int .i64 op) → W.cell? ⟨g2, 0, none⟩ = some (.int .i64 n) → _) := fun g1 g2 n W h1 h2 => numTest_any v g1 g2 op n W hop h1 h2 hv
  clear hvl hop ha
  cases ho : numL 10 9 arg.data.toList with
  | none =>
    rw [ho] at HM HH
    have HR : Hid (holdN op arg.data.toList v.data.toList = (false, 4)) := HH.out
    clear HH HT ho
    go_enter Tryz.func8, Tryz.ntmps8
    go_wp2_with fail
    refine HM.out.mono ?_
    rintro e w1 ⟨g1, g2, rfl, h1, h2, hb1⟩
    unfold numF decE
    dsimp only
    go_wp2_with fail
    exact bodyPost_ret (v := .tuple #[.bool false, .int .i64 4]) (by simp [results, Tryz.results8, go_sem]) rfl ⟨by rw [HR.out], hb1⟩
  | some n =>
    rw [ho] at HM HH
    have HH2 : Hid (holdN op arg.data.toList v.data.toList = if 8192 < v.size then (false, 2) else (tstN op n v.data.toList, 0)) := HH.out
    clear HH ho
    by_cases hbig : 8192 < v.size
    · have HR : Hid (holdN op arg.data.toList v.data.toList = (false, 2)) := by unfold Hid; rw [HH2.out, if_pos hbig]
      have d0 : decide ((8192 : Int) < (v.size : Int)) = true := decide_eq_true (by omega)
      clear HH2 HT hbig
      go_enter Tryz.func8, Tryz.ntmps8
      go_wp2_with fail
      refine HM.out.mono ?_
      rintro e w1 ⟨g1, g2, rfl, h1, h2, hb1⟩
      unfold numF decE
      dsimp only
      go_wp2_with fail
      exact bodyPost_ret (v := .tuple #[.bool false, .int .i64 2]) (by simp [results, Tryz.results8, go_sem]) rfl ⟨by rw [HR.out], hb1⟩
    · have d0 : decide ((8192 : Int) < (v.size : Int)) = false := decide_eq_false (by omega)
      rw [if_neg hbig] at HH2
      clear hbig
      go_enter Tryz.func8, Tryz.ntmps8
      go_wp2_with fail
      refine HM.out.mono ?_
      rintro e w1 ⟨g1, g2, rfl, h1, h2, hb1⟩
      unfold decN at h2
      dsimp only at h2
      have HTT := Lib.hid (HT.out g1 g2 n w1 h1 h2)
      unfold numF decE
      dsimp only
      go_wp2_with fail
      refine HTT.out.mono ?_
      rintro e w2 ⟨rfl, hw⟩
      rw [hw]
      go_wp2_with fail
      exact bodyPost_ret (v := .tuple #[.bool (tstN op n v.data.toList), .int .i64 0]) (by simp [results, Tryz.results8, go_sem]) rfl ⟨by rw [HH2.out], hb1⟩

theorem held_any (op : Int) (arg v : ByteArray) (w : World) (hop : op = 7 ∨ op = 8 ∨ op = 9) (ha : arg.size ≤ maxLen) (hv : v.size ≤ maxLen) :
    Calls Tryz.prog 5 #[.int .i64 op, .string arg, .string v] w fun e w' => e = .returned (.tuple #[.bool (holdN op arg.data.toList v.data.toList).1, .bool ((holdN op arg.data.toList v.data.toList).2 == 0)]) ∧ Below w.heap.size w w' := by
  have HH := Lib.hid (HoldsN_any op arg v w hop ha hv)
  generalize holdN op arg.data.toList v.data.toList = R at *
  obtain ⟨b, e⟩ := R
  dsimp only at HH ⊢
  go_enter Tryz.func5, Tryz.ntmps5
  go_wp2_with fail
  refine HH.out.mono ?_
  rintro e w1 ⟨rfl, hb⟩
  go_wp2_with fail
  exact bodyPost_ret (v := .tuple #[.bool b, .bool (_ == 0)]) (by simp [results, Tryz.results5, go_sem]) rfl ⟨rfl, hb⟩

/-! Of two numbers. -/
theorem hold_no {op : Int} {arg v : List UInt8} (h : numL 10 9 arg = none) : holdN op arg v = (false, 4) := by unfold holdN; rw [h]
theorem hold_big {op n : Int} {arg v : List UInt8} (h : numL 10 9 arg = some n) (hb : 8192 < v.length) : holdN op arg v = (false, 2) := by unfold holdN; rw [h]; exact if_pos hb
theorem hold_yes {op n : Int} {arg v : List UInt8} (h : numL 10 9 arg = some n) (hb : ¬ 8192 < v.length) : holdN op arg v = (tstN op n v, 0) := by unfold holdN; rw [h]; exact if_neg hb
theorem first_hold : holdN 7 [57] [48, 49, 48] = (true, 0) := by decide +kernel

def BRel (l : List Bool) (w : World) (n i : Value) (wr : World) : Prop :=
  ∃ k : Nat, k ≤ l.length ∧ i = .int .i64 k ∧ n = .int .i64 (((l.take k).filter id).length : Nat) ∧ wr = w

set_option maxRecDepth 100000 in
set_option maxHeartbeats 3200000 in
theorem opsNumbers_any (arg v : ByteArray) (w : World) (ha : arg.size ≤ 140737488351232) (hv : v.size ≤ 140737488351232) :
    Calls Tryz.prog 3 #[.string arg, .string v] w fun e w' => e = .returned (.bool true) ∧ Below w.heap.size w w' := by
  have ha2 : arg.size ≤ maxLen := by unfold maxLen; omega
  have hv2 : v.size ≤ maxLen := by unfold maxLen; omega
  have H0 : Hid (∀ W, Calls Tryz.prog 5 #[.int .i64 7, .string (ByteArray.mk #[57]), .string (ByteArray.mk #[48, 49, 48])] W fun e w' => e = .returned (.tuple #[.bool true, .bool true]) ∧ Below W.heap.size W w') := fun W => by
    have := held_any 7 (ByteArray.mk #[57]) (ByteArray.mk #[48, 49, 48]) W (.inl rfl) (by decide) (by decide)
    rw [show holdN 7 (ByteArray.mk #[57]).data.toList (ByteArray.mk #[48, 49, 48]).data.toList = (true, 0) from first_hold] at this
    exact this
  have H7 : Hid (∀ W, _) := fun W => held_any 7 arg v W (.inl rfl) ha2 hv2
  have H8 : Hid (∀ W, _) := fun W => held_any 8 arg v W (.inr (.inl rfl)) ha2 hv2
  have H9 : Hid (∀ W, _) := fun W => held_any 9 arg v W (.inr (.inr rfl)) ha2 hv2
  have HD : Hid (∀ W, _) := fun W => Dec_any v W hv2
  have hvl : v.data.toList.length = v.size := by simp
  clear ha hv ha2 hv2
  by_cases hbad : numL 10 9 arg.data.toList = none ∨ 8192 < v.size
  · have hh : ∀ op, (holdN op arg.data.toList v.data.toList).1 = false ∧ ((holdN op arg.data.toList v.data.toList).2 == 0) = false := fun op => by
      cases ho : numL 10 9 arg.data.toList with
      | none => rw [hold_no ho]; exact ⟨rfl, rfl⟩
      | some n =>
        have : 8192 < v.size := hbad.resolve_left (by rw [ho]; simp)
        rw [hold_big ho (by omega)]; exact ⟨rfl, rfl⟩
    rw [(hh 7).1, (hh 7).2] at H7
    rw [(hh 8).1, (hh 8).2] at H8
    rw [(hh 9).1, (hh 9).2] at H9
    clear hh hbad hvl HD
    go_enter Tryz.func3, Tryz.ntmps3
    go_wp2_with fail
    refine (H0.out _).mono ?_
    rintro e w1 ⟨rfl, hb1⟩
    go_wp2_with fail
    refine (H7.out _).mono ?_
    rintro e w2 ⟨rfl, hb2⟩
    have hb2 := hb1.trans (hb2.mono hb1.size)
    go_wp2_with fail
    refine (H8.out _).mono ?_
    rintro e w3 ⟨rfl, hb3⟩
    have hb3 := hb2.trans (hb3.mono hb2.size)
    go_wp2_with fail
    refine (H9.out _).mono ?_
    rintro e w4 ⟨rfl, hb4⟩
    have hb4 := hb3.trans (hb4.mono hb3.size)
    clear hb1 hb2 hb3
    go_wp2_with fail
    go_ret
    exact ⟨rfl, hb4⟩
  · obtain ⟨n, ho⟩ : ∃ n, numL 10 9 arg.data.toList = some n := by
      cases h : numL 10 9 arg.data.toList with
      | none => exact absurd (.inl h) hbad
      | some n => exact ⟨n, rfl⟩
    have hsm : ¬ 8192 < v.data.toList.length := fun h => hbad (.inr (by omega))
    have hh : ∀ op, (holdN op arg.data.toList v.data.toList).1 = tstN op n v.data.toList ∧ ((holdN op arg.data.toList v.data.toList).2 == 0) = true := fun op => by
      rw [hold_yes ho hsm]; exact ⟨rfl, rfl⟩
    rw [(hh 7).1, (hh 7).2] at H7
    rw [(hh 8).1, (hh 8).2] at H8
    rw [(hh 9).1, (hh 9).2] at H9
    rw [numRes_parts] at HD
    have HCT : Hid (([tstN 7 n v.data.toList, tstN 8 n v.data.toList, tstN 9 n v.data.toList].filter id).length = (if decE (numL 10 9 v.data.toList) = 0 then 1 else 0) ∧ (decE (numL 10 9 v.data.toList) = 0 ∨ decE (numL 10 9 v.data.toList) = 4)) := by
      unfold Hid tstN
      cases numL 10 9 v.data.toList with
      | none => exact ⟨rfl, .inr rfl⟩
      | some k =>
        refine ⟨?_, .inl rfl⟩
        unfold cmpN decE
        dsimp only
        rw [if_pos rfl, if_pos rfl, if_neg (by decide), if_pos rfl, if_neg (by decide), if_neg (by decide)]
        rcases Int.lt_trichotomy n k with h | h | h
        · rw [decide_eq_true h, decide_eq_false (by omega : ¬ k < n), beq_eq_false_iff_ne.2 (by omega : k ≠ n)]; rfl
        · rw [decide_eq_false (by omega : ¬ n < k), decide_eq_false (by omega : ¬ k < n), beq_iff_eq.2 h.symm]; rfl
        · rw [decide_eq_false (by omega : ¬ n < k), decide_eq_true h, beq_eq_false_iff_ne.2 (by omega : k ≠ n)]; rfl
    generalize tstN 7 n v.data.toList = a at *
    generalize tstN 8 n v.data.toList = b at *
    generalize tstN 9 n v.data.toList = c at *
    generalize decE (numL 10 9 v.data.toList) = E at *
    generalize decN (numL 10 9 v.data.toList) = D at *
    clear hh hbad hvl hsm ho
    go_enter Tryz.func3, Tryz.ntmps3
    go_wp2_with fail
    refine (H0.out _).mono ?_
    rintro e w1 ⟨rfl, hb1⟩
    go_wp2_with fail
    refine (H7.out _).mono ?_
    rintro e w2 ⟨rfl, hb2⟩
    have hb2 := hb1.trans (hb2.mono hb1.size)
    go_wp2_with fail
    refine (H8.out _).mono ?_
    rintro e w3 ⟨rfl, hb3⟩
    have hb3 := hb2.trans (hb3.mono hb2.size)
    go_wp2_with fail
    refine (H9.out _).mono ?_
    rintro e w4 ⟨rfl, hb4⟩
    have hb4 := hb3.trans (hb4.mono hb3.size)
    have hb5 := hb4.alloc hb4.size (.cells #[.bool a, .bool b, .bool c] 4)
    have hcell : ∀ j (h : j < [a, b, c].length), (w4.alloc (.cells #[.bool a, .bool b, .bool c] 4)).cell? ⟨w4.heap.size, j, none⟩ = some (.bool [a, b, c][j]) := fun j h => by
      rw [new_cell (Below.refl _ _) j]
      match j, h with
      | 0, _ => rfl
      | 1, _ => rfl
      | 2, _ => rfl
    have HCE := Lib.hid hcell
    have HB5 := Lib.hid hb5
    clear hb1 hb2 hb3 hb4 hb5 hcell
    go_wp2_with fail
    generalize (w4.alloc (.cells #[.bool a, .bool b, .bool c] 4)) = W5 at *
    obtain ⟨L, hL⟩ : ∃ L, [a, b, c] = L := ⟨_, rfl⟩
    have hLl : L.length = 3 := by rw [← hL]; rfl
    rw [hL] at HCT HCE
    have HLL := Lib.hid hLl
    clear hL hLl
    go_loopw [13, 63] (fun n i wr => BRel L W5 n i wr) (fun _ i _ => 3 - (intOf i).toNat)
    case atStart => exact ⟨0, Nat.zero_le _, rfl, rfl, rfl⟩
    case round =>
      obtain ⟨k, hk, rfl, rfl, hw⟩ := hrel
      rw [hw]
      rw [HLL.out] at hk
      by_cases hlt : k < 3
      · have hkl : k < L.length := by rw [HLL.out]; exact hlt
        have hc := HCE.out k hkl
        have i1 : (k : Int) < 3 := by omega
        have i2 : (0 : Int) ≤ (k : Int) := by omega
        have i7 : IntKind.i64.wrap ((k : Int) + 1) = (k : Int) + 1 := IntWalk.i64_in _ (by omega)
        have hcnt : ((L.take k).filter id).length ≤ k := Nat.le_trans (List.length_filter_le _ _) (List.length_take_le _ _)
        have HTK : Hid (((L.take (k + 1)).filter id).length = ((L.take k).filter id).length + (if L[k] = true then 1 else 0)) := by
          unfold Hid
          rw [List.take_succ_eq_append_getElem hkl, List.filter_append, List.length_append]
          cases L[k] <;> rfl
        generalize ((L.take k).filter id).length = m at *
        have i8 : IntKind.i64.wrap ((m : Int) + 1) = (m : Int) + 1 := IntWalk.i64_in _ (by omega)
        cases hq : L[k] with
        | true =>
          rw [hq] at hc
          have HT2 : Hid (((L.take (k + 1)).filter id).length = m + 1) := by unfold Hid; rw [HTK.out, hq]; rfl
          clear hq HTK
          go_wp2_with fail
          go_roundw
          case rel => exact ⟨k + 1, by rw [HLL.out]; omega, by go_num, by rw [HT2.out]; go_num, rfl⟩
          case measure => simp [intOf] <;> omega
        | false =>
          rw [hq] at hc
          have HT2 : Hid (((L.take (k + 1)).filter id).length = m) := by unfold Hid; rw [HTK.out, hq]; rfl
          clear hq HTK
          go_wp2_with fail
          go_roundw
          case rel => exact ⟨k + 1, by rw [HLL.out]; omega, by go_num, by rw [HT2.out], rfl⟩
          case measure => simp [intOf] <;> omega
      · obtain rfl : k = 3 := by omega
        have e3 : L.take 3 = L := List.take_of_length_le (by rw [HLL.out]; exact Nat.le_refl _)
        rw [e3]
        obtain ⟨hct, hE⟩ := HCT.out
        rw [hct]
        clear hct e3 HCT
        rcases hE with rfl | rfl
        all_goals
          simp only [reduceIte, Int.reduceEq]
          go_wp2_with (go_at_call 6; refine (HD.out _).mono ?_; rintro e w6 ⟨rfl, hw6⟩; rw [hw6])
          go_ret
          exact ⟨rfl, HB5.out⟩
end Go.Proofs.YtdbipccopijgeaaGreatDoor
