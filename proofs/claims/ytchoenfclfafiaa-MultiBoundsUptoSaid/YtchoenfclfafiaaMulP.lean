/- The walk of multi.part. -/
import Derived.Test.YtchoenfclfafiaaMulW
import Derived.Test.YtchoenfclfafiaaIdxA
import Derived.Deep.Cut
namespace Go.Proofs.Ytchoenfclfafiaa
open Go.RowKit

theorem skip_fuel : ∀ (f g : Nat) (s : List UInt8), s.length < f → s.length < g → skipR f s = skipR g s
  | 0, _, _, h, _ => by omega
  | _, 0, _, _, h => by omega
  | f + 1, g + 1, s, h1, h2 => by
    unfold skipR
    cases hc : (Lib.cut s nlL).2.2 with
    | false => rfl
    | true =>
      have h3 := cut_short hc
      have : nlL.length = 2 := rfl
      rw [skip_fuel f g (Lib.cut s nlL).2.1 (by omega) (by omega)]
theorem skip_step (s : List UInt8) : skipL s = if (Lib.cut s nlL).2.2 = false then none else if (Lib.cut s nlL).1 = [] then some (Lib.cut s nlL).2.1 else skipL (Lib.cut s nlL).2.1 := by
  have e : skipL s = if (Lib.cut s nlL).2.2 = false then none else if (Lib.cut s nlL).1 = [] then some (Lib.cut s nlL).2.1 else skipR s.length (Lib.cut s nlL).2.1 := by
    unfold skipL
    rw [skipR]
  rw [e]
  cases hc : (Lib.cut s nlL).2.2 with
  | false => rfl
  | true =>
    have h3 := cut_short hc
    have : nlL.length = 2 := rfl
    have e2 : skipR s.length (Lib.cut s nlL).2.1 = skipL (Lib.cut s nlL).2.1 := skip_fuel _ _ _ (by omega) (by omega)
    rw [e2]
theorem CutSuffix_bs (s p : ByteArray) (W : World) (hs : s.size ≤ 9223372036854775807) :
    Calls Try.prog 68 #[.string s, .string p] W fun e w' => e = .returned (.tuple #[.string (bs (Lib.trimSuffix s.data.toList p.data.toList)), .bool (Lib.hasSuffix s.data.toList p.data.toList)]) ∧ w' = W := Try.strings_CutSuffix s p W hs
theorem CutPrefix_bs (s p : ByteArray) (W : World) :
    Calls Try.prog 42 #[.string s, .string p] W fun e w' => e = .returned (.tuple #[.string (bs (Lib.trimPrefix s.data.toList p.data.toList)), .bool (Lib.hasPrefix s.data.toList p.data.toList)]) ∧ w' = W := Try.strings_CutPrefix s p W
def ArgAt (g : Nat) (a b : ByteArray) (w : World) : Prop := w.heap[g]? = some (.cells #[.string a, .string b] 43 (0, 0))
theorem ArgAt.cells {g : Nat} {a b : ByteArray} {w : World} (h : ArgAt g a b w) : w.cell? ⟨g, 0, none⟩ = some (.string a) ∧ w.cell? ⟨g, 1, none⟩ = some (.string b) := ⟨cell_of_row w g 0 _ _ _ h, cell_of_row w g 1 _ _ _ h⟩
theorem ArgAt.free {g : Nat} {a b : ByteArray} {w : World} (h : ArgAt g a b w) (j : Nat) : w.frozen? ⟨g, j, none⟩ = false := by
  unfold ArgAt at h
  simp [World.frozen?, h]
def PartPost (s b : List UInt8) (w : World) (e : Ending) (w' : World) : Prop :=
  ((partR s b = none ∧ e = .returned (.tuple #[.agg #[.string (ByteArray.mk #[]), .string (ByteArray.mk #[])], .string (ByteArray.mk #[]), .bool false])) ∨
    ∃ n v r, partR s b = some ((n, v), r) ∧ e = .returned (.tuple #[.agg #[.string (bs n), .string (bs v)], .string (bs r), .bool true])) ∧ Below w.heap.size w w'
theorem trimSuf_len (s p : List UInt8) : (Lib.trimSuffix s p).length ≤ s.length := by
  unfold Lib.trimSuffix
  split
  · exact List.length_take_le' _ _
  · exact Nat.le_refl _
def SkRel (L : Nat) (SK : Option (List UInt8)) (W0 : World) (v8 : Value) (wr : World) : Prop :=
  ∃ r : List UInt8, v8 = .string (bs r) ∧ r.length ≤ L ∧ skipL r = SK ∧ Below W0.heap.size W0 wr
def strLen : Value → Nat
  | .string s => s.size
  | _ => 0

set_option maxRecDepth 100000 in
set_option maxHeartbeats 6400000 in
theorem part_any (s b : ByteArray) (w : World) (hs : s.size ≤ 65536) (hb : b.size ≤ 65536) (hlib : LibOk w) :
    Calls Try.prog 43 #[.string s, .string b] w (PartPost s.data.toList b.data.toList w) := by
  obtain ⟨W0, hW0⟩ : ∃ W0, w.alloc (.cells #[.string (ByteArray.mk #[]), .string (ByteArray.mk #[])] 43) = W0 := ⟨_, rfl⟩
  have hz0 : w.heap.size < W0.heap.size := by rw [← hW0]; simp
  have hw0 : Below w.heap.size w W0 := by rw [← hW0]; exact (Below.refl _ _).alloc (Nat.le_refl _) _
  have hr0 : ArgAt w.heap.size (ByteArray.mk #[]) (ByteArray.mk #[]) W0 := by rw [← hW0]; exact heap_alloc_new _ _
  have HAR : Hid (∀ W, Below W0.heap.size W0 W → ArgAt w.heap.size (ByteArray.mk #[]) (ByteArray.mk #[]) W ∧ Below w.heap.size w W ∧ LibOk W) := fun W h => by
    have h2 := hw0.trans (h.mono (Nat.le_of_lt hz0))
    exact ⟨(h.block _ hz0).trans hr0, h2, hlib.below h2⟩
  obtain ⟨c1, c2, c3, hC⟩ : ∃ x y z, Lib.cut s.data.toList (ByteArray.mk #[13, 10]).data.toList = (x, y, z) := ⟨_, _, _, rfl⟩
  have hsl : s.data.toList.length = s.size := by simp
  have HCUT := Lib.hid (Cut_any s (ByteArray.mk #[13, 10]) W0 (by omega) (HAR.out W0 (Below.refl _ _)).2.2 hC)
  have en : (ByteArray.mk #[13, 10]).data.toList = nlL := rfl
  rw [en] at hC
  obtain ⟨l1, l2⟩ := cut_len s.data.toList nlL
  rw [hC] at l1 l2
  dsimp only at l1 l2
  have HPT : Hid (partR s.data.toList b.data.toList = if (c3 && (frontR c1 beginL).2 && Lib.hasSuffix (frontR c1 beginL).1 [34] && !Lib.containsAny (Lib.trimSuffix (frontR c1 beginL).1 [34]) specL) = false then none
    else match skipL c2 with
    | none => none
    | some r => if (Lib.cut (nlL ++ r) (nlL ++ lineM b.data.toList)).2.2 = false then none
      else some ((Lib.trimSuffix (frontR c1 beginL).1 [34], Lib.trimPrefix (Lib.cut (nlL ++ r) (nlL ++ lineM b.data.toList)).1 nlL), (Lib.cut (nlL ++ r) (nlL ++ lineM b.data.toList)).2.1)) := by
    unfold Hid partR headOk nameR
    rw [hC]
    rfl
  have hFR : ∀ W, Calls Try.prog 45 #[.string (bs c1), .string (ByteArray.mk #[99, 111, 110, 116, 101, 110, 116, 45, 100, 105, 115, 112, 111, 115, 105, 116, 105, 111, 110, 58, 32, 102, 111, 114, 109, 45, 100, 97, 116, 97, 59, 32, 110, 97, 109, 101, 61, 34])] W fun e w' => e = .returned (.tuple #[.string (bs (frontR c1 beginL).1), .bool (frontR c1 beginL).2]) ∧ Below W.heap.size W w' := fun W => by
    have := front_any (bs c1) (ByteArray.mk #[99, 111, 110, 116, 101, 110, 116, 45, 100, 105, 115, 112, 111, 115, 105, 116, 105, 111, 110, 58, 32, 102, 111, 114, 109, 45, 100, 97, 116, 97, 59, 32, 110, 97, 109, 101, 61, 34]) W (by rw [bs_size]; unfold maxLen; omega)
    have eb : (ByteArray.mk #[99, 111, 110, 116, 101, 110, 116, 45, 100, 105, 115, 112, 111, 115, 105, 116, 105, 111, 110, 58, 32, 102, 111, 114, 109, 45, 100, 97, 116, 97, 59, 32, 110, 97, 109, 101, 61, 34]).data.toList = beginL := rfl
    rw [bs_toList, eb] at this
    exact this
  have hfl := front_len c1 beginL
  generalize frontR c1 beginL = F at *
  obtain ⟨fb, fo⟩ := F
  dsimp only at HPT hFR hfl
  have hSX : ∀ W, Calls Try.prog 68 #[.string (bs fb), .string (ByteArray.mk #[34])] W fun e w' => e = .returned (.tuple #[.string (bs (Lib.trimSuffix fb [34])), .bool (Lib.hasSuffix fb [34])]) ∧ w' = W := fun W =>
    CutSuffix_bs (bs fb) (ByteArray.mk #[34]) W (by rw [bs_size]; omega)
  have hnl := trimSuf_len fb [34]
  generalize Lib.trimSuffix fb [34] = nm at *
  generalize Lib.hasSuffix fb [34] = hx at *
  have HCA : Hid (∀ W, Calls Try.prog 38 #[.string (bs nm), .string (ByteArray.mk #[34, 13, 10])] W fun e w' => e = .returned (.bool (Lib.containsAny nm specL)) ∧ Below W.heap.size W w') := fun W => by
    have := ContainsAny3_any (bs nm) W (by rw [bs_size]; omega)
    rw [bs_toList] at this
    exact this
  generalize Lib.containsAny nm specL = ca at *
  have HFR := Lib.hid hFR
  have HSX := Lib.hid hSX
  have HW0 := Lib.hid hW0
  have HNONE : Hid (∀ W, partR s.data.toList b.data.toList = none → Below W0.heap.size W0 W → PartPost s.data.toList b.data.toList w (.returned (.tuple #[.agg #[.string (ByteArray.mk #[]), .string (ByteArray.mk #[])], .string (ByteArray.mk #[]), .bool false])) ((W.setCell ⟨w.heap.size, 0, none⟩ (.string (ByteArray.mk #[]))).setCell ⟨w.heap.size, 1, none⟩ (.string (ByteArray.mk #[])))) := fun W h1 h2 =>
    ⟨.inl ⟨h1, rfl⟩, ((HAR.out W h2).2.1.setCell (p := ⟨w.heap.size, 0, none⟩) (Nat.le_refl _) _).setCell (p := ⟨w.heap.size, 1, none⟩) (Nat.le_refl _) _⟩
  have hc2 : c2.length ≤ 65536 := by omega
  generalize hPX : partR s.data.toList b.data.toList = PX at *
  clear hFR hSX hW0 hC en hw0 hr0 hlib l1 l2 hsl hfl hnl
  go_enter Try.func43, Try.ntmps43
  go_upto_region 1 with fail
  rw [HW0.out]
  go_wp2_with (go_at_call 44; apply Hid.out)
  unfold Hid
  refine HCUT.out.mono ?_
  rintro e w1 ⟨rfl, hb1⟩
  have HB1 := Lib.hid hb1
  clear hb1 HCUT
  go_wp2_with (go_at_call 45; apply Hid.out)
  unfold Hid
  refine (HFR.out w1).mono ?_
  rintro e w2 ⟨rfl, hb2⟩
  have HB2 := Lib.hid (HB1.out.trans (hb2.mono HB1.out.size))
  clear hb2 HB1 HFR
  have hr2 := (HAR.out w2 HB2.out).1
  have ⟨z0, z1⟩ := hr2.cells
  have f0 := hr2.free 0
  have f1 := hr2.free 1
  have TT := Lib.hid (two_set (.string (ByteArray.mk #[])) (.string (ByteArray.mk #[])) z0 z1)
  clear hr2
  cases c3 with
  | false =>
    have HP := Lib.hid (HNONE.out w2 (by rw [HPT.out]; rfl) HB2.out)
    clear HPT HNONE
    go_wp2_with (go_at_call 68; apply Hid.out)
    unfold Hid
    refine (HSX.out _).mono ?_
    rintro e w9 ⟨rfl, rfl⟩
    go_wp2_with fail
    exact bodyPost_ret (v := .tuple #[.agg #[.string (ByteArray.mk #[]), .string (ByteArray.mk #[])], .string (ByteArray.mk #[]), .bool false]) (by have t := TT.out; simp [results, Try.results43, go_sem, t.1, t.2]) rfl HP.out
  | true =>
  cases fo with
  | false =>
    have HP := Lib.hid (HNONE.out w2 (by rw [HPT.out]; rfl) HB2.out)
    clear HPT HNONE
    go_wp2_with (go_at_call 68; apply Hid.out)
    unfold Hid
    refine (HSX.out _).mono ?_
    rintro e w9 ⟨rfl, rfl⟩
    go_wp2_with fail
    exact bodyPost_ret (v := .tuple #[.agg #[.string (ByteArray.mk #[]), .string (ByteArray.mk #[])], .string (ByteArray.mk #[]), .bool false]) (by have t := TT.out; simp [results, Try.results43, go_sem, t.1, t.2]) rfl HP.out
  | true =>
  cases hx with
  | false =>
    have HP := Lib.hid (HNONE.out w2 (by rw [HPT.out]; rfl) HB2.out)
    clear HPT HNONE
    go_wp2_with (go_at_call 68; apply Hid.out)
    unfold Hid
    refine (HSX.out _).mono ?_
    rintro e w9 ⟨rfl, rfl⟩
    go_wp2_with fail
    exact bodyPost_ret (v := .tuple #[.agg #[.string (ByteArray.mk #[]), .string (ByteArray.mk #[])], .string (ByteArray.mk #[]), .bool false]) (by have t := TT.out; simp [results, Try.results43, go_sem, t.1, t.2]) rfl HP.out
  | true =>
  go_wp2_with (go_at_call 68; apply Hid.out)
  unfold Hid
  refine (HSX.out _).mono ?_
  rintro e w9 ⟨rfl, rfl⟩
  clear TT z0 z1 f0 f1
  go_wp2_with (go_at_call 38; apply Hid.out)
  unfold Hid
  refine (HCA.out _).mono ?_
  rintro e w3 ⟨rfl, hb3⟩
  have HB3 := Lib.hid (HB2.out.trans (hb3.mono HB2.out.size))
  clear hb3 HB2 HCA HSX
  have hr3 := (HAR.out w3 HB3.out).1
  have ⟨z0, z1⟩ := hr3.cells
  have f0 := hr3.free 0
  have f1 := hr3.free 1
  have TT := Lib.hid (two_set (.string (ByteArray.mk #[])) (.string (ByteArray.mk #[])) z0 z1)
  clear hr3
  cases ca with
  | true =>
    have HP := Lib.hid (HNONE.out w3 (by rw [HPT.out]; rfl) HB3.out)
    clear HPT HNONE
    go_wp2_with fail
    exact bodyPost_ret (v := .tuple #[.agg #[.string (ByteArray.mk #[]), .string (ByteArray.mk #[])], .string (ByteArray.mk #[]), .bool false]) (by have t := TT.out; simp [results, Try.results43, go_sem, t.1, t.2]) rfl HP.out
  | false =>
  have HN0 : Hid (skipL c2 = none → PX = none) := fun h => by rw [HPT.out, h]; rfl
  have HN1 : Hid (∀ r, skipL c2 = some r → PX = if (Lib.cut (nlL ++ r) (nlL ++ lineM b.data.toList)).2.2 = false then none
      else some ((nm, Lib.trimPrefix (Lib.cut (nlL ++ r) (nlL ++ lineM b.data.toList)).1 nlL), (Lib.cut (nlL ++ r) (nlL ++ lineM b.data.toList)).2.1)) := fun r h => by rw [HPT.out, h]; rfl
  clear HPT TT z0 z1 f0 f1
  generalize hSK : skipL c2 = SK at *
  have HST : Hid (SkRel 65536 SK W0 (.string (bs c2)) w3) := ⟨c2, rfl, hc2, hSK, HB3.out⟩
  clear hSK HB3
  go_wp2_with fail
  go_loopw [8, 9, 13] (fun v8 _ _ wr => SkRel 65536 SK W0 v8 wr) (fun v8 _ _ _ => strLen v8)
  case atStart => exact HST.out
  case round =>
    obtain ⟨r, rfl, hr, hsk, hB⟩ := hrel
    have HB := Lib.hid hB
    obtain ⟨a1, a2, a3, hC⟩ : ∃ x y z, Lib.cut r nlL = (x, y, z) := ⟨_, _, _, rfl⟩
    have HCT := Lib.hid (Cut_any (bs r) (ByteArray.mk #[13, 10]) wr (by rw [bs_size]; omega) (HAR.out wr hB).2.2 (a := a1) (b := a2) (c := a3) hC)
    obtain ⟨l1, l2⟩ := cut_len r nlL
    have hstep := skip_step r
    have hshort : a3 = true → a2.length + 2 ≤ r.length := fun h => by
      have := cut_short (s := r) (p := nlL) (by rw [hC]; exact h)
      rw [hC] at this
      exact this
    rw [hC] at l1 l2 hstep
    dsimp only at l1 l2 hstep
    rw [hsk] at hstep
    clear hC hB
    go_wp2_with (go_at_call 44; apply Hid.out)
    unfold Hid
    refine HCT.out.mono ?_
    rintro e w4 ⟨rfl, hb4⟩
    have HB4 := Lib.hid (HB.out.trans (hb4.mono HB.out.size))
    clear hb4 HB HCT
    have hr4 := (HAR.out w4 HB4.out).1
    have ⟨z0, z1⟩ := hr4.cells
    have f0 := hr4.free 0
    have f1 := hr4.free 1
    have TT := Lib.hid (two_set (.string (ByteArray.mk #[])) (.string (ByteArray.mk #[])) z0 z1)
    clear hr4
    cases a3 with
    | false =>
      have HP := Lib.hid (HNONE.out w4 (HN0.out (by rw [hstep]; rfl)) HB4.out)
      clear HN0 HN1 HNONE hstep hsk
      go_wp2_with fail
      exact bodyPost_ret (v := .tuple #[.agg #[.string (ByteArray.mk #[]), .string (ByteArray.mk #[])], .string (ByteArray.mk #[]), .bool false]) (by have t := TT.out; simp [results, Try.results43, go_sem, t.1, t.2]) rfl HP.out
    | true =>
    have hlt := hshort rfl
    by_cases hne : a1 = []
    rotate_left
    · have q1 : a1.isEmpty = false := by cases a1 with | nil => exact absurd rfl hne | cons x l => rfl
      have HNX : Hid (SkRel 65536 SK W0 (.string (bs a2)) w4) := ⟨a2, rfl, by omega, by rw [hstep, if_neg (by decide), if_neg hne], HB4.out⟩
      have HL : Hid ((bs a2).size < (bs r).size) := by unfold Hid; rw [bs_size, bs_size]; omega
      clear HN0 HN1 HNONE hstep hsk TT hne hshort l1 l2
      go_wp2_with fail
      exact ⟨HNX.out, HL.out⟩
    · subst hne
      have HPX := Lib.hid (HN1.out a2 (by rw [hstep, if_neg (by decide), if_pos rfl]))
      have en : (ByteArray.mk #[13, 10] ++ bs a2).data.toList = nlL ++ a2 := by simp [bs, nlL]
      have em : (ByteArray.mk #[13, 10, 45, 45] ++ b).data.toList = nlL ++ lineM b.data.toList := by simp [lineM, nlL]
      obtain ⟨v, lf, o, hC⟩ : ∃ x y z, Lib.cut (nlL ++ a2) (nlL ++ lineM b.data.toList) = (x, y, z) := ⟨_, _, _, rfl⟩
      have hs1 : (ByteArray.mk #[13, 10] ++ bs a2).size = 2 + a2.length := by rw [ByteArray.size_append, bs_size]; rfl
      have HCT := Lib.hid (Cut_any (ByteArray.mk #[13, 10] ++ bs a2) (ByteArray.mk #[13, 10, 45, 45] ++ b) w4 (by rw [hs1]; omega) (HAR.out w4 HB4.out).2.2 (a := v) (b := lf) (c := o) (by rw [en, em]; exact hC))
      have k1 : (ByteArray.mk #[13, 10]).size + (bs a2).size ≤ 9223372036854775807 := by rw [bs_size]; show 2 + a2.length ≤ _; omega
      have k2 : (ByteArray.mk #[13, 10, 45, 45]).size + b.size ≤ 9223372036854775807 := by show 4 + b.size ≤ _; omega
      rw [hC] at HPX
      have HPX2 := HPX
      clear HN0 HN1 hstep hsk hshort l1 l2 TT z0 z1 f0 f1 HPX hs1 en em hC
      go_wp2_with (go_at_call 44; apply Hid.out)
      unfold Hid
      refine HCT.out.mono ?_
      rintro e w5 ⟨rfl, hb5⟩
      have HB5 := Lib.hid (HB4.out.trans (hb5.mono HB4.out.size))
      clear hb5 HCT HB4
      have hr5 := (HAR.out w5 HB5.out).1
      have ⟨z0, z1⟩ := hr5.cells
      have f0 := hr5.free 0
      have f1 := hr5.free 1
      clear hr5
      cases o with
      | false =>
        have TT := Lib.hid (two_set (.string (ByteArray.mk #[])) (.string (ByteArray.mk #[])) z0 z1)
        have HP := Lib.hid (HNONE.out w5 (by rw [HPX2.out]; rfl) HB5.out)
        clear HPX2 HNONE
        go_wp2_with fail
        exact bodyPost_ret (v := .tuple #[.agg #[.string (ByteArray.mk #[]), .string (ByteArray.mk #[])], .string (ByteArray.mk #[]), .bool false]) (by have t := TT.out; simp [results, Try.results43, go_sem, t.1, t.2]) rfl HP.out
      | true =>
        have hCP := CutPrefix_bs (bs v) (ByteArray.mk #[13, 10]) w5
        have eb : (ByteArray.mk #[13, 10]).data.toList = nlL := rfl
        rw [bs_toList, eb] at hCP
        have HP : Hid (PartPost s.data.toList b.data.toList w (.returned (.tuple #[.agg #[.string (bs nm), .string (bs (Lib.trimPrefix v nlL))], .string (bs lf), .bool true])) ((w5.setCell ⟨w.heap.size, 0, none⟩ (.string (bs nm))).setCell ⟨w.heap.size, 1, none⟩ (.string (bs (Lib.trimPrefix v nlL))))) := by
          refine ⟨.inr ⟨nm, Lib.trimPrefix v nlL, lf, ?_, rfl⟩, ((HAR.out w5 HB5.out).2.1.setCell (p := ⟨w.heap.size, 0, none⟩) (Nat.le_refl _) _).setCell (p := ⟨w.heap.size, 1, none⟩) (Nat.le_refl _) _⟩
          rw [hPX, HPX2.out]
          rfl
        have TT := Lib.hid (two_set (.string (bs nm)) (.string (bs (Lib.trimPrefix v nlL))) z0 z1)
        have HCP := Lib.hid hCP
        clear HPX2 hCP eb HNONE
        generalize Lib.trimPrefix v nlL = tv at *
        go_wp2_with (go_at_call 42; apply Hid.out)
        unfold Hid
        refine HCP.out.mono ?_
        rintro e w6 ⟨rfl, rfl⟩
        go_wp2_with fail
        exact bodyPost_ret (v := .tuple #[.agg #[.string (bs nm), .string (bs tv)], .string (bs lf), .bool true]) (by have t := TT.out; simp [results, Try.results43, go_sem, t.1, t.2]) rfl HP.out
end Go.Proofs.Ytchoenfclfafiaa
