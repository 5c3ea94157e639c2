/- The walk of VarsNames. -/
import Derived.Test.YtnpopobeinbplaaDoorVarV
import Derived.Test.YtnpopobeinbplaaDoorOpenQ
import Derived.Test.YtnpopobeinbplaaDoorOpenG
namespace Go.Proofs.YtnpopobeinbplaaDoor
open Go.RowKit

set_option maxRecDepth 100000 in
theorem hello_any (w : World) : Calls Tryd.prog 24 #[] w fun e w' => e = .returned (.agg #[.string (ByteArray.mk #[71, 69, 84]), .string (ByteArray.mk #[47, 97, 63, 98, 61, 99]), .slice none 0 0, .string (ByteArray.mk #[])]) ∧ Below w.heap.size w w' := by
  have hb : Below w.heap.size w (w.alloc (.cells #[.string (ByteArray.mk #[71, 69, 84]), .string (ByteArray.mk #[47, 97, 63, 98, 61, 99]), .slice none 0 0, .string (ByteArray.mk #[])] 50)) := (Below.refl _ _).alloc (Nat.le_refl _) _
  go_enter Tryd.func24, Tryd.ntmps24
  go_wp2_with fail
  exact bodyPost_ret (v := .agg #[.string (ByteArray.mk #[71, 69, 84]), .string (ByteArray.mk #[47, 97, 63, 98, 61, 99]), .slice none 0 0, .string (ByteArray.mk #[])]) (by simp [results, Tryd.results24, go_sem]) rfl ⟨rfl, hb⟩
theorem only_all (l : List Pair) : onlyP l (ByteArray.mk #[]) = l := by
  unfold onlyP
  exact List.filter_eq_self.2 fun x _ => by unfold isN; rw [Lib.toList_data (ByteArray.mk #[])]; rfl
def NamRel (l : List Pair) (name : ByteArray) (W : World) (v i : Value) (wr : World) : Prop :=
  ∃ k : Nat, k ≤ l.length ∧ i = .int .i64 k ∧ v = .int .i64 ((onlyP (l.take k) name).length : Int) ∧ Below W.heap.size W wr
theorem only_len (l : List Pair) (name : ByteArray) (k : Nat) (h : k < l.length) : (onlyP (l.take (k + 1)) name).length = (onlyP (l.take k) name).length + (if isN name l[k] = true then 1 else 0) := by
  rw [onlyP_snoc l name k h, List.length_append]
  split <;> rfl

set_option maxRecDepth 100000 in
set_option maxHeartbeats 3200000 in
theorem varsNames_walk (m t b : ByteArray) (fs : List PairV) (A : Option Addr) (c : Nat) (list : List Pair) (Al : Option Addr) (c1 : Nat) (name : ByteArray) (w : World)
    (hin : ValIn m t b fs A list Al [] none w) (hz : ValSz t fs list [] 0 0) :
    Calls Tryd.prog 6 #[.agg #[.string m, .string t, .slice A fs.length c, .string b], .slice Al list.length c1, .string name] w fun e w' => e = .returned (.bool true) ∧ Below w.heap.size w w' := by
  have hbx : ∀ W, Below (w.heap.size + 1) (w.alloc (.cells #[.string m, .string t, .slice A fs.length c, .string b] 50)) W → (W.cell? ⟨w.heap.size, 0, none⟩ = some (.string m) ∧ W.cell? ⟨w.heap.size, 1, none⟩ = some (.string t) ∧ W.cell? ⟨w.heap.size, 2, none⟩ = some (.slice A fs.length c) ∧ W.cell? ⟨w.heap.size, 3, none⟩ = some (.string b)) ∧ Below w.heap.size w W ∧ ValIn m t b fs A list Al [] none W := fun W hb => by
    obtain ⟨h1, h2⟩ := box_facts hb
    exact ⟨⟨h1 0, h1 1, h1 2, h1 3⟩, h2, hin.below h2⟩
  have HBX := Lib.hid hbx
  obtain ⟨W0, hW0⟩ : ∃ W0, w.alloc (.cells #[.string m, .string t, .slice A fs.length c, .string b] 50) = W0 := ⟨_, rfl⟩
  have hz0 : w.heap.size + 1 ≤ W0.heap.size := by rw [← hW0]; simp
  rw [hW0] at HBX
  have HW0 := Lib.hid hW0
  have HZ := Lib.hid hz
  have HV0 : Hid (∀ (W : World) g, g < W.heap.size → LibOk W → TabOk W → Sl W W.heap.size 2 (some ⟨g, 0, none⟩) 1 [.string (ByteArray.mk #[97]), .string (ByteArray.mk #[49])] → Calls Tryd.prog 23 #[.agg #[.int .i64 7, .int .i64 0, .string (ByteArray.mk #[])], .agg #[.string (ByteArray.mk #[71, 69, 84]), .string (ByteArray.mk #[47, 97, 63, 98, 61, 99]), .slice none 0 0, .string (ByteArray.mk #[])], .int .u32 0, .int .i64 0, .slice (some ⟨g, 0, none⟩) 1 1, .slice none 0 0] W (RowA [(ByteArray.mk #[97], ByteArray.mk #[97])] W)) := fun W g _ h1 h2 h3 =>
    Values_any 7 0 _ _ _ _ [] none 0 0 0 [(ByteArray.mk #[97], ByteArray.mk #[49])] _ 1 [] none 0 W ⟨Sl.nil _ _ _ _, h3, Sl.nil _ _ _ _, h1, h2⟩ ⟨by decide, by decide, fun f hf => (by cases hf), by decide, by decide, by decide, by decide⟩
  have HV : Hid (∀ (K : Int) (nm : ByteArray) (W : World), Below (w.heap.size + 1) W0 W → Calls Tryd.prog 23 #[.agg #[.int .i64 K, .int .i64 0, .string nm], .agg #[.string m, .string t, .slice A fs.length c, .string b], .int .u32 0, .int .i64 0, .slice Al list.length c1, .slice none 0 0] W (RowA (valP K nm m t b fs 0 0 list []) W)) := fun K nm W h =>
    Values_any K 0 nm m t b fs A c 0 0 list Al c1 [] none 0 W (HBX.out W h).2.2 hz
  have HV6 : Hid (∀ W, Below (w.heap.size + 1) W0 W → _) := fun W h => HV.out 6 (ByteArray.mk #[]) W h
  have e6 : valP 6 (ByteArray.mk #[]) m t b fs 0 0 list [] = list := only_all list
  rw [e6] at HV6
  have HV6n : Hid (∀ W, Below (w.heap.size + 1) W0 W → _) := fun W h => HV.out 6 name W h
  have HV7 : Hid (∀ W, Below (w.heap.size + 1) W0 W → _) := fun W h => HV.out 7 (ByteArray.mk #[]) W h
  have HV8 : Hid (∀ W, Below (w.heap.size + 1) W0 W → _) := fun W h => HV.out 8 (ByteArray.mk #[]) W h
  have e6n : valP 6 name m t b fs 0 0 list [] = onlyP list name := rfl
  have e7 : valP 7 (ByteArray.mk #[]) m t b fs 0 0 list [] = bareP list := rfl
  have e8 : valP 8 (ByteArray.mk #[]) m t b fs 0 0 list [] = fieldsP fs := only_all _
  rw [e6n] at HV6n
  rw [e7] at HV7
  rw [e8] at HV8
  have h7 : (bareP list).length = list.length := by unfold bareP; rw [List.length_map]
  have h8 : (fieldsP fs).length = fs.length := by unfold fieldsP; rw [List.length_map]
  have H7 := Lib.hid h7
  have H8 := Lib.hid h8
  have HL := Lib.hid hz.zl
  have HLN := fun k h => Lib.hid (only_len list name k h)
  clear hbx hW0 hin hz HV e6 e6n e7 e8 h7 h8
  go_enter Tryd.func6, Tryd.ntmps6
  go_upto_region 1 with fail
  rw [HW0.out]
  go_wp2_with fail
  refine (hello_any _).mono ?_
  rintro e w1 ⟨rfl, hb1⟩
  have hb1 := hb1.mono hz0
  have hba := hb1.alloc (Nat.le_trans hz0 hb1.size) (.cells #[.string (ByteArray.mk #[97]), .string (ByteArray.mk #[49])] 64)
  obtain ⟨_, _, hI1⟩ := HBX.out _ hba
  have HV0X := Lib.hid (HV0.out (w1.alloc (.cells #[.string (ByteArray.mk #[97]), .string (ByteArray.mk #[49])] 64)) w1.heap.size (by simp) hI1.lib hI1.tab (Sl.lit rfl (by simp) rfl rfl))
  have HBA := Lib.hid hba
  clear hb1 hba hI1 HV0
  go_wp2_with fail
  refine HV0X.out.mono ?_
  rintro e w2 ⟨v2, rfl, hO2, hb2⟩
  have hb2 := HBA.out.trans (hb2.mono (Nat.le_trans hz0 HBA.out.size))
  obtain ⟨A2, d2, rfl, hs2⟩ := hO2.form
  have hal : Below w2.heap.size w2 (w2.alloc (.cells #[.string (ByteArray.mk #[97]), .string (ByteArray.mk #[97])] 64)) := (Below.refl _ _).alloc (Nat.le_refl _) _
  have HEQ := Lib.hid (EqualA_yes [(ByteArray.mk #[97], ByteArray.mk #[97])] A2 (some ⟨w2.heap.size, 0, none⟩) d2 1 (w2.alloc (.cells #[.string (ByteArray.mk #[97]), .string (ByteArray.mk #[97])] 64)) ((hs2.below hal).more hal.size) (Sl.lit rfl (by simp) rfl rfl) (by decide))
  have hba := hb2.alloc (Nat.le_trans hz0 hb2.size) (.cells #[.string (ByteArray.mk #[97]), .string (ByteArray.mk #[97])] 64)
  have HBA2 := Lib.hid hba
  clear hO2 hs2 hal hb2 hba HV0X HBA
  go_wp2_with fail
  refine HEQ.out.mono ?_
  rintro e w3 ⟨rfl, hb3⟩
  have hb3 := HBA2.out.trans (hb3.mono (Nat.le_trans hz0 HBA2.out.size))
  have ⟨⟨b0, b1, b2, b3⟩, _⟩ := HBX.out w3 hb3
  have HB3 := Lib.hid hb3
  clear hb3 HEQ HBA2
  go_wp2_with fail
  refine (HV6.out w3 HB3.out).mono ?_
  rintro e w4 ⟨v4, rfl, hO4, hb4⟩
  have hb4 := HB3.out.trans (hb4.mono (Nat.le_trans hz0 HB3.out.size))
  obtain ⟨A4, d4, rfl, hs4⟩ := hO4.form
  have HS4 : Hid (∀ W, Below w4.heap.size w4 W → Sl W W.heap.size 2 A4 list.length (list.flatMap cellsA)) := fun W h => (hs4.below h).more h.size
  clear b0 b1 b2 b3 hO4 hs4
  have ⟨⟨b0, b1, b2, b3⟩, _⟩ := HBX.out w4 hb4
  have HB4 := Lib.hid hb4
  clear hb4 HV6 HB3
  go_wp2_with fail
  refine (HV6n.out w4 HB4.out).mono ?_
  rintro e w5 ⟨v5, rfl, hO5, hb5⟩
  have HB45 := Lib.hid hb5
  have hb5 := HB4.out.trans (hb5.mono (Nat.le_trans hz0 HB4.out.size))
  obtain ⟨A5, d5, rfl, _⟩ := hO5.form
  clear b0 b1 b2 b3 hO5
  have ⟨⟨b0, b1, b2, b3⟩, _⟩ := HBX.out w5 hb5
  have HB5 := Lib.hid hb5
  clear hb5 HV6n
  go_wp2_with fail
  refine (HV7.out w5 HB5.out).mono ?_
  rintro e w6 ⟨v6, rfl, hO6, hb6⟩
  have HB46 := Lib.hid (HB45.out.trans (hb6.mono HB45.out.size))
  have hb6 := HB5.out.trans (hb6.mono (Nat.le_trans hz0 HB5.out.size))
  obtain ⟨A6, d6, rfl, _⟩ := hO6.form
  rw [H7.out]
  clear b0 b1 b2 b3 hO6
  have ⟨⟨b0, b1, b2, b3⟩, _⟩ := HBX.out w6 hb6
  have HB6 := Lib.hid hb6
  clear hb6 HV7
  go_wp2_with fail
  refine (HV8.out w6 HB6.out).mono ?_
  rintro e w7 ⟨v7, rfl, hO7, hb7⟩
  have HB47 := Lib.hid (HB46.out.trans (hb7.mono HB46.out.size))
  have hb7 := HB6.out.trans (hb7.mono (Nat.le_trans hz0 HB6.out.size))
  obtain ⟨A7, d7, rfl, _⟩ := hO7.form
  rw [H8.out]
  have HB7 := Lib.hid hb7
  clear b0 b1 b2 b3 hO7 hb7 HV8 HB45 HB46 HB5 HB6
  have hS := HS4.out w7 HB47.out
  obtain ⟨wo, hwo⟩ : ∃ wo : World, wo = w7 := ⟨_, rfl⟩
  go_wp2_with fail
  go_loopw [12, 44] (fun v i wr => NamRel list name w7 v i wr) (fun _ i _ => list.length - (intOf i).toNat)
  case atStart => exact ⟨0, Nat.zero_le _, rfl, rfl, Below.refl _ _⟩
  case round =>
    obtain ⟨k, hk, rfl, rfl, hb⟩ := hrel
    have hB := HB7.out.trans (hb.mono (Nat.le_trans hz0 HB7.out.size))
    obtain ⟨⟨b0, b1, b2, b3⟩, hbw, hI⟩ := HBX.out wr hB
    have hkl : (onlyP (list.take k) name).length ≤ k := onlyP_le _ _ _
    have hl4 := HL.out
    by_cases hlt : k < list.length
    · have dd1 : decide ((k : Int) < (list.length : Int)) = true := by simp; omega
      have i7 : IntKind.i64.wrap ((k : Int) + 1) = (k : Int) + 1 := IntWalk.i64_in _ (by omega)
      have i8 : IntKind.i64.wrap (((onlyP (list.take k) name).length : Int) + 1) = ((onlyP (list.take k) name).length : Int) + 1 := IntWalk.i64_in _ (by omega)
      obtain ⟨bb, off, hA, hbB, x0, x1⟩ := arg_at hI.l k hlt
      subst hA
      have HG := HLN k hlt
      have HBB := Lib.hid (hb.alloc hb.size (.cells #[.string list[k].1, .string list[k].2] 64))
      cases hq : isN name list[k] with
      | true =>
        have HG2 : Hid ((onlyP (list.take (k + 1)) name).length = (onlyP (list.take k) name).length + 1) := by unfold Hid; rw [HG.out, if_pos hq]
        unfold isN at hq
        generalize list[k] = X at *
        obtain ⟨n1, n2⟩ := X
        dsimp only at *
        generalize (onlyP (list.take k) name).length = acc at *
        clear hb hB hbw hI HG
        cases he : name.toList.isEmpty with
        | true =>
          clear hq
          go_wp2_with fail
          exact ⟨⟨k + 1, by omega, rfl, by rw [HG2.out]; rfl, HBB.out⟩, by dsimp only [intOf]; omega⟩
        | false =>
          rw [he, Bool.false_or] at hq
          go_wp2_with fail
          exact ⟨⟨k + 1, by omega, rfl, by rw [HG2.out]; rfl, HBB.out⟩, by dsimp only [intOf]; omega⟩
      | false =>
        have HG2 : Hid ((onlyP (list.take (k + 1)) name).length = (onlyP (list.take k) name).length) := by unfold Hid; rw [HG.out, if_neg (by rw [hq]; decide), Nat.add_zero]
        unfold isN at hq
        rw [Bool.or_eq_false_iff] at hq
        obtain ⟨he, hq⟩ := hq
        generalize list[k] = X at *
        obtain ⟨n1, n2⟩ := X
        dsimp only at *
        generalize (onlyP (list.take k) name).length = acc at *
        clear hb hB hbw hI HG
        go_wp2_with fail
        exact ⟨⟨k + 1, by omega, rfl, by rw [HG2.out], HBB.out⟩, by dsimp only [intOf]; omega⟩
    · obtain rfl : k = list.length := by omega
      have dd1 : decide ((list.length : Int) < (list.length : Int)) = false := by simp
      rw [List.take_length]
      have HE2 := Lib.hid (EqualA_yes list A4 Al d4 c1 wr (HS4.out wr (HB47.out.trans (hb.mono HB47.out.size))) hI.l HL.out)
      have HBWR := Lib.hid hbw
      have hzr : w.heap.size < wr.heap.size := Nat.le_trans hz0 hB.size
      generalize (onlyP list name).length = nn at *
      have HN : Hid (∀ W, Below wr.heap.size wr W → W.cell? ⟨w.heap.size, 2, none⟩ = some (.slice A fs.length c)) := fun W h => cell_kept h b2
      clear hb hB hbw hI hkl hk b0 b1 b3
      go_wp2_with (go_at_call 25; (with_reducible refine HE2.out.mono ?_); rintro e w9 ⟨rfl, hb9⟩; have b92 := HN.out w9 hb9)
      go_ret
      exact ⟨by simp, HBWR.out.trans (hb9.mono HBWR.out.size)⟩
theorem varsNames_any (q : RqV) (a : GArg) (name : ByteArray) (w : World) {v v2 : Value} (x : ReqArg w v q) (hq : ReqBulk q) (y : ArgsArg w v2 a) (hb : bulkA a.l ≤ 1048576 ∧ a.l.length ≤ 1048576) (_ : name.size ≤ 1048576) (hlib : LibOk w)
    (ht : Lib.TabIs Tryd.prog w "internal/strconv.uint64pow10" .u64 Lib.pow10Tab) :
    Calls Tryd.prog 6 #[.agg #[.string q.m, .string q.t, .slice q.A q.fs.length q.c, .string q.b], .slice a.A a.l.length a.c, .string name] w fun e w' => e = .returned (.bool true) ∧ Below w.heap.size w w' :=
  varsNames_walk q.m q.t q.b q.fs q.A q.c a.l a.A a.c name w ⟨x.sl, y.sl, Sl.nil _ _ _ _, hlib, TabOk.of ht⟩ ⟨by have := hq.t; omega, by have := hq.n; omega, fun f hf => (x.sizes f hf).1, by have := hb.2; omega, by decide, by decide, by decide⟩
end Go.Proofs.YtnpopobeinbplaaDoor
