/- The walks of Cmd and of CleanAgain. -/
import Derived.Test.YtdbipccopijgeaaDoorClean
import Derived.Test.YtdbipccopijgeaaDoorOLower
namespace Go.Proofs.YtdbipccopijgeaaDoor
open Go.RowKit

def mapTo (f : UInt8 → UInt8) (k : Nat) (l : List UInt8) : List UInt8 := (l.take k).map f ++ l.drop k
theorem mapTo_length (f : UInt8 → UInt8) (k : Nat) (l : List UInt8) : (mapTo f k l).length = l.length := by simp [mapTo]; omega
theorem mapTo_at (f : UInt8 → UInt8) (k : Nat) (l : List UInt8) (h : k < l.length) (h' : k < (mapTo f k l).length) : (mapTo f k l)[k] = l[k] := by
  have e : (mapTo f k l)[k]? = l[k]? := by
    unfold mapTo
    rw [List.getElem?_append_right (by simp; omega)]
    simp [Nat.min_eq_left (Nat.le_of_lt h)]
  rw [List.getElem?_eq_getElem h', List.getElem?_eq_getElem h] at e
  exact Option.some.inj e
theorem mapTo_set (f : UInt8 → UInt8) (k : Nat) (l : List UInt8) (h : k < l.length) : (mapTo f k l).set k (f l[k]) = mapTo f (k + 1) l := by
  have hlen : ((l.take k).map f).length = k := by simp; omega
  unfold mapTo
  rw [List.set_append_right k _ (by omega), hlen, Nat.sub_self, List.drop_eq_getElem_cons h, List.set_cons_zero, List.take_succ_eq_append_getElem h, List.map_append, List.append_assoc]
  rfl
theorem mapTo_keep (f : UInt8 → UInt8) (k : Nat) (l : List UInt8) (h : k < l.length) (e : f l[k] = l[k]) : mapTo f k l = mapTo f (k + 1) l := by
  rw [← mapTo_set f k l h, e]
  refine (List.ext_getElem (by simp) fun i h1 h2 => ?_).symm
  rw [List.getElem_set]
  split
  · rename_i h3; subst h3; rw [mapTo_at f _ _ h]
  · rfl
theorem mapTo_zero (f : UInt8 → UInt8) (l : List UInt8) : mapTo f 0 l = l := by simp [mapTo]
theorem mapTo_all (f : UInt8 → UInt8) (k : Nat) (l : List UInt8) (h : l.length ≤ k) : mapTo f k l = l.map f := by
  simp [mapTo, List.take_of_length_le h, List.drop_eq_nil_of_le h]

theorem ds_cons (b : UInt8) (r : List UInt8) : dsL (b :: r) = if b = 32 ∧ (r.head? = some 47 ∨ r.head? = some 40) then dsL r else b :: dsL r := by
  cases r with
  | nil => rw [if_neg (by simp)]; rfl
  | cons c r => rw [dsL]; simp

def CmdRelA (l : List UInt8) (w : World) (g : Nat) (i : Value) (wr : World) : Prop :=
  ∃ k : Nat, k ≤ l.length ∧ i = .int .i64 k ∧ BytesAt wr g (mapTo commaB k l) ∧ Below w.heap.size w wr
def CmdRelB (l : List UInt8) (w : World) (v i : Value) (wr : World) : Prop :=
  ∃ (k : Nat) (acc : List UInt8), k ≤ l.length ∧ i = .int .i64 k ∧ acc.length ≤ k ∧ OwnB wr w.heap.size v acc ∧ dsL l = acc ++ dsL (l.drop k) ∧ Below w.heap.size w wr

set_option maxRecDepth 100000 in
set_option maxHeartbeats 3200000 in
theorem Cmd_any (s : ByteArray) (w : World) (hs : s.size ≤ 140737488351232) :
    Calls Tryd.prog 90 #[.string s] w (StrPost (bs (cmdL s.data.toList)) w) := by
  have hfl : (outL cmdSet s.data.toList).length ≤ s.data.toList.length := List.length_filter_le _ _
  rw [show s.data.toList.length = s.size by simp] at hfl
  have HCMD : Hid (cmdL s.data.toList = lowerL (dsL (squeezeL ((outL cmdSet s.data.toList).map commaB)))) := rfl
  obtain ⟨y, hy⟩ : ∃ y, outL cmdSet s.data.toList = y := ⟨_, rfl⟩
  have HY := Lib.hid hy
  rw [hy] at hfl HCMD
  clear hy
  go_enter Tryd.func90, Tryd.ntmps90
  go_wp2_with (first | (go_at_call 110; refine (without_any _ _ _ hs).mono ?_; rintro e w1 ⟨rfl, hb1⟩; rw [show (ByteArray.mk #[92, 34, 39, 94]).data.toList = cmdSet from rfl, HY.out]) | (refine wpList_to_bytes rfl _ 9 100 5 rfl Tryd.underlying9 Tryd.underlying100 Tryd.underlying5 _ rfl ?_; intro c w2 hc hbt hbl hsz))
  have hg : w.heap.size ≤ w1.heap.size := hb1.size
  have hbl2 := hb1.trans (hbl.mono hg)
  rw [bs_toList] at hbt
  have HZ := Lib.hid hsz
  clear hsz hc
  obtain ⟨g, hgg⟩ : ∃ g, w1.heap.size = g := ⟨_, rfl⟩
  rw [hgg] at hbt hg
  have HGG := Lib.hid hgg
  simp only [hgg]
  clear hgg hbl hb1
  go_loopw [13] (fun i wr => CmdRelA y w g i wr) (fun i _ => y.length - (intOf i).toNat)
  case atStart => exact ⟨0, Nat.zero_le _, rfl, by rw [mapTo_zero]; exact hbt, hbl2⟩
  case round =>
    obtain ⟨k, hk, rfl, hb, hbl3⟩ := hrel
    clear hbt hbl2
    have hlen : Hid ((mapTo commaB k y).length = y.length) := mapTo_length _ _ _
    by_cases hlt : k < y.length
    · have hl : k < (mapTo commaB k y).length := by rw [hlen.out]; exact hlt
      have hc1 := hb.cell hl
      have hf1 := hb.free hl
      have hat := mapTo_at commaB k y hlt hl
      rw [hat] at hc1
      have HB := Lib.hid hb
      have hby := (y[k]).toNat_lt
      clear hb hat
      by_cases g1 : y[k] = 44 ∨ y[k] = 59
      · have hcm : Hid (commaB y[k] = 32) := by unfold Hid commaB; rw [if_pos g1]
        have hcase : (((y[k].toNat : Int) == 44) = true) ∨ (((y[k].toNat : Int) == 44) = false ∧ ((y[k].toNat : Int) == 59) = true) := by
          rcases g1 with h | h
          · left; rw [h]; decide
          · right; rw [h]; exact ⟨by decide, by decide⟩
        clear g1
        rcases hcase with q1 | ⟨q1, q2⟩
        all_goals
          go_wp2
          refine ⟨⟨k + 1, by omega, by go_num, ?_, hbl3.setCell (p := ⟨g, k, none⟩) hg _⟩, by simp [intOf]; omega⟩
          rw [← mapTo_set commaB k _ hlt, hcm.out]
          exact HB.out.set hl 32
      · have hcm : Hid (commaB y[k] = y[k]) := by unfold Hid commaB; rw [if_neg g1]
        have q1 : ((y[k].toNat : Int) == 44) = false := beq_eq_false_iff_ne.2 (fun h => g1 (.inl (UInt8.toNat_inj.1 (by show y[k].toNat = 44; omega))))
        have q2 : ((y[k].toNat : Int) == 59) = false := beq_eq_false_iff_ne.2 (fun h => g1 (.inr (UInt8.toNat_inj.1 (by show y[k].toNat = 59; omega))))
        clear g1
        go_wp2
        refine ⟨⟨k + 1, by omega, by go_num, ?_, hbl3⟩, by simp [intOf]; omega⟩
        rw [← mapTo_keep commaB k _ hlt hcm.out]
        exact HB.out
    · have hcv := run_string_of_bytes (P := Tryd.prog) hb 100 9 5 y.length c (by rw [hlen.out]) Tryd.underlying100 Tryd.underlying5 Tryd.underlying9
      rw [mapTo_all commaB k y (by omega)] at hcv
      have hml : (y.map commaB).length = y.length := List.length_map _
      have hbase := hbl3.size
      clear hb
      have hsq : (bs (y.map commaB)).size ≤ 140737488351232 := by rw [bs_size, hml]; omega
      have hsl := sq_len (y.map commaB) false
      rw [hml] at hsl
      obtain ⟨z, hz⟩ : ∃ z, bs (squeezeL (y.map commaB)) = z := ⟨_, rfl⟩
      have hzd : z.data.toList = squeezeL (y.map commaB) := by rw [← hz]; rfl
      have hzl : z.size ≤ y.length := by rw [← hz, bs_size]; exact hsl
      rw [← hzd] at HCMD
      have HZZ := Lib.hid hz
      have hL2 : Hid (z.data.toList.length = z.size) := by unfold Hid; simp
      clear hz hsl hml hzd
      go_wp2_with (go_at_call 88; refine (Squeeze_any _ _ hsq).mono ?_; rintro e w3 ⟨rfl, hb3⟩; rw [bs_toList, HZZ.out])
      go_loopw [6, 33] (fun v i wr => CmdRelB z.data.toList w v i wr) (fun _ i _ => z.size - (intOf i).toNat)
      case atStart => exact ⟨0, [], Nat.zero_le _, rfl, Nat.le_refl _, OwnB.nil _ _, rfl, hbl3.trans (hb3.mono hbase)⟩
      case round =>
        obtain ⟨k2, acc, hk2, rfl, hacc, hown, hr, hbl4⟩ := hrel
        have hbase2 := hbl4.size
        rw [hL2.out] at hk2
        have HR := Lib.hid hr
        clear hr
        by_cases hlt2 : k2 < z.size
        · have HD := Lib.hid (drop_cons z k2 hlt2)
          have HDS := Lib.hid (ds_cons z[k2] (z.data.toList.drop (k2 + 1)))
          have hz2 : (k2 : Int) < (z.size : Int) := by omega
          by_cases c1 : z[k2] = 32
          · have q1 : ((z[k2].toNat : Int) == 32) = true := by rw [c1]; decide
            by_cases c2 : k2 + 1 < z.size
            · have hh : (z.data.toList.drop (k2 + 1)).head? = some z[k2 + 1] := by rw [List.head?_drop, Lib.data_getElem? z _ c2]
              have q2 : (k2 : Int) + 1 < (z.size : Int) := by omega
              have i3 : 0 ≤ (k2 : Int) + 1 := by omega
              have i5 : ((k2 : Int) + 1).toNat = k2 + 1 := by omega
              by_cases c3 : z[k2 + 1] = 47 ∨ z[k2 + 1] = 40
              · have HF : Hid (dsL (z[k2] :: z.data.toList.drop (k2 + 1)) = dsL (z.data.toList.drop (k2 + 1))) := by
                  unfold Hid; rw [HDS.out, hh, if_pos ⟨c1, by rcases c3 with h | h; exact .inl (by rw [h]); exact .inr (by rw [h])⟩]
                have hcase : (((z[k2 + 1].toNat : Int) == 47) = true) ∨ (((z[k2 + 1].toNat : Int) == 47) = false ∧ ((z[k2 + 1].toNat : Int) == 40) = true) := by
                  rcases c3 with h | h
                  · left; rw [h]; decide
                  · right; rw [h]; exact ⟨by decide, by decide⟩
                clear c1 c3 hh
                rcases hcase with q3 | ⟨q3, q4⟩
                all_goals
                  go_wp2_with fail
                  exact ⟨⟨k2 + 1, acc, by rw [hL2.out]; omega, by go_num, by omega, hown, by rw [HR.out, HD.out, HF.out], hbl4⟩, by simp [intOf]; omega⟩
              · have HF : Hid (dsL (z[k2] :: z.data.toList.drop (k2 + 1)) = z[k2] :: dsL (z.data.toList.drop (k2 + 1))) := by
                  unfold Hid; rw [HDS.out, hh, if_neg (by rintro ⟨_, h | h⟩; exact c3 (.inl (Option.some.inj h)); exact c3 (.inr (Option.some.inj h)))]
                have q3 : ((z[k2 + 1].toNat : Int) == 47) = false := beq_eq_false_iff_ne.2 (fun h => c3 (.inl (UInt8.toNat_inj.1 (by show z[k2 + 1].toNat = 47; omega))))
                have q4 : ((z[k2 + 1].toNat : Int) == 40) = false := beq_eq_false_iff_ne.2 (fun h => c3 (.inr (UInt8.toNat_inj.1 (by show z[k2 + 1].toNat = 40; omega))))
                clear c1 c3 hh
                go_wp2_with (at_builtin; refine wpList_append_b rfl _ _ rfl w.heap.size _ acc rfl (by exact hown) (by exact hbase2) _ [z[k2]] rfl 1 1 rfl rfl (by omega) ?_; intro v' w4 hown1 hb4 hbs4)
                exact ⟨⟨k2 + 1, acc ++ [z[k2]], by rw [hL2.out]; omega, by go_num, by simp; omega, hown1, by rw [HR.out, HD.out, HF.out]; simp, hbl4.trans hb4⟩, by simp [intOf]; omega⟩
            · have HF : Hid (dsL (z[k2] :: z.data.toList.drop (k2 + 1)) = z[k2] :: dsL (z.data.toList.drop (k2 + 1))) := by
                unfold Hid; rw [HDS.out, if_neg (by rw [List.drop_eq_nil_of_le (by rw [hL2.out]; omega)]; simp)]
              have q2 : (z.size : Int) ≤ (k2 : Int) + 1 := by omega
              clear c1
              go_wp2_with (at_builtin; refine wpList_append_b rfl _ _ rfl w.heap.size _ acc rfl (by exact hown) (by exact hbase2) _ [z[k2]] rfl 1 1 rfl rfl (by omega) ?_; intro v' w4 hown1 hb4 hbs4)
              exact ⟨⟨k2 + 1, acc ++ [z[k2]], by rw [hL2.out]; omega, by go_num, by simp; omega, hown1, by rw [HR.out, HD.out, HF.out]; simp, hbl4.trans hb4⟩, by simp [intOf]; omega⟩
          · have HF : Hid (dsL (z[k2] :: z.data.toList.drop (k2 + 1)) = z[k2] :: dsL (z.data.toList.drop (k2 + 1))) := by
              unfold Hid; rw [HDS.out, if_neg (fun h => c1 h.1)]
            have q1 : ((z[k2].toNat : Int) == 32) = false := beq_eq_false_iff_ne.2 (fun h => c1 (UInt8.toNat_inj.1 (by show z[k2].toNat = 32; omega)))
            clear c1
            go_wp2_with (at_builtin; refine wpList_append_b rfl _ _ rfl w.heap.size _ acc rfl (by exact hown) (by exact hbase2) _ [z[k2]] rfl 1 1 rfl rfl (by omega) ?_; intro v' w4 hown1 hb4 hbs4)
            exact ⟨⟨k2 + 1, acc ++ [z[k2]], by rw [hL2.out]; omega, by go_num, by simp; omega, hown1, by rw [HR.out, HD.out, HF.out]; simp, hbl4.trans hb4⟩, by simp [intOf]; omega⟩
        · have hcv2 := hown.string
          have HF : Hid (dsL z.data.toList = acc) := by unfold Hid; rw [HR.out, List.drop_eq_nil_of_le (by rw [hL2.out]; omega)]; simp [dsL]
          have hal : (bs acc).size ≤ maxLen := by rw [bs_size]; unfold maxLen; omega
          clear hown
          go_wp2_with (go_at_call 27; refine (Lower_any _ _ hal).mono ?_; rintro e w5 ⟨rfl, hb5⟩; rw [bs_toList])
          go_ret
          exact ⟨by rw [HCMD.out, HF.out]; rfl, hbl4.trans (hb5.mono hbase2)⟩

/-! The law. -/
theorem clean_a : squeezeL (ByteArray.mk #[97, 32, 9, 32, 98]).data.toList = [97, 32, 98] := by decide
theorem clean_b : cmdL (ByteArray.mk #[67, 94, 97, 116, 34, 32, 32, 44, 47, 101, 116, 99]).data.toList = [99, 97, 116, 47, 101, 116, 99] := by decide

theorem cmd_len (l : List UInt8) : (cmdL l).length ≤ l.length := by
  have h1 : (outL cmdSet l).length ≤ l.length := List.length_filter_le _ _
  have h2 := sq_len ((outL cmdSet l).map commaB) false
  have h3 := ds_len (squeezeL ((outL cmdSet l).map commaB))
  rw [List.length_map] at h2
  unfold cmdL lowerL
  rw [List.length_map]
  unfold squeezeL at *
  omega

end Go.Proofs.YtdbipccopijgeaaDoor
