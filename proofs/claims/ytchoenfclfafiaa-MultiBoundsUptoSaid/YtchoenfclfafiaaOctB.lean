/- The walks of octet: Lower, Trim, Find. -/
import Derived.Test.YtchoenfclfafiaaBase
import Derived.Lib.Strings
import Derived.Lib.IndexBytes
namespace Go.Proofs.Ytchoenfclfafiaa
open Go.RowKit

def lowerB (b : UInt8) : UInt8 := if 65 ≤ b.toNat ∧ b.toNat ≤ 90 then b + 32 else b
def lowerL (l : List UInt8) : List UInt8 := l.map lowerB
def lowerTo (k : Nat) (l : List UInt8) : List UInt8 := (l.take k).map lowerB ++ l.drop k

theorem lowerTo_length (k : Nat) (l : List UInt8) : (lowerTo k l).length = l.length := by
  simp [lowerTo]; omega
theorem lowerTo_at (k : Nat) (l : List UInt8) (h : k < l.length) (h' : k < (lowerTo k l).length) : (lowerTo k l)[k] = l[k] := by
  have e : (lowerTo k l)[k]? = l[k]? := by
    unfold lowerTo
    rw [List.getElem?_append_right (by simp; omega)]
    simp [Nat.min_eq_left (Nat.le_of_lt h)]
  rw [List.getElem?_eq_getElem h', List.getElem?_eq_getElem h] at e
  exact Option.some.inj e
theorem lowerTo_set (k : Nat) (l : List UInt8) (h : k < l.length) : (lowerTo k l).set k (lowerB l[k]) = lowerTo (k + 1) l := by
  have hlen : ((l.take k).map lowerB).length = k := by simp; omega
  unfold lowerTo
  rw [List.set_append_right k _ (by omega), hlen, Nat.sub_self, List.drop_eq_getElem_cons h, List.set_cons_zero, List.take_succ_eq_append_getElem h, List.map_append, List.append_assoc]
  rfl
theorem lowerTo_keep (k : Nat) (l : List UInt8) (h : k < l.length) (e : lowerB l[k] = l[k]) : lowerTo k l = lowerTo (k + 1) l := by
  rw [← lowerTo_set k l h, e]
  refine (List.ext_getElem (by simp) fun i h1 h2 => ?_).symm
  rw [List.getElem_set]
  split
  · rename_i h3; subst h3; rw [lowerTo_at _ _ h]
  · rfl
theorem lowerTo_zero (l : List UInt8) : lowerTo 0 l = l := by simp [lowerTo]
theorem lowerTo_all (k : Nat) (l : List UInt8) (h : l.length ≤ k) : lowerTo k l = lowerL l := by
  simp [lowerTo, lowerL, List.take_of_length_le h, List.drop_eq_nil_of_le h]

def LowerRel (s : ByteArray) (w : World) (g : Nat) (i : Value) (wr : World) : Prop :=
  ∃ k : Nat, k ≤ s.size ∧ i = .int .i64 k ∧ BytesAt wr g (lowerTo k s.data.toList) ∧ Below w.heap.size w wr
def StrPost (r : ByteArray) (w : World) (e : Ending) (w' : World) : Prop := e = .returned (.string r) ∧ Below w.heap.size w w'

set_option maxRecDepth 100000 in
set_option maxHeartbeats 800000 in
theorem Lower_any (s : ByteArray) (w : World) (hs : s.size ≤ maxLen) :
    Calls Try.prog 47 #[.string s] w (StrPost (bs (lowerL s.data.toList)) w) := by
  unfold maxLen at hs
  go_enter Try.func47, Try.ntmps47
  go_wp2_with (refine wpList_to_bytes rfl _ 9 81 5 rfl Try.underlying9 Try.underlying81 Try.underlying5 _ rfl ?_; intro c w1 hc hbt hbl hsz)
  have HZ := Lib.hid hsz
  clear hsz
  have hg : w.heap.size ≤ w.heap.size := Nat.le_refl _
  go_loopw [10] (fun i wr => LowerRel s w w.heap.size i wr) (fun i _ => s.size - (intOf i).toNat)
  case atStart => exact ⟨0, Nat.zero_le _, rfl, by rw [lowerTo_zero]; exact hbt, hbl⟩
  case round =>
    obtain ⟨k, hk, rfl, hb, hbl2⟩ := hrel
    clear hbt hbl
    have hlen : Hid ((lowerTo k s.data.toList).length = s.size) := by unfold Hid; rw [lowerTo_length]; simp
    by_cases hlt : k < s.size
    · have hl : k < (lowerTo k s.data.toList).length := by rw [hlen.out]; exact hlt
      have hl2 : k < s.data.toList.length := by simpa using hlt
      have hc1 := hb.cell hl
      have hf1 := hb.free hl
      have hat := lowerTo_at k s.data.toList hl2 hl
      rw [hat] at hc1
      have HB := Lib.hid hb
      have hby := (s.data.toList[k]).toNat_lt
      clear hb hat
      have HX : Hid (s.data.toList[k] = s.data.toList[k]) := rfl
      generalize hx : s.data.toList[k] = x at *
      have HXX := Lib.hid hx
      clear hx
      by_cases g1 : 65 ≤ (x.toNat : Int) ∧ (x.toNat : Int) ≤ 90
      · have g2 := g1.1
        have g3 := g1.2
        have hlow : Hid ((lowerB x).toNat = x.toNat + 32) := by
          unfold Hid lowerB; rw [if_pos (by omega), UInt8.toNat_add]; simp; omega
        go_wp2
        go_roundw
        case rel =>
          refine ⟨k + 1, by omega, by go_num, ?_, hbl2.setCell (p := ⟨w.heap.size, k, none⟩) hg _⟩
          rw [← lowerTo_set k _ hl2, HXX.out]
          have := HB.out.set hl (lowerB x)
          rw [hlow.out] at this
          exact this
        case measure => simp [intOf] <;> omega
      · have hlow : lowerB x = x := by unfold lowerB; rw [if_neg (by omega)]
        have HL := Lib.hid hlow
        clear hlow
        rcases (show (x.toNat : Int) < 65 ∨ 90 < (x.toNat : Int) by omega) with g2 | g2
        all_goals
          clear g1
          go_wp2
          go_roundw
          case rel =>
            refine ⟨k + 1, by omega, by go_num, ?_, hbl2⟩
            rw [← lowerTo_keep k _ hl2 (by rw [HXX.out]; exact HL.out)]
            exact HB.out
          case measure => simp [intOf] <;> omega
    · have hcv := run_string_of_bytes (P := Try.prog) hb 81 9 5 s.size c (by rw [hlen.out]) Try.underlying81 Try.underlying5 Try.underlying9
      have HK := Lib.hid (lowerTo_all k s.data.toList (by simp; omega))
      clear hb
      go_wp2
      go_ret
      exact ⟨by rw [HK.out]; rfl, hbl2⟩

def blank (b : UInt8) : Bool := b == 32 || b == 9
theorem blank_t {b : UInt8} (h : (b.toNat : Int) = 32 ∨ (b.toNat : Int) = 9) : blank b = true := by
  unfold blank
  rcases h with h | h
  · rw [show b = 32 from UInt8.toNat_inj.1 (show b.toNat = 32 by omega)]; rfl
  · rw [show b = 9 from UInt8.toNat_inj.1 (show b.toNat = 9 by omega)]; rfl
theorem blank_f {b : UInt8} (h : ¬ (b.toNat : Int) = 32) (h' : ¬ (b.toNat : Int) = 9) : blank b = false := by
  unfold blank
  rw [Bool.or_eq_false_iff]
  exact ⟨beq_eq_false_iff_ne.2 (by rintro rfl; exact h rfl), beq_eq_false_iff_ne.2 (by rintro rfl; exact h' rfl)⟩
def rtrimL (l : List UInt8) : List UInt8 := (l.reverse.dropWhile blank).reverse
def trimL (l : List UInt8) : List UInt8 := rtrimL (l.dropWhile blank)
theorem rtrim_snoc_t (l : List UInt8) (b : UInt8) (h : blank b = true) : rtrimL (l ++ [b]) = rtrimL l := by simp [rtrimL, h]
theorem rtrim_snoc_f (l : List UInt8) (b : UInt8) (h : blank b = false) : rtrimL (l ++ [b]) = l ++ [b] := by simp [rtrimL, h]

def TrimRelA (s : ByteArray) (i : Value) : Prop := ∃ k : Nat, k ≤ s.size ∧ i = .int .i64 k ∧ trimL s.data.toList = rtrimL ((s.data.toList.drop k).dropWhile blank)
def TrimRelB (s : ByteArray) (a : Nat) (i : Value) : Prop := ∃ b : Nat, a ≤ b ∧ b ≤ s.size ∧ i = .int .i64 b ∧ trimL s.data.toList = rtrimL ((s.data.toList.take b).drop a)

set_option maxRecDepth 100000 in
set_option maxHeartbeats 1600000 in
theorem Trim_any (s : ByteArray) (w : World) (hs : s.size ≤ maxLen) :
    Calls Try.prog 46 #[.string s] w fun e w' => e = .returned (.string (bs (trimL s.data.toList))) ∧ w' = w := by
  unfold maxLen at hs
  have hL : Hid (s.data.toList.length = s.size) := by unfold Hid; simp
  have HX : Hid (∀ i n, (s.extract i n).data.toList = (s.data.toList.take n).drop i) := fun i n => by rw [Lib.extract_data, List.drop_take]
  go_enter Try.func46, Try.ntmps46
  go_wp2
  go_loop [3] (fun i => TrimRelA s i) (fun i => s.size - (intOf i).toNat)
  case atStart => exact ⟨0, Nat.zero_le _, rfl, rfl⟩
  case round =>
    obtain ⟨k, hk, rfl, hr⟩ := hrel
    have HR := Lib.hid hr
    clear hr
    by_cases hin : ∃ h : k < s.size, (s[k].toNat : Int) = 32 ∨ (s[k].toNat : Int) = 9
    · obtain ⟨hlt, hbl⟩ := hin
      have HD := Lib.hid (drop_cons s k hlt)
      have HB := Lib.hid (blank_t hbl)
      rcases hbl with h1 | h1
      · have g1 : ((s[k].toNat : Int) == 32) = true := beq_iff_eq.2 h1
        clear h1
        go_wp2
        go_round
        case rel => exact ⟨k + 1, by omega, by go_num, by rw [HR.out, HD.out, List.dropWhile_cons, HB.out]; rfl⟩
        case measure => simp [intOf] <;> omega
      · have g1 : ((s[k].toNat : Int) == 32) = false := beq_eq_false_iff_ne.2 (by omega)
        have g2 : ((s[k].toNat : Int) == 9) = true := beq_iff_eq.2 h1
        clear h1
        go_wp2
        go_round
        case rel => exact ⟨k + 1, by omega, by go_num, by rw [HR.out, HD.out, List.dropWhile_cons, HB.out]; rfl⟩
        case measure => simp [intOf] <;> omega
    · have hstop : trimL s.data.toList = rtrimL ((s.data.toList.take s.size).drop k) := by
        rw [HR.out, List.take_of_length_le (by rw [hL.out]; exact Nat.le_refl _)]
        by_cases hlt : k < s.size
        · have hb : blank s[k] = false := blank_f (fun h => hin ⟨hlt, .inl h⟩) (fun h => hin ⟨hlt, .inr h⟩)
          rw [drop_cons s k hlt, List.dropWhile_cons, hb]; rfl
        · rw [List.drop_eq_nil_of_le (by rw [hL.out]; omega)]; rfl
      have HS := Lib.hid hstop
      clear hstop
      have hcase : ¬ k < s.size ∨ ∃ h : k < s.size, ((s[k].toNat : Int) == 32) = false ∧ ((s[k].toNat : Int) == 9) = false := by
        by_cases hlt : k < s.size
        · exact .inr ⟨hlt, beq_eq_false_iff_ne.2 (fun h => hin ⟨hlt, .inl h⟩), beq_eq_false_iff_ne.2 (fun h => hin ⟨hlt, .inr h⟩)⟩
        · exact .inl hlt
      clear hin
      rcases hcase with hge | ⟨hlt, g1, g2⟩
      all_goals
        go_wp2
        go_loop [4] (fun i => TrimRelB s k i) (fun i => (intOf i).toNat)
        case atStart => exact ⟨s.size, hk, Nat.le_refl _, rfl, HS.out⟩
        case round =>
          obtain ⟨b, hab, hbs, rfl, hr⟩ := hrel
          have HRB := Lib.hid hr
          clear hr
          by_cases hin : ∃ h : b - 1 < s.size, k < b ∧ ((s[b - 1].toNat : Int) = 32 ∨ (s[b - 1].toNat : Int) = 9)
          · obtain ⟨hlt2, hkb, hbl⟩ := hin
            have HB := Lib.hid (blank_t hbl)
            have HSN : Hid ((s.data.toList.take b).drop k = (s.data.toList.take (b - 1)).drop k ++ [s[b - 1]]) := by
              unfold Hid
              have e := take_snoc s (b - 1) hlt2
              rw [show b - 1 + 1 = b by omega] at e
              rw [e, List.drop_append_of_le_length (by rw [List.length_take, hL.out]; omega)]
            obtain ⟨c, rfl⟩ : ∃ c, b = c + 1 := ⟨b - 1, by omega⟩
            simp only [Nat.add_sub_cancel] at hbl HB HSN hlt2
            have hc0 : (k : Int) < (c : Int) + 1 := by omega
            have hc1 : ((c : Int) + 1 - 1) = c := by omega
            rcases hbl with h1 | h1
            · have g3 : ((s[c].toNat : Int) == 32) = true := beq_iff_eq.2 h1
              clear h1
              go_wp2
              go_round
              case rel => exact ⟨c, by omega, by omega, by go_num, by rw [HRB.out, HSN.out, rtrim_snoc_t _ _ HB.out]⟩
              case measure => simp [intOf] <;> omega
            · have g3 : ((s[c].toNat : Int) == 32) = false := beq_eq_false_iff_ne.2 (by omega)
              have g4 : ((s[c].toNat : Int) == 9) = true := beq_iff_eq.2 h1
              clear h1
              go_wp2
              go_round
              case rel => exact ⟨c, by omega, by omega, by go_num, by rw [HRB.out, HSN.out, rtrim_snoc_t _ _ HB.out]⟩
              case measure => simp [intOf] <;> omega
          · have HF : Hid (rtrimL ((s.data.toList.take b).drop k) = (s.data.toList.take b).drop k) := by
              unfold Hid
              by_cases hkb : k < b
              · have hlt2 : b - 1 < s.size := by omega
                have e := take_snoc s (b - 1) hlt2
                rw [show b - 1 + 1 = b by omega] at e
                rw [e, List.drop_append_of_le_length (by rw [List.length_take, hL.out]; omega)]
                exact rtrim_snoc_f _ _ (blank_f (fun h => hin ⟨hlt2, hkb, .inl h⟩) (fun h => hin ⟨hlt2, hkb, .inr h⟩))
              · rw [List.drop_eq_nil_of_le (by rw [List.length_take]; omega)]; rfl
            have hcase : b = k ∨ ∃ (c : Nat) (h : c < s.size), b = c + 1 ∧ k < c + 1 ∧ ((s[c].toNat : Int) == 32) = false ∧ ((s[c].toNat : Int) == 9) = false := by
              by_cases hkb : k < b
              · have hlt2 : b - 1 < s.size := by omega
                exact .inr ⟨b - 1, hlt2, by omega, by omega, beq_eq_false_iff_ne.2 (fun h => hin ⟨hlt2, hkb, .inl h⟩), beq_eq_false_iff_ne.2 (fun h => hin ⟨hlt2, hkb, .inr h⟩)⟩
              · exact .inl (by omega)
            clear hin
            rcases hcase with rfl | ⟨c, hc, rfl, hkc, g3, g4⟩
            · go_wp2
              go_ret
              exact ⟨ret_str (ext_bs (by rw [HRB.out, HF.out, List.drop_eq_nil_of_le (by rw [List.length_take]; omega)]; rfl)), rfl⟩
            · have hc0 : (k : Int) < (c : Int) + 1 := by omega
              have hc1 : ((c : Int) + 1 - 1) = c := by omega
              go_wp2
              go_ret
              exact ⟨ret_str (ext_bs (by rw [HX.out, HRB.out, HF.out])), rfl⟩

end Go.Proofs.Ytchoenfclfafiaa
