/- Part 26 of the proof: lemmas and walks that the last texts use. -/
import Derived.Test.YthfjmlcjkbgboaaGreatDoorM01
import Derived.Test.YthfjmlcjkbgboaaGreatDoorM02
import Derived.Test.YthfjmlcjkbgboaaGreatDoorM10
import Derived.Test.YthfjmlcjkbgboaaGreatDoorM24
import Derived.Test.YthfjmlcjkbgboaaGreatDoorM25
import Derived.Lib.Strings
import Derived.Lib.IndexBytes
import Derived.Deep.RegionHeld3
import Derived.Shelf.SlicesQ.Equal
namespace Go.Proofs.YthfjmlcjkbgboaaGreatDoor
open Go.RowKit
section
variable {ws : List ByteArray} {lo g cap : Nat} {ns : List NodeP} {ss : List (List UInt8)} {ms : List NodeM} {w : World}
theorem ready_tree (hG : GoodW ws) (s : ByteArray) (hs : s.size ≤ 8192) (hT : TreeIs w lo ws g cap ns ss ms) :
    Calls Tryz.prog 242 #[.slice (some ⟨g, 0, none⟩) ms.length cap, .int .i64 (ws.length : Int), .string s] w fun e w' => e = .returned (.int .i64 0) ∧ Below w.heap.size w w' := by
  have HC := Lib.hid (check_tree ws hG.few lo g cap ns ss ms w hT)
  have d1 : decide ((8192 : Int) < (s.size : Int)) = false := by simp; omega
  clear hT
  go_enter Tryz.func242, Tryz.ntmps242
  go_wp2_with (go_at_call 277; refine HC.out.mono ?_; rintro e w1 ⟨rfl, hb⟩)
  go_ret
  exact ⟨rfl, hb⟩
theorem Some_tree (hG : GoodW ws) (s : ByteArray) (hs : s.size ≤ 8192) (hT : TreeIs w lo ws g cap ns ss ms) :
    Calls Tryz.prog 201 #[.slice (some ⟨g, 0, none⟩) ms.length cap, .int .i64 (ws.length : Int), .string s] w fun e w' =>
      e = .returned (.tuple #[.bool (decide (0 < (hitsTo (lstS ws) s.data.toList s.data.toList.length).length)), .int .i64 0]) ∧ Below w.heap.size w w' := by
  have HR := Lib.hid (ready_tree hG s hs hT)
  have HH : Hid (∀ w1, Below w.heap.size w w1 → Calls Tryz.prog 243 #[.slice (some ⟨g, 0, none⟩) ms.length cap, .string s, .int .i64 1] w1 (HitsPost (lstS ws) s.data.toList 1 w1)) := Lib.hid fun w1 hb => hits_tree ws hG 1 (.inl rfl) s hs lo g cap ns ss ms w1 (hT.below hb)
  have HL : Hid (decide (0 < (hitsM (lstS ws) s.data.toList 1).length) = decide (0 < (hitsTo (lstS ws) s.data.toList s.data.toList.length).length)) := by
    unfold Hid hitsM
    rw [if_pos rfl]
    generalize hitsTo (lstS ws) s.data.toList s.data.toList.length = l
    cases l with
    | nil => rfl
    | cons y r => simp
  clear hT hG
  go_enter Tryz.func201, Tryz.ntmps201
  go_wp2_with (first | (go_at_call 242; refine HR.out.mono ?_; rintro e w1 ⟨rfl, hb⟩) | (go_at_call 243; refine (HH.out _ hb).mono ?_; rintro e w2 ⟨v, rfl, hO, hb2⟩; obtain ⟨A5, c5, rfl, _⟩ := hO.form))
  go_ret2
  exact ⟨congrArg (fun b => Ending.returned (.tuple #[.bool b, .int .i64 0])) HL.out, hb.trans (hb2.mono hb.size)⟩
end
theorem level_any : LevelC := fun ws n h1 h2 h3 A c B gm bm ga ca g cap ns ss l ats w hS hL => level_calls ws n h1 h2 h3 A c B gm bm ga ca g cap ns ss l ats w hS hL
/-- Make, whatever the phrases. -/
def MakeOut (ws : List ByteArray) (w : World) (e : Ending) (w' : World) : Prop :=
  Below w.heap.size w w' ∧ ((∃ r : Nat, 0 < r ∧ e = .returned (.tuple #[.slice none 0 0, .int .i64 (r : Int)]) ∧ (codeW ws ≠ 0 ∨ Full (lstS ws))) ∨ (GoodW ws ∧ ∃ g cap ns ss ms, e = .returned (.tuple #[.slice (some ⟨g, 0, none⟩) ms.length cap, .int .i64 0]) ∧ TreeIs w' w.heap.size ws g cap ns ss ms))
theorem make_any (A : Option Addr) (c n : Nat) (ws : List ByteArray) (w : World) (hn : ws.length = n) (h : Sl w w.heap.size 1 A n (ws.map Value.string)) :
    Calls Tryz.prog 143 #[.slice A n c] w (MakeOut ws w) := by
  by_cases h0 : codeW ws = 0
  · refine (make_good level_any A c n ws w hn h h0).mono ?_
    rintro e w' ⟨hb, ⟨rfl, hf⟩ | ⟨g, cap, ns, ss, ms, rfl, hT⟩⟩
    · exact ⟨hb, .inl ⟨2, by decide, rfl, .inr hf⟩⟩
    · exact ⟨hb, .inr ⟨good_of_code h0, g, cap, ns, ss, ms, rfl, hT⟩⟩
  · refine (make_refused A c n ws w hn h h0).mono ?_
    rintro e w' ⟨rfl, hb⟩
    exact ⟨hb, .inl ⟨codeW ws, by omega, rfl, .inl h0⟩⟩
end Go.Proofs.YthfjmlcjkbgboaaGreatDoor
namespace Go.Proofs.YthfjmlcjkbgboaaGreatDoor
open Go.RowKit
def OkW (ws : List ByteArray) : Prop := GoodW ws ∧ ¬ Full (lstS ws)
theorem code_of_good {ws : List ByteArray} (h : GoodW ws) : codeW ws = 0 := by
  unfold codeW
  have h1 := h.few
  have h2 := h.some
  have h3 : anyN (fun j => decide (40 < (ws.getD j ByteArray.empty).size)) ws.length = false := (any_false _ _).2 fun j hj => by
    rw [List.getD_eq_getElem?_getD, List.getElem?_eq_getElem hj]
    have := h.short ws[j] (List.getElem_mem hj)
    simpa using this
  have h4 : Lib.containsS ws ByteArray.empty = false := by
    cases hc : Lib.containsS ws ByteArray.empty with
    | false => rfl
    | true => exact absurd rfl (h.full _ ((Lib.containsS_iff _ _).1 hc))
  rw [if_neg (by omega), if_neg (by rw [h3]; decide), if_neg (by omega), if_neg (by rw [h4]; decide)]
theorem lens_short {ws : List ByteArray} (h : GoodW ws) : ∀ v ∈ lstS ws, v.length ≤ 40 := fun v hv => by
  obtain ⟨x, hx, rfl⟩ := List.mem_map.1 hv
  have := h.short x hx
  simpa using this
section
variable {A : Option Addr} {c n : Nat} {ws : List ByteArray} {w : World}
theorem make_yes (hok : OkW ws) (hn : ws.length = n) (h : Sl w w.heap.size 1 A n (ws.map Value.string)) :
    Calls Tryz.prog 143 #[.slice A n c] w fun e w' => Below w.heap.size w w' ∧ ∃ g cap ns ss ms, e = .returned (.tuple #[.slice (some ⟨g, 0, none⟩) ms.length cap, .int .i64 0]) ∧ TreeIs w' w.heap.size ws g cap ns ss ms := by
  refine (make_any A c n ws w hn h).mono ?_
  rintro e w' ⟨hb, ⟨r, _, _, hf⟩ | ⟨_, g, cap, ns, ss, ms, rfl, hT⟩⟩
  · rcases hf with hf | hf
    · exact absurd (code_of_good hok.1) hf
    · exact absurd hf hok.2
  · exact ⟨hb, g, cap, ns, ss, ms, rfl, hT⟩
theorem make_no (hok : ¬ OkW ws) (hn : ws.length = n) (h : Sl w w.heap.size 1 A n (ws.map Value.string)) :
    Calls Tryz.prog 143 #[.slice A n c] w fun e w' => Below w.heap.size w w' ∧ ∃ r : Nat, 0 < r ∧ e = .returned (.tuple #[.slice none 0 0, .int .i64 (r : Int)]) := by
  refine (make_any A c n ws w hn h).mono ?_
  rintro e w' ⟨hb, ⟨r, hr, rfl, _⟩ | ⟨hG, g, cap, ns, ss, ms, rfl, hT⟩⟩
  · exact ⟨hb, r, hr, rfl⟩
  · exact absurd ⟨hG, lev_not_full hT.lev (lens_short hG) hT.few⟩ hok
end
end Go.Proofs.YthfjmlcjkbgboaaGreatDoor
namespace Go.Proofs.YthfjmlcjkbgboaaGreatDoor
open Go.RowKit
open Classical in
noncomputable def mkC (ws : List ByteArray) : Nat := if codeW ws ≠ 0 then codeW ws else if Full (lstS ws) then 2 else 0
theorem mkC_ok {ws : List ByteArray} : mkC ws = 0 ↔ OkW ws := by
  unfold mkC
  by_cases h0 : codeW ws = 0
  · rw [if_neg (by rw [h0]; decide)]
    by_cases hf : Full (lstS ws)
    · rw [if_pos hf]; exact ⟨fun e => absurd e (by decide), fun h => absurd hf h.2⟩
    · rw [if_neg hf]; exact ⟨fun _ => ⟨good_of_code h0, hf⟩, fun _ => rfl⟩
  · rw [if_pos h0]; exact ⟨fun e => absurd e h0, fun h => absurd (code_of_good h.1) h0⟩
theorem make_code (A : Option Addr) (c n : Nat) (ws : List ByteArray) (w : World) (hn : ws.length = n) (h : Sl w w.heap.size 1 A n (ws.map Value.string)) :
    Calls Tryz.prog 143 #[.slice A n c] w fun e w' => Below w.heap.size w w' ∧ ∃ v, e = .returned (.tuple #[v, .int .i64 (mkC ws : Nat)]) := by
  by_cases h0 : codeW ws = 0
  · refine (make_good level_any A c n ws w hn h h0).mono ?_
    rintro e w' ⟨hb, ⟨rfl, hf⟩ | ⟨g, cap, ns, ss, ms, rfl, hT⟩⟩
    · have e : mkC ws = 2 := by unfold mkC; rw [if_neg (by rw [h0]; decide), if_pos hf]
      rw [e]; exact ⟨hb, _, rfl⟩
    · have hG := good_of_code h0
      rw [mkC_ok.2 ⟨hG, lev_not_full hT.lev (lens_short hG) hT.few⟩]; exact ⟨hb, _, rfl⟩
  · refine (make_refused A c n ws w hn h h0).mono ?_
    rintro e w' ⟨rfl, hb⟩
    have e : mkC ws = codeW ws := by unfold mkC; rw [if_pos h0]
    rw [e]; exact ⟨hb, _, rfl⟩
end Go.Proofs.YthfjmlcjkbgboaaGreatDoor
namespace Go.Proofs.YthfjmlcjkbgboaaGreatDoor
open Go.RowKit
def lowerB (b : UInt8) : UInt8 := if 65 ≤ b.toNat ∧ b.toNat ≤ 90 then b + 32 else b
def lowerL (l : List UInt8) : List UInt8 := l.map lowerB
def lowerTo (k : Nat) (l : List UInt8) : List UInt8 := (l.take k).map lowerB ++ l.drop k
theorem lowerTo_length (k : Nat) (l : List UInt8) : (lowerTo k l).length = l.length := by
  simp [lowerTo]; omega
theorem lowerTo_at (k : Nat) (l : List UInt8) (h : k < l.length) (h' : k < (lowerTo k l).length) : (lowerTo k l)[k] = l[k] := by
  have e : (lowerTo k l)[k]? = l[k]? := by
    unfold lowerTo
    rw [List.getElem?_append_right (by simp; omega)]
    simp [Nat.min_eq_left (Nat.le_of_lt h)]
  rw [List.getElem?_eq_getElem h', List.getElem?_eq_getElem h] at e
  exact Option.some.inj e
theorem lowerTo_set (k : Nat) (l : List UInt8) (h : k < l.length) : (lowerTo k l).set k (lowerB l[k]) = lowerTo (k + 1) l := by
  have hlen : ((l.take k).map lowerB).length = k := by simp; omega
  unfold lowerTo
  rw [List.set_append_right k _ (by omega), hlen, Nat.sub_self, List.drop_eq_getElem_cons h, List.set_cons_zero, List.take_succ_eq_append_getElem h, List.map_append, List.append_assoc]
  rfl
theorem lowerTo_keep (k : Nat) (l : List UInt8) (h : k < l.length) (e : lowerB l[k] = l[k]) : lowerTo k l = lowerTo (k + 1) l := by
  rw [← lowerTo_set k l h, e]
  refine (List.ext_getElem (by simp) fun i h1 h2 => ?_).symm
  rw [List.getElem_set]
  split
  · rename_i h3; subst h3; rw [lowerTo_at _ _ h]
  · rfl
theorem lowerTo_zero (l : List UInt8) : lowerTo 0 l = l := by simp [lowerTo]
theorem lowerTo_all (k : Nat) (l : List UInt8) (h : l.length ≤ k) : lowerTo k l = lowerL l := by
  simp [lowerTo, lowerL, List.take_of_length_le h, List.drop_eq_nil_of_le h]
def LowerRel (s : ByteArray) (w : World) (g : Nat) (i : Value) (wr : World) : Prop :=
  ∃ k : Nat, k ≤ s.size ∧ i = .int .i64 k ∧ BytesAt wr g (lowerTo k s.data.toList) ∧ Below w.heap.size w wr
def StrPost (r : ByteArray) (w : World) (e : Ending) (w' : World) : Prop := e = .returned (.string r) ∧ Below w.heap.size w w'
set_option maxRecDepth 100000 in
set_option maxHeartbeats 800000 in
theorem Lower_any (s : ByteArray) (w : World) (hs : s.size ≤ maxLen) :
    Calls Tryz.prog 65 #[.string s] w (StrPost (bs (lowerL s.data.toList)) w) := by
  unfold maxLen at hs
  go_enter Tryz.func65, Tryz.ntmps65
  go_wp2_with (refine wpList_to_bytes rfl _ 9 159 5 rfl Tryz.underlying9 Tryz.underlying159 Tryz.underlying5 _ rfl ?_; intro c w1 hc hbt hbl hsz)
  have HZ := Lib.hid hsz
  clear hsz
  have hg : w.heap.size ≤ w.heap.size := Nat.le_refl _
  go_loopw [10] (fun i wr => LowerRel s w w.heap.size i wr) (fun i _ => s.size - (intOf i).toNat)
  case atStart => exact ⟨0, Nat.zero_le _, rfl, by rw [lowerTo_zero]; exact hbt, hbl⟩
  case round =>
    obtain ⟨k, hk, rfl, hb, hbl2⟩ := hrel
    clear hbt hbl
    have hlen : Hid ((lowerTo k s.data.toList).length = s.size) := by unfold Hid; rw [lowerTo_length]; simp
    by_cases hlt : k < s.size
    · have hl : k < (lowerTo k s.data.toList).length := by rw [hlen.out]; exact hlt
      have hl2 : k < s.data.toList.length := by simpa using hlt
      have hc1 := hb.cell hl
      have hf1 := hb.free hl
      have hat := lowerTo_at k s.data.toList hl2 hl
      rw [hat] at hc1
      have HB := Lib.hid hb
      have hby := (s.data.toList[k]).toNat_lt
      clear hb hat
      have HX : Hid (s.data.toList[k] = s.data.toList[k]) := rfl
      generalize hx : s.data.toList[k] = x at *
      have HXX := Lib.hid hx
      clear hx
      by_cases g1 : 65 ≤ (x.toNat : Int) ∧ (x.toNat : Int) ≤ 90
      · have g2 := g1.1
        have g3 := g1.2
        have hlow : Hid ((lowerB x).toNat = x.toNat + 32) := by
          unfold Hid lowerB; rw [if_pos (by omega), UInt8.toNat_add]; simp; omega
        go_wp2
        go_roundw
        case rel =>
          refine ⟨k + 1, by omega, by go_num, ?_, hbl2.setCell (p := ⟨w.heap.size, k, none⟩) hg _⟩
          rw [← lowerTo_set k _ hl2, HXX.out]
          have := HB.out.set hl (lowerB x)
          rw [hlow.out] at this
          exact this
        case measure => simp [intOf] <;> omega
      · have hlow : lowerB x = x := by unfold lowerB; rw [if_neg (by omega)]
        have HL := Lib.hid hlow
        clear hlow
        rcases (show (x.toNat : Int) < 65 ∨ 90 < (x.toNat : Int) by omega) with g2 | g2
        all_goals
          clear g1
          go_wp2
          go_roundw
          case rel =>
            refine ⟨k + 1, by omega, by go_num, ?_, hbl2⟩
            rw [← lowerTo_keep k _ hl2 (by rw [HXX.out]; exact HL.out)]
            exact HB.out
          case measure => simp [intOf] <;> omega
    · have hcv := run_string_of_bytes (P := Tryz.prog) hb 159 9 5 s.size c (by rw [hlen.out]) Tryz.underlying159 Tryz.underlying5 Tryz.underlying9
      have HK := Lib.hid (lowerTo_all k s.data.toList (by simp; omega))
      clear hb
      go_wp2
      go_ret
      exact ⟨by rw [HK.out]; rfl, hbl2⟩
def blank (b : UInt8) : Bool := b == 32 || b == 9
theorem blank_t {b : UInt8} (h : (b.toNat : Int) = 32 ∨ (b.toNat : Int) = 9) : blank b = true := by
  unfold blank
  rcases h with h | h
  · rw [show b = 32 from UInt8.toNat_inj.1 (show b.toNat = 32 by omega)]; rfl
  · rw [show b = 9 from UInt8.toNat_inj.1 (show b.toNat = 9 by omega)]; rfl
theorem blank_f {b : UInt8} (h : ¬ (b.toNat : Int) = 32) (h' : ¬ (b.toNat : Int) = 9) : blank b = false := by
  unfold blank
  rw [Bool.or_eq_false_iff]
  exact ⟨beq_eq_false_iff_ne.2 (by rintro rfl; exact h rfl), beq_eq_false_iff_ne.2 (by rintro rfl; exact h' rfl)⟩
def rtrimL (l : List UInt8) : List UInt8 := (l.reverse.dropWhile blank).reverse
def trimL (l : List UInt8) : List UInt8 := rtrimL (l.dropWhile blank)
theorem rtrim_snoc_t (l : List UInt8) (b : UInt8) (h : blank b = true) : rtrimL (l ++ [b]) = rtrimL l := by simp [rtrimL, h]
theorem rtrim_snoc_f (l : List UInt8) (b : UInt8) (h : blank b = false) : rtrimL (l ++ [b]) = l ++ [b] := by simp [rtrimL, h]
def TrimRelA (s : ByteArray) (i : Value) : Prop := ∃ k : Nat, k ≤ s.size ∧ i = .int .i64 k ∧ trimL s.data.toList = rtrimL ((s.data.toList.drop k).dropWhile blank)
def TrimRelB (s : ByteArray) (a : Nat) (i : Value) : Prop := ∃ b : Nat, a ≤ b ∧ b ≤ s.size ∧ i = .int .i64 b ∧ trimL s.data.toList = rtrimL ((s.data.toList.take b).drop a)
set_option maxRecDepth 100000 in
set_option maxHeartbeats 1600000 in
theorem Trim_any (s : ByteArray) (w : World) (hs : s.size ≤ maxLen) :
    Calls Tryz.prog 74 #[.string s] w fun e w' => e = .returned (.string (bs (trimL s.data.toList))) ∧ w' = w := by
  unfold maxLen at hs
  have hL : Hid (s.data.toList.length = s.size) := by unfold Hid; simp
  have HX : Hid (∀ i n, (s.extract i n).data.toList = (s.data.toList.take n).drop i) := fun i n => by rw [Lib.extract_data, List.drop_take]
  go_enter Tryz.func74, Tryz.ntmps74
  go_wp2
  go_loop [3] (fun i => TrimRelA s i) (fun i => s.size - (intOf i).toNat)
  case atStart => exact ⟨0, Nat.zero_le _, rfl, rfl⟩
  case round =>
    obtain ⟨k, hk, rfl, hr⟩ := hrel
    have HR := Lib.hid hr
    clear hr
    by_cases hin : ∃ h : k < s.size, (s[k].toNat : Int) = 32 ∨ (s[k].toNat : Int) = 9
    · obtain ⟨hlt, hbl⟩ := hin
      have HD := Lib.hid (drop_cons s k hlt)
      have HB := Lib.hid (blank_t hbl)
      rcases hbl with h1 | h1
      · have g1 : ((s[k].toNat : Int) == 32) = true := beq_iff_eq.2 h1
        clear h1
        go_wp2
        go_round
        case rel => exact ⟨k + 1, by omega, by go_num, by rw [HR.out, HD.out, List.dropWhile_cons, HB.out]; rfl⟩
        case measure => simp [intOf] <;> omega
      · have g1 : ((s[k].toNat : Int) == 32) = false := beq_eq_false_iff_ne.2 (by omega)
        have g2 : ((s[k].toNat : Int) == 9) = true := beq_iff_eq.2 h1
        clear h1
        go_wp2
        go_round
        case rel => exact ⟨k + 1, by omega, by go_num, by rw [HR.out, HD.out, List.dropWhile_cons, HB.out]; rfl⟩
        case measure => simp [intOf] <;> omega
    · have hstop : trimL s.data.toList = rtrimL ((s.data.toList.take s.size).drop k) := by
        rw [HR.out, List.take_of_length_le (by rw [hL.out]; exact Nat.le_refl _)]
        by_cases hlt : k < s.size
        · have hb : blank s[k] = false := blank_f (fun h => hin ⟨hlt, .inl h⟩) (fun h => hin ⟨hlt, .inr h⟩)
          rw [drop_cons s k hlt, List.dropWhile_cons, hb]; rfl
        · rw [List.drop_eq_nil_of_le (by rw [hL.out]; omega)]; rfl
      have HS := Lib.hid hstop
      clear hstop
      have hcase : ¬ k < s.size ∨ ∃ h : k < s.size, ((s[k].toNat : Int) == 32) = false ∧ ((s[k].toNat : Int) == 9) = false := by
        by_cases hlt : k < s.size
        · exact .inr ⟨hlt, beq_eq_false_iff_ne.2 (fun h => hin ⟨hlt, .inl h⟩), beq_eq_false_iff_ne.2 (fun h => hin ⟨hlt, .inr h⟩)⟩
        · exact .inl hlt
      clear hin
      rcases hcase with hge | ⟨hlt, g1, g2⟩
      all_goals
        go_wp2
        go_loop [4] (fun i => TrimRelB s k i) (fun i => (intOf i).toNat)
        case atStart => exact ⟨s.size, hk, Nat.le_refl _, rfl, HS.out⟩
        case round =>
          obtain ⟨b, hab, hbs, rfl, hr⟩ := hrel
          have HRB := Lib.hid hr
          clear hr
          by_cases hin : ∃ h : b - 1 < s.size, k < b ∧ ((s[b - 1].toNat : Int) = 32 ∨ (s[b - 1].toNat : Int) = 9)
          · obtain ⟨hlt2, hkb, hbl⟩ := hin
            have HB := Lib.hid (blank_t hbl)
            have HSN : Hid ((s.data.toList.take b).drop k = (s.data.toList.take (b - 1)).drop k ++ [s[b - 1]]) := by
              unfold Hid
              have e := take_snoc s (b - 1) hlt2
              rw [show b - 1 + 1 = b by omega] at e
              rw [e, List.drop_append_of_le_length (by rw [List.length_take, hL.out]; omega)]
            obtain ⟨c, rfl⟩ : ∃ c, b = c + 1 := ⟨b - 1, by omega⟩
            simp only [Nat.add_sub_cancel] at hbl HB HSN hlt2
            have hc0 : (k : Int) < (c : Int) + 1 := by omega
            have hc1 : ((c : Int) + 1 - 1) = c := by omega
            rcases hbl with h1 | h1
            · have g3 : ((s[c].toNat : Int) == 32) = true := beq_iff_eq.2 h1
              clear h1
              go_wp2
              go_round
              case rel => exact ⟨c, by omega, by omega, by go_num, by rw [HRB.out, HSN.out, rtrim_snoc_t _ _ HB.out]⟩
              case measure => simp [intOf] <;> omega
            · have g3 : ((s[c].toNat : Int) == 32) = false := beq_eq_false_iff_ne.2 (by omega)
              have g4 : ((s[c].toNat : Int) == 9) = true := beq_iff_eq.2 h1
              clear h1
              go_wp2
              go_round
              case rel => exact ⟨c, by omega, by omega, by go_num, by rw [HRB.out, HSN.out, rtrim_snoc_t _ _ HB.out]⟩
              case measure => simp [intOf] <;> omega
          · have HF : Hid (rtrimL ((s.data.toList.take b).drop k) = (s.data.toList.take b).drop k) := by
              unfold Hid
              by_cases hkb : k < b
              · have hlt2 : b - 1 < s.size := by omega
                have e := take_snoc s (b - 1) hlt2
                rw [show b - 1 + 1 = b by omega] at e
                rw [e, List.drop_append_of_le_length (by rw [List.length_take, hL.out]; omega)]
                exact rtrim_snoc_f _ _ (blank_f (fun h => hin ⟨hlt2, hkb, .inl h⟩) (fun h => hin ⟨hlt2, hkb, .inr h⟩))
              · rw [List.drop_eq_nil_of_le (by rw [List.length_take]; omega)]; rfl
            have hcase : b = k ∨ ∃ (c : Nat) (h : c < s.size), b = c + 1 ∧ k < c + 1 ∧ ((s[c].toNat : Int) == 32) = false ∧ ((s[c].toNat : Int) == 9) = false := by
              by_cases hkb : k < b
              · have hlt2 : b - 1 < s.size := by omega
                exact .inr ⟨b - 1, hlt2, by omega, by omega, beq_eq_false_iff_ne.2 (fun h => hin ⟨hlt2, hkb, .inl h⟩), beq_eq_false_iff_ne.2 (fun h => hin ⟨hlt2, hkb, .inr h⟩)⟩
              · exact .inl (by omega)
            clear hin
            rcases hcase with rfl | ⟨c, hc, rfl, hkc, g3, g4⟩
            · go_wp2
              go_ret
              exact ⟨ret_str (ext_bs (by rw [HRB.out, HF.out, List.drop_eq_nil_of_le (by rw [List.length_take]; omega)]; rfl)), rfl⟩
            · have hc0 : (k : Int) < (c : Int) + 1 := by omega
              have hc1 : ((c : Int) + 1 - 1) = c := by omega
              go_wp2
              go_ret
              exact ⟨ret_str (ext_bs (by rw [HX.out, HRB.out, HF.out])), rfl⟩
end Go.Proofs.YthfjmlcjkbgboaaGreatDoor
namespace Go.Proofs.YthfjmlcjkbgboaaGreatDoor
open Go.RowKit
/-- The library's own variable holds some number. -/
def LibOk (w : World) : Prop := ∃ m : Int, w.cell? ⟨0, 0, none⟩ = some (.int .i64 m)
theorem LibOk.pos {w : World} (h : LibOk w) : 0 < w.heap.size := by
  obtain ⟨m, hm⟩ := h
  exact World.block_lt_of_cell? w ⟨0, 0, none⟩ hm
theorem LibOk.below {w w' : World} (h : LibOk w) (hb : Below w.heap.size w w') : LibOk w' := by
  have hp := h.pos
  obtain ⟨m, hm⟩ := h
  exact ⟨m, (hb.cell (p := ⟨0, 0, none⟩) hp).trans hm⟩
theorem toUInt8_back (b : UInt8) : ((b.toNat : Int)).toNat.toUInt8 = b := by simp
end Go.Proofs.YthfjmlcjkbgboaaGreatDoor
namespace Go.Proofs.YthfjmlcjkbgboaaGreatDoor
open Go.RowKit
def rowStr : RowT ByteArray where
  e := 9
  t := 146
  size := 1
  bytes := 16
  z := .string ByteArray.empty
  cells x := [.string x]
  hsz _ := rfl
  hpos := by decide
  under := Tryz.underlying146
  info := by kernel_rfl
  hz := rfl
  one x u hu := by
    rw [List.mem_singleton] at hu
    rw [hu]; rfl
  hbytes := by decide
theorem rowStr_flat (l : List ByteArray) : l.flatMap rowStr.cells = l.map Value.string := by
  induction l with
  | nil => rfl
  | cons a r ih => rw [List.flatMap_cons, ih]; rfl
def lowB (p : ByteArray) : ByteArray := bs (lowerL p.data.toList)
def mixL (ps : List ByteArray) (k : Nat) : List ByteArray := (ps.take k).map lowB ++ ps.drop k
theorem mixL_len (ps : List ByteArray) (k : Nat) : (mixL ps k).length = ps.length := by
  unfold mixL
  rw [List.length_append, List.length_map, List.length_take, List.length_drop]
  omega
theorem mixL_next (ps : List ByteArray) (k : Nat) (hk : k < ps.length) : (mixL ps k)[k]? = some ps[k] ∧ (mixL ps k).set k (lowB ps[k]) = mixL ps (k + 1) := by
  have hl : ((ps.take k).map lowB).length = k := by rw [List.length_map, List.length_take]; omega
  have hd : ps.drop k = ps[k] :: ps.drop (k + 1) := List.drop_eq_getElem_cons hk
  refine ⟨?_, ?_⟩
  · unfold mixL
    rw [List.getElem?_append_right (by omega), hl, Nat.sub_self, hd]; rfl
  · unfold mixL
    rw [List.set_append_right _ _ (by omega), hl, Nat.sub_self, hd, List.set_cons_zero, List.take_succ_eq_append_getElem hk, List.map_append]
    simp
theorem mixL_all (ps : List ByteArray) : mixL ps ps.length = ps.map lowB := by
  unfold mixL
  rw [List.take_of_length_le (Nat.le_refl _), List.drop_eq_nil_of_le (Nat.le_refl _), List.append_nil]
/-- The phrases of an argument. -/
def piecesP (arg : ByteArray) : List ByteArray := Lib.splitB ⟨#[124]⟩ 0 (Lib.countB arg ⟨#[124]⟩) arg
def phrW (arg : ByteArray) : List ByteArray := (piecesP arg).map lowB
def phrF (gt gb : Nat) : Value := .func (.func 200) #[] #[.pointer (some ⟨gt, 0, none⟩), .pointer (some ⟨gb, 0, none⟩)]
/-- What tests values, in memory. -/
def PhrAt (B : Nat) (ws : List ByteArray) (gt gb : Nat) (w : World) : Prop :=
  B ≤ gt ∧ B ≤ gb ∧ ∃ lo g cap ns ss ms A c, B ≤ lo ∧ w.cell? ⟨gt, 0, none⟩ = some (.slice (some ⟨g, 0, none⟩) ms.length cap) ∧ w.cell? ⟨gb, 0, none⟩ = some (.slice A ws.length c) ∧ TreeIs w lo ws g cap ns ss ms
def PhrYes (ws : List ByteArray) (w : World) (e : Ending) (w' : World) : Prop :=
  Below w.heap.size w w' ∧ ∃ gt gb, e = .returned (.tuple #[phrF gt gb, .int .i64 0]) ∧ PhrAt w.heap.size ws gt gb w'
def PhrNo (w : World) (e : Ending) (w' : World) : Prop :=
  Below w.heap.size w w' ∧ ∃ gt gb, ∃ r : Nat, 0 < r ∧ e = .returned (.tuple #[phrF gt gb, .int .i64 (r : Int)])
theorem mix_at {ps : List ByteArray} {w : World} {base g : Nat} {k : Nat} (h : OwnG rowStr w base (.slice (some ⟨g, 0, none⟩) ps.length ps.length) (mixL ps k)) (hk : k < ps.length) : w.cell? ⟨g, k, none⟩ = some (.string ps[k]) ∧ w.frozen? ⟨g, k, none⟩ = false := by
  have hl := mixL_len ps k
  rw [← hl] at h
  have := h.at k (by omega) 0 (by decide)
  rw [show k * rowStr.size + 0 = k by simp [rowStr]] at this
  obtain ⟨h1, _⟩ := mixL_next ps k hk
  rw [List.getElem?_eq_getElem (by omega)] at h1
  rw [Option.some.inj h1] at this
  exact this
theorem mix_set {ps : List ByteArray} {w : World} {base g : Nat} {k : Nat} (h : OwnG rowStr w base (.slice (some ⟨g, 0, none⟩) ps.length ps.length) (mixL ps k)) (hk : k < ps.length) : OwnG rowStr (w.setCell ⟨g, k, none⟩ (.string (lowB ps[k]))) base (.slice (some ⟨g, 0, none⟩) ps.length ps.length) (mixL ps (k + 1)) := by
  have hl := mixL_len ps k
  have h' := h
  rw [← hl] at h'
  have := (h'.stored k (by omega) 0 (by decide) (.string (lowB ps[k])) (lowB ps[k]) rfl).1
  rw [show k * rowStr.size + 0 = k by simp [rowStr], (mixL_next ps k hk).2, hl] at this
  exact this
def RelL (ps : List ByteArray) (w : World) (v : Value) (wr : World) : Prop :=
  ∃ k : Nat, k ≤ ps.length ∧ v = .int .i64 (k : Int) ∧ OwnG rowStr wr w.heap.size (.slice (some ⟨w.heap.size, 0, none⟩) ps.length ps.length) (mixL ps k) ∧ wr.cell? ⟨w.heap.size + 1, 0, none⟩ = some (.slice (some ⟨w.heap.size, 0, none⟩) ps.length ps.length) ∧ Below w.heap.size w wr
theorem pieces_len (arg : ByteArray) : (piecesP arg).length = Lib.countB arg ⟨#[124]⟩ + 1 := Lib.splitB_all ⟨#[124]⟩ (by decide) 0 _ arg rfl
theorem splL_small (c : UInt8) : ∀ (l : List UInt8), ∀ x ∈ splL c l, x.length ≤ l.length
  | [], x, hx => by
    unfold splL at hx
    rw [List.mem_singleton] at hx
    rw [hx]; exact Nat.le_refl _
  | b :: l, x, hx => by
    have ih := splL_small c l
    unfold splL at hx
    rw [List.length_cons]
    split at hx
    · rcases List.mem_cons.1 hx with rfl | hx
      · exact Nat.zero_le _
      · exact Nat.le_succ_of_le (ih x hx)
    · split at hx
      · rw [List.mem_singleton] at hx
        rw [hx]; simp
      · rename_i y r hy
        rcases List.mem_cons.1 hx with rfl | hx
        · rw [List.length_cons]
          have := ih y (by rw [hy]; simp)
          omega
        · exact Nat.le_succ_of_le (ih x (by rw [hy]; simp [hx]))
theorem pieces_small (arg : ByteArray) : ∀ p ∈ piecesP arg, p.size ≤ arg.size := fun p hp => by
  have hm : p.data.toList ∈ splL 124 arg.data.toList := by
    rw [← split_one]
    exact List.mem_map.2 ⟨p, hp, rfl⟩
  have := splL_small 124 _ _ hm
  simpa using this
set_option maxRecDepth 100000 in
set_option maxHeartbeats 1600000 in
theorem phrases_any (arg : ByteArray) (w : World) (hlib : LibOk w) (ha : arg.size ≤ 1048576) :
    Calls Tryz.prog 149 #[.string arg] w fun e w' => (OkW (phrW arg) → PhrYes (phrW arg) w e w') ∧ (¬ OkW (phrW arg) → PhrNo w e w') := by
  obtain ⟨m0, hm0⟩ := hlib
  have hsp := Tryz.strings_Split arg ⟨#[124]⟩ m0 w (by omega) hm0 (by decide)
  have hpl := pieces_len arg
  have hps := pieces_small arg
  rw [← hpl] at hsp
  have HW : Hid (phrW arg = (piecesP arg).map lowB) := rfl
  change Calls _ _ _ _ fun e w' => e = .returned (.slice (some ⟨w.heap.size, 0, none⟩) (piecesP arg).length (piecesP arg).length) ∧ w' = w.alloc (.cells ((piecesP arg).map Value.string).toArray 9) at hsp
  generalize phrW arg = ws at *
  generalize piecesP arg = ps at *
  have HSP := Lib.hid hsp
  have hplen : ps.length ≤ 1048577 := by
    have := Lib.countB_le ⟨#[124]⟩ (by decide) arg.size arg (Nat.le_refl _)
    omega
  have hlit : OwnG rowStr (w.alloc (.cells (ps.map Value.string).toArray 9)) w.heap.size (.slice (some ⟨w.heap.size, 0, none⟩) ps.length ps.length) ps := by
    have := World.ownsRow_lit (base := w.heap.size) (e := 9) (size := 1) w (ps.map Value.string).toArray ps.length (Nat.le_refl _) (by unfold maxLen; omega) (by simp)
    unfold OwnG
    rw [rowStr_flat]
    exact this
  clear hsp hpl
  go_enter Tryz.func149, Tryz.ntmps149
  go_wp2_with (go_at_call 118; refine HSP.out.mono ?_; rintro e w1 ⟨rfl, rfl⟩)
  have hz1 : (w.alloc (.cells (ps.map Value.string).toArray 9)).heap.size = w.heap.size + 1 := by simp
  go_loopw [12] (fun v wr => RelL ps w v wr) (fun v _ => ps.length - (intOf v).toNat)
  case atStart =>
    refine ⟨0, Nat.zero_le _, rfl, ?_, ?_, ((Below.refl _ _).alloc (Nat.le_refl _) _).alloc (by simp) _⟩
    · have : mixL ps 0 = ps := by unfold mixL; simp
      rw [this]
      exact hlit.below ((Below.refl _ _).alloc (Nat.le_refl _) _)
    · have := heap_alloc_new (w.alloc (.cells (ps.map Value.string).toArray 9)) (.cells #[.slice (some ⟨w.heap.size, 0, none⟩) ps.length ps.length] 146)
      rw [hz1] at this
      exact cell_of_row _ _ 0 _ _ _ this
  case round =>
    obtain ⟨k, hk, rfl, hO, hbx, hb⟩ := hrel
    by_cases hkl : k < ps.length
    · obtain ⟨hat, hfr⟩ := mix_at hO hkl
      have HO := Lib.hid hO
      have HB := Lib.hid hb
      have HBX := Lib.hid hbx
      have hzb := World.block_lt_of_cell? wr _ hbx
      have hpk := hps ps[k] (List.getElem_mem hkl)
      have HLOW : Hid (Calls Tryz.prog 65 #[.string ps[k]] wr.drew (StrPost (lowB ps[k]) wr.drew)) := Lib.hid (Lower_any ps[k] wr.drew (by unfold maxLen; omega))
      have HEND : Hid (∀ w2, Below wr.heap.size wr w2 → RelL ps w (.int .i64 ((k : Int) + 1)) (w2.setCell ⟨w.heap.size, k, none⟩ (.string (lowB ps[k])))) := Lib.hid fun w2 hb2 =>
        ⟨k + 1, by omega, rfl, mix_set (hO.below hb2) hkl, (World.cell?_setCell_far _ _ _ _ (by show w.heap.size ≠ w.heap.size + 1; omega)).trans (cell_kept hb2 hbx), (hb.trans (hb2.mono hb.size)).setCell (Nat.le_refl _) _⟩
      generalize ps[k] = x at *
      clear hO hb
      go_wp2_with fail
      go_region_with (first | (go_at_call 65; (with_reducible refine (HLOW.out).mono ?_); rintro e w2 ⟨rfl, hb2'⟩; have hb2 : Below wr.heap.size wr w2 := undrew hb2'; have hat2 := cell_kept hb2 hat; have hfr2 := free_kept hb2 hat hfr; have hbx2 := cell_kept hb2 hbx))
      all_goals
        have HE2 := HEND.out w2 hb2
        clear hat2 hfr2 hbx2 hb2 hb2'
        go_wp2_with fail
        exact ⟨HE2, by simp [intOf] <;> omega⟩
    · have e : k = ps.length := by omega
      rw [e, mixL_all, ← HW.out] at hO
      clear e
      have hwl : ws.length = ps.length := by rw [HW.out, List.length_map]
      have hsl : Sl wr wr.heap.size 1 (some ⟨w.heap.size, 0, none⟩) ps.length (ws.map Value.string) := by
        have h2 := hO
        rw [← hwl] at h2
        obtain ⟨A5, c5, e5, h5⟩ := h2.form
        injection e5 with e6 _ _
        subst e6
        rw [rowStr_flat, hwl] at h5
        exact h5
      have hzb := World.block_lt_of_cell? wr _ hbx
      have HB := Lib.hid hb
      by_cases hok : OkW ws
      · have HM := Lib.hid (make_yes (c := ps.length) hok hwl hsl)
        clear hO hsl hb
        go_wp2_with (go_at_call 143; refine HM.out.mono ?_; rintro e w3 ⟨hb3, g, cap, ns, ss, ms, rfl, hT⟩)
        have hbx3 := cell_kept hb3 hbx
        have hbw := HB.out.trans (hb3.mono HB.out.size)
        go_ret2
        refine ⟨fun _ => ⟨hbw.alloc hbw.size _, w3.heap.size, w.heap.size + 1, rfl, hbw.size, Nat.le_succ _, wr.heap.size, g, cap, ns, ss, ms, some ⟨w.heap.size, 0, none⟩, ps.length, HB.out.size, cell_of_row _ _ 0 _ _ _ (heap_alloc_new w3 _), ?_, hT.below ((Below.refl _ _).alloc (Nat.le_refl _) _)⟩, fun h => absurd hok h⟩
        rw [hwl]
        exact cell_kept ((Below.refl _ _).alloc (Nat.le_refl _) _) hbx3
      · have HM := Lib.hid (make_no (c := ps.length) hok hwl hsl)
        clear hO hsl hb
        go_wp2_with (go_at_call 143; refine HM.out.mono ?_; rintro e w3 ⟨hb3, r, hr, rfl⟩)
        have hbw := HB.out.trans (hb3.mono HB.out.size)
        go_ret2
        exact ⟨fun h => absurd h hok, fun _ => ⟨hbw.alloc hbw.size _, w3.heap.size, w.heap.size + 1, r, hr, rfl⟩⟩
end Go.Proofs.YthfjmlcjkbgboaaGreatDoor
