/- The walk of frame.Chunked. -/
import Derived.Test.YtnpopobeinbplaaDoorFbkL
import Derived.Test.YtnpopobeinbplaaDoorHexW
import Derived.Test.YtnpopobeinbplaaDoorBld
import Derived.Test.YtnpopobeinbplaaDoorShelf
import Derived.Deep.RegionHeld3
namespace Go.Proofs.YtnpopobeinbplaaDoor
open Go.RowKit

theorem BuilderAt.keep {T e : TypeId} {B b : Nat} {p : Value} {bs : List Value} {w w' : World} (h : Lib.BuilderAt T e B b p bs w) (_ : w.heap.size ≤ w'.heap.size) (hk : ∀ k, B ≤ k → k < w.heap.size → w'.heap[k]? = w.heap[k]?) : Lib.BuilderAt T e B b p bs w' := by
  have hlt := h.lt
  obtain ⟨hB, v, hb, hown, hne⟩ := h
  refine ⟨hB, v, (hk b hB hlt).trans hb, ?_, hne⟩
  refine ⟨hown.1, ?_⟩
  rcases hown.2 with h1 | ⟨g, cap, cur, h1, h2, h3, h4, h5, h6, h7⟩
  · exact .inl h1
  · have hg := hown.lt g (by rw [h1]; rfl)
    exact .inr ⟨g, cap, cur, h1, h2, (hk g hg.1 hg.2).trans h3, h4, h5, h6, h7⟩
def ChS (H : Nat) (l : List UInt8) (s : ByteArray) (w : World) : Prop :=
  Lib.IsBuilder 122 5 (H + 1) (H + 1) (Lib.byteCells l) w ∧ w.heap[H]? = some (.cells #[.string s] 9 (0, 0))
theorem ChS.below {H : Nat} {l : List UInt8} {s : ByteArray} {w w' : World} (h : ChS H l s w) (hb : Below w.heap.size w w') : ChS H l s w' := by
  have hl : H < w.heap.size := by
    have := h.2
    rw [Array.getElem?_eq_some_iff] at this
    exact this.1
  refine ⟨h.1.imp (fun x => BuilderAt.keep x hb.size fun k _ hk => hb.block k hk) (fun x => BuilderAt.keep x hb.size fun k _ hk => hb.block k hk), (hb.block H hl).trans h.2⟩
theorem ChS.drew {H : Nat} {l : List UInt8} {s : ByteArray} {w : World} (h : ChS H l s w) : ChS H l s w.drew := h.below ((Below.refl _ _).drew)
theorem ChS.lt {H : Nat} {l : List UInt8} {s : ByteArray} {w : World} (h : ChS H l s w) : H + 1 < w.heap.size := h.1.elim (fun x => x.lt) (fun x => x.lt)
theorem undrewC {B : Nat} {W w' : World} (hb : Below B W.drew w') : Below B W w' := ⟨hb.os, hb.tape, hb.output, hb.size, hb.block⟩

set_option maxRecDepth 100000 in
set_option maxHeartbeats 1600000 in
theorem put_any (H : Nat) (l : List UInt8) (s : ByteArray) (n : Nat) (w : World) (h : ChS H l s w) (hn : n ≤ s.size) (hs : s.size ≤ 1048576) (hl : l.length ≤ 1099511627776) (htz : TzOk w) :
    Calls Tryd.prog 78 #[.int .i64 (n : Int), .pointer (some ⟨H + 1, 0, none⟩), .pointer (some ⟨H, 0, none⟩)] w
      fun e w' => e = .returned (.tuple #[]) ∧ ChS H (l ++ pieceC (s.data.toList.take n)) (bs (s.data.toList.drop n)) w' ∧ Below H w w' := by
  have hsz : s.data.toList.length = s.size := by simp
  have hlen := hex_len 6 n
  obtain ⟨E, hE⟩ : ∃ E, bs (hexF 6 n) = E := ⟨_, rfl⟩
  have hEs : E.size ≤ 7 := by rw [← hE, bs_size]; omega
  obtain ⟨Q, hQ⟩ : ∃ Q, s.extract 0 n = Q := ⟨_, rfl⟩
  have hQs : Q.size ≤ 1048576 := by rw [← hQ, ByteArray.size_extract]; omega
  have hQ2 : Q.data.toList = s.data.toList.take n := by rw [← hQ, Lib.extract_data]; simp
  have hX : (E ++ ByteArray.mk #[13, 10] ++ Q ++ ByteArray.mk #[13, 10]).data.toList = pieceC (s.data.toList.take n) := by
    unfold pieceC
    rw [List.length_take, Nat.min_eq_left (by omega), ← hE, ← hQ2]
    simp [bs]
  have hXs : (E ++ ByteArray.mk #[13, 10] ++ Q ++ ByteArray.mk #[13, 10]).size ≤ 1048600 := by
    rw [ByteArray.size_append, ByteArray.size_append, ByteArray.size_append]
    show E.size + 2 + Q.size + 2 ≤ _
    omega
  have y1 : ∀ W, (Op.stringOp .add E (ByteArray.mk #[13, 10])).run Tryd.prog W = .ok (.string (E ++ ByteArray.mk #[13, 10])) W := fun W => run_string_add_sum W E _ (by show E.size + 2 ≤ _; omega)
  have y2 : ∀ W, (Op.stringOp .add (E ++ ByteArray.mk #[13, 10]) Q).run Tryd.prog W = .ok (.string (E ++ ByteArray.mk #[13, 10] ++ Q)) W := fun W => run_string_add_sum W _ Q (by rw [ByteArray.size_append]; show E.size + 2 + Q.size ≤ _; omega)
  have y3 : ∀ W, (Op.stringOp .add (E ++ ByteArray.mk #[13, 10] ++ Q) (ByteArray.mk #[13, 10])).run Tryd.prog W = .ok (.string (E ++ ByteArray.mk #[13, 10] ++ Q ++ ByteArray.mk #[13, 10])) W := fun W => run_string_add_sum W _ _ (by rw [ByteArray.size_append, ByteArray.size_append]; show E.size + 2 + Q.size + 2 ≤ _; omega)
  have HX := Lib.hid hX
  have HFI : Hid (∀ W, Below w.heap.size w W → Calls Tryd.prog 79 #[.int .i64 (n : Int), .int .i64 16] W fun e w' => e = .returned (.string E) ∧ Below W.heap.size W w') := fun W hb => by
    have := strFormatInt16 n (by omega) W (htz.below hb)
    rw [hE] at this
    exact this
  have HWS : Hid (∀ W, ChS H l s W → _) := fun W hc => WriteString_any (H + 1) (H + 1) (Lib.byteCells l) (E ++ ByteArray.mk #[13, 10] ++ Q ++ ByteArray.mk #[13, 10]) W hc.1 (by rw [Lib.byteCells_length]; omega) (Nat.le_of_lt hc.lt)
  have hc0 : w.cell? ⟨H, 0, none⟩ = some (.string s) := by rw [Lib.cell_of_heap h.2]; rfl
  have hQe := Lib.hid hQ
  have HCH := Lib.hid h
  have i1 : (n : Int) ≤ (s.size : Int) := by omega
  have hcell : ∀ W, ChS H l s W → W.cell? ⟨H, 0, none⟩ = some (.string s) := fun W hc => by rw [Lib.cell_of_heap hc.2]; rfl
  have HCELL := Lib.hid hcell
  clear hE hQ2 hX htz h hcell hlen hQ
  go_enter Tryd.func78, Tryd.ntmps78
  go_wp2_with fail
  have hq := hQe.out
  go_region_held3 (fun w' => w'.cell? ⟨H, 0, none⟩ = some (.string s))
    (first | go_keep | exact hS9 | exact hS8)
    (first
      | (go_at_call 79; (with_reducible refine (HFI.out _ ?_).mono ?_); (first | exact Below.refl _ _ | exact (Below.refl _ _).drew); rintro e w8 ⟨rfl, hb8⟩; have hb88 : Below w.heap.size w w8 := (by first | exact hb8 | exact undrewC hb8); have hc8 := HCH.out.below hb88; have hS8 := HCELL.out _ hc8)
      | (go_at_call 71; (with_reducible refine (HWS.out _ ?_).mono ?_); (first | exact hc8 | exact hc8.drew); rintro e w9 ⟨rfl, hbl9, hb9⟩; have hb99 : Below (H + 1) w8 w9 := (by first | exact hb9 | exact undrewC hb9); have hH9 := (hb99.block H (Nat.lt_succ_self H)).trans hc8.2; have hS9 : w9.cell? ⟨H, 0, none⟩ = some (.string s) := (by rw [Lib.cell_of_heap hH9]; rfl)))
  have hf9 : w9.frozen? ⟨H, 0, none⟩ = false := Lib.frozen_of_heap hH9 0
  have hr : s.extract n s.size = bs (s.data.toList.drop n) := ext_bs (Lib.extract_to_end s n)
  have HR := Lib.hid hr
  have HBL := Lib.hid hbl9
  have hb9' : Below H w w9 := (hb88.mono (Nat.le_of_lt (Nat.lt_of_succ_lt HCH.out.lt))).trans (hb99.mono (Nat.le_succ H))
  clear hr hb8 hb88 hb9 hb99 hc8 hS8 hbl9 y1 y2 y3 hq
  go_wp2_with fail
  go_end0
  have hne : ∀ k, H + 1 ≤ k → H ≠ k := fun k h e => by omega
  refine ⟨rfl, ⟨.inr ?_, ?_⟩, hb9'.setCell (p := ⟨H, 0, none⟩) (Nat.le_refl _) _⟩
  · have hB := HBL.out
    rw [Lib.strCells_eq, HX.out] at hB
    have hB2 : Lib.BuilderAt 122 5 (H + 1) (H + 1) (.pointer (some ⟨H + 1, 0, none⟩)) (Lib.byteCells (l ++ pieceC (s.data.toList.take n))) w9 := by
      unfold Lib.byteCells at hB ⊢
      rw [List.map_append]
      exact hB
    exact BuilderAt.keep hB2 (by simp [World.setCell]) fun k hk _ => Below.heap_setCell _ _ _ _ fun e => hne k hk (by rw [e])
  · rw [← HR.out]
    simp [World.setCell, Array.getElem?_modify, hH9]
def ChRel (ps : List Int) (s : List UInt8) (w : World) (i : Value) (wr : World) : Prop :=
  ∃ (k : Nat) (l : List UInt8) (s' : ByteArray), k ≤ ps.length ∧ i = .int .i64 k ∧ ChS w.heap.size l s' wr ∧ Hid (l ++ (cutP (ps.drop k) s'.data.toList).flatMap pieceC = (cutP ps s).flatMap pieceC) ∧ s'.size ≤ s.length ∧ l.length + 12 * s'.size ≤ 12 * s.length ∧ Below w.heap.size w wr

set_option maxRecDepth 100000 in
set_option maxHeartbeats 1600000 in
theorem Chunked_any (s : ByteArray) (ps : List Int) (A : Option Addr) (c : Nat) (w : World) (hA : Sl w w.heap.size 1 A ps.length (ps.map (Value.int .i64))) (hpl : ps.length ≤ 1048576) (hs : s.size ≤ 1048576) (htz : TzOk w) :
    Calls Tryd.prog 54 #[.string s, .slice A ps.length c] w fun e w' => e = .returned (.string (bs (textC (cutP ps s.data.toList)))) ∧ Below w.heap.size w w' := by
  have hsz : s.data.toList.length = s.size := by simp
  have HA : Hid (∀ W, Below w.heap.size w W → Sl W W.heap.size 1 A ps.length (ps.map (Value.int .i64))) := fun W hb => (hA.below hb).more hb.size
  have HPUT : Hid (∀ (l : List UInt8) (x : ByteArray) (n : Nat) W, ChS w.heap.size l x W → n ≤ x.size → x.size ≤ 1048576 → l.length ≤ 1099511627776 → Below w.heap.size w W → _) := fun l x n W h1 h2 h3 h4 hb => put_any w.heap.size l x n W h1 h2 h3 h4 (htz.below hb)
  have h0 : ∀ W, W = (w.alloc (.cells #[.string s] 9)).alloc (.cells #[.pointer none, .slice none 0 0] 122) → ChS w.heap.size [] s W ∧ Below w.heap.size w W := fun W hW => by
    refine ⟨⟨?_, ?_⟩, by rw [hW]; exact ((Below.refl _ _).alloc (Nat.le_refl _) _).alloc (by simp) _⟩
    · have := Lib.fresh_isBuilder 122 5 (w.alloc (.cells #[.string s] 9))
      rw [World.size_alloc] at this
      rw [hW]
      exact this
    · rw [hW]
      exact (Below.heap_alloc _ _ _ (by simp)).trans (heap_alloc_new w _)
  have H0 := Lib.hid h0
  clear hA htz h0
  go_enter Tryd.func54, Tryd.ntmps54
  obtain ⟨hc0, hb0⟩ := H0.out _ rfl
  go_wp2_with fail
  generalize (w.alloc (.cells #[.string s] 9)).alloc (.cells #[.pointer none, .slice none 0 0] 122) = W0 at *
  go_loopw [12] (fun i wr => ChRel ps s.data.toList w i wr) (fun i _ => ps.length - (intOf i).toNat)
  case atStart => exact ⟨0, [], s, Nat.zero_le _, rfl, hc0, by unfold Hid; rw [List.drop_zero]; rfl, by omega, by simp, hb0⟩
  case round =>
    obtain ⟨k, l, x, hk, rfl, hc, HT, hx1, hx2, hb⟩ := hrel
    rw [hsz] at hx1 hx2
    clear hc0 hb0 H0
    have hc0 : wr.cell? ⟨w.heap.size, 0, none⟩ = some (.string x) := by rw [Lib.cell_of_heap hc.2]; rfl
    have hxl : x.data.toList.length = x.size := by simp
    by_cases hlt : k < ps.length
    · have d2 : decide ((k : Int) < (ps.length : Int)) = true := decide_eq_true (by omega)
      have i7 : IntKind.i64.wrap ((k : Int) + 1) = (k : Int) + 1 := IntWalk.i64_in _ (by omega)
      obtain ⟨b, off, rfl, _, hcc⟩ := (HA.out wr hb).src (by rw [List.length_map]; omega)
      have hcn := hcc k (by rw [List.length_map]; exact hlt)
      rw [List.getElem_map] at hcn
      have HDR : Hid (ps.drop k = ps[k] :: ps.drop (k + 1)) := List.drop_eq_getElem_cons hlt
      generalize ps[k] = n at hcn HDR
      have HC := Lib.hid hc
      have HB := Lib.hid hb
      by_cases hgo : 0 < n ∧ x.data.toList ≠ []
      · have d3 : decide ((0 : Int) < n) = true := decide_eq_true hgo.1
        have q0 : x.toList.isEmpty = false := by rw [Lib.toList_data]; cases h : x.data.toList with | nil => exact absurd h hgo.2 | cons _ _ => rfl
        have hpos : 0 < x.size := by rw [← hxl]; exact List.length_pos_iff.2 hgo.2
        obtain ⟨m, hm⟩ : ∃ m : Nat, min n (x.size : Int) = m := ⟨(min n (x.size : Int)).toNat, by omega⟩
        have hm1 : 1 ≤ m := by omega
        have hm2 : m ≤ x.size := by omega
        have HCUT : Hid (l ++ (cutP (ps.drop k) x.data.toList).flatMap pieceC = (l ++ pieceC (x.data.toList.take m)) ++ (cutP (ps.drop (k + 1)) (x.data.toList.drop m)).flatMap pieceC) := by
          unfold Hid
          rw [HDR.out, cutP, if_pos hgo, hxl, hm, List.flatMap_cons, List.append_assoc]
          rfl
        have HPL := Lib.hid (piece_len (x.data.toList.take m))
        have HP := Lib.hid (HPUT.out l x m wr hc hm2 (by omega) (by omega) hb)
        clear hgo hc hb hcc
        go_wp2_with fail
        refine HP.out.mono ?_
        rintro e w2 ⟨rfl, hc2, hb2⟩
        have hb2 := HB.out.trans hb2
        have hxd : (bs (x.data.toList.drop m)).size = x.size - m := by rw [bs_size, List.length_drop, hxl]
        have hpm : (pieceC (x.data.toList.take m)).length ≤ m + 11 := by
          have := HPL.out
          rw [List.length_take, Nat.min_eq_left (by omega)] at this
          exact this
        go_wp2_with fail
        go_roundw
        case rel =>
          refine ⟨k + 1, l ++ pieceC (x.data.toList.take m), bs (x.data.toList.drop m), by omega, by go_num, hc2, ?_, by rw [hxd, hsz]; omega, by rw [hxd, hsz, List.length_append]; omega, hb2⟩
          unfold Hid
          rw [bs_toList, ← HCUT.out, HT.out]
        case measure => simp [intOf] <;> omega
      · have HCUT : Hid (l ++ (cutP (ps.drop (k + 1)) x.data.toList).flatMap pieceC = (cutP ps s.data.toList).flatMap pieceC) := by
          have := HT.out
          rw [HDR.out, cutP, if_neg hgo] at this
          exact this
        by_cases hn0 : 0 < n
        · have d3 : decide ((0 : Int) < n) = true := decide_eq_true hn0
          have q0 : x.toList.isEmpty = true := by
            rw [Lib.toList_data]
            cases h : x.data.toList with
            | nil => rfl
            | cons _ _ => exact absurd ⟨hn0, by rw [h]; simp⟩ hgo
          clear hgo hc hb hcc hn0
          go_wp2_with fail
          go_roundw
          case rel => exact ⟨k + 1, l, x, by omega, by go_num, HC.out, HCUT.out, by rw [hsz]; exact hx1, by rw [hsz]; exact hx2, HB.out⟩
          case measure => simp [intOf] <;> omega
        · have d3 : decide ((0 : Int) < n) = false := decide_eq_false hn0
          clear hgo hc hb hcc hn0
          go_wp2_with fail
          go_roundw
          case rel => exact ⟨k + 1, l, x, by omega, by go_num, HC.out, HCUT.out, by rw [hsz]; exact hx1, by rw [hsz]; exact hx2, HB.out⟩
          case measure => simp [intOf] <;> omega
    · obtain rfl : k = ps.length := by omega
      have d2 : decide ((ps.length : Int) < (ps.length : Int)) = false := by simp
      rw [List.drop_length] at HT
      obtain ⟨Ao, co, rfl, _⟩ : ∃ Ao co, A = Ao ∧ c = co := ⟨_, _, rfl, rfl⟩
      have HFIN : Hid (∀ y : List UInt8, y = (cutP ps s.data.toList).flatMap pieceC → bs y ++ ByteArray.mk #[48, 13, 10, 13, 10] = bs (textC (cutP ps s.data.toList))) := fun y hy => by
        subst hy
        rw [show ByteArray.mk #[48, 13, 10, 13, 10] = bs [48, 13, 10, 13, 10] from rfl, bs_append]
        rfl
      by_cases hx0 : x.data.toList = []
      · have q0 : x.toList.isEmpty = true := by rw [Lib.toList_data, hx0]; rfl
        have HL : Hid (l = (cutP ps s.data.toList).flatMap pieceC) := by
          have := HT.out
          rw [cutP, if_pos hx0, List.flatMap_nil, List.append_nil] at this
          exact this
        have HSTR := Lib.hid (Tryd.Builder_String_any (w.heap.size + 1) (w.heap.size + 1) l wr hc.1 (Nat.le_of_lt hc.lt))
        have hll : l.length ≤ 12582912 := by omega
        clear hx0 hc
        go_wp2_with fail
        refine HSTR.out.mono ?_
        rintro e w2 ⟨rfl, hb2⟩
        have hb3 := hb.trans (hb2.mono (Nat.le_succ _))
        have hsz2 : (ByteArray.mk l.toArray).size = l.length := rfl
        go_wp2_with fail
        go_ret
        refine ⟨congrArg (fun x : ByteArray => Ending.returned (Value.string x)) (?_ : _ = bs (textC (cutP ps s.data.toList))), hb3⟩
        exact HFIN.out l HL.out
      · have q0 : x.toList.isEmpty = false := by rw [Lib.toList_data]; cases h : x.data.toList with | nil => exact absurd h hx0 | cons _ _ => rfl
        have hpos : 0 < x.size := by rw [← hxl]; exact List.length_pos_iff.2 hx0
        have HL : Hid (l ++ pieceC (x.data.toList.take x.size) = (cutP ps s.data.toList).flatMap pieceC) := by
          have := HT.out
          rw [cutP, if_neg hx0, List.flatMap_cons, List.flatMap_nil, List.append_nil] at this
          rw [← hxl, List.take_length]
          exact this
        have HPL := Lib.hid (piece_len (x.data.toList.take x.size))
        have HP := Lib.hid (HPUT.out l x x.size wr hc (Nat.le_refl _) (by omega) (by omega) hb)
        clear hx0 hc
        go_wp2_with fail
        refine HP.out.mono ?_
        rintro e w2 ⟨rfl, hc2, hb2⟩
        have hb2 := hb.trans hb2
        have hpm : (pieceC (x.data.toList.take x.size)).length ≤ x.size + 11 := by
          have := HPL.out
          rw [List.length_take, Nat.min_eq_left (by omega)] at this
          exact this
        have hll : (l ++ pieceC (x.data.toList.take x.size)).length ≤ 12582930 := by rw [List.length_append]; omega
        have HSTR := Lib.hid (Tryd.Builder_String_any (w.heap.size + 1) (w.heap.size + 1) (l ++ pieceC (x.data.toList.take x.size)) w2 hc2.1 (Nat.le_of_lt hc2.lt))
        generalize l ++ pieceC (x.data.toList.take x.size) = y at *
        clear hc2 hpm HP HPL
        go_wp2_with fail
        refine HSTR.out.mono ?_
        rintro e w3 ⟨rfl, hb3⟩
        have hb3 := hb2.trans (hb3.mono (Nat.le_succ _))
        have hsz2 : (ByteArray.mk y.toArray).size = y.length := rfl
        go_wp2_with fail
        go_ret
        refine ⟨congrArg (fun x : ByteArray => Ending.returned (Value.string x)) (?_ : _ = bs (textC (cutP ps s.data.toList))), hb3⟩
        exact HFIN.out y HL.out
end Go.Proofs.YtnpopobeinbplaaDoor
