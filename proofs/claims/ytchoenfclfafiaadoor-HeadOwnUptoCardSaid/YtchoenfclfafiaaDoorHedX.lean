/- The walks of head.lines and head.Print. -/
import Derived.Test.YtchoenfclfafiaaDoorHedW
import Derived.Test.YtchoenfclfafiaaDoorBld
import Derived.Test.YtchoenfclfafiaaDoorShelf
import Derived.Lib.IndexAny
namespace Go.Proofs.YtchoenfclfafiaaDoor
open Go.RowKit

def LinesPost (l : List UInt8) (w : World) (e : Ending) (w' : World) : Prop :=
  (linesL l = none ∧ e = .returned (.tuple #[.slice none 0 0, .bool false]) ∧ Below w.heap.size w w') ∨
  ∃ ls, linesL l = some ls ∧ e = .returned (.tuple #[.slice (some ⟨w.heap.size, 0, none⟩) ls.length ls.length, .bool true]) ∧ w' = w.alloc (.cells (ls.map fun x => Value.string (bs x)).toArray 9)
def OkRel (ls : List (List UInt8)) (i : Value) : Prop := ∃ k : Nat, k ≤ ls.length ∧ i = .int .i64 k ∧ Hid ((ls.take k).all lineOk = true)
theorem trim_end (l : List UInt8) (h : Lib.hasSuffix l endL = true) : Lib.trimSuffix l endL = l.take (l.length - 4) := by
  unfold Lib.trimSuffix
  rw [if_pos h]
  rfl
theorem ix_cont (l : List UInt8) (b : UInt8) : decide (0 ≤ Lib.indexByte l b) = l.contains b := (Lib.contains_iff_indexByte l b).symm

set_option maxRecDepth 100000 in
set_option maxHeartbeats 1600000 in
theorem lines_any (s : ByteArray) (w : World) (hlib : LibOk w) (hs : s.size ≤ 4194304) :
    Calls Tryd.prog 73 #[.string s] w (LinesPost s.data.toList w) := by
  obtain ⟨m0, hm0⟩ := hlib
  have hcs := Tryd.strings_CutSuffix s (ByteArray.mk #[13, 10, 13, 10]) w (by omega)
  have hsz : s.data.toList.length = s.size := by simp
  rw [show (ByteArray.mk #[13, 10, 13, 10]).data.toList = endL from rfl] at hcs
  cases hsf : Lib.hasSuffix s.data.toList endL with
  | false =>
    rw [hsf] at hcs
    have HN : Hid (linesL s.data.toList = none) := by unfold Hid linesL; rw [if_neg (by rw [hsf]; decide)]
    have HC := Lib.hid hcs
    clear hcs hsf hm0 hsz
    go_enter Tryd.func73, Tryd.ntmps73
    go_wp2_with fail
    refine HC.out.mono ?_
    rintro e w1 ⟨rfl, rfl⟩
    go_wp2_with fail
    exact bodyPost_ret (v := .tuple #[.slice none 0 0, .bool false]) (by simp [results, Tryd.results73, go_sem]) rfl (.inl ⟨HN.out, rfl, Below.refl _ _⟩)
  | true =>
    rw [hsf, trim_end _ hsf] at hcs
    obtain ⟨t, ht⟩ : ∃ t, bs (s.data.toList.take (s.data.toList.length - 4)) = t := ⟨_, rfl⟩
    have htl : t.data.toList = s.data.toList.take (s.data.toList.length - 4) := by rw [← ht]; rfl
    have hts : t.size ≤ 4194304 := by rw [← ht, bs_size, List.length_take]; omega
    rw [show (ByteArray.mk (s.data.toList.take (s.data.toList.length - 4)).toArray) = t from ht] at hcs
    have hsp := Tryd.strings_Split t ⟨#[13, 10]⟩ m0 w (by omega) hm0 (by decide)
    have hps := split_two t
    have hpl := Lib.splitB_all ⟨#[13, 10]⟩ (by decide) 0 _ t rfl
    generalize Lib.splitB ⟨#[13, 10]⟩ 0 (Lib.countB t ⟨#[13, 10]⟩) t = ps at hsp hps hpl
    generalize Lib.countB t ⟨#[13, 10]⟩ = n at hsp hpl
    rw [← hpl] at hsp
    have hlen : (spl2 t.data.toList).length = ps.length := by rw [← hps, List.length_map]
    have hle := spl2_len t.data.toList
    have htt : t.data.toList.length = t.size := by simp
    have hpn : ps.length ≤ 4194305 := by omega
    have HL : Hid (linesL s.data.toList = if (spl2 t.data.toList).all lineOk = true then some (spl2 t.data.toList) else none) := by unfold Hid linesL; rw [if_pos hsf, htl]
    have HPS := Lib.hid hps
    have HSP := Lib.hid hsp
    have HLN := Lib.hid hlen
    have HC := Lib.hid hcs
    have HCL : Hid (∀ j (h : j < ps.length), (w.alloc (.cells (ps.map Value.string).toArray 9)).cell? ⟨w.heap.size, j, none⟩ = some (.string ps[j])) := fun j h => by
      rw [new_cell (Below.refl _ _) j]; simp [h]
    have HBL : Hid (Below w.heap.size w (w.alloc (.cells (ps.map Value.string).toArray 9))) := (Below.refl _ _).alloc (Nat.le_refl _) _
    have HMAP : Hid ((ps.map Value.string) = (spl2 t.data.toList).map fun x => Value.string (bs x)) := by
      unfold Hid
      rw [← hps, List.map_map]
      rfl
    clear hcs hsf hm0 hsp hps hpl hlen hle htl ht hts htt hsz
    go_enter Tryd.func73, Tryd.ntmps73
    go_wp2_with fail
    refine HC.out.mono ?_
    rintro e w1 ⟨rfl, rfl⟩
    go_wp2_with fail
    refine HSP.out.mono ?_
    rintro e w2 ⟨rfl, rfl⟩
    go_wp2_with fail
    go_loop [19] (fun i => OkRel (spl2 t.data.toList) i) (fun i => ps.length - (intOf i).toNat)
    case atStart => exact ⟨0, Nat.zero_le _, rfl, rfl⟩
    case round =>
      obtain ⟨k, hk, rfl, hok⟩ := hrel
      rw [HLN.out] at hk
      by_cases hlt : k < ps.length
      · have i7 : IntKind.i64.wrap ((k : Int) + 1) = (k : Int) + 1 := IntWalk.i64_in _ (by omega)
        have d1 : decide ((k : Int) < (ps.length : Int)) = true := by simp; omega
        have hc := HCL.out k hlt
        have hlt2 : k < (spl2 t.data.toList).length := by rw [HLN.out]; exact hlt
        have HX : Hid (ps[k].data.toList = (spl2 t.data.toList)[k]) := by
          unfold Hid
          have := HPS.out
          simp only [← this, List.getElem_map]
        have HBAD : Hid (lineOk (spl2 t.data.toList)[k] = false → LinesPost s.data.toList w1 (.returned (.tuple #[.slice none 0 0, .bool false])) (w1.alloc (.cells (ps.map Value.string).toArray 9))) := fun h => .inl ⟨(by
          rw [HL.out, if_neg]
          intro ha
          have := List.all_eq_true.1 ha _ (List.getElem_mem hlt2)
          rw [h] at this; cases this), rfl, HBL.out⟩
        have HGOOD : Hid (lineOk (spl2 t.data.toList)[k] = true → ((spl2 t.data.toList).take (k + 1)).all lineOk = true) := fun h => by
          rw [List.take_succ_eq_append_getElem hlt2, List.all_append, hok.out]
          simp [h]
        rw [← HX.out] at HBAD HGOOD
        generalize ps[k] = x at hc HX HBAD HGOOD
        cases c1 : x.data.toList.isEmpty with
        | true =>
          have q1 : x.toList.isEmpty = true := by rw [Lib.toList_data]; exact c1
          have HP := Lib.hid (HBAD.out (by unfold lineOk; rw [c1]; rfl))
          clear c1 HBAD HGOOD
          go_wp2_with fail
          exact bodyPost_ret (v := .tuple #[.slice none 0 0, .bool false]) (by simp [results, Tryd.results73, go_sem]) rfl HP.out
        | false =>
          have q1 : x.toList.isEmpty = false := by rw [Lib.toList_data]; exact c1
          have j1 := ix_cont x.data.toList 13
          have j2 := ix_cont x.data.toList 10
          have hi1 := fun W => Lib.hid (Tryd.strings_IndexByte x 13 W)
          have hi2 := fun W => Lib.hid (Tryd.strings_IndexByte x 10 W)
          rw [show (13 : Int).toNat.toUInt8 = 13 from rfl] at hi1
          rw [show (10 : Int).toNat.toUInt8 = 10 from rfl] at hi2
          generalize Lib.indexByte x.data.toList 13 = z1 at *
          generalize Lib.indexByte x.data.toList 10 = z2 at *
          cases c2 : x.data.toList.contains 13 with
          | true =>
            rw [c2] at j1
            have HP := Lib.hid (HBAD.out (by unfold lineOk; rw [c2]; simp))
            clear c1 c2 HBAD HGOOD
            go_wp2_with (go_at_call 78; first | (refine (hi1 _).out.mono ?_; rintro e w' ⟨rfl, rfl⟩) | (refine (hi2 _).out.mono ?_; rintro e w' ⟨rfl, rfl⟩))
            exact bodyPost_ret (v := .tuple #[.slice none 0 0, .bool false]) (by simp [results, Tryd.results73, go_sem]) rfl HP.out
          | false =>
            rw [c2] at j1
            cases c3 : x.data.toList.contains 10 with
            | true =>
              rw [c3] at j2
              have HP := Lib.hid (HBAD.out (by unfold lineOk; rw [c3]; simp))
              clear c1 c2 c3 HBAD HGOOD
              go_wp2_with (go_at_call 78; first | (refine (hi1 _).out.mono ?_; rintro e w' ⟨rfl, rfl⟩) | (refine (hi2 _).out.mono ?_; rintro e w' ⟨rfl, rfl⟩))
              exact bodyPost_ret (v := .tuple #[.slice none 0 0, .bool false]) (by simp [results, Tryd.results73, go_sem]) rfl HP.out
            | false =>
              rw [c3] at j2
              have HP := Lib.hid (HGOOD.out (by unfold lineOk; rw [c1, c2, c3]; rfl))
              clear c1 c2 c3 HBAD HGOOD
              go_wp2_with (go_at_call 78; first | (refine (hi1 _).out.mono ?_; rintro e w' ⟨rfl, rfl⟩) | (refine (hi2 _).out.mono ?_; rintro e w' ⟨rfl, rfl⟩))
              go_round
              case rel => exact ⟨k + 1, by rw [HLN.out]; omega, by go_num, HP⟩
              case measure => simp [intOf] <;> omega
      · obtain rfl : k = ps.length := by omega
        have d1 : decide ((ps.length : Int) < (ps.length : Int)) = false := by simp
        have HP : Hid (LinesPost s.data.toList w1 (.returned (.tuple #[.slice (some ⟨w1.heap.size, 0, none⟩) ps.length ps.length, .bool true])) (w1.alloc (.cells (ps.map Value.string).toArray 9))) := by
          refine .inr ⟨spl2 t.data.toList, ?_, by rw [HLN.out], by rw [HMAP.out]⟩
          have := hok.out
          rw [← HLN.out, List.take_length] at this
          rw [HL.out, if_pos this]
        go_wp2_with fail
        exact bodyPost_ret (v := .tuple #[.slice (some ⟨w1.heap.size, 0, none⟩) ps.length ps.length, .bool true]) (by simp [results, Tryd.results73, go_sem]) rfl HP.out

theorem bld_keep {T e : TypeId} {B b : Nat} {p : Value} {l : List Value} {w w' : World} (h : Lib.BuilderAt T e B b p l w) (hb : Below w.heap.size w w') : Lib.BuilderAt T e B b p l w' := by
  have hlt := h.lt
  obtain ⟨hB, v, hbk, hown, hne⟩ := h
  exact ⟨hB, v, (hb.block b hlt).trans hbk, ownsRow_below hown hb, hne⟩
theorem isBld_below {T e : TypeId} {B b : Nat} {l : List Value} {w w' : World} (h : Lib.IsBuilder T e B b l w) (hb : Below w.heap.size w w') : Lib.IsBuilder T e B b l w' :=
  h.imp (fun x => bld_keep x hb) fun x => bld_keep x hb
theorem bld_cells {T e : TypeId} {B b : Nat} {l : List UInt8} {s : ByteArray} {w : World} {p : Value} (h : Lib.BuilderAt T e B b p (Lib.byteCells l ++ Lib.strCells s) w) : Lib.BuilderAt T e B b p (Lib.byteCells (l ++ s.data.toList)) w := by
  rw [Lib.strCells_eq] at h
  unfold Lib.byteCells at h ⊢
  rw [List.map_append]
  exact h

def PrintPost (h : HeadV) (w : World) (e : Ending) (w' : World) : Prop :=
  (checkH h = 0 ∧ e = .returned (.tuple #[.string (bs (printH h)), .int .i64 0]) ∧ Below w.heap.size w w') ∨ (checkH h ≠ 0 ∧ e = .returned (.tuple #[.string ByteArray.empty, .int .i64 (checkH h)]) ∧ Below w.heap.size w w')
def endsF (fs : List PairV) : List UInt8 := fs.flatMap fun f => lineF f ++ [13, 10]
theorem endsF_len : ∀ (fs : List PairV), (∀ f ∈ fs, f.1.size + f.2.size ≤ 1000) → (endsF fs).length ≤ fs.length * 1004
  | [], _ => by simp [endsF]
  | f :: r, h => by
    have ih := endsF_len r fun g hg => h g (by simp [hg])
    have h1 := h f (by simp)
    have e1 : f.1.data.toList.length = f.1.size := by simp
    have e2 : f.2.data.toList.length = f.2.size := by simp
    unfold endsF at ih ⊢
    unfold lineF at ih ⊢
    simp only [List.flatMap_cons, List.length_append, List.length_cons, List.length_nil] at ih ⊢
    omega
theorem firstL_len (h : HeadV) (ho : HeadOk h) : (firstL h).length ≤ 1030 := by
  have e1 : h.m.data.toList.length = h.m.size := by simp
  have e2 : h.t.data.toList.length = h.t.size := by simp
  have := ho.short
  have := ho.line
  unfold firstL verL
  simp only [List.length_append, List.length_cons, List.length_nil]
  omega
theorem printH_len (h : HeadV) (ho : HeadOk h) : (printH h).length ≤ 31154 := by
  have h1 := firstL_len h ho
  have h2 := endsF_len h.fs ho.lens
  have h3 := ho.few
  unfold printH
  unfold endsF at h2
  simp only [List.length_append, List.length_cons, List.length_nil]
  omega
def PRel (h : HeadV) (W1 : World) (g : Nat) (i : Value) (wr : World) : Prop :=
  ∃ (k : Nat) (l : List UInt8), k ≤ h.fs.length ∧ i = .int .i64 k ∧ Hid (l = firstL h ++ [13, 10] ++ endsF (h.fs.take k)) ∧ Lib.IsBuilder 114 5 g g (Lib.byteCells l) wr ∧ Below g W1 wr

set_option maxRecDepth 100000 in
set_option maxHeartbeats 1600000 in
theorem HPrint_any (h : HeadV) (A : Option Addr) (c : Nat) (w : World) (hf : Sl w w.heap.size 2 A h.fs.length (h.fs.flatMap cellsV)) (hm : h.m.size ≤ maxLen) (ht : h.t.size ≤ maxLen)
    (hs : ∀ f ∈ h.fs, f.1.size ≤ maxLen ∧ f.2.size ≤ maxLen) (hl : h.fs.length ≤ 4398046511104) :
    Calls Tryd.prog 50 #[.agg #[.string h.m, .string h.t, .slice A h.fs.length c]] w (PrintPost h w) := by
  have hb0 : Below w.heap.size w (w.alloc (.cells #[.string h.m, .string h.t, .slice A h.fs.length c] 29)) := (Below.refl _ _).alloc (Nat.le_refl _) _
  have hck := HCheck_any h A c (w.alloc (.cells #[.string h.m, .string h.t, .slice A h.fs.length c] 29)) ((hf.below hb0).more hb0.size) hm ht hs hl
  have HC := Lib.hid hck
  have HB0 := Lib.hid hb0
  clear hck hb0
  by_cases hc : checkH h = 0
  · have ho := head_ok hc
    rw [hc] at HC
    have HF1 := Lib.hid (firstL_len h ho)
    have HEL : Hid (∀ k, (endsF (h.fs.take k)).length ≤ 30120) := fun k => by
      have h1 := endsF_len (h.fs.take k) fun f hf => ho.lens f (List.mem_of_mem_take hf)
      have h2 := ho.few
      rw [List.length_take] at h1
      have : min k h.fs.length * 1004 ≤ 30 * 1004 := Nat.mul_le_mul_right _ (by omega)
      omega
    have hmz := ho.short
    have htz := ho.line
    have hfw := ho.few
    have HLS := Lib.hid ho.lens
    have y1 : ∀ W, (Op.stringOp .add h.m (ByteArray.mk #[32])).run Tryd.prog W = .ok (.string (h.m ++ ByteArray.mk #[32])) W := fun W => run_string_add_sum W _ _ (by show h.m.size + 1 ≤ _; omega)
    have y2 : ∀ W, (Op.stringOp .add (h.m ++ ByteArray.mk #[32]) h.t).run Tryd.prog W = .ok (.string (h.m ++ ByteArray.mk #[32] ++ h.t)) W := fun W => run_string_add_sum W _ _ (by rw [ByteArray.size_append]; show h.m.size + 1 + h.t.size ≤ _; omega)
    have y3 : ∀ W, (Op.stringOp .add (h.m ++ ByteArray.mk #[32] ++ h.t) (ByteArray.mk #[32, 72, 84, 84, 80, 47, 49, 46, 49, 13, 10])).run Tryd.prog W = .ok (.string (h.m ++ ByteArray.mk #[32] ++ h.t ++ ByteArray.mk #[32, 72, 84, 84, 80, 47, 49, 46, 49, 13, 10])) W := fun W => run_string_add_sum W _ _ (by rw [ByteArray.size_append, ByteArray.size_append]; show h.m.size + 1 + h.t.size + 11 ≤ _; omega)
    have HFX : Hid ((h.m ++ ByteArray.mk #[32] ++ h.t ++ ByteArray.mk #[32, 72, 84, 84, 80, 47, 49, 46, 49, 13, 10]).data.toList = firstL h ++ [13, 10]) := by unfold Hid firstL verL; simp
    have HFS : Hid ((h.m ++ ByteArray.mk #[32] ++ h.t ++ ByteArray.mk #[32, 72, 84, 84, 80, 47, 49, 46, 49, 13, 10]).size ≤ 1100) := by
      unfold Hid
      rw [ByteArray.size_append, ByteArray.size_append, ByteArray.size_append]
      show h.m.size + 1 + h.t.size + 11 ≤ _
      omega
    have HOK := Lib.hid hc
    clear ho hc hs hl
    go_enter Tryd.func50, Tryd.ntmps50
    go_wp2_with fail
    refine HC.out.mono ?_
    rintro e w1 ⟨rfl, hb1⟩
    obtain ⟨b0, b1, b2⟩ : w1.cell? ⟨w.heap.size, 0, none⟩ = some (.string h.m) ∧ w1.cell? ⟨w.heap.size, 1, none⟩ = some (.string h.t) ∧ w1.cell? ⟨w.heap.size, 2, none⟩ = some (.slice A h.fs.length c) := ⟨new_cell hb1 0, new_cell hb1 1, new_cell hb1 2⟩
    have hbw1 := below_new hb1 (Nat.le_refl _)
    have hz1 : w.heap.size < w1.heap.size := by have := hb1.size; simp at this; omega
    have hbl := Lib.fresh_isBuilder 114 5 w1
    have hb2 := (Below.refl w1.heap.size w1).alloc (Nat.le_refl _) (.cells #[.pointer none, .slice none 0 0] 114)
    have HBX : Hid (∀ W, Below w1.heap.size w1 W → (W.cell? ⟨w.heap.size, 0, none⟩ = some (.string h.m) ∧ W.cell? ⟨w.heap.size, 1, none⟩ = some (.string h.t) ∧ W.cell? ⟨w.heap.size, 2, none⟩ = some (.slice A h.fs.length c)) ∧ Below w.heap.size w W ∧ Sl W W.heap.size 2 A h.fs.length (h.fs.flatMap cellsV)) := fun W hb =>
      ⟨⟨(hb.cell (p := ⟨w.heap.size, 0, none⟩) hz1).trans b0, (hb.cell (p := ⟨w.heap.size, 1, none⟩) hz1).trans b1, (hb.cell (p := ⟨w.heap.size, 2, none⟩) hz1).trans b2⟩, hbw1.trans (hb.mono hbw1.size), (hf.below (hbw1.trans (hb.mono hbw1.size))).more (hbw1.trans (hb.mono hbw1.size)).size⟩
    have HWS := Lib.hid (WriteString_any w1.heap.size w1.heap.size [] (h.m ++ ByteArray.mk #[32] ++ h.t ++ ByteArray.mk #[32, 72, 84, 84, 80, 47, 49, 46, 49, 13, 10]) (w1.alloc (.cells #[.pointer none, .slice none 0 0] 114)) hbl (by rw [List.length_nil]; have := HFS.out; omega) (by simp))
    have HB2 := Lib.hid hb2
    clear hb1 hbw1 hbl hf hb2
    go_wp2_with fail
    refine HWS.out.mono ?_
    rintro e w2 ⟨rfl, hbd2, hb2⟩
    have hbd2' := bld_cells (l := []) hbd2
    rw [List.nil_append, HFX.out] at hbd2'
    have hb3 : Below w1.heap.size w1 w2 := HB2.out.trans hb2
    have hz2 : w1.heap.size ≤ w2.heap.size := hb3.size
    obtain ⟨⟨c0, c1, c2⟩, _, _⟩ := HBX.out w2 hb3
    clear b0 b1 b2 hbd2 hb2 y1 y2 y3
    go_wp2_with fail
    go_loopw [24] (fun i wr => PRel h w1 w1.heap.size i wr) (fun i _ => h.fs.length - (intOf i).toNat)
    case atStart => exact ⟨0, _, Nat.zero_le _, rfl, by unfold Hid endsF; rw [List.take_zero, List.flatMap_nil, List.append_nil], .inr hbd2', hb3⟩
    case round =>
      obtain ⟨k, l, hk, rfl, HL, hbd, hb⟩ := hrel
      clear c0 c1 c2 hb3 hbd2'
      obtain ⟨⟨c0, c1, c2⟩, hbw, hsl⟩ := HBX.out wr hb
      have hll : l.length ≤ 31152 := by
        have h1 := HF1.out
        have h2 := HEL.out k
        rw [HL.out, List.length_append, List.length_append]
        show (firstL h).length + 2 + _ ≤ _
        omega
      have hgw : w1.heap.size ≤ wr.heap.size := hb.size
      by_cases hlt : k < h.fs.length
      · have d1 : decide ((k : Int) < (h.fs.length : Int)) = true := decide_eq_true (by omega)
        have i7 : IntKind.i64.wrap ((k : Int) + 1) = (k : Int) + 1 := IntWalk.i64_in _ (by omega)
        obtain ⟨b, off, rfl, hbB, hc1, hc2⟩ := fld_at hsl k hlt
        have HS := HLS.out _ (List.getElem_mem hlt)
        have HN : Hid (endsF (h.fs.take (k + 1)) = endsF (h.fs.take k) ++ (lineF h.fs[k] ++ [13, 10])) := by
          unfold Hid endsF
          rw [List.take_succ_eq_append_getElem hlt, List.flatMap_append, List.flatMap_cons, List.flatMap_nil, List.append_nil]
        generalize h.fs[k] = f at hc1 hc2 HS HN
        obtain ⟨n, v⟩ := f
        dsimp only at hc1 hc2 HS HN
        have y1 : ∀ W, (Op.stringOp .add n (ByteArray.mk #[58, 32])).run Tryd.prog W = .ok (.string (n ++ ByteArray.mk #[58, 32])) W := fun W => run_string_add_sum W _ _ (by show n.size + 2 ≤ _; omega)
        have y2 : ∀ W, (Op.stringOp .add (n ++ ByteArray.mk #[58, 32]) v).run Tryd.prog W = .ok (.string (n ++ ByteArray.mk #[58, 32] ++ v)) W := fun W => run_string_add_sum W _ _ (by rw [ByteArray.size_append]; show n.size + 2 + v.size ≤ _; omega)
        have y3 : ∀ W, (Op.stringOp .add (n ++ ByteArray.mk #[58, 32] ++ v) (ByteArray.mk #[13, 10])).run Tryd.prog W = .ok (.string (n ++ ByteArray.mk #[58, 32] ++ v ++ ByteArray.mk #[13, 10])) W := fun W => run_string_add_sum W _ _ (by rw [ByteArray.size_append, ByteArray.size_append]; show n.size + 2 + v.size + 2 ≤ _; omega)
        have hX : (n ++ ByteArray.mk #[58, 32] ++ v ++ ByteArray.mk #[13, 10]).data.toList = lineF (n, v) ++ [13, 10] := by unfold lineF; simp
        have hXs : (n ++ ByteArray.mk #[58, 32] ++ v ++ ByteArray.mk #[13, 10]).size ≤ 1004 := by
          rw [ByteArray.size_append, ByteArray.size_append, ByteArray.size_append]
          show n.size + 2 + v.size + 2 ≤ _
          omega
        have hal := (Below.refl wr.heap.size wr).alloc (Nat.le_refl _) (.cells #[.string n, .string v] 65)
        have HW := Lib.hid (WriteString_any w1.heap.size w1.heap.size (Lib.byteCells l) (n ++ ByteArray.mk #[58, 32] ++ v ++ ByteArray.mk #[13, 10]) (wr.alloc (.cells #[.string n, .string v] 65)) (isBld_below hbd hal) (by rw [Lib.byteCells_length]; omega) (by simp; omega))
        have HX := Lib.hid hX
        have hba : Below w1.heap.size w1 (wr.alloc (.cells #[.string n, .string v] 65)) := hb.trans (hal.mono hgw)
        have HBA := Lib.hid hba
        clear hX hXs hal hbd hb hba hsl hbw
        go_wp2_with fail
        refine HW.out.mono ?_
        rintro e w3 ⟨rfl, hbd3, hb3⟩
        have hbd4 := bld_cells hbd3
        rw [HX.out] at hbd4
        have hb4 : Below w1.heap.size w1 w3 := HBA.out.trans hb3
        clear hbd3 hb3 c0 c1 c2 hc1 hc2 y1 y2 y3
        go_wp2_with fail
        go_roundw
        case rel => exact ⟨k + 1, _, by omega, by go_num, by unfold Hid; rw [HL.out, HN.out, List.append_assoc], .inr hbd4, hb4⟩
        case measure => simp [intOf] <;> omega
      · obtain rfl : k = h.fs.length := by omega
        have d1 : decide ((h.fs.length : Int) < (h.fs.length : Int)) = false := by simp
        have HST := Lib.hid (Tryd.Builder_String_any w1.heap.size w1.heap.size l wr hbd hgw)
        have HBW := Lib.hid hbw
        have y1 : ∀ W, (Op.stringOp .add (ByteArray.mk l.toArray) (ByteArray.mk #[13, 10])).run Tryd.prog W = .ok (.string (ByteArray.mk l.toArray ++ ByteArray.mk #[13, 10])) W := fun W => run_string_add_sum W _ _ (by show l.length + 2 ≤ _; omega)
        have hX : (ByteArray.mk l.toArray ++ ByteArray.mk #[13, 10]) = bs (printH h) := by
          show bs l ++ bs [13, 10] = _
          rw [bs_append, HL.out, List.take_length]
          rfl
        clear hbd hb hsl hbw
        go_wp2_with fail
        refine HST.out.mono ?_
        rintro e w3 ⟨rfl, hb3⟩
        have hb4 := HBW.out.trans (hb3.mono (Nat.le_of_lt hz1))
        have hsz2 : (ByteArray.mk l.toArray).size = l.length := rfl
        have HP : Hid (PrintPost h w (.returned (.tuple #[.string (ByteArray.mk l.toArray ++ ByteArray.mk #[13, 10]), .int .i64 0])) w3) := .inl ⟨HOK.out, by rw [hX], hb4⟩
        clear hX hb4 hb3
        go_wp2_with fail
        exact bodyPost_ret (v := .tuple #[.string (ByteArray.mk l.toArray ++ ByteArray.mk #[13, 10]), .int .i64 0]) (by simp [results, Tryd.results50, go_sem]) rfl HP.out
  · have HN := Lib.hid hc
    have hne : (checkH h == 0) = false := beq_eq_false_iff_ne.2 hc
    have hne2 : (checkH h != 0) = true := bne_iff_ne.2 hc
    have HCH : Hid (checkH h = checkH h) := rfl
    generalize hx : checkH h = x at *
    have HX := Lib.hid hx
    clear hc hx HCH
    go_enter Tryd.func50, Tryd.ntmps50
    go_wp2_with fail
    refine HC.out.mono ?_
    rintro e w1 ⟨rfl, hb1⟩
    have hbw1 := below_new hb1 (Nat.le_refl _)
    clear hb1
    go_wp2_with fail
    exact bodyPost_ret (v := .tuple #[.string ByteArray.empty, .int .i64 x]) (by simp [results, Tryd.results50, go_sem]; rfl) rfl (.inr ⟨by rw [HX.out]; exact HN.out, by rw [HX.out], hbw1⟩)
end Go.Proofs.YtchoenfclfafiaaDoor
