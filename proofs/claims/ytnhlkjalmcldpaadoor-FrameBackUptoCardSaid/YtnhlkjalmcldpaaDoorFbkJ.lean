/- The walk of FrameBack. -/
import Derived.Test.YtnhlkjalmcldpaaDoorFbkW
import Derived.Test.YtnhlkjalmcldpaaDoorFrmK
import Derived.Test.YtnhlkjalmcldpaaDoorOpenI
namespace Go.Proofs.YtnhlkjalmcldpaaDoor
open Go.RowKit

theorem const_text : textC (cutP [2] [97, 98, 99]) = [50, 13, 10, 97, 98, 13, 10, 49, 13, 10, 99, 13, 10, 48, 13, 10, 13, 10] := by decide
theorem cut_each : ∀ (ns : List Int) (s : List UInt8), ∀ d ∈ cutP ns s, d.length ≤ s.length := by
  intro ns s d hd
  have h := congrArg List.length (cutP_join ns s)
  obtain ⟨a, b, e⟩ := List.append_of_mem hd
  rw [e] at h
  simp only [List.flatten_append, List.flatten_cons, List.length_append] at h
  omega
theorem text_len (ds : List (List UInt8)) (h : ∀ d ∈ ds, d ≠ []) : (textC ds).length ≤ 12 * ds.flatten.length + 5 := by
  have : (ds.flatMap pieceC).length ≤ 12 * ds.flatten.length := by
    induction ds with
    | nil => simp
    | cons d ds ih =>
      have h1 := piece_len d
      have h2 : 0 < d.length := List.length_pos_iff.2 (h d (by simp))
      have h3 := ih fun x hx => h x (by simp [hx])
      simp only [List.flatMap_cons, List.flatten_cons, List.length_append]
      omega
  unfold textC
  rw [List.length_append]
  simp only [List.length_cons, List.length_nil]
  omega

set_option maxRecDepth 100000 in
set_option maxHeartbeats 1600000 in
theorem frameBack_walk (s more : ByteArray) (ps : List Int) (A : Option Addr) (c : Nat) (w : World) (hs : s.size ≤ 1048576) (hm : more.size ≤ 1048576) (hA : Sl w w.heap.size 1 A ps.length (ps.map (Value.int .i64))) (hpl : ps.length ≤ 1048576) (htz : TzOk w) :
    Calls Tryd.prog 8 #[.string s, .string more, .slice A ps.length c] w fun e w' => e = .returned (.bool true) ∧ Below w.heap.size w w' := by
  have hsz : s.data.toList.length = s.size := by simp
  have HC1 : Hid (∀ W c, Below w.heap.size w W → Sl W W.heap.size 1 (some ⟨w.heap.size, 0, none⟩) 1 ([2].map (Value.int .i64)) → Calls Tryd.prog 30 #[.string (ByteArray.mk #[97, 98, 99]), .slice (some ⟨w.heap.size, 0, none⟩) 1 c] W fun e w' => e = .returned (.string (ByteArray.mk #[50, 13, 10, 97, 98, 13, 10, 49, 13, 10, 99, 13, 10, 48, 13, 10, 13, 10])) ∧ Below W.heap.size W w') := fun W c hb h => by
    have := Chunked_any (ByteArray.mk #[97, 98, 99]) [2] _ c W h (by decide) (by decide) (htz.below hb)
    rw [show (ByteArray.mk #[97, 98, 99]).data.toList = [97, 98, 99] from rfl, const_text] at this
    exact this
  have HC2 : Hid (∀ W, Below w.heap.size w W → _) := fun W hb => Chunked_any s ps A c W ((hA.below hb).more hb.size) hpl hs (htz.below hb)
  have hj := cutP_join ps s.data.toList
  have hok : ∀ d ∈ cutP ps s.data.toList, d ≠ [] ∧ d.length < 268435456 := fun d hd => ⟨cutP_some _ _ d hd, by have := cut_each _ _ d hd; omega⟩
  have hback := chunks_back (cutP ps s.data.toList) more.data.toList (max (s.size : Int) 0) hok (by rw [hj]; omega)
  have hsmall := chunks_small (cutP ps s.data.toList) [] (max ((s.size : Int) - 1) 0) hok (by omega)
  have htl := text_len (cutP ps s.data.toList) fun d hd => (hok d hd).1
  rw [hj] at hback hsmall htl
  rw [hsz] at hsmall htl
  rw [List.append_nil] at hsmall
  obtain ⟨t, ht⟩ : ∃ t, bs (textC (cutP ps s.data.toList)) = t := ⟨_, rfl⟩
  have hts : t.size ≤ 12 * s.size + 5 := by rw [← ht, bs_size]; exact htl
  have htd : textC (cutP ps s.data.toList) = t.data.toList := by rw [← ht, bs_toList]
  have htn : t.data.toList.length = t.size := by simp
  have htm : (t ++ more).data.toList = t.data.toList ++ more.data.toList := by simp
  rw [htd] at hback hsmall
  rw [htn] at hback
  have HK1 : Hid (∀ W, Calls Tryd.prog 31 #[.string (t ++ more), .int .i64 s.size] W fun e w' => e = .returned (.tuple #[.string s, .int .i64 (t.size : Int), .int .i64 0]) ∧ Below W.heap.size W w') := fun W => by
    have hz : (t ++ more).size ≤ 140737488355328 := by rw [ByteArray.size_append]; omega
    have := Chunks_any W (t ++ more) (s.size : Int) (by omega) (.inl hz) (by omega)
    unfold ResPost at this
    rw [htm, hback] at this
    exact this
  have HK2 : Hid (0 < s.size → ∀ W, Calls Tryd.prog 31 #[.string t, .int .i64 ((s.size : Int) - 1)] W fun e w' => e = .returned (.tuple #[.string (bs []), .int .i64 0, .int .i64 6]) ∧ Below W.heap.size W w') := fun hp W => by
    have := Chunks_any W t ((s.size : Int) - 1) (by omega) (.inl (by omega)) (by omega)
    unfold ResPost at this
    rw [hsmall (by omega)] at this
    exact this
  rw [ht] at HC2
  have hse : (s.toList == s.toList) = true := beq_self_eq_true _
  have HA := Lib.hid hA
  have hlt : t.size + more.size ≤ 9223372036854775807 := by omega
  have i8 : IntKind.i64.wrap ((s.size : Int) - 1) = (s.size : Int) - 1 := IntWalk.i64_in _ (by omega)
  clear hA htz hj hok hback hsmall htl ht htd htn htm
  go_enter Tryd.func8, Tryd.ntmps8
  go_wp2_with fail
  refine (HC1.out _ _ ((Below.refl _ _).alloc (Nat.le_refl _) _) (Sl.lit rfl (by simp) rfl rfl)).mono ?_
  rintro e w1 ⟨rfl, hb1⟩
  have hbw1 := below_new hb1 (Nat.le_refl _)
  clear hb1 HC1
  go_wp2_with fail
  refine (HC2.out _ hbw1).mono ?_
  rintro e w2 ⟨rfl, hb2⟩
  have hbw2 := hbw1.trans (hb2.mono hbw1.size)
  clear hb2 hbw1
  go_wp2_with fail
  refine (HK1.out _).mono ?_
  rintro e w3 ⟨rfl, hb3⟩
  have hbw3 := hbw2.trans (hb3.mono hbw2.size)
  clear hb3 hbw2
  by_cases h0 : 0 < s.size
  · have d1 : decide ((0 : Int) < (s.size : Int)) = true := decide_eq_true (by omega)
    have HK3 := Lib.hid (HK2.out h0)
    go_wp2_with fail
    refine (HK3.out _).mono ?_
    rintro e w4 ⟨rfl, hb4⟩
    have hbw4 := hbw3.trans (hb4.mono hbw3.size)
    go_wp2_with fail
    go_ret
    exact ⟨rfl, hbw4⟩
  · have d1 : decide ((0 : Int) < (s.size : Int)) = false := decide_eq_false (by omega)
    go_wp2_with fail
    go_ret
    exact ⟨rfl, hbw3⟩
theorem frameBack_any (s more : ByteArray) (a : IArg) (w : World) {v : Value} (hs : s.size ≤ 1048576) (hm : more.size ≤ 1048576) (x : IntsArg w v a) (hl : a.l.length ≤ 1048576) (hdb : Lib.TabIs Tryd.prog w "math/bits.deBruijn64tab" .u8 dbTab) :
    Calls Tryd.prog 8 #[.string s, .string more, .slice a.A a.l.length a.c] w fun e w' => e = .returned (.bool true) ∧ Below w.heap.size w w' :=
  frameBack_walk s more a.l a.A a.c w hs hm x.sl hl (tz_of_tab hdb)
end Go.Proofs.YtnhlkjalmcldpaaDoor
