/- The walk of rex.shown. -/
import Derived.Test.YtnjjchbgnmjkjaaRps
import Derived.Test.YtnjjchbgnmjkjaaRexN4
import Derived.Deep.RegionHeld3
namespace Go.Proofs.Ytnjjchbgnmjkjaa
open Go.RowKit

def IntsW (w : World) (b : Nat) (l : List Int) : Prop := w.heap[b]? = some (.cells (l.map (Value.int .i64)).toArray 3 (0, 0))
theorem IntsW.lt {w : World} {b : Nat} {l : List Int} (h : IntsW w b l) : b < w.heap.size := by
  rcases Nat.lt_or_ge b w.heap.size with h' | h'
  · exact h'
  · unfold IntsW at h; simp [Array.getElem?_eq_none h'] at h
theorem IntsW.below {w w' : World} {b : Nat} {l : List Int} (h : IntsW w b l) (hb : Below w.heap.size w w') : IntsW w' b l := (hb.block b h.lt).trans h
/-- The kinds that a call was handed. -/
def KsAt (w : World) (A : Option Addr) (ks : List Int) : Prop := ks = [] ∨ ∃ b, A = some ⟨b, 0, none⟩ ∧ IntsW w b ks
theorem KsAt.cell {w : World} {A : Option Addr} {ks : List Int} (h : KsAt w A ks) (j : Nat) (hj : j < ks.length) : ∃ b, A = some ⟨b, 0, none⟩ ∧ b < w.heap.size ∧ w.cell? ⟨b, j, none⟩ = some (.int .i64 ks[j]) := by
  rcases h with h | ⟨b, h1, h2⟩
  · subst h; exact absurd hj (by simp)
  · refine ⟨b, h1, h2.lt, ?_⟩
    rw [cell_of_row w b j _ _ _ h2]
    simp [hj]
def ShC (t : Tree) (ks : List Int) : Prop := ∀ (A : Option Addr) (c : Nat) (w : World) (Ab : Option Addr) (cb : Nat), LT w w.heap.size t (cellsX t.kind t.set A t.kids.length c) → KsAt w Ab ks → (showT t).length ≤ 1000000 →
  (ks = [] → Ab = none ∧ cb = 0) → Calls Try.prog 26 #[argX t A c, .slice Ab ks.length cb] w (StrPost (brP ks (t.kind, showT t)) w)
theorem fine_cases {k : Int} {S : Set4} {n : Nat} (h : badT k S n = false) : ((k = 1 ∨ k = 2 ∨ k = 3 ∨ k = 7 ∨ k = 8) ∧ n = 0) ∨ (k = 6 ∧ n = 1) ∨ ((k = 4 ∨ k = 5) ∧ n = 2) := by
  unfold badT at h
  rw [Bool.or_eq_false_iff] at h
  have h1 := h.1
  have h2 : kidsI k = (n : Int) := by
    by_cases e : kidsI k = (n : Int)
    · exact e
    · rw [bne_iff_ne.2 e] at h1; cases h1
  unfold kidsI at h2
  by_cases c1 : k = 4 ∨ k = 5
  · rw [if_pos c1] at h2; exact .inr (.inr ⟨c1, by omega⟩)
  rw [if_neg c1] at h2
  by_cases c2 : k = 6
  · rw [if_pos c2] at h2; exact .inr (.inl ⟨c2, by omega⟩)
  rw [if_neg c2] at h2
  by_cases c3 : k = 1 ∨ k = 2 ∨ k = 3 ∨ k = 7 ∨ k = 8
  · rw [if_pos c3] at h2; exact .inl ⟨c3, by omega⟩
  · rw [if_neg c3] at h2; omega
theorem brP_ge (ks : List Int) (a : Int × List UInt8) : a.2.length ≤ (brP ks a).length := by
  unfold brP
  split
  · simp only [List.length_append, List.length_cons, List.length_nil]; omega
  · exact Nat.le_refl _
theorem len_one {ts : List Tree} (h : ts.length = 1) : ∃ a, ts = [a] := by
  match ts, h with
  | [a], _ => exact ⟨a, rfl⟩
theorem len_two {ts : List Tree} (h : ts.length = 2) : ∃ a b, ts = [a, b] := by
  match ts, h with
  | [a, b], _ => exact ⟨a, b, rfl⟩
theorem IntsW.new {w : World} (l : List Int) (cs : Array Value) (h : cs = (l.map (Value.int .i64)).toArray) : IntsW (w.alloc (.cells cs 3)) w.heap.size l := by
  subst h; exact heap_alloc_new w _
theorem bl1 (w : World) (a : Obj) : Below w.heap.size w (w.alloc a) := (Below.refl _ _).alloc (Nat.le_refl _) _
theorem bl2 (w : World) (a b : Obj) : Below w.heap.size w ((w.alloc a).alloc b) := (bl1 w a).alloc (by simp) _
theorem bl1d (w : World) (a : Obj) : Below w.heap.size w (w.alloc a).drew := (bl1 w a).drew
theorem bl2d (w : World) (a b : Obj) : Below w.heap.size w ((w.alloc a).alloc b).drew := (bl2 w a b).drew
theorem IntsW.drew {w : World} {b : Nat} {l : List Int} (h : IntsW w b l) : IntsW w.drew b l := h
theorem IntsW.alloc {w : World} {b : Nat} {l : List Int} (h : IntsW w b l) (o : Obj) : IntsW (w.alloc o) b l := h.below ((Below.refl _ _).alloc (Nat.le_refl _) _)
theorem i25 (w : World) : IntsW (w.alloc (.cells #[.int .i64 2, .int .i64 5] 3)) w.heap.size [2, 5] := heap_alloc_new w _
theorem i25a (w : World) (o : Obj) : IntsW ((w.alloc (.cells #[.int .i64 2, .int .i64 5] 3)).alloc o) w.heap.size [2, 5] := (i25 w).alloc o
theorem i25b (w : World) (o : Obj) : IntsW ((w.alloc o).alloc (.cells #[.int .i64 2, .int .i64 5] 3)) (w.heap.size + 1) [2, 5] := by
  have := i25 (w.alloc o); rw [World.size_alloc] at this; exact this
theorem i254 (w : World) : IntsW (w.alloc (.cells #[.int .i64 2, .int .i64 5, .int .i64 4] 3)) w.heap.size [2, 5, 4] := heap_alloc_new w _
theorem i254a (w : World) (o : Obj) : IntsW ((w.alloc (.cells #[.int .i64 2, .int .i64 5, .int .i64 4] 3)).alloc o) w.heap.size [2, 5, 4] := (i254 w).alloc o
theorem i254b (w : World) (o : Obj) : IntsW ((w.alloc o).alloc (.cells #[.int .i64 2, .int .i64 5, .int .i64 4] 3)) (w.heap.size + 1) [2, 5, 4] := by
  have := i254 (w.alloc o); rw [World.size_alloc] at this; exact this
theorem i5 (w : World) : IntsW (w.alloc (.cells #[.int .i64 5] 3)) w.heap.size [5] := heap_alloc_new w _
def ShRel (k : Int) (ks : List Int) (W0 : World) (B : Nat) (v9 : Value) (wr : World) : Prop :=
  ∃ j : Nat, j ≤ ks.length ∧ v9 = .int .i64 j ∧ (∀ i (h : i < ks.length), i < j → ks[i] ≠ k) ∧ Below B W0 wr

set_option maxRecDepth 100000 in
set_option maxHeartbeats 6400000 in
theorem shown_node (k : Int) (S : Set4) (ts : List Tree) (hf : Fine (.node k S ts)) (ks : List Int) (hks : ks.length ≤ 4) (ih : ∀ (i : Nat) (h : i < ts.length) (ks : List Int), ks.length ≤ 4 → ShC ts[i] ks) (hN : ks ≠ [] → ShC (.node k S ts) []) :
    ShC (.node k S ts) ks := by
  intro A c w Ab cb hl hk hlen hnil
  have hl0 := hl
  rw [LT] at hl
  obtain ⟨A', c', he, hwf, hk2⟩ := hl
  have hA : A' = A := by unfold cellsX at he; simp only [List.cons.injEq, Value.slice.injEq] at he; exact he.2.2.2.2.2.1.1.symm
  subst hA
  clear he
  have hbx : ∀ W, Below (w.heap.size + 1) (w.alloc (.cells #[.int .i64 k, .int .u64 S.a, .int .u64 S.b, .int .u64 S.c, .int .u64 S.d, .slice A' ts.length c] 27)) W →
      (∀ j, W.cell? ⟨w.heap.size, j, none⟩ = (#[.int .i64 k, .int .u64 S.a, .int .u64 S.b, .int .u64 S.c, .int .u64 S.d, .slice A' ts.length c] : Array Value)[j]?) ∧ Below w.heap.size w W := fun W h => box_facts h
  have HBX := Lib.hid hbx
  obtain ⟨W0, hW0⟩ : ∃ W0, w.alloc (.cells #[.int .i64 k, .int .u64 S.a, .int .u64 S.b, .int .u64 S.c, .int .u64 S.d, .slice A' ts.length c] 27) = W0 := ⟨_, rfl⟩
  have hz0 : W0.heap.size = w.heap.size + 1 := by rw [← hW0]; simp
  rw [hW0] at HBX
  have HS0 : Hid (ShRel k ks W0 (w.heap.size + 1) (.int .i64 (0 : Nat)) W0) := ⟨0, Nat.zero_le _, rfl, fun _ _ h => absurd h (by omega), Below.refl _ _⟩
  have HW0 := Lib.hid hW0
  have HKS := Lib.hid hk
  have HLT := Lib.hid hl0
  have HFI := Lib.hid hf
  have HSH : Hid (showT (.node k S ts) = shapeP k S (showL ts)) := by unfold Hid; rw [showT]
  have HLEN := Lib.hid hlen
  have HZ0 := Lib.hid hz0
  have HK2 := Lib.hid hk2
  have HIH := Lib.hid ih
  have HNN := Lib.hid hN
  unfold argX Tree.kind Tree.set Tree.kids
  dsimp only
  clear hl0 hk hlen hf hbx hz0 hW0 ih hN hk2
  go_enter Try.func26, Try.ntmps26
  go_upto_region 1 with fail
  rw [HW0.out]
  go_wp2_with fail
  go_loopw [9] (fun v9 wr => ShRel k ks W0 (w.heap.size + 1) v9 wr) (fun v9 _ => ks.length - (intOf v9).toNat)
  case atStart => exact HS0.out
  case round =>
    obtain ⟨j, hj, rfl, hne, hb⟩ := hrel
    have HBR := Lib.hid hb
    have hcell := (HBX.out wr hb).1
    have c0 := hcell 0
    have c1 := hcell 1
    have c2 := hcell 2
    have c3 := hcell 3
    have c4 := hcell 4
    have c5 := hcell 5
    have hbw := (HBX.out wr hb).2
    have HBW := Lib.hid hbw
    clear hcell hb
    by_cases hlt : j < ks.length
    · have d1 : decide ((j : Int) < (ks.length : Int)) = true := decide_eq_true (by omega)
      have i7 : IntKind.i64.wrap ((j : Int) + 1) = (j : Int) + 1 := IntWalk.i64_in _ (by omega)
      obtain ⟨b, rfl, hbl, hbc⟩ := HKS.out.cell j hlt
      have kc := cell_kept hbw hbc
      have HNE := Lib.hid hne
      obtain ⟨q, hq⟩ : ∃ q, ks[j] = q := ⟨_, rfl⟩
      rw [hq] at kc
      clear hbw hbc hne
      by_cases hqk : k = q
      · have d2 : (k == q) = true := by rw [hqk]; exact beq_self_eq_true q
        have hc : ks.contains k = true := by rw [List.contains_iff_mem, hqk, ← hq]; exact List.getElem_mem _
        have hne0 : ks ≠ [] := fun e => by rw [e] at hlt; exact absurd hlt (by simp)
        obtain ⟨T, hT⟩ : ∃ T : ByteArray, bs (showT (.node k S ts)) = T := ⟨_, rfl⟩
        have hTs : T.size ≤ 1000000 := by rw [← hT, bs_size]; exact HLEN.out
        have HP : Hid (bs (brP ks (k, showT (.node k S ts))) = ByteArray.mk #[40] ++ T ++ ByteArray.mk #[41]) := by
          unfold Hid brP
          rw [if_pos hc, ← hT, ← bs_append, ← bs_append]; rfl
        have HCL : Hid (Calls Try.prog 26 #[.agg #[.int .i64 k, .int .u64 S.a, .int .u64 S.b, .int .u64 S.c, .int .u64 S.d, .slice A' ts.length c], .slice none 0 0] wr fun e w' => e = .returned (.string T) ∧ Below wr.heap.size wr w') := by
          have := HNN.out hne0 A' c wr none 0 (LT.keep (Nat.le_trans (Nat.le_succ _) (by have := HBR.out.size; have := HZ0.out; omega)) (fun bb oo hp => HBW.out.cell (p := ⟨bb, oo, none⟩) hp) _ _ HLT.out) (.inl rfl) HLEN.out (fun _ => ⟨rfl, rfl⟩)
          unfold StrPost brP at this
          rw [if_neg (by simp)] at this
          rw [← hT]
          exact this
        have y1 : ∀ W, (Op.stringOp .add (ByteArray.mk #[40]) T).run Try.prog W = .ok (.string (ByteArray.mk #[40] ++ T)) W := fun W => run_string_add_sum W _ T (by show 1 + T.size ≤ _; omega)
        have y2 : ∀ W, (Op.stringOp .add (ByteArray.mk #[40] ++ T) (ByteArray.mk #[41])).run Try.prog W = .ok (.string (ByteArray.mk #[40] ++ T ++ ByteArray.mk #[41])) W := fun W => run_string_add_sum W _ _ (by rw [ByteArray.size_append]; show 1 + T.size + 1 ≤ _; omega)
        clear hc hne0 hT hqk hq
        go_wp2_with (go_at_call 26; apply Hid.out)
        unfold Hid
        refine HCL.out.mono ?_
        rintro e w2 ⟨rfl, hb2⟩
        have HB2 : Hid (Below w.heap.size w w2) := HBW.out.trans (hb2.mono HBW.out.size)
        clear hb2
        go_wp2_with fail
        exact bodyPost_ret (v := .string (ByteArray.mk #[40] ++ T ++ ByteArray.mk #[41])) (by simp [results, Try.results26, go_sem]) rfl ⟨by first | (rw [← HP.out]; done) | (rw [← HP.out]; rfl), HB2.out⟩
      · have d2 : (k == q) = false := beq_eq_false_iff_ne.2 hqk
        have HN2 : Hid (ShRel k ks W0 (w.heap.size + 1) (.int .i64 ((j : Int) + 1)) wr) := ⟨j + 1, hlt, by rw [Int.natCast_succ], fun i h1 h2 => by
          by_cases hi : i = j
          · subst hi; rw [hq]; exact fun e => hqk e.symm
          · exact HNE.out i h1 (by omega), HBR.out⟩
        clear hqk hq
        go_wp2_with fail
        exact ⟨HN2.out, by dsimp only [intOf]; omega⟩
    · obtain rfl : j = ks.length := by omega
      have d1 : decide ((ks.length : Int) < (ks.length : Int)) = false := by simp
      have hnc : ¬ ks.contains k = true := fun h => by
        rw [List.contains_iff_mem] at h
        obtain ⟨i, h1, h2⟩ := List.getElem_of_mem h
        exact hne i h1 h1 h2
      have HPB : Hid (brP ks (k, showT (.node k S ts)) = shapeP k S (showL ts)) := by unfold Hid brP; rw [if_neg hnc, ← HSH.out]
      have hfk := HFI.out
      rw [Fine] at hfk
      have hbad := hfk.1
      clear hnc hne hbw HNN HKS hfk
      -- SWITCH
      have hlk := HK2.out.below HBW.out
      rcases fine_cases hbad with ⟨hk5, hn0⟩ | ⟨hk6, hn1⟩ | ⟨hk45, hn2⟩
      · rcases hk5 with rfl | rfl | rfl | rfl | rfl
        · have HP : Hid (bs (brP ks (1, showT (.node 1 S ts))) = ByteArray.mk #[91, 94, 92, 120, 48, 48, 45, 92, 120, 102, 102, 93]) := by unfold Hid; rw [HPB.out]; rfl
          clear HPB HSH
          go_wp2_with fail
          exact bodyPost_ret (v := .string (ByteArray.mk #[91, 94, 92, 120, 48, 48, 45, 92, 120, 102, 102, 93])) (by simp [results, Try.results26, go_sem]) rfl ⟨by first | (rw [← HP.out]; done) | (rw [← HP.out]; rfl), HBW.out⟩
        · have HP : Hid (bs (brP ks (2, showT (.node 2 S ts))) = ByteArray.mk #[]) := by unfold Hid; rw [HPB.out]; rfl
          clear HPB HSH
          go_wp2_with fail
          exact bodyPost_ret (v := .string (ByteArray.mk #[])) (by simp [results, Try.results26, go_sem]) rfl ⟨by first | (rw [← HP.out]; done) | (rw [← HP.out]; rfl), HBW.out⟩
        · have hby := bytes_any (memF S) wr
          rw [set_mem hwf] at hby
          obtain ⟨T, hT⟩ : ∃ T : ByteArray, bs (bytesP (memF S)) = T := ⟨_, rfl⟩
          unfold StrPost setA at hby
          rw [hT] at hby
          have HBY := Lib.hid hby
          have HP : Hid (bs (brP ks (3, showT (.node 3 S ts))) = T) := by unfold Hid; rw [HPB.out, ← hT]; rfl
          clear hby hT HPB HSH
          go_wp2_with (go_at_call 44; apply Hid.out)
          unfold Hid
          refine HBY.out.mono ?_
          rintro e w2 ⟨rfl, hb2⟩
          have HB2 : Hid (Below w.heap.size w w2) := HBW.out.trans (hb2.mono HBW.out.size)
          clear hb2
          go_wp2_with fail
          exact bodyPost_ret (v := .string T) (by simp [results, Try.results26, go_sem]) rfl ⟨by first | (rw [← HP.out]; done) | (rw [← HP.out]; rfl), HB2.out⟩
        · have HP : Hid (bs (brP ks (7, showT (.node 7 S ts))) = ByteArray.mk #[94]) := by unfold Hid; rw [HPB.out]; rfl
          clear HPB HSH
          go_wp2_with fail
          exact bodyPost_ret (v := .string (ByteArray.mk #[94])) (by simp [results, Try.results26, go_sem]) rfl ⟨by first | (rw [← HP.out]; done) | (rw [← HP.out]; rfl), HBW.out⟩
        · have HP : Hid (bs (brP ks (8, showT (.node 8 S ts))) = ByteArray.mk #[36]) := by unfold Hid; rw [HPB.out]; rfl
          clear HPB HSH
          go_wp2_with fail
          exact bodyPost_ret (v := .string (ByteArray.mk #[36])) (by simp [results, Try.results26, go_sem]) rfl ⟨by first | (rw [← HP.out]; done) | (rw [← HP.out]; rfl), HBW.out⟩
      · subst hk6
        obtain ⟨ta, rfl⟩ := len_one hn1
        obtain ⟨bb, off, ca, rfl, hbb, hca, hlta⟩ := LK.one hlk
        obtain ⟨Ata, cta, rfl, _, _⟩ := hlta.parts
        have hsh : showT (.node 6 S [ta]) = brP [2, 4, 5, 6] (ta.kind, showT ta) ++ [42] := by rw [HSH.out]; rfl
        have hlen2 := HLEN.out
        rw [hsh, List.length_append, List.length_singleton] at hlen2
        have hlenta : (showT ta).length ≤ 1000000 := by have := brP_ge [2, 4, 5, 6] (ta.kind, showT ta); dsimp only at this; omega
        have Hta : Hid (∀ (W : World) (b2 cb2 : Nat) (ks2 : List Int), Below wr.heap.size wr W → IntsW W b2 ks2 → ks2.length ≤ 4 → ks2 ≠ [] → Calls Try.prog 26 #[.agg #[.int .i64 ta.kind, .int .u64 ta.set.a, .int .u64 ta.set.b, .int .u64 ta.set.c, .int .u64 ta.set.d, .slice Ata ta.kids.length cta], .slice (some ⟨b2, 0, none⟩) ks2.length cb2] W (StrPost (brP ks2 (ta.kind, showT ta)) W)) := fun W b2 cb2 ks2 hW hI h4 hne =>
          HIH.out 0 (by simp) ks2 h4 Ata cta W (some ⟨b2, 0, none⟩) cb2 (LT.keep (Nat.le_trans HBW.out.size hW.size) (fun bb oo hp => hW.cell (p := ⟨bb, oo, none⟩) (Nat.lt_of_lt_of_le hp HBW.out.size)) _ _ hlta) (.inr ⟨b2, rfl, hI⟩) hlenta (fun e => absurd e hne)
        have Hta0 : Hid (∀ (W : World), Below wr.heap.size wr W → Calls Try.prog 26 #[.agg #[.int .i64 ta.kind, .int .u64 ta.set.a, .int .u64 ta.set.b, .int .u64 ta.set.c, .int .u64 ta.set.d, .slice Ata ta.kids.length cta], .slice none 0 0] W (StrPost (showT ta) W)) := fun W hW => by
          have := HIH.out 0 (by simp) [] (by decide) Ata cta W none 0 (LT.keep (Nat.le_trans HBW.out.size hW.size) (fun bb oo hp => hW.cell (p := ⟨bb, oo, none⟩) (Nat.lt_of_lt_of_le hp HBW.out.size)) _ _ hlta) (.inl rfl) hlenta (fun _ => ⟨rfl, rfl⟩)
          unfold brP at this
          rw [if_neg (by simp)] at this
          exact this
        obtain ⟨T, hT⟩ : ∃ T : ByteArray, bs (brP [2, 4, 5, 6] (ta.kind, showT ta)) = T := ⟨_, rfl⟩
        have hTs : T.size ≤ 1000000 := by rw [← hT, bs_size]; omega
        have HP : Hid (bs (brP ks (6, showT (.node 6 S [ta]))) = T ++ ByteArray.mk #[42]) := by unfold Hid; rw [HPB.out, ← hT]; show bs (brP [2, 4, 5, 6] (ta.kind, showT ta) ++ [42]) = _; rw [← bs_append]; rfl
        have HCL : Hid (Calls Try.prog 26 #[.agg #[.int .i64 ta.kind, .int .u64 ta.set.a, .int .u64 ta.set.b, .int .u64 ta.set.c, .int .u64 ta.set.d, .slice Ata ta.kids.length cta], .slice (some ⟨wr.heap.size, 0, none⟩) 4 4] (wr.alloc (.cells #[.int .i64 2, .int .i64 4, .int .i64 5, .int .i64 6] 3)) fun e w' => e = .returned (.string T) ∧ Below wr.heap.size wr w') := by
          have hal : Below wr.heap.size wr (wr.alloc (.cells #[.int .i64 2, .int .i64 4, .int .i64 5, .int .i64 6] 3)) := (Below.refl _ _).alloc (Nat.le_refl _) _
          have := Hta.out _ wr.heap.size 4 [2, 4, 5, 6] hal (IntsW.new [2, 4, 5, 6] _ rfl) (by decide) (by decide)
          unfold StrPost at this
          rw [hT] at this
          exact this.mono (fun e w' ⟨h1, h2⟩ => ⟨h1, hal.trans (h2.mono hal.size)⟩)
        have y1 : ∀ W, (Op.stringOp .add T (ByteArray.mk #[42])).run Try.prog W = .ok (.string (T ++ ByteArray.mk #[42])) W := fun W => run_string_add_sum W T _ (by show T.size + 1 ≤ _; omega)
        have ⟨x0, x1, x2, x3, x4, x5⟩ := hca.six
        clear hsh hlen2 hlenta hT Hta Hta0 hca hlta HIH HPB HSH HLEN
        go_wp2_with (go_at_call 26; apply Hid.out)
        unfold Hid
        refine HCL.out.mono ?_
        rintro e w2 ⟨rfl, hb2⟩
        have HB2 : Hid (Below w.heap.size w w2) := HBW.out.trans (hb2.mono HBW.out.size)
        clear hb2
        go_wp2_with fail
        exact bodyPost_ret (v := .string (T ++ ByteArray.mk #[42])) (by simp [results, Try.results26, go_sem]) rfl ⟨by first | (rw [← HP.out]; done) | (rw [← HP.out]; rfl), HB2.out⟩
      · obtain ⟨ta, tb, rfl⟩ := len_two hn2
        obtain ⟨bb, off, ca, cb2, rfl, hbb, hca, hlta, hcb, hltb⟩ := LK.two hlk
        obtain ⟨Ata, cta, rfl, _, _⟩ := hlta.parts
        obtain ⟨Atb, ctb, rfl, _, _⟩ := hltb.parts
        have ⟨x0, x1, x2, x3, x4, x5⟩ := hca.six
        have ⟨y0, y1, y2, y3, y4, y5⟩ := hcb.six
        have hlen2 := HLEN.out
        rcases hk45 with rfl | rfl
        · have hsh : showT (.node 4 S [ta, tb]) = brP [2, 5] (ta.kind, showT ta) ++ brP [2, 5, 4] (tb.kind, showT tb) := by rw [HSH.out]; rfl
          rw [hsh] at hlen2
          simp only [List.length_append, List.length_cons, List.length_nil] at hlen2
          have hlenta : (showT ta).length ≤ 1000000 := by have := brP_ge [2, 5] (ta.kind, showT ta); dsimp only at this; omega
          have hlentb : (showT tb).length ≤ 1000000 := by have := brP_ge [2, 5, 4] (tb.kind, showT tb); dsimp only at this; omega
          have Hta : Hid (∀ (W : World) (b2 cb2 : Nat) (ks2 : List Int), Below wr.heap.size wr W → IntsW W b2 ks2 → ks2.length ≤ 4 → ks2 ≠ [] → Calls Try.prog 26 #[.agg #[.int .i64 ta.kind, .int .u64 ta.set.a, .int .u64 ta.set.b, .int .u64 ta.set.c, .int .u64 ta.set.d, .slice Ata ta.kids.length cta], .slice (some ⟨b2, 0, none⟩) ks2.length cb2] W (StrPost (brP ks2 (ta.kind, showT ta)) W)) := fun W b2 cb2 ks2 hW hI h4 hne =>
            HIH.out 0 (by simp) ks2 h4 Ata cta W (some ⟨b2, 0, none⟩) cb2 (LT.keep (Nat.le_trans HBW.out.size hW.size) (fun bb oo hp => hW.cell (p := ⟨bb, oo, none⟩) (Nat.lt_of_lt_of_le hp HBW.out.size)) _ _ hlta) (.inr ⟨b2, rfl, hI⟩) hlenta (fun e => absurd e hne)
          have Hta0 : Hid (∀ (W : World), Below wr.heap.size wr W → Calls Try.prog 26 #[.agg #[.int .i64 ta.kind, .int .u64 ta.set.a, .int .u64 ta.set.b, .int .u64 ta.set.c, .int .u64 ta.set.d, .slice Ata ta.kids.length cta], .slice none 0 0] W (StrPost (showT ta) W)) := fun W hW => by
            have := HIH.out 0 (by simp) [] (by decide) Ata cta W none 0 (LT.keep (Nat.le_trans HBW.out.size hW.size) (fun bb oo hp => hW.cell (p := ⟨bb, oo, none⟩) (Nat.lt_of_lt_of_le hp HBW.out.size)) _ _ hlta) (.inl rfl) hlenta (fun _ => ⟨rfl, rfl⟩)
            unfold brP at this
            rw [if_neg (by simp)] at this
            exact this
          have Htb : Hid (∀ (W : World) (b2 cb2 : Nat) (ks2 : List Int), Below wr.heap.size wr W → IntsW W b2 ks2 → ks2.length ≤ 4 → ks2 ≠ [] → Calls Try.prog 26 #[.agg #[.int .i64 tb.kind, .int .u64 tb.set.a, .int .u64 tb.set.b, .int .u64 tb.set.c, .int .u64 tb.set.d, .slice Atb tb.kids.length ctb], .slice (some ⟨b2, 0, none⟩) ks2.length cb2] W (StrPost (brP ks2 (tb.kind, showT tb)) W)) := fun W b2 cb2 ks2 hW hI h4 hne =>
            HIH.out 1 (by simp) ks2 h4 Atb ctb W (some ⟨b2, 0, none⟩) cb2 (LT.keep (Nat.le_trans HBW.out.size hW.size) (fun bb oo hp => hW.cell (p := ⟨bb, oo, none⟩) (Nat.lt_of_lt_of_le hp HBW.out.size)) _ _ hltb) (.inr ⟨b2, rfl, hI⟩) hlentb (fun e => absurd e hne)
          have Htb0 : Hid (∀ (W : World), Below wr.heap.size wr W → Calls Try.prog 26 #[.agg #[.int .i64 tb.kind, .int .u64 tb.set.a, .int .u64 tb.set.b, .int .u64 tb.set.c, .int .u64 tb.set.d, .slice Atb tb.kids.length ctb], .slice none 0 0] W (StrPost (showT tb) W)) := fun W hW => by
            have := HIH.out 1 (by simp) [] (by decide) Atb ctb W none 0 (LT.keep (Nat.le_trans HBW.out.size hW.size) (fun bb oo hp => hW.cell (p := ⟨bb, oo, none⟩) (Nat.lt_of_lt_of_le hp HBW.out.size)) _ _ hltb) (.inl rfl) hlentb (fun _ => ⟨rfl, rfl⟩)
            unfold brP at this
            rw [if_neg (by simp)] at this
            exact this
          obtain ⟨TA, hTA⟩ : ∃ TA : ByteArray, bs (brP [2, 5] (ta.kind, showT ta)) = TA := ⟨_, rfl⟩
          obtain ⟨TB, hTB⟩ : ∃ TB : ByteArray, bs (brP [2, 5, 4] (tb.kind, showT tb)) = TB := ⟨_, rfl⟩
          have hTAs : TA.size ≤ 1000000 := by rw [← hTA, bs_size]; omega
          have hTBs : TB.size ≤ 1000000 := by rw [← hTB, bs_size]; omega
          have HP : Hid (bs (brP ks (4, showT (.node 4 S [ta, tb]))) = TA ++ TB) := by unfold Hid; rw [HPB.out, ← hTA, ← hTB]; show bs (brP [2, 5] (ta.kind, showT ta) ++ brP [2, 5, 4] (tb.kind, showT tb)) = _; rw [← bs_append]
          have HCA : Hid (∀ (W : World) (b2 cb2 : Nat), Below wr.heap.size wr W → IntsW W b2 [2, 5] → Calls Try.prog 26 #[.agg #[.int .i64 ta.kind, .int .u64 ta.set.a, .int .u64 ta.set.b, .int .u64 ta.set.c, .int .u64 ta.set.d, .slice Ata ta.kids.length cta], .slice (some ⟨b2, 0, none⟩) 2 cb2] W fun e w' => e = .returned (.string TA) ∧ Below wr.heap.size wr w' ∧ ∀ b l, IntsW W b l → IntsW w' b l) := fun W b2 cb2 hW hI => by
            have := Hta.out W b2 cb2 [2, 5] hW hI (by decide) (by decide)
            unfold StrPost at this
            rw [hTA] at this
            exact this.mono (fun e w' ⟨h1, h2⟩ => ⟨h1, hW.trans (h2.mono hW.size), fun _ _ h => h.below h2⟩)
          have HCB : Hid (∀ (W : World) (b2 cb2 : Nat), Below wr.heap.size wr W → IntsW W b2 [2, 5, 4] → Calls Try.prog 26 #[.agg #[.int .i64 tb.kind, .int .u64 tb.set.a, .int .u64 tb.set.b, .int .u64 tb.set.c, .int .u64 tb.set.d, .slice Atb tb.kids.length ctb], .slice (some ⟨b2, 0, none⟩) 3 cb2] W fun e w' => e = .returned (.string TB) ∧ Below wr.heap.size wr w') := fun W b2 cb2 hW hI => by
            have := Htb.out W b2 cb2 [2, 5, 4] hW hI (by decide) (by decide)
            unfold StrPost at this
            rw [hTB] at this
            exact this.mono (fun e w' ⟨h1, h2⟩ => ⟨h1, hW.trans (h2.mono hW.size)⟩)
          have HSW : Hid (∀ w', Below wr.heap.size wr w' → (w'.cell? ⟨w.heap.size, 5, none⟩ = some (.slice (some ⟨bb, off, none⟩) 2 c) ∧ w'.cell? ⟨bb, off, none⟩ = some (.int .i64 ta.kind) ∧ w'.cell? ⟨bb, off + 1, none⟩ = some (.int .u64 ta.set.a) ∧ w'.cell? ⟨bb, off + 2, none⟩ = some (.int .u64 ta.set.b) ∧ w'.cell? ⟨bb, off + 3, none⟩ = some (.int .u64 ta.set.c) ∧ w'.cell? ⟨bb, off + 4, none⟩ = some (.int .u64 ta.set.d) ∧ w'.cell? ⟨bb, off + 5, none⟩ = some (.slice Ata ta.kids.length cta) ∧ w'.cell? ⟨bb, off + 6, none⟩ = some (.int .i64 tb.kind) ∧ w'.cell? ⟨bb, off + 6 + 1, none⟩ = some (.int .u64 tb.set.a) ∧ w'.cell? ⟨bb, off + 6 + 2, none⟩ = some (.int .u64 tb.set.b) ∧ w'.cell? ⟨bb, off + 6 + 3, none⟩ = some (.int .u64 tb.set.c) ∧ w'.cell? ⟨bb, off + 6 + 4, none⟩ = some (.int .u64 tb.set.d) ∧ w'.cell? ⟨bb, off + 6 + 5, none⟩ = some (.slice Atb tb.kids.length ctb))) := fun w' h => ⟨cell_kept h c5, cell_kept h x0, cell_kept h x1, cell_kept h x2, cell_kept h x3, cell_kept h x4, cell_kept h x5, cell_kept h y0, cell_kept h y1, cell_kept h y2, cell_kept h y3, cell_kept h y4, cell_kept h y5⟩
          have z1 : ∀ W, (Op.stringOp .add TA TB).run Try.prog W = .ok (.string (TA ++ TB)) W := fun W => run_string_add_sum W TA TB (by omega)
          clear hsh hlen2 hlenta hlentb hTA hTB Hta Hta0 Htb Htb0 hca hlta hcb hltb HIH HPB HSH HLEN
          have hwz : w.heap.size < wr.heap.size := by have := HBR.out.size; have := HZ0.out; omega
          have hbz : bb < wr.heap.size := by omega
          go_upto_region 19 with fail
          go_region_held3 (fun w' => (w'.cell? ⟨w.heap.size, 5, none⟩ = some (.slice (some ⟨bb, off, none⟩) 2 c) ∧ w'.cell? ⟨bb, off, none⟩ = some (.int .i64 ta.kind) ∧ w'.cell? ⟨bb, off + 1, none⟩ = some (.int .u64 ta.set.a) ∧ w'.cell? ⟨bb, off + 2, none⟩ = some (.int .u64 ta.set.b) ∧ w'.cell? ⟨bb, off + 3, none⟩ = some (.int .u64 ta.set.c) ∧ w'.cell? ⟨bb, off + 4, none⟩ = some (.int .u64 ta.set.d) ∧ w'.cell? ⟨bb, off + 5, none⟩ = some (.slice Ata ta.kids.length cta) ∧ w'.cell? ⟨bb, off + 6, none⟩ = some (.int .i64 tb.kind) ∧ w'.cell? ⟨bb, off + 6 + 1, none⟩ = some (.int .u64 tb.set.a) ∧ w'.cell? ⟨bb, off + 6 + 2, none⟩ = some (.int .u64 tb.set.b) ∧ w'.cell? ⟨bb, off + 6 + 3, none⟩ = some (.int .u64 tb.set.c) ∧ w'.cell? ⟨bb, off + 6 + 4, none⟩ = some (.int .u64 tb.set.d) ∧ w'.cell? ⟨bb, off + 6 + 5, none⟩ = some (.slice Atb tb.kids.length ctb)))
            (first | go_keep | exact HSW.out _ hb19 | exact HSW.out _ hb18 | exact HSW.out _ (hb18.alloc hb18.size _) | exact HSW.out _ (bl1 _ _) | exact HSW.out _ (bl2 _ _ _) | exact HSW.out _ (bl1d _ _) | exact HSW.out _ (bl2d _ _ _))
            (first | (go_at_call 26; (with_reducible refine (HCA.out _ _ _ ?_ ?_).mono ?_); (first | exact bl1 _ _ | exact bl1d _ _ | exact bl2 _ _ _ | exact bl2d _ _ _ | exact (Below.refl _ _).drew | exact Below.refl _ _ | fail "below1"); (first | exact i25 _ | exact (i25 _).drew | exact i25a _ _ | exact (i25a _ _).drew | exact i25b _ _ | exact (i25b _ _).drew | fail "ints1"); rintro e w8 ⟨rfl, hb18, hk8⟩) | (go_at_call 26; (with_reducible refine (HCB.out _ _ _ ?_ ?_).mono ?_); (first | exact hb18 | exact hb18.drew | exact hb18.alloc hb18.size _ | exact (hb18.alloc hb18.size _).drew | fail "below2"); (first | exact i254 _ | exact (i254 _).drew | exact hk8 _ _ (i254 _) | exact hk8 _ _ (i254 _).drew | exact i254a _ _ | exact (i254a _ _).drew | exact hk8 _ _ (i254a _ _) | exact hk8 _ _ (i254a _ _).drew | exact i254b _ _ | exact (i254b _ _).drew | exact hk8 _ _ (i254b _ _) | exact hk8 _ _ (i254b _ _).drew | fail "ints2"); rintro e w9 ⟨rfl, hb19⟩))
          all_goals
            have hb20 : Below w.heap.size w w9 := HBW.out.trans (hb19.mono HBW.out.size)
            have HB9 := Lib.hid hb20
            clear hb18 hb19 hk8 hb20 c0 c1 c2 c3 c4 c5 x0 x1 x2 x3 x4 x5 y0 y1 y2 y3 y4 y5 HSW HCA HCB
            go_wp2_with fail
            exact bodyPost_ret (v := .string (TA ++ TB)) (by simp [results, Try.results26, go_sem]) rfl ⟨by first | (rw [← HP.out]; done) | (rw [← HP.out]; rfl), HB9.out⟩
        · have hsh : showT (.node 5 S [ta, tb]) = showT ta ++ [124] ++ brP [5] (tb.kind, showT tb) := by rw [HSH.out]; rfl
          rw [hsh] at hlen2
          simp only [List.length_append, List.length_cons, List.length_nil] at hlen2
          have hlenta : (showT ta).length ≤ 1000000 := by omega
          have hlentb : (showT tb).length ≤ 1000000 := by have := brP_ge [5] (tb.kind, showT tb); dsimp only at this; omega
          have Hta : Hid (∀ (W : World) (b2 cb2 : Nat) (ks2 : List Int), Below wr.heap.size wr W → IntsW W b2 ks2 → ks2.length ≤ 4 → ks2 ≠ [] → Calls Try.prog 26 #[.agg #[.int .i64 ta.kind, .int .u64 ta.set.a, .int .u64 ta.set.b, .int .u64 ta.set.c, .int .u64 ta.set.d, .slice Ata ta.kids.length cta], .slice (some ⟨b2, 0, none⟩) ks2.length cb2] W (StrPost (brP ks2 (ta.kind, showT ta)) W)) := fun W b2 cb2 ks2 hW hI h4 hne =>
            HIH.out 0 (by simp) ks2 h4 Ata cta W (some ⟨b2, 0, none⟩) cb2 (LT.keep (Nat.le_trans HBW.out.size hW.size) (fun bb oo hp => hW.cell (p := ⟨bb, oo, none⟩) (Nat.lt_of_lt_of_le hp HBW.out.size)) _ _ hlta) (.inr ⟨b2, rfl, hI⟩) hlenta (fun e => absurd e hne)
          have Hta0 : Hid (∀ (W : World), Below wr.heap.size wr W → Calls Try.prog 26 #[.agg #[.int .i64 ta.kind, .int .u64 ta.set.a, .int .u64 ta.set.b, .int .u64 ta.set.c, .int .u64 ta.set.d, .slice Ata ta.kids.length cta], .slice none 0 0] W (StrPost (showT ta) W)) := fun W hW => by
            have := HIH.out 0 (by simp) [] (by decide) Ata cta W none 0 (LT.keep (Nat.le_trans HBW.out.size hW.size) (fun bb oo hp => hW.cell (p := ⟨bb, oo, none⟩) (Nat.lt_of_lt_of_le hp HBW.out.size)) _ _ hlta) (.inl rfl) hlenta (fun _ => ⟨rfl, rfl⟩)
            unfold brP at this
            rw [if_neg (by simp)] at this
            exact this
          have Htb : Hid (∀ (W : World) (b2 cb2 : Nat) (ks2 : List Int), Below wr.heap.size wr W → IntsW W b2 ks2 → ks2.length ≤ 4 → ks2 ≠ [] → Calls Try.prog 26 #[.agg #[.int .i64 tb.kind, .int .u64 tb.set.a, .int .u64 tb.set.b, .int .u64 tb.set.c, .int .u64 tb.set.d, .slice Atb tb.kids.length ctb], .slice (some ⟨b2, 0, none⟩) ks2.length cb2] W (StrPost (brP ks2 (tb.kind, showT tb)) W)) := fun W b2 cb2 ks2 hW hI h4 hne =>
            HIH.out 1 (by simp) ks2 h4 Atb ctb W (some ⟨b2, 0, none⟩) cb2 (LT.keep (Nat.le_trans HBW.out.size hW.size) (fun bb oo hp => hW.cell (p := ⟨bb, oo, none⟩) (Nat.lt_of_lt_of_le hp HBW.out.size)) _ _ hltb) (.inr ⟨b2, rfl, hI⟩) hlentb (fun e => absurd e hne)
          have Htb0 : Hid (∀ (W : World), Below wr.heap.size wr W → Calls Try.prog 26 #[.agg #[.int .i64 tb.kind, .int .u64 tb.set.a, .int .u64 tb.set.b, .int .u64 tb.set.c, .int .u64 tb.set.d, .slice Atb tb.kids.length ctb], .slice none 0 0] W (StrPost (showT tb) W)) := fun W hW => by
            have := HIH.out 1 (by simp) [] (by decide) Atb ctb W none 0 (LT.keep (Nat.le_trans HBW.out.size hW.size) (fun bb oo hp => hW.cell (p := ⟨bb, oo, none⟩) (Nat.lt_of_lt_of_le hp HBW.out.size)) _ _ hltb) (.inl rfl) hlentb (fun _ => ⟨rfl, rfl⟩)
            unfold brP at this
            rw [if_neg (by simp)] at this
            exact this
          obtain ⟨TA, hTA⟩ : ∃ TA : ByteArray, bs (showT ta) = TA := ⟨_, rfl⟩
          obtain ⟨TB, hTB⟩ : ∃ TB : ByteArray, bs (brP [5] (tb.kind, showT tb)) = TB := ⟨_, rfl⟩
          have hTAs : TA.size ≤ 1000000 := by rw [← hTA, bs_size]; omega
          have hTBs : TB.size ≤ 1000000 := by rw [← hTB, bs_size]; omega
          have HP : Hid (bs (brP ks (5, showT (.node 5 S [ta, tb]))) = TA ++ ByteArray.mk #[124] ++ TB) := by unfold Hid; rw [HPB.out, ← hTA, ← hTB]; show bs (showT ta ++ [124] ++ brP [5] (tb.kind, showT tb)) = _; rw [← bs_append, ← bs_append]; rfl
          have HCA : Hid (∀ (W : World), Below wr.heap.size wr W → Calls Try.prog 26 #[.agg #[.int .i64 ta.kind, .int .u64 ta.set.a, .int .u64 ta.set.b, .int .u64 ta.set.c, .int .u64 ta.set.d, .slice Ata ta.kids.length cta], .slice none 0 0] W fun e w' => e = .returned (.string TA) ∧ Below wr.heap.size wr w' ∧ ∀ b l, IntsW W b l → IntsW w' b l) := fun W hW => by
            have := Hta0.out W hW
            unfold StrPost at this
            rw [hTA] at this
            exact this.mono (fun e w' ⟨h1, h2⟩ => ⟨h1, hW.trans (h2.mono hW.size), fun _ _ h => h.below h2⟩)
          have HCB : Hid (∀ (W : World) (b2 cb2 : Nat), Below wr.heap.size wr W → IntsW W b2 [5] → Calls Try.prog 26 #[.agg #[.int .i64 tb.kind, .int .u64 tb.set.a, .int .u64 tb.set.b, .int .u64 tb.set.c, .int .u64 tb.set.d, .slice Atb tb.kids.length ctb], .slice (some ⟨b2, 0, none⟩) 1 cb2] W fun e w' => e = .returned (.string TB) ∧ Below wr.heap.size wr w') := fun W b2 cb2 hW hI => by
            have := Htb.out W b2 cb2 [5] hW hI (by decide) (by decide)
            unfold StrPost at this
            rw [hTB] at this
            exact this.mono (fun e w' ⟨h1, h2⟩ => ⟨h1, hW.trans (h2.mono hW.size)⟩)
          have HSW : Hid (∀ w', Below wr.heap.size wr w' → (w'.cell? ⟨w.heap.size, 5, none⟩ = some (.slice (some ⟨bb, off, none⟩) 2 c) ∧ w'.cell? ⟨bb, off, none⟩ = some (.int .i64 ta.kind) ∧ w'.cell? ⟨bb, off + 1, none⟩ = some (.int .u64 ta.set.a) ∧ w'.cell? ⟨bb, off + 2, none⟩ = some (.int .u64 ta.set.b) ∧ w'.cell? ⟨bb, off + 3, none⟩ = some (.int .u64 ta.set.c) ∧ w'.cell? ⟨bb, off + 4, none⟩ = some (.int .u64 ta.set.d) ∧ w'.cell? ⟨bb, off + 5, none⟩ = some (.slice Ata ta.kids.length cta) ∧ w'.cell? ⟨bb, off + 6, none⟩ = some (.int .i64 tb.kind) ∧ w'.cell? ⟨bb, off + 6 + 1, none⟩ = some (.int .u64 tb.set.a) ∧ w'.cell? ⟨bb, off + 6 + 2, none⟩ = some (.int .u64 tb.set.b) ∧ w'.cell? ⟨bb, off + 6 + 3, none⟩ = some (.int .u64 tb.set.c) ∧ w'.cell? ⟨bb, off + 6 + 4, none⟩ = some (.int .u64 tb.set.d) ∧ w'.cell? ⟨bb, off + 6 + 5, none⟩ = some (.slice Atb tb.kids.length ctb))) := fun w' h => ⟨cell_kept h c5, cell_kept h x0, cell_kept h x1, cell_kept h x2, cell_kept h x3, cell_kept h x4, cell_kept h x5, cell_kept h y0, cell_kept h y1, cell_kept h y2, cell_kept h y3, cell_kept h y4, cell_kept h y5⟩
          have z1 : ∀ W, (Op.stringOp .add TA (ByteArray.mk #[124])).run Try.prog W = .ok (.string (TA ++ ByteArray.mk #[124])) W := fun W => run_string_add_sum W TA _ (by show TA.size + 1 ≤ _; omega)
          have z2 : ∀ W, (Op.stringOp .add (TA ++ ByteArray.mk #[124]) TB).run Try.prog W = .ok (.string (TA ++ ByteArray.mk #[124] ++ TB)) W := fun W => run_string_add_sum W _ TB (by rw [ByteArray.size_append]; show TA.size + 1 + TB.size ≤ _; omega)
          clear hsh hlen2 hlenta hlentb hTA hTB Hta Hta0 Htb Htb0 hca hlta hcb hltb HIH HPB HSH HLEN
          have hwz : w.heap.size < wr.heap.size := by have := HBR.out.size; have := HZ0.out; omega
          have hbz : bb < wr.heap.size := by omega
          go_upto_region 21 with fail
          go_region_held3 (fun w' => (w'.cell? ⟨w.heap.size, 5, none⟩ = some (.slice (some ⟨bb, off, none⟩) 2 c) ∧ w'.cell? ⟨bb, off, none⟩ = some (.int .i64 ta.kind) ∧ w'.cell? ⟨bb, off + 1, none⟩ = some (.int .u64 ta.set.a) ∧ w'.cell? ⟨bb, off + 2, none⟩ = some (.int .u64 ta.set.b) ∧ w'.cell? ⟨bb, off + 3, none⟩ = some (.int .u64 ta.set.c) ∧ w'.cell? ⟨bb, off + 4, none⟩ = some (.int .u64 ta.set.d) ∧ w'.cell? ⟨bb, off + 5, none⟩ = some (.slice Ata ta.kids.length cta) ∧ w'.cell? ⟨bb, off + 6, none⟩ = some (.int .i64 tb.kind) ∧ w'.cell? ⟨bb, off + 6 + 1, none⟩ = some (.int .u64 tb.set.a) ∧ w'.cell? ⟨bb, off + 6 + 2, none⟩ = some (.int .u64 tb.set.b) ∧ w'.cell? ⟨bb, off + 6 + 3, none⟩ = some (.int .u64 tb.set.c) ∧ w'.cell? ⟨bb, off + 6 + 4, none⟩ = some (.int .u64 tb.set.d) ∧ w'.cell? ⟨bb, off + 6 + 5, none⟩ = some (.slice Atb tb.kids.length ctb)))
            (first | go_keep | exact HSW.out _ hb19 | exact HSW.out _ hb18 | exact HSW.out _ (hb18.alloc hb18.size _) | exact HSW.out _ (bl1 _ _) | exact HSW.out _ (bl2 _ _ _) | exact HSW.out _ (bl1d _ _) | exact HSW.out _ (bl2d _ _ _))
            (first | (go_at_call 26; (with_reducible refine (HCA.out _ ?_).mono ?_); (first | exact bl1 _ _ | exact bl1d _ _ | exact bl2 _ _ _ | exact bl2d _ _ _ | exact (Below.refl _ _).drew | exact Below.refl _ _ | fail "below1"); rintro e w8 ⟨rfl, hb18, hk8⟩) | (go_at_call 26; (with_reducible refine (HCB.out _ _ _ ?_ ?_).mono ?_); (first | exact hb18 | exact hb18.drew | exact hb18.alloc hb18.size _ | exact (hb18.alloc hb18.size _).drew | fail "below2"); (first | exact i5 _ | exact (i5 _).drew | exact hk8 _ _ (i5 _) | exact hk8 _ _ (i5 _).drew | fail "ints2"); rintro e w9 ⟨rfl, hb19⟩))
          all_goals
            have hb20 : Below w.heap.size w w9 := HBW.out.trans (hb19.mono HBW.out.size)
            have HB9 := Lib.hid hb20
            clear hb18 hb19 hk8 hb20 c0 c1 c2 c3 c4 c5 x0 x1 x2 x3 x4 x5 y0 y1 y2 y3 y4 y5 HSW HCA HCB
            go_wp2_with fail
            exact bodyPost_ret (v := .string (TA ++ ByteArray.mk #[124] ++ TB)) (by simp [results, Try.results26, go_sem]) rfl ⟨by first | (rw [← HP.out]; done) | (rw [← HP.out]; rfl), HB9.out⟩
theorem fineL_at : ∀ {ts : List Tree}, FineL ts → ∀ (i : Nat) (h : i < ts.length), Fine ts[i]
  | [], _, i, h => absurd h (by simp)
  | t :: ts, hf, 0, _ => by rw [FineL] at hf; exact hf.1
  | t :: ts, hf, i + 1, h => by rw [FineL] at hf; exact fineL_at hf.2 i (by simpa using h)
theorem shown_any (t : Tree) (hf : Fine t) (ks : List Int) (hks : ks.length ≤ 4) : ShC t ks :=
  match t, hf with
  | .node k S ts, hf => by
    have hf2 := hf
    rw [Fine] at hf2
    have ih : ∀ (i : Nat) (h : i < ts.length) (ks : List Int), ks.length ≤ 4 → ShC ts[i] ks := fun i h ks2 h2 => shown_any ts[i] (fineL_at hf2.2 i h) ks2 h2
    exact shown_node k S ts hf ks hks ih (fun _ => shown_node k S ts hf [] (by decide) ih (fun e => absurd rfl e))
termination_by SizeOf.sizeOf t
decreasing_by
  have := List.sizeOf_lt_of_mem (List.getElem_mem h)
  simp only [Tree.node.sizeOf_spec]
  omega
/-- What Print answers. -/
def printP (t : Tree) : List UInt8 × Int := if checkT t ≠ 0 then ([], checkT t) else (showT t, 0)
theorem show_small {t : Tree} (h : checkT t = 0) : (showT t).length ≤ 1000000 := by
  have h1 := showT_len t
  have h2 := chk_nodes t 1 0 h
  have h3 := (chk_rng t 1 0 (by decide)).2.2 h
  omega

set_option maxRecDepth 100000 in
set_option maxHeartbeats 800000 in
theorem Print_any (t : Tree) (A : Option Addr) (c : Nat) (w : World) (h : LT w w.heap.size t (cellsX t.kind t.set A t.kids.length c)) :
    Calls Try.prog 8 #[argX t A c] w fun e w' => e = .returned (.tuple #[.string (bs (printP t).1), .int .i64 (printP t).2]) ∧ Below w.heap.size w w' := by
  have hbx : ∀ W, Below (w.heap.size + 1) (w.alloc (.cells #[.int .i64 t.kind, .int .u64 t.set.a, .int .u64 t.set.b, .int .u64 t.set.c, .int .u64 t.set.d, .slice A t.kids.length c] 27)) W →
      (∀ j, W.cell? ⟨w.heap.size, j, none⟩ = (#[.int .i64 t.kind, .int .u64 t.set.a, .int .u64 t.set.b, .int .u64 t.set.c, .int .u64 t.set.d, .slice A t.kids.length c] : Array Value)[j]?) ∧ Below w.heap.size w W := fun W h => box_facts h
  have HBX := Lib.hid hbx
  have HCK : Hid (∀ W, Below w.heap.size w W → Calls Try.prog 13 #[.agg #[.int .i64 t.kind, .int .u64 t.set.a, .int .u64 t.set.b, .int .u64 t.set.c, .int .u64 t.set.d, .slice A t.kids.length c]] W fun e w' => e = .returned (.int .i64 (checkT t)) ∧ Below W.heap.size W w') := fun W hW =>
    Check_any2 t (cellsX t.kind t.set A t.kids.length c) W (LT.keep hW.size (fun bb oo hp => hW.cell (p := ⟨bb, oo, none⟩) hp) _ _ h)
  have HSH : Hid (checkT t = 0 → ∀ W, Below w.heap.size w W → Calls Try.prog 26 #[.agg #[.int .i64 t.kind, .int .u64 t.set.a, .int .u64 t.set.b, .int .u64 t.set.c, .int .u64 t.set.d, .slice A t.kids.length c], .slice none 0 0] W fun e w' => e = .returned (.string (bs (showT t))) ∧ Below W.heap.size W w') := fun h0 W hW => by
    have := shown_any t (chk_fine t 1 0 h0) [] (by decide) A c W none 0 (LT.keep hW.size (fun bb oo hp => hW.cell (p := ⟨bb, oo, none⟩) hp) _ _ h) (.inl rfl) (show_small h0) (fun _ => ⟨rfl, rfl⟩)
    unfold StrPost brP at this
    rw [if_neg (by simp)] at this
    exact this
  have HPP : Hid (printP t = if checkT t ≠ 0 then ([], checkT t) else (showT t, 0)) := rfl
  obtain ⟨P, hP⟩ : ∃ P, printP t = P := ⟨_, rfl⟩
  rw [hP] at HPP ⊢
  obtain ⟨T, hT⟩ : ∃ T : ByteArray, bs (showT t) = T := ⟨_, rfl⟩
  rw [hT] at HSH
  have HT := Lib.hid hT
  unfold argX
  clear h hbx hP hT
  obtain ⟨ce, hce⟩ : ∃ ce, checkT t = ce := ⟨_, rfl⟩
  rw [hce] at HCK HSH HPP
  clear hce
  go_enter Try.func8, Try.ntmps8
  go_wp2_with (go_at_call 13; apply Hid.out)
  unfold Hid
  refine (HCK.out _ ((Below.refl _ _).alloc (Nat.le_refl _) _)).mono ?_
  rintro e w1 ⟨rfl, hb1⟩
  have hb1' : Below (w.heap.size + 1) (w.alloc (.cells #[.int .i64 t.kind, .int .u64 t.set.a, .int .u64 t.set.b, .int .u64 t.set.c, .int .u64 t.set.d, .slice A t.kids.length c] 27)) w1 := by rw [World.size_alloc] at hb1; exact hb1
  obtain ⟨hcell, hbw⟩ := HBX.out w1 hb1'
  have c0 := hcell 0
  have c1 := hcell 1
  have c2 := hcell 2
  have c3 := hcell 3
  have c4 := hcell 4
  have c5 := hcell 5
  have HBW := Lib.hid hbw
  clear hb1 hb1' hcell hbw
  by_cases h0 : ce = 0
  · have q1 : (ce != 0) = false := by rw [h0]; rfl
    have HCL := Lib.hid (HSH.out h0 w1 HBW.out)
    have HP2 : Hid (P = (showT t, 0)) := by unfold Hid; rw [HPP.out, if_neg (fun h => h h0)]
    clear h0
    go_wp2_with (go_at_call 26; apply Hid.out)
    unfold Hid
    refine HCL.out.mono ?_
    rintro e w2 ⟨rfl, hb2⟩
    have HB2 : Hid (Below w.heap.size w w2) := HBW.out.trans (hb2.mono HBW.out.size)
    clear hb2
    go_wp2_with fail
    exact bodyPost_ret (v := .tuple #[.string T, .int .i64 0]) (by simp [results, Try.results8, go_sem]) rfl ⟨by rw [HP2.out, ← HT.out], HB2.out⟩
  · have q1 : (ce != 0) = true := bne_iff_ne.2 h0
    have HP2 : Hid (P = ([], ce)) := by unfold Hid; rw [HPP.out, if_pos h0]
    clear h0
    go_wp2_with fail
    exact bodyPost_ret (v := .tuple #[.string (ByteArray.mk #[]), .int .i64 ce]) (by simp [results, Try.results8, go_sem]) rfl ⟨by rw [HP2.out]; rfl, HBW.out⟩
end Go.Proofs.Ytnjjchbgnmjkjaa
