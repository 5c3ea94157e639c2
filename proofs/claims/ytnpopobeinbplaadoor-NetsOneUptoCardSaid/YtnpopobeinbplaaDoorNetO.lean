/- The walks of nets.List (a net twice) and of NetsOne. -/
import Derived.Test.YtnpopobeinbplaaDoorNetA
import Derived.Test.YtnpopobeinbplaaDoorNetP
import Derived.Deep.CutRange
namespace Go.Proofs.YtnpopobeinbplaaDoor
open Go.RowKit

theorem dot_no (c : UInt8) (hc : c.toNat < 48) (h46 : c ≠ 46) (h47 : c ≠ 47) (a : Nat) (b : Int) : c ∉ netT a b := by
  have hn : ∀ k, c ∉ decS k := fun k => dec_not _ c hc
  have ha : c ∉ addrT a := by
    unfold addrT
    rw [join_four]
    intro h
    simp only [List.mem_append, List.mem_cons] at h
    rcases h with h | h | h | h | h | h | h
    · exact hn _ h
    · exact h46 h
    · exact hn _ h
    · exact h46 h
    · exact hn _ h
    · exact h46 h
    · exact hn _ h
  unfold netT
  split
  · intro h
    rw [List.mem_append, List.mem_cons] at h
    rcases h with h | h | h
    · exact ha h
    · exact h47 h
    · exact hn _ h
  · exact ha
theorem net_comma {l : List UInt8} {a : Nat} {b : Int} (h : netP l = .ok (a, b)) : (44 : UInt8) ∉ l := by
  obtain ⟨_, _, h1 | h1⟩ := net_one h
  · rw [← h1]; exact dot_no 44 (by decide) (by decide) (by decide) a b
  · rw [← h1]
    intro hm
    rw [List.mem_append] at hm
    rcases hm with hm | hm
    · exact dot_no 44 (by decide) (by decide) (by decide) a b hm
    · simp at hm
def twoL (x : PairN) (k : Nat) : List PairN := List.replicate k x
theorem twoL_succ (x : PairN) (k : Nat) : twoL x (k + 1) = twoL x k ++ [x] := by unfold twoL; exact List.replicate_succ'
def NLRel (x : PairN) (w w1 : World) (v i : Value) (wr : World) : Prop :=
  ∃ k : Nat, k ≤ 2 ∧ i = .int .i64 k ∧ OwnN wr (w.heap.size + 1) v (twoL x k) ∧ Below (w.heap.size + 1) w1 wr
set_option maxRecDepth 100000 in
set_option maxHeartbeats 1600000 in
theorem NList_two (s : ByteArray) (a : Nat) (b : Int) (w : World) (hs : s.size ≤ 2097152) (hp : netP s.data.toList = .ok (a, b)) (hlib : LibOk w) :
    Calls Tryd.prog 14 #[.string (s ++ ByteArray.mk #[44] ++ s)] w fun e w' => ∃ v, e = .returned (.tuple #[v, .int .i64 0]) ∧ OwnN w' w.heap.size v (twoL ((a : Int), b) 2) ∧ Below w.heap.size w w' := by
  obtain ⟨T, hT⟩ : ∃ T, T = s ++ ByteArray.mk #[44] ++ s := ⟨_, rfl⟩
  rw [← hT]
  have hTs : T.size ≤ 4194305 := by rw [hT, ByteArray.size_append, ByteArray.size_append]; show s.size + 1 + s.size ≤ _; omega
  have hTl : T.data.toList = s.data.toList ++ 44 :: s.data.toList := by rw [hT]; simp
  obtain ⟨m0, hm0⟩ := hlib
  have hlp : 0 < w.heap.size := World.block_lt_of_cell? w _ hm0
  have hsp := Tryd.strings_Split T ⟨#[44]⟩ m0 w (by omega) hm0 (by decide)
  have hps := split_one 44 T
  have hpl := Lib.splitB_all ⟨#[44]⟩ (by decide) 0 _ T rfl
  have hno := net_comma hp
  rw [hTl, splL_append, splW_whole 44 _ hno] at hps
  generalize Lib.splitB ⟨#[44]⟩ 0 (Lib.countB T ⟨#[44]⟩) T = ps at hsp hps hpl
  generalize Lib.countB T ⟨#[44]⟩ = n at hsp hpl
  rw [← hpl] at hsp
  have hlen : ps.length = 2 := by
    have := congrArg List.length hps
    rw [List.length_map] at this
    rw [this]
    rfl
  have hpe : ∀ j (h : j < ps.length), ps[j] = s := fun j h => by
    have h1 : (ps.map (·.data.toList))[j]? = some s.data.toList := by
      rw [hps]
      obtain rfl | rfl : j = 0 ∨ j = 1 := by omega
      · rfl
      · rfl
    rw [List.getElem?_map, List.getElem?_eq_getElem h, Option.map_some, Option.some.injEq] at h1
    exact ByteArray.ext (Array.toList_inj.1 h1)
  obtain ⟨W1, hW1⟩ : ∃ W1, w.alloc (.cells (ps.map Value.string).toArray 9) = W1 := ⟨_, rfl⟩
  have hcl : ∀ W, Below (w.heap.size + 1) W1 W → ∀ j : Nat, j < 2 → W.cell? ⟨w.heap.size, j, none⟩ = some (.string s) := fun W hb j h => by
    have hb' : Below (w.alloc (.cells (ps.map Value.string).toArray 9)).heap.size (w.alloc (.cells (ps.map Value.string).toArray 9)) W := by rw [← hW1] at hb; simpa using hb
    rw [new_cell hb' j]
    have hj : j < ps.length := by omega
    simp [hj, hpe j hj]
  have hz1 : w.heap.size + 1 ≤ W1.heap.size := by rw [← hW1]; simp
  have hbw1 : Below w.heap.size w W1 := by rw [← hW1]; exact (Below.refl _ _).alloc (Nat.le_refl _) _
  rw [hlen] at hsp
  have hsp2 : Calls Tryd.prog 50 #[.string T, .string ⟨#[44]⟩] w fun e w' => e = .returned (.slice (some ⟨w.heap.size, 0, none⟩) 2 2) ∧ w' = W1 := by rw [← hW1]; exact hsp
  have HSP := Lib.hid hsp2
  have HCL := Lib.hid hcl
  have HBW1 := Lib.hid hbw1
  have HPA : Hid (∀ W, Below w.heap.size w W → Calls Tryd.prog 13 #[.string s] W fun e w' => e = .returned (.tuple #[.agg #[.int .u32 (a : Int), .int .i64 b], .int .i64 0]) ∧ Below W.heap.size W w') := fun W hb => by
    have h := NParse_any s W (LibOk.below ⟨m0, hm0⟩ hb) (by omega)
    unfold NParsePost at h
    rw [hp] at h
    exact h
  clear hsp hsp2 hps hpl hcl hbw1 hpe hlen hW1 hno hTl hTs hT hp hm0
  clear ps
  go_enter Tryd.func14, Tryd.ntmps14
  go_wp2_with (go_at_call 50; refine HSP.out.mono ?_; rintro e w1 ⟨rfl, hw1⟩; rw [hw1])
  go_loopw [5, 17] (fun v i wr => NLRel ((a : Int), b) w W1 v i wr) (fun _ i _ => 2 - (intOf i).toNat)
  case atStart => exact ⟨0, Nat.zero_le _, rfl, OwnN.nil _ _, Below.refl _ _⟩
  case round =>
    obtain ⟨k, hk, rfl, hO, hB⟩ := hrel
    have hbase : w.heap.size + 1 ≤ wr.heap.size := Nat.le_trans hz1 hB.size
    have hBW : Below w.heap.size w wr := HBW1.out.trans (hB.mono (Nat.le_succ _))
    obtain ⟨Ao, co, rfl, _⟩ := hO.form
    have hkl : (twoL ((a : Int), b) k).length ≤ 2 := by unfold twoL; rw [List.length_replicate]; exact hk
    by_cases hlt : k < 2
    · have d2 : decide ((k : Int) < 2) = true := by simp; omega
      have i7 : IntKind.i64.wrap ((k : Int) + 1) = (k : Int) + 1 := IntWalk.i64_in _ (by omega)
      have hc := HCL.out wr hB k hlt
      have HPW := Lib.hid (HPA.out wr hBW)
      have HNX : Hid (twoL ((a : Int), b) (k + 1) = twoL ((a : Int), b) k ++ [((a : Int), b)]) := twoL_succ _ _
      generalize twoL ((a : Int), b) k = acc at *
      have HO := Lib.hid hO
      have HBH := Lib.hid hB
      clear hO hB hBW
      go_wp2_with (first | (go_at_call 13; refine HPW.out.mono ?_; rintro e w2 ⟨rfl, hb2⟩; have hO2 := fun o => HO.out.below (hb2.alloc hb2.size o); have hz2 : ∀ o, w.heap.size + 1 ≤ (w2.alloc o).heap.size := fun o => by rw [World.size_alloc]; exact Nat.le_succ_of_le (Nat.le_trans hbase hb2.size)) | (at_builtin; refine wpList_append_n rfl (.tmp 29) (.tmp 31) rfl (w.heap.size + 1) (.slice Ao acc.length co) acc rfl (by exact hO2 _) (by exact hz2 _) _ ((a : Int), b) rfl (w2.heap.size + 1) (by rw [World.size_alloc]) 1 rfl (by omega) ?_; intro v5 w5 hO5 hb5 hk5 hz5))
      have hb25 : Below (w.heap.size + 1) wr w5 := ((hb2.mono hbase).trans ((Below.refl _ _).alloc (Nat.le_trans hbase hb2.size) _)).trans hb5
      exact ⟨⟨k + 1, by omega, rfl, by rw [HNX.out]; exact hO5, HBH.out.trans hb25⟩, by dsimp only [intOf]; omega⟩
    · obtain rfl : k = 2 := by omega
      have hlen2 : (twoL ((a : Int), b) 2).length = 2 := rfl
      have HO := Lib.hid (hO.low (Nat.le_succ _))
      have HBH := Lib.hid hBW
      clear hO hB hBW
      rw [hlen2] at HO ⊢
      go_wp2_with fail
      exact bodyPost_ret (v := .tuple #[.slice Ao 2 co, .int .i64 0]) (by simp [results, Tryd.results14, go_sem]) rfl ⟨_, rfl, HO.out, HBH.out⟩
theorem net_first : netT 1 32 = [48, 46, 48, 46, 48, 46, 49] := by
  unfold netT addrT
  rw [if_neg (by decide), join_four]
  have h0 : decS (octN 1 0) = [49] := by show Lib.decDigits 1 = _; rw [Lib.decDigits]; rfl
  have h8 : decS (octN 1 8) = [48] := by show Lib.decDigits 0 = _; rw [Lib.decDigits]; rfl
  have h16 : decS (octN 1 16) = [48] := by show Lib.decDigits 0 = _; rw [Lib.decDigits]; rfl
  have h24 : decS (octN 1 24) = [48] := by show Lib.decDigits 0 = _; rw [Lib.decDigits]; rfl
  rw [h0, h8, h16, h24]
  rfl
set_option maxRecDepth 100000 in
set_option maxHeartbeats 3200000 in
theorem netsOne_nat (s : ByteArray) (w : World) (hs : s.size ≤ 1048576) (hlib : LibOk w) (htab : TabOk w) :
    Calls Tryd.prog 3 #[.string s] w fun e w' => e = .returned (.bool true) ∧ Below w.heap.size w w' := by
  have HLIB : Hid (∀ W, Below w.heap.size w W → LibOk W) := fun W hb => hlib.below hb
  have HTAB : Hid (∀ W, Below w.heap.size w W → TabOk W) := fun W hb => htab.below hb
  have HP1 : Hid (Calls Tryd.prog 12 #[.agg #[.int .u32 1, .int .i64 32]] w fun e w' => e = .returned (.tuple #[.string ⟨#[48, 46, 48, 46, 48, 46, 49]⟩, .int .i64 0]) ∧ Below w.heap.size w w') := by
    have h := NPrint_any 1 32 w (by decide) htab
    unfold NPrintPost at h
    rw [if_pos (by decide), net_first] at h
    exact h
  have HPA : Hid (∀ W, Below w.heap.size w W → Calls Tryd.prog 13 #[.string s] W (NParsePost s.data.toList W)) := fun W hb => NParse_any s W (HLIB.out W hb) (by omega)
  clear hlib htab
  cases hp : netP s.data.toList with
  | error x =>
    have HPE : Hid (∀ W, Below w.heap.size w W → Calls Tryd.prog 13 #[.string s] W fun e w' => e = .returned (.tuple #[.agg #[.int .u32 0, .int .i64 0], .int .i64 x]) ∧ Below W.heap.size W w') := fun W hb => by
      have h := HPA.out W hb
      unfold NParsePost at h
      rw [hp] at h
      exact h
    have hx := netP_err hp
    have hx0 : (x != 0) = true := by rcases hx with rfl | rfl <;> rfl
    clear hp HPA hx hs
    go_enter Tryd.func3, Tryd.ntmps3
    go_wp2_with (first
      | (go_at_call 12; (with_reducible refine HP1.out.mono ?_); rintro e w1 ⟨rfl, hb1⟩)
      | (go_at_call 13; (with_reducible refine (HPE.out _ hb1).mono ?_); rintro e w2 ⟨rfl, hb2⟩))
    go_ret
    exact ⟨rfl, hb1.trans ((hb2.mono hb1.size).alloc (Nat.le_trans hb1.size hb2.size) _)⟩
  | ok n =>
    obtain ⟨a, b⟩ := n
    obtain ⟨hok, ha, hback⟩ := net_one hp
    have hb32 : b ≤ 32 := by unfold netOk at hok; simp only [Bool.and_eq_true, decide_eq_true_eq] at hok; exact hok.1.2
    have HPE : Hid (∀ W, Below w.heap.size w W → Calls Tryd.prog 13 #[.string s] W fun e w' => e = .returned (.tuple #[.agg #[.int .u32 (a : Int), .int .i64 b], .int .i64 0]) ∧ Below W.heap.size W w') := fun W hb => by
      have h := HPA.out W hb
      unfold NParsePost at h
      rw [hp] at h
      exact h
    have HP2 : Hid (∀ W, Below w.heap.size w W → Calls Tryd.prog 12 #[.agg #[.int .u32 (a : Int), .int .i64 b]] W fun e w' => e = .returned (.tuple #[.string (bs (netT a b)), .int .i64 0]) ∧ Below W.heap.size W w') := fun W hb => by
      have h := NPrint_any a b W ha (HTAB.out W hb)
      unfold NPrintPost at h
      rw [hok, if_pos rfl] at h
      exact h
    have HLI : Hid (∀ W, Below w.heap.size w W → Calls Tryd.prog 14 #[.string (s ++ ByteArray.mk #[44] ++ s)] W fun e w' => ∃ v, e = .returned (.tuple #[v, .int .i64 0]) ∧ OwnN w' W.heap.size v (twoL ((a : Int), b) 2) ∧ Below W.heap.size W w') := fun W hb => NList_two s a b W (by omega) hp (HLIB.out W hb)
    have hzt : (bs (netT a b)).size ≤ 60 := by rw [bs_size]; exact netT_len a b hb32
    have s1 : s.size + 1 ≤ 9223372036854775807 := by omega
    have s2 : s.size + 1 + s.size ≤ 9223372036854775807 := by omega
    have s3 : (bs (netT a b)).size + 3 ≤ 9223372036854775807 := by omega
    have hq : ((bs (netT a b)).toList == s.toList) = true ∨ (((bs (netT a b)).toList == s.toList) = false ∧ ((bs (netT a b) ++ ByteArray.mk #[47, 51, 50]).toList == s.toList) = true) := by
      cases h : ((bs (netT a b)).toList == s.toList) with
      | true => exact .inl rfl
      | false =>
        right
        refine ⟨rfl, ?_⟩
        rw [Lib.toList_data, Lib.toList_data] at h ⊢
        rw [bs_toList, beq_eq_false_iff_ne] at h
        rcases hback with h1 | h1
        · exact (h h1).elim
        · rw [beq_iff_eq, ← h1]
          simp [bs]
    clear hp HPA hback hs hok ha hb32 hzt
    generalize bs (netT a b) = NT at *
    have HEQ : Hid (∀ (W : World) A c, Sl W W.heap.size 2 A (twoL ((a : Int), b) 2).length ((twoL ((a : Int), b) 2).flatMap cellsN) → Calls Tryd.prog 15 #[.slice A 2 c, .slice (some ⟨W.heap.size, 0, none⟩) 2 2] (W.alloc (.cells #[.int .u32 (a : Int), .int .i64 b, .int .u32 (a : Int), .int .i64 b] 27)) fun e w' => e = .returned (.bool true) ∧ Below (W.alloc (.cells #[.int .u32 (a : Int), .int .i64 b, .int .u32 (a : Int), .int .i64 b] 27)).heap.size (W.alloc (.cells #[.int .u32 (a : Int), .int .i64 b, .int .u32 (a : Int), .int .i64 b] 27)) w') := fun W A c h => by
      have hb := (Below.refl W.heap.size W).alloc (Nat.le_refl _) (.cells #[.int .u32 (a : Int), .int .i64 b, .int .u32 (a : Int), .int .i64 b] 27)
      have h2 := heap_alloc_new W (.cells #[.int .u32 (a : Int), .int .i64 b, .int .u32 (a : Int), .int .i64 b] 27)
      refine EqualN_yes (twoL ((a : Int), b) 2) A _ c 2 _ ((h.below hb).more hb.size) ⟨rfl, fun hp => ⟨W.heap.size, 0, rfl, by simp, fun j hj => ?_⟩⟩ (by show 2 ≤ _; decide)
      rw [Nat.zero_add, cell_of_row _ _ j _ _ _ h2]
      have hj4 : j < 4 := hj
      obtain rfl | rfl | rfl | rfl : j = 0 ∨ j = 1 ∨ j = 2 ∨ j = 3 := by omega
      all_goals rfl
    have hlen2 : (twoL ((a : Int), b) 2).length = 2 := rfl
    rcases hq with q1 | ⟨q1, q2⟩
    · clear s3
      go_enter Tryd.func3, Tryd.ntmps3
      go_wp2_with (first
        | (go_at_call 12; (with_reducible refine HP1.out.mono ?_); rintro e w1 ⟨rfl, hb1⟩)
        | (go_at_call 13; (with_reducible refine (HPE.out _ hb1).mono ?_); rintro e w2 ⟨rfl, hb2⟩; have hB2 := hb1.trans (hb2.mono hb1.size); have hA2 := fun o => hB2.alloc hB2.size o; have hn2 := heap_alloc_new w2 (.cells #[.int .u32 (a : Int), .int .i64 b] 27))
        | (go_at_call 12; (with_reducible refine (HP2.out _ (hA2 _)).mono ?_); rintro e w3 ⟨rfl, hb3⟩; have hb3' := below_new hb3 (Nat.le_refl _); have hB3 := hB2.trans (hb3'.mono hB2.size); have hA3 : NetAt w2.heap.size (a : Int) b w3 := (hb3.block w2.heap.size (by simp)).trans hn2; have hz3 := hA3.lt; have ⟨t0, t1⟩ := hA3.cells)
        | (go_at_call 14; (with_reducible refine (HLI.out _ hB3).mono ?_); rintro e w4 ⟨v4, rfl, hO4, hb4⟩; have hB4 := hB3.trans (hb4.mono hB3.size); have hA4 := hA3.below hb4 hz3; have hz4 := hA4.lt; have ⟨u0, u1⟩ := hA4.cells; have HO4 := Lib.hid hO4; obtain ⟨A4, c4, rfl, hS4⟩ := hO4.form; have HS4 := Lib.hid hS4; clear hO4 hS4)
        | (go_at_call 15; (with_reducible refine (HEQ.out w4 A4 c4 HS4.out).mono ?_); rintro e w5 ⟨rfl, hb5⟩))
      go_ret
      exact ⟨rfl, (hB4.alloc hB4.size _).trans (hb5.mono (hB4.alloc hB4.size _).size)⟩
    · go_enter Tryd.func3, Tryd.ntmps3
      go_wp2_with (first
        | (go_at_call 12; (with_reducible refine HP1.out.mono ?_); rintro e w1 ⟨rfl, hb1⟩)
        | (go_at_call 13; (with_reducible refine (HPE.out _ hb1).mono ?_); rintro e w2 ⟨rfl, hb2⟩; have hB2 := hb1.trans (hb2.mono hb1.size); have hA2 := fun o => hB2.alloc hB2.size o; have hn2 := heap_alloc_new w2 (.cells #[.int .u32 (a : Int), .int .i64 b] 27))
        | (go_at_call 12; (with_reducible refine (HP2.out _ (hA2 _)).mono ?_); rintro e w3 ⟨rfl, hb3⟩; have hb3' := below_new hb3 (Nat.le_refl _); have hB3 := hB2.trans (hb3'.mono hB2.size); have hA3 : NetAt w2.heap.size (a : Int) b w3 := (hb3.block w2.heap.size (by simp)).trans hn2; have hz3 := hA3.lt; have ⟨t0, t1⟩ := hA3.cells)
        | (go_at_call 14; (with_reducible refine (HLI.out _ hB3).mono ?_); rintro e w4 ⟨v4, rfl, hO4, hb4⟩; have hB4 := hB3.trans (hb4.mono hB3.size); have hA4 := hA3.below hb4 hz3; have hz4 := hA4.lt; have ⟨u0, u1⟩ := hA4.cells; have HO4 := Lib.hid hO4; obtain ⟨A4, c4, rfl, hS4⟩ := hO4.form; have HS4 := Lib.hid hS4; clear hO4 hS4)
        | (go_at_call 15; (with_reducible refine (HEQ.out w4 A4 c4 HS4.out).mono ?_); rintro e w5 ⟨rfl, hb5⟩))
      go_ret
      exact ⟨rfl, (hB4.alloc hB4.size _).trans (hb5.mono (hB4.alloc hB4.size _).size)⟩
theorem netsOne_any (s : ByteArray) (w : World) (hs : s.size ≤ 1048576) (hlib : LibOk w) (ht : Lib.TabIs Tryd.prog w "internal/strconv.uint64pow10" .u64 Lib.pow10Tab) :
    Calls Tryd.prog 3 #[.string s] w fun e w' => e = .returned (.bool true) ∧ Below w.heap.size w w' := netsOne_nat s w hs hlib (TabOk.of ht)
end Go.Proofs.YtnpopobeinbplaaDoor
