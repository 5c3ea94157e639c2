/- Part 32 of the proof: lemmas and walks that the last texts use. -/
import Derived.Test.YthfjmlcjkbgboaaGreatDoorM02
import Derived.Test.YthfjmlcjkbgboaaGreatDoorM03
import Derived.Test.YthfjmlcjkbgboaaGreatDoorM10
import Derived.Test.YthfjmlcjkbgboaaGreatDoorM26
import Derived.Test.YthfjmlcjkbgboaaGreatDoorM29
import Derived.Test.YthfjmlcjkbgboaaGreatDoorM31
import Derived.Deep.CutRange
namespace Go.Proofs.YthfjmlcjkbgboaaGreatDoor
open Go.RowKit
set_option maxRecDepth 100000 in
set_option maxHeartbeats 1600000 in
theorem NIn_any (a x : Nat) (b : Int) (w : World) (ha : a < 4294967296) (hx : x < 4294967296) :
    Calls Tryz.prog 206 #[.agg #[.int .u32 (a : Int), .int .i64 b], .int .u32 (x : Int)] w fun e w' => e = .returned (.bool (inN32 a b x)) ∧ Below w.heap.size w w' := by
  obtain ⟨W0, hW0⟩ : ∃ W0, w.alloc (.cells #[.int .u32 (a : Int), .int .i64 b] 185) = W0 := ⟨_, rfl⟩
  have hr0 : NetAt w.heap.size (a : Int) b W0 := by rw [← hW0]; exact heap_alloc_new w _
  have hb0 : Below w.heap.size w W0 := by rw [← hW0]; exact (Below.refl _ _).alloc (Nat.le_refl _) _
  have hxl : a ^^^ x < 4294967296 := Nat.xor_lt_two_pow (n := 32) ha hx
  have hxor := u32_xor_nat a x ha hx
  have hand := u32_and_nat (a ^^^ x) (maskN b) hxl (maskN_lt b)
  have HR : Hid ((((a ^^^ x) &&& maskN b : Nat) : Int) = 0 ↔ inN32 a b x = true) := by
    unfold Hid inN32 maskN
    rw [decide_eq_true_iff, ← and_mask _ _ hxl (topN_le b)]
    exact Int.natCast_eq_zero
  generalize (a ^^^ x) &&& maskN b = z at *
  generalize a ^^^ x = y at *
  have ⟨r0, r1⟩ := hr0.cells
  have HW0 := Lib.hid hW0
  have HB0 := Lib.hid hb0
  clear hr0 hW0 hb0 ha hx hxl
  have HRB : Hid (((z : Int) == 0) = inN32 a b x) := by
    unfold Hid
    rw [Bool.eq_iff_iff, beq_iff_eq]
    exact HR.out
  clear HR
  generalize inN32 a b x = r at *
  go_enter Tryz.func206, Tryz.ntmps206
  go_upto_region 1 with fail
  rw [HW0.out]
  go_quiet ((go_at_call 157; exact Calls.quiet_of_same (mask_any _ _)))
  go_wp2_with fail
  go_ret
  exact ⟨by rw [HRB.out]; rfl, below_drewN HB0.out nq⟩
end Go.Proofs.YthfjmlcjkbgboaaGreatDoor
namespace Go.Proofs.YthfjmlcjkbgboaaGreatDoor
open Go.RowKit
theorem netP_lt {l : List UInt8} {a : Nat} {b : Int} (h : netP l = .ok (a, b)) : a < 4294967296 := by
  unfold netP at h
  split at h
  · cases h
  · split at h
    · cases h
    · split at h
      · cases h
      · rename_i a' ha
        split at h
        · cases h
        · injection h with h
          injection h with h1 h2
          subst h1
          exact numsR_lt _ _ _ (by decide) ha
theorem netsV_lt : ∀ (ps : List (List UInt8)) (x : PairN), x ∈ netsV ps → ∃ a : Nat, x.1 = (a : Int) ∧ a < 4294967296
  | [], x, h => by rw [netsV] at h; cases h
  | p :: r, x, h => by
    rw [netsV] at h
    split at h
    · rename_i q hq
      rcases List.mem_cons.1 h with rfl | h
      · obtain ⟨a, b⟩ := q
        exact ⟨a, rfl, netP_lt hq⟩
      · exact netsV_lt r x h
    · exact netsV_lt r x h
theorem cellsN_two : ∀ (l : List PairN) (k : Nat) (h : k < l.length), (l.flatMap cellsN)[k * 2]? = some (.int .u32 l[k].1) ∧ (l.flatMap cellsN)[k * 2 + 1]? = some (.int .i64 l[k].2)
  | [], k, h => absurd h (by simp)
  | x :: r, 0, _ => by
    rw [List.flatMap_cons]
    exact ⟨rfl, rfl⟩
  | x :: r, k + 1, h => by
    have := cellsN_two r k (by simpa using h)
    rw [List.flatMap_cons]
    have e1 : (k + 1) * 2 = 2 + k * 2 := by omega
    have e2 : (k + 1) * 2 + 1 = 2 + (k * 2 + 1) := by omega
    rw [e1, List.getElem?_append_right (by simp [cellsN]), List.getElem?_append_right (by simp [cellsN]; omega)]
    simp only [cellsN, List.length_cons, List.length_nil, List.getElem_cons_succ]
    refine ⟨?_, ?_⟩
    · rw [← this.1]; congr 1; omega
    · rw [← this.2]; congr 1; omega
def inX (a : Nat) (x : PairN) : Bool := inN32 x.1.toNat x.2 a
def tstA (arg v : ByteArray) : Bool := match netP v.data.toList with
  | .ok (a, b) => b == 32 && (netsV (splL 44 arg.data.toList)).any (inX a)
  | .error _ => false
set_option maxRecDepth 100000 in
set_option maxHeartbeats 800000 in
theorem adrIn_any (n : PairN) (hn : ∃ k : Nat, n.1 = (k : Int) ∧ k < 4294967296) (a : Nat) (ha : a < 4294967296) (g : Nat) (w : World) (h0 : w.cell? ⟨g, 0, none⟩ = some (.int .u32 (a : Int))) :
    Calls Tryz.prog 205 #[.agg #[.int .u32 n.1, .int .i64 n.2], .pointer (some ⟨g, 0, none⟩)] w (BoolPost (inX a n) w) := by
  have hg : g < w.heap.size := World.block_lt_of_cell? w _ h0
  obtain ⟨n1, n2⟩ := n
  obtain ⟨k, rfl, hk⟩ := hn
  have HN := fun o => Lib.hid (NIn_any k a n2 (w.alloc o) hk ha)
  have HB : Hid (inX a ((k : Int), n2) = inN32 k n2 a) := rfl
  unfold BoolPost
  rw [HB.out]
  dsimp only
  generalize inN32 k n2 a = b at *
  clear HB hk ha
  go_enter Tryz.func205, Tryz.ntmps205
  go_wp2_with fail
  refine (HN _).out.mono ?_
  rintro e w1 ⟨rfl, hb1⟩
  have hb := below_new hb1 (Nat.le_refl _)
  go_wp2_with fail
  go_ret
  exact ⟨rfl, hb⟩
def dNet : PairN := (0, 0)
set_option maxRecDepth 100000 in
theorem adrAny_any (l : List PairN) (hl : ∀ x ∈ l, ∃ k : Nat, x.1 = (k : Int) ∧ k < 4294967296) (a : Nat) (ha : a < 4294967296) (A : Option Addr) (c g : Nat) (w : World) (h : Sl w w.heap.size 2 A l.length (l.flatMap cellsN)) (hs : l.length ≤ 9223372036854775807) (h0 : w.cell? ⟨g, 0, none⟩ = some (.int .u32 (a : Int))) :
    Calls Tryz.prog 204 #[.slice A l.length c, .func (.func 205) #[] #[.pointer (some ⟨g, 0, none⟩)]] w (BoolPost (l.any (inX a)) w) := by
  have e := anyN_list (inX a) l dNet
  rw [← e]
  refine ContFN_any 205 #[.pointer (some ⟨g, 0, none⟩)] (fun _ _ => rfl) A l.length c (l.flatMap cellsN) (fun j => .int .u32 (l.getD j dNet).1) (fun j => .int .i64 (l.getD j dNet).2) (fun j => inX a (l.getD j dNet)) w h hs (fun j hj => ?_) fun W j hj hb => ?_
  · have := cellsN_two l j hj
    rw [List.getD_eq_getElem?_getD, List.getElem?_eq_getElem hj]
    exact this
  · refine adrIn_any _ (hl _ ?_) a ha g W (cell_kept hb h0)
    rw [List.getD_eq_getElem?_getD, List.getElem?_eq_getElem hj]
    exact List.getElem_mem hj
set_option maxRecDepth 100000 in
set_option maxHeartbeats 1600000 in
theorem adrT_any (arg v : ByteArray) (hv : v.size ≤ 8192) (A : Option Addr) (c g : Nat) (w : World) (hlib : LibOk w) (hs : (netsV (splL 44 arg.data.toList)).length ≤ 1000) (h : Sl w w.heap.size 2 A (netsV (splL 44 arg.data.toList)).length ((netsV (splL 44 arg.data.toList)).flatMap cellsN)) (hg : w.cell? ⟨g, 0, none⟩ = some (.slice A (netsV (splL 44 arg.data.toList)).length c)) :
    Calls Tryz.prog 203 #[.string v, .pointer (some ⟨g, 0, none⟩)] w fun e w' => e = .returned (.bool (tstA arg v)) ∧ Below w.heap.size w w' := by
  have hlt := netsV_lt (splL 44 arg.data.toList)
  have HE : Hid (tstA arg v = match netP v.data.toList with
    | .ok (a, b) => b == 32 && (netsV (splL 44 arg.data.toList)).any (inX a)
    | .error _ => false) := rfl
  have hp := NParse_any v w hlib (by omega)
  unfold NParsePost at hp
  have hgl : g < w.heap.size := World.block_lt_of_cell? w _ hg
  generalize netsV (splL 44 arg.data.toList) = l at *
  cases hn : netP v.data.toList with
  | error x =>
    rw [hn] at hp HE
    unfold netV at hp
    dsimp only at hp HE
    have hx : (x == 0) = false := by
      unfold netP at hn
      split at hn
      · injection hn with hn; rw [← hn]; rfl
      · split at hn
        · injection hn with hn; rw [← hn]; rfl
        · split at hn
          · injection hn with hn; rw [← hn]; rfl
          · split at hn
            · injection hn with hn; rw [← hn]; rfl
            · cases hn
    have HP := Lib.hid hp
    clear hp hlt h hlib hn
    go_enter Tryz.func203, Tryz.ntmps203
    go_wp2_with fail
    refine HP.out.mono ?_
    rintro e w1 ⟨rfl, hb1⟩
    have hb := hb1.alloc hb1.size (.cells #[.int .u32 0, .int .i64 0] 185)
    go_wp2_with fail
    go_ret
    exact ⟨by rw [HE.out]; rfl, hb⟩
  | ok ab =>
    obtain ⟨a, b⟩ := ab
    have ha := netP_lt hn
    rw [hn] at hp HE
    unfold netV at hp
    dsimp only at hp HE
    have HP := Lib.hid hp
    clear hp hlib hn
    cases hb32 : (b == 32) with
    | false =>
      rw [hb32] at HE
      clear hlt h
      go_enter Tryz.func203, Tryz.ntmps203
      go_wp2_with fail
      refine HP.out.mono ?_
      rintro e w1 ⟨rfl, hb1⟩
      have hb := hb1.alloc hb1.size (.cells #[.int .u32 (a : Int), .int .i64 b] 185)
      go_wp2_with fail
      go_ret
      exact ⟨by rw [HE.out]; rfl, hb⟩
    | true =>
      rw [hb32, Bool.true_and] at HE
      have HC : Hid (∀ W k, Below w.heap.size w W → W.cell? ⟨k, 0, none⟩ = some (.int .u32 (a : Int)) → Calls Tryz.prog 204 #[.slice A l.length c, .func (.func 205) #[] #[.pointer (some ⟨k, 0, none⟩)]] W (BoolPost (l.any (inX a)) W)) := fun W k hb h0 => adrAny_any l hlt a ha A c k W ((h.below hb).more hb.size) (by omega) h0
      generalize l.any (inX a) = r at *
      clear hlt h
      go_enter Tryz.func203, Tryz.ntmps203
      go_wp2_with fail
      refine HP.out.mono ?_
      rintro e w1 ⟨rfl, hb1⟩
      have hg1 := cell_kept hb1 hg
      have hg1l : g < w1.heap.size := Nat.lt_of_lt_of_le hgl hb1.size
      have hb := hb1.alloc hb1.size (.cells #[.int .u32 (a : Int), .int .i64 b] 185)
      have hnew := heap_alloc_new w1 (.cells #[.int .u32 (a : Int), .int .i64 b] 185)
      have c0 := cell_of_row _ w1.heap.size 0 _ _ _ hnew
      have HCC := Lib.hid (HC.out _ w1.heap.size hb c0)
      clear hnew c0 HC
      go_wp2_with (go_at_call 204; apply Hid.out)
      unfold Hid
      refine HCC.out.mono ?_
      rintro e w2 ⟨rfl, hb2⟩
      have hbb := hb.trans (hb2.mono hb.size)
      go_wp2_with fail
      go_ret
      exact ⟨by rw [HE.out]; rfl, hbb⟩
end Go.Proofs.YthfjmlcjkbgboaaGreatDoor
namespace Go.Proofs.YthfjmlcjkbgboaaGreatDoor
open Go.RowKit
def outG (S : Set4) (v : ByteArray) (j : Nat) : Bool := !hasB S (v.data.toList.getD j 0)
def tstG (arg v : ByteArray) : Bool := anyN (outG (bytesR arg.data.toList).1 v) v.size
set_option maxRecDepth 100000 in
set_option maxHeartbeats 1600000 in
theorem rngT_any (S : Set4) (hS : S.Wf) (v : ByteArray) (hv : v.size ≤ 8192) (g : Nat) (w : World) (hg : FourW w g S) :
    Calls Tryz.prog 207 #[.string v, .pointer (some ⟨g, 0, none⟩)] w fun e w' => e = .returned (.bool (anyN (outG S v) v.size)) ∧ Below w.heap.size w w' := by
  have HHAS0 := fun x W => Has_any S x W hS
  have HW : Hid (∀ W, Below w.heap.size w W → W.cell? ⟨g, 0, none⟩ = some (.int .u64 S.a) ∧ W.cell? ⟨g, 1, none⟩ = some (.int .u64 S.b) ∧ W.cell? ⟨g, 2, none⟩ = some (.int .u64 S.c) ∧ W.cell? ⟨g, 3, none⟩ = some (.int .u64 S.d)) := fun W hb => by
    have h : FourW W g S := (hb.block g (heap_lt hg)).trans hg
    exact ⟨cell_of_row _ _ 0 _ _ _ h, cell_of_row _ _ 1 _ _ _ h, cell_of_row _ _ 2 _ _ _ h, cell_of_row _ _ 3 _ _ _ h⟩
  have HBYT : Hid (∀ (j : Nat) (hj : j < v.size), v.data.toList.getD j 0 = v[j]) := fun j hj => by
    rw [List.getD_eq_getElem?_getD, List.getElem?_eq_getElem (by simpa using hj)]; rfl
  have HOUT : Hid (∀ j, outG S v j = !hasB S (v.data.toList.getD j 0)) := fun j => rfl
  generalize outG S v = p at *
  obtain ⟨sa, sb, sc, sd⟩ := S
  unfold setV at HHAS0
  dsimp only at HHAS0 HW
  have HHAS := Lib.hid HHAS0
  clear HHAS0 hS hg
  go_enter Tryz.func207, Tryz.ntmps207
  go_wp2_with fail
  go_loopw [4, 7] (fun _ i wr => ∃ j : Nat, j ≤ v.size ∧ i = .int .i64 j ∧ Below w.heap.size w wr ∧ Hid (∀ i, i < j → p i = false)) (fun _ i _ => v.size - (intOf i).toNat)
  case atStart => exact ⟨0, Nat.zero_le _, rfl, Below.refl _ _, fun i hi => absurd hi (by omega)⟩
  case round =>
    obtain ⟨j, hj, rfl, hb, hno⟩ := hrel
    by_cases hlt : j < v.size
    · have i9 : (j : Int) < (v.size : Int) := by omega
      have hby := HBYT.out j hlt
      have hpj := HOUT.out j
      rw [hby] at hpj
      generalize hx : v[j] = x at *
      have ⟨x0, x1, x2, x3⟩ := HW.out wr hb
      have HN := Lib.hid hno
      have HPJ := Lib.hid hpj
      have HBW := Lib.hid hb
      clear hpj hno hby
      go_upto_region 4 with fail
      go_region_held3 (fun w' => w'.cell? ⟨g, 0, none⟩ = some (.int .u64 sa) ∧ w'.cell? ⟨g, 1, none⟩ = some (.int .u64 sb) ∧ w'.cell? ⟨g, 2, none⟩ = some (.int .u64 sc) ∧ w'.cell? ⟨g, 3, none⟩ = some (.int .u64 sd))
        (first | go_keep | (refine ⟨cell_kept hb8 ?_, cell_kept hb8 ?_, cell_kept hb8 ?_, cell_kept hb8 ?_⟩ <;> assumption))
        (first | (go_at_call 208; refine (HHAS.out _ _).mono ?_; rintro e w8 ⟨rfl, hb8⟩))
      have hbw8 := hb.trans ((undrew hb8).mono hb.size)
      cases hh : hasB ⟨sa, sb, sc, sd⟩ x with
      | false =>
        rw [hh] at HPJ
        have HT : Hid (anyN p v.size = true) := (any_true _ _).2 ⟨j, hlt, HPJ.out⟩
        clear hh HPJ
        go_wp2_with fail
        go_ret
        exact ⟨by rw [HT.out]; rfl, hbw8⟩
      | true =>
        rw [hh] at HPJ
        have hno2 : Hid (∀ i, i < j + 1 → p i = false) := fun i hi => by
          by_cases e : i = j
          · rw [e]; exact HPJ.out
          · exact HN.out.out i (by omega)
        clear hh HPJ HN
        go_wp2_with fail
        go_roundw
        case rel => exact ⟨j + 1, by omega, by go_num, hbw8, hno2⟩
        case measure => simp [intOf] <;> omega
    · obtain rfl : j = v.size := by omega
      have HF : Hid (anyN p v.size = false) := (any_false _ _).2 hno
      go_wp2_with fail
      go_ret
      exact ⟨by rw [HF.out]; rfl, hb⟩
set_option maxRecDepth 100000 in
theorem anyT_any (v : ByteArray) (w : World) : Calls Tryz.prog 153 #[.string v] w fun e w' => e = .returned (.bool true) ∧ Below w.heap.size w w' := by
  go_enter Tryz.func153, Tryz.ntmps153
  go_wp2_with fail
  go_ret
  exact ⟨rfl, Below.refl _ _⟩
end Go.Proofs.YthfjmlcjkbgboaaGreatDoor
namespace Go.Proofs.YthfjmlcjkbgboaaGreatDoor
open Go.RowKit
theorem dropWhile_drop (p : UInt8 → Bool) : ∀ l : List UInt8, ∃ k, k ≤ l.length ∧ l.dropWhile p = l.drop k
  | [] => ⟨0, Nat.le_refl _, rfl⟩
  | a :: l => by
    rw [List.dropWhile_cons]
    by_cases h : p a = true
    · rw [if_pos h]
      obtain ⟨k, hk, e⟩ := dropWhile_drop p l
      exact ⟨k + 1, by simp; omega, by rw [e]; rfl⟩
    · rw [if_neg h]; exact ⟨0, Nat.zero_le _, rfl⟩
theorem rtrim_take (l : List UInt8) : ∃ k, k ≤ l.length ∧ rtrimL l = l.take k := by
  obtain ⟨k, hk, e⟩ := dropWhile_drop blank l.reverse
  refine ⟨l.length - k, by omega, ?_⟩
  unfold rtrimL
  rw [e, List.drop_reverse, List.reverse_reverse]
theorem trim_piece (l : List UInt8) : ∃ a b, l = a ++ trimL l ++ b := by
  unfold trimL
  obtain ⟨i, _, e⟩ := dropWhile_drop blank l
  obtain ⟨k, _, e2⟩ := rtrim_take (l.dropWhile blank)
  refine ⟨l.take i, (l.drop i).drop k, ?_⟩
  rw [e2, e, List.append_assoc, List.take_append_drop, List.take_append_drop]
theorem trim_length (l : List UInt8) : (trimL l).length ≤ l.length := by
  obtain ⟨a, b, e⟩ := trim_piece l
  have := congrArg List.length e
  simp only [List.length_append] at this
  omega
end Go.Proofs.YthfjmlcjkbgboaaGreatDoor
namespace Go.Proofs.YthfjmlcjkbgboaaGreatDoor
open Go.RowKit
theorem PhrAt.low {B C : Nat} {ws : List ByteArray} {gt gb : Nat} {w : World} (h : PhrAt C ws gt gb w) (hb : B ≤ C) : PhrAt B ws gt gb w := by
  obtain ⟨h1, h2, lo, g, cap, ns, ss, ms, A, c, h3, h4⟩ := h
  exact ⟨Nat.le_trans hb h1, Nat.le_trans hb h2, lo, g, cap, ns, ss, ms, A, c, Nat.le_trans hb h3, h4⟩
def tstP (ws : List ByteArray) (v : ByteArray) : Bool := decide (0 < (hitsTo (lstS ws) (lowerL v.data.toList) (lowerL v.data.toList).length).length)
theorem lowB_size (v : ByteArray) : (lowB v).size = v.size := by
  unfold lowB
  rw [bs_size]
  unfold lowerL
  simp
set_option maxRecDepth 100000 in
set_option maxHeartbeats 1600000 in
theorem phrTest_any (ws : List ByteArray) (hG : GoodW ws) (v : ByteArray) (hv : v.size ≤ 8192) (B gt gb : Nat) (w : World) (h : PhrAt B ws gt gb w) :
    Calls Tryz.prog 200 #[.string v, .pointer (some ⟨gt, 0, none⟩), .pointer (some ⟨gb, 0, none⟩)] w fun e w' => e = .returned (.bool (tstP ws v)) ∧ Below w.heap.size w w' := by
  obtain ⟨_, _, lo, g, cap, ns, ss, ms, A, c, _, h1, h2, hT⟩ := h
  have HL : Hid (Calls Tryz.prog 65 #[.string v] w.drew (StrPost (lowB v) w.drew)) := Lib.hid (Lower_any v w.drew (by unfold maxLen; omega))
  have HS : Hid (∀ W, Below w.heap.size w W → Calls Tryz.prog 201 #[.slice (some ⟨g, 0, none⟩) ms.length cap, .int .i64 (ws.length : Int), .string (lowB v)] W fun e w' => e = .returned (.tuple #[.bool (tstP ws v), .int .i64 0]) ∧ Below W.heap.size W w') := Lib.hid fun W hW =>
    Some_tree hG (lowB v) (by rw [lowB_size]; exact hv) (hT.below hW)
  generalize tstP ws v = r at *
  generalize lowB v = lv at *
  generalize ws.length = n at *
  clear hT
  go_enter Tryz.func200, Tryz.ntmps200
  go_wp2_with fail
  go_region_held3 (fun w' => w'.cell? ⟨gt, 0, none⟩ = some (.slice (some ⟨g, 0, none⟩) ms.length cap) ∧ w'.cell? ⟨gb, 0, none⟩ = some (.slice A n c))
    (first | exact ⟨h1, h2⟩ | exact ⟨cell_kept hb2 h1, cell_kept hb2 h2⟩ | exact ⟨cell_kept hb4 h1, cell_kept hb4 h2⟩ | go_keep | fail "keep")
    (first
      | (go_at_call 65; (with_reducible refine (HL.out).mono ?_); rintro e w2 ⟨rfl, hb2'⟩; have hb2 : Below w.heap.size w w2 := undrew hb2')
      | (go_at_call 201; (with_reducible refine (HS.out _ hb2).mono ?_); rintro e w4 ⟨rfl, hb4'⟩; have hb4 : Below w.heap.size w w4 := hb2.trans (hb4'.mono hb2.size)) | fail "arm")
  go_wp2_with fail
  go_ret
  exact ⟨rfl, hb4⟩
set_option maxRecDepth 100000 in
set_option maxHeartbeats 1600000 in
theorem madeP_any (arg : ByteArray) (w : World) (hlib : LibOk w) (ha : arg.size ≤ 1048576) :
    Calls Tryz.prog 104 #[.int .i64 2, .string arg] w fun e w' => (OkW (phrW arg) → PhrYes (phrW arg) w e w') ∧ (¬ OkW (phrW arg) → PhrNo w e w') := by
  have hb : Below w.heap.size w ((w.alloc (.cells #[.int .i64 2] 3)).alloc (.cells #[.string arg] 9)) := ((Below.refl _ _).alloc (Nat.le_refl _) _).alloc (by simp) _
  have hp := phrases_any arg ((w.alloc (.cells #[.int .i64 2] 3)).alloc (.cells #[.string arg] 9)) (hlib.below hb) ha
  generalize phrW arg = ws at *
  by_cases hok : OkW ws
  · have HP := Lib.hid (hp.mono fun e w' h => h.1 hok)
    clear hp hlib
    go_enter Tryz.func104, Tryz.ntmps104
    go_wp2_with (go_at_call 149; apply Hid.out)
    unfold Hid
    refine HP.out.mono ?_
    rintro e w1 ⟨hb1, gt, gb, rfl, hat⟩
    unfold phrF
    have hb2 := hb.trans (hb1.mono hb.size)
    go_wp2_with fail
    go_ret2
    exact ⟨fun _ => ⟨hb2, gt, gb, rfl, hat.low hb.size⟩, fun h => absurd hok h⟩
  · have HP := Lib.hid (hp.mono fun e w' h => h.2 hok)
    clear hp hlib
    go_enter Tryz.func104, Tryz.ntmps104
    go_wp2_with (go_at_call 149; apply Hid.out)
    unfold Hid
    refine HP.out.mono ?_
    rintro e w1 ⟨hb1, gt, gb, r, hr, rfl⟩
    unfold phrF
    have hb2 := hb.trans (hb1.mono hb.size)
    go_wp2_with fail
    go_ret2
    exact ⟨fun h => absurd h hok, fun _ => ⟨hb2, gt, gb, r, hr, rfl⟩⟩
end Go.Proofs.YthfjmlcjkbgboaaGreatDoor
namespace Go.Proofs.YthfjmlcjkbgboaaGreatDoor
open Go.RowKit
def tstT (op : Int) (arg v : ByteArray) : Bool := if op = 4 then Lib.contains v.data.toList arg.data.toList else if op = 5 then Lib.hasPrefix v.data.toList arg.data.toList else if op = 6 then Lib.hasSuffix v.data.toList arg.data.toList else v.toList == arg.toList
set_option maxRecDepth 100000 in
set_option maxHeartbeats 1600000 in
theorem textTest_any (op : Int) (hop : op = 3 ∨ op = 4 ∨ op = 5 ∨ op = 6) (arg v : ByteArray) (hv : v.size ≤ 8192) (g1 g2 : Nat) (w : World) (hlib : LibOk w) (h1 : w.cell? ⟨g1, 0, none⟩ = some (.int .i64 op)) (h2 : w.cell? ⟨g2, 0, none⟩ = some (.string arg)) :
    Calls Tryz.prog 154 #[.string v, .pointer (some ⟨g1, 0, none⟩), .pointer (some ⟨g2, 0, none⟩)] w fun e w' => e = .returned (.bool (tstT op arg v)) ∧ Below w.heap.size w w' := by
  obtain ⟨m, hm⟩ := hlib
  have HC := Lib.hid (Tryz.strings_Contains v arg m w (by omega) hm)
  have HP := Lib.hid (Tryz.strings_HasPrefix v arg w)
  have HS := Lib.hid (Tryz.strings_HasSuffix v arg w (by omega))
  unfold tstT
  rcases hop with rfl | rfl | rfl | rfl
  all_goals
    go_enter Tryz.func154, Tryz.ntmps154
    go_wp2_with (first | (go_at_call 155; refine HC.out.mono ?_; rintro e w1 ⟨rfl, rfl⟩) | (go_at_call 117; refine HP.out.mono ?_; rintro e w1 ⟨rfl, rfl⟩) | (go_at_call 156; refine HS.out.mono ?_; rintro e w1 ⟨rfl, rfl⟩))
    go_ret
    exact ⟨rfl, Below.refl _ _⟩
end Go.Proofs.YthfjmlcjkbgboaaGreatDoor
namespace Go.Proofs.YthfjmlcjkbgboaaGreatDoor
open Go.RowKit
/-- What an operator on numbers says. -/
def cmpN (op k n : Int) : Bool := if op = 7 then decide (n < k) else if op = 8 then decide (k < n) else k == n
def tstN (op n : Int) (v : List UInt8) : Bool := match numL 10 9 v with | none => false | some k => cmpN op k n
set_option maxRecDepth 100000 in
set_option maxHeartbeats 800000 in
theorem numTest_any (v : ByteArray) (g1 g2 : Nat) (op n : Int) (w : World) (hop : op = 7 ∨ op = 8 ∨ op = 9) (h1 : w.cell? ⟨g1, 0, none⟩ = some (.int .i64 op)) (h2 : w.cell? ⟨g2, 0, none⟩ = some (.int .i64 n)) (hv : v.size ≤ maxLen) :
    Calls Tryz.prog 202 #[.string v, .pointer (some ⟨g1, 0, none⟩), .pointer (some ⟨g2, 0, none⟩)] w fun e w' => e = .returned (.bool (tstN op n v.data.toList)) ∧ w' = w := by
  have hd := Dec_any v w hv
  unfold tstN
  cases hk : numL 10 9 v.data.toList with
  | none =>
    rw [hk] at hd
    unfold numRes at hd
    dsimp only at hd ⊢
    have HD := Lib.hid hd
    clear hd hk
    go_enter Tryz.func202, Tryz.ntmps202
    go_wp2_with fail
    refine HD.out.mono ?_
    rintro e w1 ⟨rfl, hw⟩
    rw [hw]
    go_wp2_with fail
    go_ret
    exact ⟨rfl, rfl⟩
  | some k =>
    rw [hk] at hd
    unfold numRes at hd
    dsimp only at hd ⊢
    have HD := Lib.hid hd
    clear hd hk
    unfold cmpN
    rcases hop with rfl | rfl | rfl
    all_goals
      go_enter Tryz.func202, Tryz.ntmps202
      go_wp2_with fail
      refine HD.out.mono ?_
      rintro e w1 ⟨rfl, hw⟩
      rw [hw]
      go_wp2_with fail
      go_ret
      exact ⟨rfl, rfl⟩
def numF (g1 g2 : Nat) : Value := .func (.func 202) #[] #[.pointer (some ⟨g1, 0, none⟩), .pointer (some ⟨g2, 0, none⟩)]
def decN (o : Option Int) : Int := match o with | none => 0 | some n => n
def decE (o : Option Int) : Int := match o with | none => 4 | some _ => 0
theorem numRes_parts (o : Option Int) : numRes o = .tuple #[.int .i64 (decN o), .int .i64 (decE o)] := by cases o <;> rfl
def MadeN (op : Int) (o : Option Int) (w : World) (e : Ending) (w' : World) : Prop :=
  ∃ g1 g2, e = .returned (.tuple #[numF g1 g2, .int .i64 (decE o)]) ∧ w'.cell? ⟨g1, 0, none⟩ = some (.int .i64 op) ∧ w'.cell? ⟨g2, 0, none⟩ = some (.int .i64 (decN o)) ∧ Below w.heap.size w w' ∧ w.heap.size ≤ g1 ∧ w.heap.size ≤ g2
set_option maxRecDepth 100000 in
set_option maxHeartbeats 800000 in
theorem numbers_any (op : Int) (arg : ByteArray) (w : World) (ha : arg.size ≤ maxLen) :
    Calls Tryz.prog 150 #[.int .i64 op, .string arg] w (MadeN op (numL 10 9 arg.data.toList) w) := by
  have hd := Dec_any arg (w.alloc (.cells #[.int .i64 op] 3)) ha
  rw [numRes_parts] at hd
  generalize numL 10 9 arg.data.toList = o at *
  have HD := Lib.hid hd
  clear hd
  have hb : Below w.heap.size w ((w.alloc (.cells #[.int .i64 op] 3)).alloc (.cells #[.int .i64 (decN o)] 3)) := ((Below.refl _ _).alloc (Nat.le_refl _) _).alloc (by simp) _
  have c1 : ((w.alloc (.cells #[.int .i64 op] 3)).alloc (.cells #[.int .i64 (decN o)] 3)).cell? ⟨w.heap.size, 0, none⟩ = some (.int .i64 op) :=
    cell_of_row _ _ 0 _ _ _ ((Below.heap_alloc _ _ _ (by simp)).trans (heap_alloc_new w _))
  have c2 : ((w.alloc (.cells #[.int .i64 op] 3)).alloc (.cells #[.int .i64 (decN o)] 3)).cell? ⟨w.heap.size + 1, 0, none⟩ = some (.int .i64 (decN o)) := by
    have := heap_alloc_new (w.alloc (.cells #[.int .i64 op] 3)) (.cells #[.int .i64 (decN o)] 3)
    rw [World.size_alloc] at this
    exact cell_of_row _ _ 0 _ _ _ this
  have HP : Hid (MadeN op o w (.returned (.tuple #[.func (.func 202) #[] #[.pointer (some ⟨w.heap.size, 0, none⟩), .pointer (some ⟨w.heap.size + 1, 0, none⟩)], .int .i64 (decE o)])) ((w.alloc (.cells #[.int .i64 op] 3)).alloc (.cells #[.int .i64 (decN o)] 3))) :=
    ⟨w.heap.size, w.heap.size + 1, rfl, c1, c2, hb, Nat.le_refl _, Nat.le_succ _⟩
  clear c1 c2 hb
  go_enter Tryz.func150, Tryz.ntmps150
  go_wp2_with fail
  refine HD.out.mono ?_
  rintro e w1 ⟨rfl, hw⟩
  rw [hw]
  go_wp2_with fail
  exact bodyPost_ret (v := .tuple #[.func (.func 202) #[] #[.pointer (some ⟨w.heap.size, 0, none⟩), .pointer (some ⟨w.heap.size + 1, 0, none⟩)], .int .i64 (decE o)]) (by simp [results, Tryz.results150, go_sem]) rfl HP.out
set_option maxRecDepth 100000 in
set_option maxHeartbeats 1600000 in
theorem MadeN_any (op : Int) (arg : ByteArray) (w : World) (hop : op = 7 ∨ op = 8 ∨ op = 9) (ha : arg.size ≤ maxLen) :
    Calls Tryz.prog 104 #[.int .i64 op, .string arg] w (MadeN op (numL 10 9 arg.data.toList) w) := by
  have hb : Below w.heap.size w ((w.alloc (.cells #[.int .i64 op] 3)).alloc (.cells #[.string arg] 9)) := ((Below.refl _ _).alloc (Nat.le_refl _) _).alloc (by simp) _
  have HN := Lib.hid (numbers_any op arg ((w.alloc (.cells #[.int .i64 op] 3)).alloc (.cells #[.string arg] 9)) ha)
  generalize numL 10 9 arg.data.toList = o at *
  rcases hop with rfl | rfl | rfl
  all_goals
    go_enter Tryz.func104, Tryz.ntmps104
    go_wp2_with fail
    refine HN.out.mono ?_
    rintro e w1 ⟨g1, g2, rfl, h1, h2, hb1, y1, y2⟩
    unfold numF
    have hb2 := hb.trans (hb1.mono hb.size)
    go_wp2_with fail
    exact bodyPost_ret (v := .tuple #[.func (.func 202) #[] #[.pointer (some ⟨g1, 0, none⟩), .pointer (some ⟨g2, 0, none⟩)], .int .i64 (decE o)]) (by simp [results, Tryz.results104, go_sem]) rfl ⟨g1, g2, rfl, h1, h2, hb2, Nat.le_trans hb.size y1, Nat.le_trans hb.size y2⟩
end Go.Proofs.YthfjmlcjkbgboaaGreatDoor
namespace Go.Proofs.YthfjmlcjkbgboaaGreatDoor
open Go.RowKit
set_option maxRecDepth 100000 in
set_option maxHeartbeats 1600000 in
theorem addresses_any (arg : ByteArray) (w : World) (hlib : LibOk w) (ha : arg.size ≤ 1048576) (h0 : netsC arg.data.toList = 0) :
    Calls Tryz.prog 151 #[.string arg] w (MadeT (tstA arg) w) := by
  have hl30 : (netsV (splL 44 arg.data.toList)).length ≤ 1000 := by
    have h1 := netsV_len (splL 44 arg.data.toList)
    have h2 : (splL 44 arg.data.toList).length ≤ 30 := by
      unfold netsC at h0
      split at h0
      · exact absurd h0 (by decide)
      · omega
    omega
  have HT := fun v hv A c g W hlw h hg => adrT_any arg v hv A c g W hlw hl30 h hg
  have HN := NList_any arg w (by omega) hlib
  unfold NListPost at HN
  generalize netsV (splL 44 arg.data.toList) = l at *
  generalize tstA arg = f at *
  rw [h0] at HN
  have HNN := Lib.hid HN
  have HTT := Lib.hid HT
  clear HN HT h0 hl30 hlib
  go_enter Tryz.func151, Tryz.ntmps151
  go_wp2_with (go_at_call 144; apply Hid.out)
  unfold Hid
  refine HNN.out.mono ?_
  rintro e w1 ⟨v, rfl, hO, _, hb1⟩
  have HO := Lib.hid (hO (by first | trivial | rfl))
  obtain ⟨A, c, rfl, hS⟩ := HO.out.form
  have hnew := heap_alloc_new w1 (.cells #[.slice A l.length c] 227)
  have hbn : Below w1.heap.size w1 (w1.alloc (.cells #[.slice A l.length c] 227)) := (Below.refl _ _).alloc (Nat.le_refl _) _
  have HL : Hid (∀ W, Since w.heap.size w1 W → Sl W W.heap.size 2 A l.length (l.flatMap cellsN)) := fun W hW => by
    have h2 := OwnN.keep HO.out fun g hg => hW.keep g (World.ownsRow.lt HO.out g hg).1 (World.ownsRow.lt HO.out g hg).2
    obtain ⟨A', c', e', hs'⟩ := h2.form
    injection e' with e1 _ _
    rw [e1]; exact hs'
  clear hO hS HO
  go_wp2_with fail
  exact bodyPost_ret (v := .tuple #[.func (.func 203) #[] #[.pointer (some ⟨w1.heap.size, 0, none⟩)], .int .i64 0]) (by simp [results, Tryz.results151, go_sem]) rfl
    ⟨_, _, rfl, ⟨_, _, rfl, fun _ _ => rfl, fun W hW hlW x hx => HTT.out x hx A c w1.heap.size W hlW (HL.out W ((Since.of hbn).trans hW)) (cell_of_row _ _ 0 _ _ _ ((hW.keep _ hb1.size (by simp)).trans hnew))⟩, hb1.trans (hbn.mono hb1.size)⟩
set_option maxRecDepth 100000 in
set_option maxHeartbeats 1600000 in
theorem ranges_any (arg : ByteArray) (w : World) (hlib : LibOk w) (ha : arg.size ≤ 1048576) (h0 : (bytesR arg.data.toList).2 = 0) :
    Calls Tryz.prog 152 #[.string arg] w (MadeT (tstG arg) w) := by
  have hwf : (bytesR arg.data.toList).1.Wf := by
    unfold bytesR at h0 ⊢
    split
    · exact setF_wf _
    · rename_i h; rw [if_neg h] at h0; exact absurd h0 (by decide)
  have HT := fun v hv g W hg => rngT_any (bytesR arg.data.toList).1 hwf v hv g W hg
  have HN := Bytes_any arg w hlib (by omega)
  unfold BytesPost at HN
  have HG : Hid (∀ v, tstG arg v = anyN (outG (bytesR arg.data.toList).1 v) v.size) := fun _ => rfl
  generalize bytesR arg.data.toList = R at *
  obtain ⟨S, c⟩ := R
  dsimp only at *
  subst h0
  generalize tstG arg = f at *
  have HNN := Lib.hid HN
  have HTT := Lib.hid HT
  clear HN HT hlib hwf
  go_enter Tryz.func152, Tryz.ntmps152
  go_wp2_with (go_at_call 145; apply Hid.out)
  unfold Hid
  refine HNN.out.mono ?_
  rintro e w1 ⟨rfl, hb1⟩
  have hnew : FourW (w1.alloc (.cells #[.int .u64 S.a, .int .u64 S.b, .int .u64 S.c, .int .u64 S.d] 214)) w1.heap.size S := heap_alloc_new w1 _
  have hbn : Below w1.heap.size w1 (w1.alloc (.cells #[.int .u64 S.a, .int .u64 S.b, .int .u64 S.c, .int .u64 S.d] 214)) := (Below.refl _ _).alloc (Nat.le_refl _) _
  have HNW := Lib.hid hnew
  clear hnew
  unfold setA
  go_wp2_with fail
  exact bodyPost_ret (v := .tuple #[.func (.func 207) #[] #[.pointer (some ⟨w1.heap.size, 0, none⟩)], .int .i64 0]) (by simp [results, Tryz.results152, go_sem]) rfl
    ⟨_, _, rfl, ⟨_, _, rfl, fun _ _ => rfl, fun W hW _ x hx => (HTT.out x hx w1.heap.size W ((hW.keep _ hb1.size (by simp)).trans HNW.out)).mono fun e w' h => ⟨by rw [h.1, HG.out], h.2⟩⟩, hb1.trans (hbn.mono hb1.size)⟩
end Go.Proofs.YthfjmlcjkbgboaaGreatDoor
