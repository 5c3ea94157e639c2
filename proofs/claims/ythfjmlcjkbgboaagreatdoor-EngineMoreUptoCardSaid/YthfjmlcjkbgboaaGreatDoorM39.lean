/- Part 39 of the proof: lemmas and walks that the last texts use. -/
import Derived.Test.YthfjmlcjkbgboaaGreatDoorM03
import Derived.Test.YthfjmlcjkbgboaaGreatDoorM27
import Derived.Test.YthfjmlcjkbgboaaGreatDoorM28
import Derived.Test.YthfjmlcjkbgboaaGreatDoorM33
import Derived.Test.YthfjmlcjkbgboaaGreatDoorM35
import Derived.Test.YthfjmlcjkbgboaaGreatDoorM36
import Derived.Test.YthfjmlcjkbgboaaGreatDoorM37
import Derived.Test.YthfjmlcjkbgboaaGreatDoorM38
import Derived.IntWalk
import Derived.Deep.RegionHeld3
import Derived.Test.YthfjmlcjkbgboaaGreatDoorRows
namespace Go.Proofs.YthfjmlcjkbgboaaGreatDoor
open Go.RowKit
def oneP (k : Int) (l : List UInt8) : List UInt8 :=
 if k = 1 then lowerL l else if k = 2 then urlDecL l else if k = 3 then (hexDecL l).getD l else if k = 4 then (b64D l).getD l else if k = 5 then htmlDecL l else if k = 6 then pathL l
 else if k = 7 then squeezeL l else if k = 8 then outL [0] l else if k = 9 then trimL l else if k = 10 then Lib.decDigits l.length else cmdL l
def foldP (ks : List Int) (l : List UInt8) : List UInt8 := ks.foldl (fun l k => oneP k l) l
theorem b64Go_len : ∀ (l : List UInt8) (n b : Nat) (r : List UInt8), decGo n b l = some r → r.length ≤ l.length
 | [], n, b, r, h => by
  unfold decGo at h
  split at h
  · cases h
  · cases h; exact Nat.le_refl _
 | x :: l, n, b, r, h => by
  unfold decGo at h
  split at h
  · cases h
  · split at h
    · have := b64Go_len l _ _ r h
      rw [List.length_cons]; omega
    · cases hq : decGo ((n * 64 + (idx x).toNat) % 2 ^ (b - 2)) (b - 2) l with
      | none => rw [hq] at h; cases h
      | some q =>
       rw [hq] at h
       have := b64Go_len l _ _ q hq
       cases h
       rw [List.length_cons, List.length_cons]; omega
theorem trimE_len (l : List UInt8) : (trimE l).length ≤ l.length := by
 unfold trimE Lib.trimSuffix
 split
 · rw [List.length_take]; exact Nat.min_le_right _ _
 · exact Nat.le_refl _
theorem b64D_len {l r : List UInt8} (h : b64D l = some r) : r.length ≤ l.length := by
 unfold b64D at h
 split at h
 · cases h
 · have h1 := b64Go_len _ _ _ _ h
   have h2 := trimE_len (trimE l)
   have h3 := trimE_len l
   omega
theorem oneP_len (k : Int) (l : List UInt8) (hl : l.length < 1000000) : (oneP k l).length ≤ l.length + 6 := by
 unfold oneP
 split
 · unfold lowerL; rw [List.length_map]; omega
 · split
   · have := urlDec_len l; omega
   · split
     · cases h : hexDecL l with
       | none => rw [Option.getD_none]; omega
       | some r => have := hexDec_len _ l r (Nat.le_refl _) h; rw [Option.getD_some]; omega
     · split
       · cases h : b64D l with
         | none => rw [Option.getD_none]; omega
         | some r => have := b64D_len h; rw [Option.getD_some]; omega
       · split
         · have := htmlDec_len l; omega
         · split
           · have := path_len l; omega
           · split
             · have := sq_len l false; unfold squeezeL; omega
             · split
               · have : (outL [0] l).length ≤ l.length := List.length_filter_le _ _
                 omega
               · split
                 · have := trim_length l; omega
                 · split
                   · have := (dec_len 5 l.length (by omega)).2; omega
                   · have := cmd_len l; omega
set_option maxRecDepth 100000 in
set_option maxHeartbeats 800000 in
theorem tried_hex (s : ByteArray) (w : World) (hs : s.size ≤ 140737488351232) :
 Calls Tryz.prog 67 #[.string s, .func (.func 68) #[] #[]] w fun e w' => e = .returned (.string (bs ((hexDecL s.data.toList).getD s.data.toList))) ∧ Below w.heap.size w w' := by
 have HH := Lib.hid (HexDecode_any s w hs)
 cases ho : hexDecL s.data.toList with
 | none =>
  rw [ho] at HH
  unfold strRes ResPost at HH
  dsimp only at HH
  clear ho
  rw [Option.getD_none, bs_eta]
  go_enter Tryz.func67, Tryz.ntmps67
  go_wp2_with fail
  refine HH.out.mono ?_
  rintro e w1 ⟨rfl, hb⟩
  go_wp2_with fail
  go_ret
  exact ⟨rfl, hb⟩
 | some r =>
  rw [ho] at HH
  unfold strRes ResPost at HH
  dsimp only at HH
  clear ho
  rw [Option.getD_some]
  go_enter Tryz.func67, Tryz.ntmps67
  go_wp2_with fail
  refine HH.out.mono ?_
  rintro e w1 ⟨rfl, hb⟩
  go_wp2_with fail
  go_ret
  exact ⟨rfl, hb⟩
set_option maxRecDepth 100000 in
set_option maxHeartbeats 800000 in
theorem tried_b64 (s : ByteArray) (w : World) (hs : s.size ≤ 140737488351232) :
 Calls Tryz.prog 67 #[.string s, .func (.func 69) #[] #[]] w fun e w' => e = .returned (.string (bs ((b64D s.data.toList).getD s.data.toList))) ∧ Below w.heap.size w w' := by
 have HH := Lib.hid (Base64Decode_any s w hs)
 cases ho : b64D s.data.toList with
 | none =>
  rw [ho] at HH
  unfold strRes ResPost at HH
  dsimp only at HH
  clear ho
  rw [Option.getD_none, bs_eta]
  go_enter Tryz.func67, Tryz.ntmps67
  go_wp2_with fail
  refine HH.out.mono ?_
  rintro e w1 ⟨rfl, hb⟩
  go_wp2_with fail
  go_ret
  exact ⟨rfl, hb⟩
 | some r =>
  rw [ho] at HH
  unfold strRes ResPost at HH
  dsimp only at HH
  clear ho
  rw [Option.getD_some]
  go_enter Tryz.func67, Tryz.ntmps67
  go_wp2_with fail
  refine HH.out.mono ?_
  rintro e w1 ⟨rfl, hb⟩
  go_wp2_with fail
  go_ret
  exact ⟨rfl, hb⟩
set_option maxRecDepth 100000 in
set_option maxHeartbeats 1600000 in
theorem pone_any (k : Int) (s : ByteArray) (w : World) (h1 : 1 ≤ k) (h2 : k ≤ 11) (hs : s.size ≤ 1000000) (hlib : LibOk w) (htab : TabOk w) :
 Calls Tryz.prog 36 #[.int .i64 k, .string s] w fun e w' => e = .returned (.string (bs (oneP k s.data.toList))) ∧ Below w.heap.size w w' := by
 have hm : s.size ≤ maxLen := by unfold maxLen; omega
 have hb : s.size ≤ 140737488351232 := by omega
 have H1 := Lib.hid (Lower_any s w hm)
 have H2 := Lib.hid (UrlDecode_any s w hb)
 have H3 := Lib.hid (tried_hex s w hb)
 have H4 := Lib.hid (tried_b64 s w hb)
 have H5 := Lib.hid (HtmlDecode_any s w hb)
 have H6 := Lib.hid (Path_any s w hlib (by omega))
 have H7 := Lib.hid (Squeeze_any s w hb)
 have H8 := Lib.hid (NoNull_any s w hb)
 have H9 := Lib.hid (Trim_any s w hm)
 have H10 := Lib.hid (itoa_any s.size w (by omega) htab)
 have H11 := Lib.hid (Cmd_any s w hb)
 have hsl : s.data.toList.length = s.size := by simp
 unfold oneP
 rw [hsl]
 clear hlib htab hs hm hb hsl
 obtain rfl | rfl | rfl | rfl | rfl | rfl | rfl | rfl | rfl | rfl | rfl : k = 1 ∨ k = 2 ∨ k = 3 ∨ k = 4 ∨ k = 5 ∨ k = 6 ∨ k = 7 ∨ k = 8 ∨ k = 9 ∨ k = 10 ∨ k = 11 := by omega
 all_goals
  simp only [Int.reduceEq, reduceIte]
  go_enter Tryz.func36, Tryz.ntmps36
  go_wp2_with fail
 · refine H1.out.mono ?_
   rintro e w1 ⟨rfl, hb⟩
   go_wp2_with fail
   go_ret
   exact ⟨rfl, hb⟩
 · refine H2.out.mono ?_
   rintro e w1 ⟨rfl, hb⟩
   go_wp2_with fail
   go_ret
   exact ⟨rfl, hb⟩
 · refine H3.out.mono ?_
   rintro e w1 ⟨rfl, hb⟩
   go_wp2_with fail
   go_ret
   exact ⟨rfl, hb⟩
 · refine H4.out.mono ?_
   rintro e w1 ⟨rfl, hb⟩
   go_wp2_with fail
   go_ret
   exact ⟨rfl, hb⟩
 · refine H5.out.mono ?_
   rintro e w1 ⟨rfl, hb⟩
   go_wp2_with fail
   go_ret
   exact ⟨rfl, hb⟩
 · refine H6.out.mono ?_
   rintro e w1 ⟨rfl, hb⟩
   go_wp2_with fail
   go_ret
   exact ⟨rfl, hb⟩
 · refine H7.out.mono ?_
   rintro e w1 ⟨rfl, hb⟩
   go_wp2_with fail
   go_ret
   exact ⟨rfl, hb⟩
 · refine H8.out.mono ?_
   rintro e w1 ⟨rfl, hb⟩
   go_wp2_with fail
   go_ret
   exact ⟨rfl, hb⟩
 · refine H9.out.mono ?_
   rintro e w1 ⟨rfl, hw⟩
   rw [hw]
   go_wp2_with fail
   go_ret
   exact ⟨rfl, Below.refl _ _⟩
 · refine H10.out.mono ?_
   rintro e w1 ⟨rfl, hb⟩
   go_wp2_with fail
   go_ret
   exact ⟨rfl, hb⟩
 · refine H11.out.mono ?_
   rintro e w1 ⟨rfl, hb⟩
   go_wp2_with fail
   go_ret
   exact ⟨rfl, hb⟩
def runEP (ks : List Int) (l : List UInt8) : Int := if checkP ks ≠ 0 then checkP ks else if 8192 < l.length then 2 else 0
def runT (ks : List Int) (l : List UInt8) : List UInt8 := if runEP ks l ≠ 0 then [] else foldP ks l
def RunRel (ks : List Int) (s : List UInt8) (w : World) (t i : Value) (wr : World) : Prop :=
 ∃ (k : Nat) (x : ByteArray), k ≤ ks.length ∧ i = .int .i64 k ∧ t = .string x ∧ Hid (x.data.toList = foldP (ks.take k) s) ∧ x.size ≤ 8192 + 6 * k ∧ Below w.heap.size w wr
theorem check_ok {ks : List Int} (h : checkP ks = 0) : ks.length ≤ 8 ∧ ∀ k ∈ ks, 1 ≤ k ∧ k ≤ 11 := checkP_ok.1 h
set_option maxRecDepth 100000 in
set_option maxHeartbeats 1600000 in
theorem PRun_any (ks : List Int) (A : Option Addr) (c : Nat) (s : ByteArray) (w : World) (h : Sl w w.heap.size 1 A ks.length (ks.map (Value.int .i64))) (hl : ks.length ≤ 4194304) (hlib : LibOk w) (htab : TabOk w) :
 Calls Tryz.prog 12 #[.slice A ks.length c, .string s] w fun e w' => e = .returned (.tuple #[.string (bs (runT ks s.data.toList)), .int .i64 (runEP ks s.data.toList)]) ∧ Below w.heap.size w w' := by
 have HC := Lib.hid (PCheckP_any ks A c w h hl)
 have hsl : s.data.toList.length = s.size := by simp
 by_cases hc : checkP ks = 0
 · have hok := check_ok hc
   by_cases hbig : 8192 < s.size
   · have HR : Hid (runEP ks s.data.toList = 2 ∧ runT ks s.data.toList = []) := by
      have : runEP ks s.data.toList = 2 := by unfold runEP; rw [if_neg (by rw [hc]; simp), if_pos (by omega)]
      refine ⟨this, ?_⟩
      unfold runT; rw [if_pos (by rw [this]; decide)]
     have d0 : decide ((8192 : Int) < (s.size : Int)) = true := decide_eq_true (by omega)
     rw [hc] at HC
     rw [HR.out.1, HR.out.2]
     clear hc hok hbig h hlib htab hsl
     go_enter Tryz.func12, Tryz.ntmps12
     go_wp2_with fail
     refine HC.out.mono ?_
     rintro e w1 ⟨rfl, hb⟩
     go_wp2_with fail
     go_ret2
     exact ⟨rfl, hb⟩
   · have HR : Hid (runEP ks s.data.toList = 0 ∧ runT ks s.data.toList = foldP ks s.data.toList) := by
      have : runEP ks s.data.toList = 0 := by unfold runEP; rw [if_neg (by rw [hc]; simp), if_neg (by omega)]
      refine ⟨this, ?_⟩
      unfold runT; rw [if_neg (by rw [this]; decide)]
     have d0 : decide ((8192 : Int) < (s.size : Int)) = false := decide_eq_false (by omega)
     have hs8 : s.size ≤ 8192 := by omega
     rw [hc] at HC
     rw [HR.out.1, HR.out.2]
     have HLB : Hid (∀ W, Below w.heap.size w W → LibOk W ∧ TabOk W) := fun W hb => ⟨hlib.below hb, htab.below hb⟩
     have HOK := Lib.hid hok
     have hk8 := hok.1
     clear hc hok hbig hlib htab hsl
     go_enter Tryz.func12, Tryz.ntmps12
     go_wp2_with fail
     refine HC.out.mono ?_
     rintro e w1 ⟨rfl, hb⟩
     go_wp2_with fail
     go_loopw [1, 19] (fun t i wr => RunRel ks s.data.toList w t i wr) (fun _ i _ => ks.length - (intOf i).toNat)
     case atStart => exact ⟨0, s, Nat.zero_le _, rfl, rfl, by unfold Hid foldP; rw [List.take_zero]; rfl, by omega, hb⟩
     case round =>
      obtain ⟨k, x, hk, rfl, rfl, HX, hxs, hb2⟩ := hrel
      clear hb
      by_cases hlt : k < ks.length
      · have d1 : decide ((k : Int) < (ks.length : Int)) = true := decide_eq_true (by omega)
        have i7 : IntKind.i64.wrap ((k : Int) + 1) = (k : Int) + 1 := IntWalk.i64_in _ (by omega)
        obtain ⟨b, off, rfl, hbB, hcc⟩ := (h.below hb2).src (by rw [List.length_map]; omega)
        have hcn := hcc k (by rw [List.length_map]; exact hlt)
        rw [List.getElem_map] at hcn
        have hkk := HOK.out.2 ks[k] (List.getElem_mem hlt)
        have HN : Hid (foldP (ks.take (k + 1)) s.data.toList = oneP ks[k] (foldP (ks.take k) s.data.toList)) := by
         unfold Hid foldP
         rw [List.take_succ_eq_append_getElem hlt, List.foldl_append]
         rfl
        generalize ks[k] = z at *
        obtain ⟨hl2, ht2⟩ := HLB.out wr hb2
        have HP := Lib.hid (pone_any z x wr hkk.1 hkk.2 (by omega) hl2 ht2)
        have hlen := oneP_len z x.data.toList (by simp; omega)
        rw [show x.data.toList.length = x.size by simp] at hlen
        have HLEN := Lib.hid hlen
        have HB2 := Lib.hid hb2
        clear hl2 ht2 hcc h hlen hb2 hkk
        go_wp2_with fail
        refine HP.out.mono ?_
        rintro e w2 ⟨rfl, hb3⟩
        have hb4 := HB2.out.trans (hb3.mono HB2.out.size)
        clear hb3
        go_wp2_with fail
        go_roundw
        case rel => exact ⟨k + 1, _, by omega, by go_num, rfl, by unfold Hid; rw [bs_toList, HN.out, HX.out], by rw [bs_size]; have := HLEN.out; omega, hb4⟩
        case measure => simp [intOf] <;> omega
      · obtain rfl : k = ks.length := by omega
        have d1 : decide ((ks.length : Int) < (ks.length : Int)) = false := by simp
        have hx : x = bs (foldP ks s.data.toList) := ext_bs (by rw [HX.out, List.take_length])
        clear h
        go_wp2_with fail
        go_ret2
        exact ⟨by rw [← hx]; rfl, hb2⟩
 · have HR : Hid (runEP ks s.data.toList = checkP ks ∧ runT ks s.data.toList = []) := by
    have : runEP ks s.data.toList = checkP ks := by unfold runEP; rw [if_pos hc]
    refine ⟨this, ?_⟩
    unfold runT; rw [if_pos (by rw [this]; exact hc)]
   have q0 : (checkP ks != 0) = true := bne_iff_ne.2 hc
   have q1 : (checkP ks == 0) = false := beq_eq_false_iff_ne.2 hc
   rw [HR.out.1, HR.out.2]
   generalize checkP ks = C at *
   clear hc h hlib htab hsl
   go_enter Tryz.func12, Tryz.ntmps12
   go_wp2_with fail
   refine HC.out.mono ?_
   rintro e w1 ⟨rfl, hb⟩
   go_wp2_with fail
   go_ret2
   exact ⟨rfl, hb⟩
end Go.Proofs.YthfjmlcjkbgboaaGreatDoor
namespace Go.Proofs.YthfjmlcjkbgboaaGreatDoor
open Go.RowKit
def hitX (ks : List Int) (no : Bool) (f : ByteArray → Bool) (x : Pair) : Bool :=
 (runEP ks x.2.data.toList == 0) && decide ((bs (runT ks x.2.data.toList)).size ≤ 8192) && (f (bs (runT ks x.2.data.toList)) != no)
def StR (F : Nat → Prop) (g : Nat) (r : RCells) (f : ByteArray → Bool) (w : World) : Prop := RBox g r 0 0 .nilFunc w ∨ Ready F g r f w
section
variable {F : Nat → Prop} {g : Nat} {r : RCells} {f : ByteArray → Bool} {w W : World}
theorem StR.next (h : StR F g r f w) (hb : Below w.heap.size w W) : StR F g r f W := by
 rcases h with h | h
 · exact .inl (h.keep (hb.block g h.lt))
 · exact .inr (h.next hb)
theorem StR.keep (h : StR F g r f w) (hz : w.heap.size ≤ W.heap.size) (hg : W.heap[g]? = w.heap[g]?) (hk : ∀ k, k < w.heap.size → ¬ F k → W.heap[k]? = w.heap[k]?) : StR F g r f W := by
 rcases h with h | h
 · exact .inl (RBox.keep h hg)
 · exact .inr (h.keep hz hg hk)
theorem StR.more {F' : Nat → Prop} (h : StR F g r f w) (hf : ∀ k, F' k → F k ∨ w.heap.size ≤ k) : StR F' g r f w := by
 rcases h with h | h
 · exact .inl h
 · exact .inr (h.more hf)
theorem Ready.cells (h : Ready F g r f w) : w.cell? ⟨g, 3, none⟩ = some r.ps ∧ w.cell? ⟨g, 4, none⟩ = some (.bool r.nt) := by
 obtain ⟨t, h⟩ := h.box; exact ⟨h.rule.1, h.rule.2.1⟩
theorem StR.cells (h : StR F g r f w) : w.cell? ⟨g, 3, none⟩ = some r.ps ∧ w.cell? ⟨g, 4, none⟩ = some (.bool r.nt) := by
 rcases h with h | h
 · exact ⟨h.rule.1, h.rule.2.1⟩
 · exact h.cells
theorem StR.lt (h : StR F g r f w) : g < w.heap.size := World.block_lt_of_cell? w _ h.cells.1
end
theorem any_next {α : Type} (p : α → Bool) (l : List α) (k : Nat) (hk : k < l.length) (h : (l.take k).any p = false) (hp : p l[k] = false) : (l.take (k + 1)).any p = false := by
 rw [List.take_succ_eq_append_getElem hk, List.any_append, h, Bool.false_or, List.any_cons, hp]; rfl
theorem any_hit {α : Type} (p : α → Bool) (l : List α) (k : Nat) (hk : k < l.length) (hp : p l[k] = true) : l.any p = true := List.any_eq_true.2 ⟨l[k], List.getElem_mem hk, hp⟩
def MatRel (B : Nat) (F : Nat → Prop) (g : Nat) (r : RCells) (f : ByteArray → Bool) (p : Pair → Bool) (l : List Pair) (w : World) (v : Value) (wr : World) : Prop :=
 ∃ k : Nat, k ≤ l.length ∧ v = .int .i64 k ∧ StR F g r f wr ∧ Oth B g w wr ∧ Hid ((l.take k).any p = false)
set_option maxRecDepth 100000 in
set_option maxHeartbeats 3200000 in
theorem matches_any (B : Nat) (F : Nat → Prop) (g : Nat) (r : RCells) (ks : List Int) (pA : Option Addr) (pc : Nat) (hps : r.ps = .slice pA ks.length pc) (hks : ks.length ≤ 4194304) (l : List Pair) (hll : l.length ≤ 4398046511104) (A : Option Addr) (c : Nat) (w : World) (hB : B ≤ g) (hF : ∀ k, F k → k < w.heap.size)
 (h : StR F g r (tstO r.op r.arg) w) (hp : ∀ W, Oth B g w W → Sl W W.heap.size 1 pA ks.length (ks.map (Value.int .i64))) (hl : ∀ W, Oth B g w W → Sl W W.heap.size 2 A l.length (l.flatMap cellsA))
 (hL : ∀ W, Oth B g w W → LibOk W) (hT : ∀ W, Oth B g w W → TabOk W) (h1 : 1 ≤ r.op) (h2 : r.op ≤ 12) (ha : r.arg.size ≤ 1048576) (h0 : argC r.op r.arg = 0) :
 Calls Tryz.prog 33 #[.pointer (some ⟨g, 0, none⟩), .slice A l.length c] w fun e w' => e = .returned (.bool (l.any (hitX ks r.nt (tstO r.op r.arg)))) ∧ StR F g r (tstO r.op r.arg) w' ∧ Oth B g w w' := by
 have HH : Hid (∀ W s, Oth B g w W → StR F g r (tstO r.op r.arg) W → s.size ≤ 8192 → Calls Tryz.prog 57 #[.pointer (some ⟨g, 0, none⟩), .string s] W (HoldsPost B F g r (tstO r.op r.arg) s W)) := fun W s ho hs hz => by
  rcases hs with hs | hs
  · exact holds_first B F g r s W hB (fun k hk => Nat.lt_of_lt_of_le (hF k hk) ho.below.size) hs (fun W' ho' => hL W' (ho.trans ho')) h1 h2 ha h0 hz
  · exact holds_again B F g r _ s W hB hs (hL W ho) hz
 generalize tstO r.op r.arg = f at *
 have HRUN : Hid (∀ W (x : ByteArray), Oth B g w W → Calls Tryz.prog 12 #[.slice pA ks.length pc, .string x] W fun e w' => e = .returned (.tuple #[.string (bs (runT ks x.data.toList)), .int .i64 (runEP ks x.data.toList)]) ∧ Below W.heap.size W w') :=
  fun W x ho => PRun_any ks pA pc x W (hp W ho) hks (hL W ho) (hT W ho)
 have HSL := Lib.hid hl
 obtain ⟨pr, hpr⟩ : ∃ pr, hitX ks r.nt f = pr := ⟨_, rfl⟩
 have HPR : Hid (∀ x : Pair, pr x = ((runEP ks x.2.data.toList == 0) && decide ((bs (runT ks x.2.data.toList)).size ≤ 8192) && (f (bs (runT ks x.2.data.toList)) != r.nt))) := fun x => by rw [← hpr]; rfl
 rw [hpr]
 have HPS := Lib.hid hps
 clear hps hp hl hL hT h0 hpr h1 h2 ha hF
 go_enter Tryz.func33, Tryz.ntmps33
 go_wp2_with fail
 go_loopw [11] (fun v wr => MatRel B F g r f pr l w v wr) (fun v _ => l.length - (intOf v).toNat)
 case atStart => exact ⟨0, Nat.zero_le _, rfl, h, ⟨Below.refl _ _, fun _ _ _ => rfl⟩, rfl⟩
 case round =>
  obtain ⟨k, hk, rfl, hst, ho, hno⟩ := hrel
  by_cases hkl : k < l.length
  · have d1 : decide ((k : Int) < (l.length : Int)) = true := by simp; omega
    obtain ⟨b, off, rfl, hbl, a0, a1⟩ := arg_at (HSL.out wr ho) k hkl
    have HN := Lib.hid hno
    have HX := Lib.hid (HPR.out l[k])
    have HAT : Hid (∀ q, l[k] = q → (pr q = true → l.any pr = true) ∧ (pr q = false → (l.take (k + 1)).any pr = false)) := fun q hq => by
     subst hq
     exact ⟨any_hit pr l k hkl, any_next pr l k hkl hno.out⟩
    have HQ := Lib.hid (HAT.out _ rfl)
    generalize l[k] = x at *
    obtain ⟨x1, x2⟩ := x
    dsimp only at a0 a1
    clear HAT HPR HSL
    go_upto_region 4 with fail
    obtain ⟨Wb, hWb⟩ : ∃ Wb, wr.alloc (.cells #[.string x1, .string x2] 43) = Wb := ⟨_, rfl⟩
    rw [hWb]
    have hbb : Below wr.heap.size wr Wb := by rw [← hWb]; exact (Below.refl _ _).alloc (Nat.le_refl _) _
    have hz : B ≤ wr.heap.size := Nat.le_trans hB (Nat.le_of_lt hst.lt)
    have ob : Oth B g w Wb := ho.trans (Oth.of hbb hz)
    have sb := hst.next hbb
    have b1 : Wb.cell? ⟨wr.heap.size, 1, none⟩ = some (.string x2) := by rw [← hWb]; exact cell_of_row _ _ 1 _ _ _ (heap_alloc_new wr _)
    have c3 := sb.cells.1
    rw [HPS.out] at c3
    have hzb := Nat.le_trans hz hbb.size
    have HR := Lib.hid (HRUN.out Wb.drew x2 (ob.trans (Oth.drew hzb)))
    have HW := Lib.hid hWb
    have HOB := Lib.hid ob
    have HSB := Lib.hid sb
    clear hWb a0 a1 hbl ob sb hst ho hno
    go_region_held3 (fun w' => w'.cell? ⟨g, 3, none⟩ = some (.slice pA ks.length pc) ∧ w'.cell? ⟨wr.heap.size, 1, none⟩ = some (.string x2))
     (first | exact ⟨c3, b1⟩ | exact ⟨cell_kept hb8 c3, cell_kept hb8 b1⟩ | go_keep | fail "keep")
     (first | (go_at_call 12; (with_reducible refine HR.out.mono ?_); rintro e w8 ⟨rfl, hb8'⟩; have hb8 : Below Wb.heap.size Wb w8 := undrew hb8') | fail "arm")
    have HO8 : Hid (Oth B g w w8) := HOB.out.trans (Oth.of hb8 hzb)
    have HS8 : Hid (StR F g r f w8) := HSB.out.next hb8
    have HX2 : Hid (pr (x1, x2) = ((runEP ks x2.data.toList == 0) && decide ((bs (runT ks x2.data.toList)).size ≤ 8192) && (f (bs (runT ks x2.data.toList)) != r.nt))) := HX.out
    have hz8 : B ≤ w8.heap.size := Nat.le_trans hzb hb8.size
    have c4 := HS8.out.cells.2
    clear HX HR HOB HSB HW hb8' c3 b1 hbb hz hzb HRUN
    generalize runEP ks x2.data.toList = E at *
    generalize bs (runT ks x2.data.toList) = T at *
    generalize pr (x1, x2) = hit at *
    have HC : Hid (∀ W, Oth B g w W → StR F g r f W → hit = false → MatRel B F g r f pr l w (.int .i64 ((k : Int) + 1)) W) := fun W h1 h2 h3 =>
     ⟨k + 1, by omega, rfl, h2, h1, HQ.out.2 h3⟩
    have i7 : IntKind.i64.wrap ((k : Int) + 1) = (k : Int) + 1 := IntWalk.i64_in _ (by omega)
    have HOD : Hid (Oth B g w w8.drew) := HO8.out.trans (Oth.drew hz8)
    have HSD : Hid (StR F g r f w8.drew) := HS8.out.next (Below.refl _ _).drew
    cases hE : (E == 0) with
    | false =>
     have HF : Hid (hit = false) := by unfold Hid; rw [HX2.out, hE]; rfl
     clear HX2 HH
     go_wp2_with fail
     go_region
     go_wp2_with fail
     exact ⟨HC.out _ HOD.out HSD.out HF.out, by dsimp only [intOf]; omega⟩
    | true =>
     by_cases hT : T.size ≤ 8192
     · have d2 : decide ((T.size : Int) ≤ 8192) = true := by simp; omega
       have HHC := Lib.hid (HH.out w8.drew T HOD.out HSD.out hT)
       have HX3 : Hid (hit = (f T != r.nt)) := by unfold Hid; rw [HX2.out, hE, decide_eq_true hT]; rfl
       clear HX2 HH
       go_wp2_with fail
       go_region_held3 (fun w' => w'.cell? ⟨g, 4, none⟩ = some (.bool r.nt))
        (first | exact c4 | exact c49 | go_keep | fail "keep")
        (first | (go_at_call 57; (with_reducible refine HHC.out.mono ?_); rintro e w9 ⟨rfl, hrd, ho9⟩; have c49 := hrd.cells.2; have HRD := Lib.hid hrd; have HO9 := Lib.hid ho9; clear hrd ho9) | fail "arm")
       generalize f T = v1 at *
       generalize r.nt = v2 at *
       cases v1 <;> cases v2
       · have HF : Hid (hit = false) := HX3.out
         clear HX3
         go_wp2_with fail
         exact ⟨HC.out _ (HOD.out.trans HO9.out) (.inr HRD.out) HF.out, by dsimp only [intOf]; omega⟩
       · have HA : Hid (l.any pr = true) := HQ.out.1 HX3.out
         clear HX3
         go_wp2_with fail
         go_ret
         exact ⟨by rw [HA.out]; rfl, .inr HRD.out, HOD.out.trans HO9.out⟩
       · have HA : Hid (l.any pr = true) := HQ.out.1 HX3.out
         clear HX3
         go_wp2_with fail
         go_ret
         exact ⟨by rw [HA.out]; rfl, .inr HRD.out, HOD.out.trans HO9.out⟩
       · have HF : Hid (hit = false) := HX3.out
         clear HX3
         go_wp2_with fail
         exact ⟨HC.out _ (HOD.out.trans HO9.out) (.inr HRD.out) HF.out, by dsimp only [intOf]; omega⟩
     · have d2 : decide ((T.size : Int) ≤ 8192) = false := by simp; omega
       have HF : Hid (hit = false) := by unfold Hid; rw [HX2.out, decide_eq_false hT, Bool.and_false, Bool.false_and]
       clear HX2 HH
       go_wp2_with fail
       go_region
       go_wp2_with fail
       exact ⟨HC.out _ HOD.out HSD.out HF.out, by dsimp only [intOf]; omega⟩
  · obtain rfl : k = l.length := by omega
    have d1 : decide ((l.length : Int) < (l.length : Int)) = false := by simp
    have HF : Hid (l.any pr = false) := by have := hno.out; rw [List.take_length] at this; exact this
    go_wp2_with fail
    go_ret
    exact ⟨by rw [HF.out]; rfl, hst, ho⟩
end Go.Proofs.YthfjmlcjkbgboaaGreatDoor
namespace Go.Proofs.YthfjmlcjkbgboaaGreatDoor
open Go.RowKit
theorem part_le {H : Type} : ∀ {l : List (DataW H)} {d : DataW H}, d ∈ l → Rows.uptoBulk d ≤ Rows.uptoBulkAll l
 | [], _, h => by cases h
 | x :: r, d, h => by
  rw [Rows.uptoBulkAll]
  rcases List.mem_cons.1 h with rfl | h
  · omega
  · have := part_le h; omega
theorem bulk_pos {H : Type} (d : DataW H) : 1 ≤ Rows.uptoBulk d := by
 cases d with
 | lit x => cases x <;> simp [Rows.uptoBulk]
 | _ => simp [Rows.uptoBulk]
theorem bulk_count {H : Type} : ∀ l : List (DataW H), l.length ≤ Rows.uptoBulkAll l
 | [] => by simp [Rows.uptoBulkAll]
 | x :: r => by
  have h1 := bulk_pos x
  have h2 := bulk_count r
  rw [Rows.uptoBulkAll, List.length_cons]
  omega
theorem slice_bulk {H : Type} {l sp : List (DataW H)} : l.length + 1 ≤ Rows.uptoBulk (.slice l sp) := by
 have := bulk_count l
 rw [Rows.uptoBulk]
 omega
end Go.Proofs.YthfjmlcjkbgboaaGreatDoor
namespace Go.Proofs.YthfjmlcjkbgboaaGreatDoor
open Go.RowKit
structure RuVar where
 k : Int
 m : Int
 n : ByteArray
structure RuAct where
 k : Int
 n : Int
structure RuOne where
 id : Int
 phase : Int
 vars : List RuVar
 pipe : List Int
 no : Bool
 op : Int
 arg : ByteArray
 acts : List RuAct
 chain : Bool
structure RuSet where
 most : Int
 status : Int
 list : List RuOne
def varWs : List (List UInt8) := [[], [109, 101, 116, 104, 111, 100], [116, 97, 114, 103, 101, 116], [112, 97, 116, 104], [113, 117, 101, 114, 121], [98, 111, 100, 121], [97, 114, 103, 115], [97, 114, 103, 110, 97, 109, 101, 115], [102, 105, 101, 108, 100, 115], [102, 105, 101, 108, 100, 110, 97, 109, 101, 115], [99, 111, 111, 107, 105, 101, 115], [99, 108, 105, 101, 110, 116], [115, 99, 111, 114, 101]]
def opWs : List (List UInt8) := [[], [114, 120], [112, 104, 114, 97, 115, 101], [105, 115], [104, 97, 115], [98, 101, 103, 105, 110, 115], [101, 110, 100, 115], [103, 116], [108, 116], [101, 113], [110, 101, 116], [114, 97, 110, 103, 101], [97, 110, 121]]
def actWs : List (List UInt8) := [[], [112, 97, 115, 115], [100, 101, 110, 121], [115, 99, 111, 114, 101], [115, 107, 105, 112], [97, 108, 108, 111, 119]]
def ruleW : List UInt8 := [114, 117, 108, 101]
def chainW : List UInt8 := [99, 104, 97, 105, 110]
def scoreW : List UInt8 := [115, 99, 111, 114, 101]
def placeL (ws : List (List UInt8)) (n : Nat) (w : List UInt8) : Int := match (List.range n).find? (fun i => ws.getD (i + 1) [] == w) with
 | some i => (i : Int) + 1
 | none => 0
def nameB (b : UInt8) : Bool := (decide (97 ≤ b.toNat) && decide (b.toNat ≤ 122)) || (decide (48 ≤ b.toNat) && decide (b.toNat ≤ 57)) || b == 45 || b == 95
def namedL (l : List UInt8) : Bool := l.all nameB && decide (1 ≤ l.length) && decide (l.length ≤ 20)
def ofK (k : Int) : Bool := k == 6 || k == 8 || k == 10
def varC (v : RuVar) : Int := if v.k < 1 ∨ 12 < v.k ∨ v.m < 0 ∨ 2 < v.m ∨ (v.n.data.toList ≠ [] ∧ (ofK v.k && namedL v.n.data.toList) = false) then 1 else 0
def loA (k : Int) : Int := if k = 2 then 400 else if k = 3 ∨ k = 4 then 1 else 0
def hiA (k : Int) : Int := if k = 2 then 599 else if k = 3 then 1000 else if k = 4 then 9 else 0
def actC (a : RuAct) : Int := if a.k < 1 ∨ 5 < a.k ∨ a.n < loA a.k ∨ hiA a.k < a.n then 1 else 0
def firstC {α : Type} (f : α → Int) : List α → Int
 | [] => 0
 | x :: r => if f x ≠ 0 then f x else firstC f r
def oneC (argC : Int → ByteArray → Int) (x : RuOne) : Int :=
 if 8 < x.vars.length ∨ 6 < x.acts.length then 2 else if x.vars.length = 0 ∨ x.acts.length = 0 then 1 else if firstC varC x.vars ≠ 0 then firstC varC x.vars else
 if checkP x.pipe ≠ 0 then checkP x.pipe else if x.op < 1 ∨ 12 < x.op then 1 else if argC x.op x.arg ≠ 0 then argC x.op x.arg else firstC actC x.acts
def goC (argC : Int → ByteArray → Int) : List RuOne → List RuOne → Int
 | _, [] => 0
 | done, x :: r => if x.id < 1 ∨ 9999 < x.id ∨ (x.phase ≠ 1 ∧ x.phase ≠ 2) then 1 else if done.any (fun y => y.id == x.id) = true then 9 else if oneC argC x ≠ 0 then oneC argC x else goC argC (done ++ [x]) r
def chainC : List RuOne → Int
 | [] => 0
 | [x] => if x.chain = true then 1 else 0
 | x :: y :: r => if x.chain = true ∧ y.phase ≠ x.phase then 1 else chainC (y :: r)
def checkR (argC : Int → ByteArray → Int) (r : RuSet) : Int :=
 if r.most < 1 ∨ 1000000 < r.most ∨ r.status < 400 ∨ 599 < r.status then 1 else if 40 < r.list.length then 2 else if goC argC [] r.list ≠ 0 then goC argC [] r.list else chainC r.list
structure OneOk (x : RuOne) : Prop where
 id1 : 1 ≤ x.id
 id2 : x.id ≤ 9999
 ph1 : 1 ≤ x.phase
 ph2 : x.phase ≤ 2
 vars : ∀ v ∈ x.vars, varC v = 0
 some : x.vars ≠ []
 pipe : checkP x.pipe = 0
 op1 : 1 ≤ x.op
 op2 : x.op ≤ 12
 acts : ∀ a ∈ x.acts, actC a = 0
 one : x.acts ≠ []
def modeOf : List UInt8 → Int × List UInt8
 | 35 :: t => (1, t)
 | 33 :: t => (2, t)
 | s => (0, s)
def varR (s : List UInt8) : Option RuVar :=
 let c := Lib.cut (modeOf s).2 [58]
 if 0 < placeL varWs 12 c.1 ∧ (c.2.2 = true ↔ c.2.1 ≠ []) then some ⟨placeL varWs 12 c.1, (modeOf s).1, bs c.2.1⟩ else none
def actN (s : List UInt8) : Int := if (Lib.cut s [58]).2.2 = true then numB 999999999 (Lib.cut s [58]).2.1 else 0
def actR (s : List UInt8) : Option RuAct :=
 if 0 < placeL actWs 5 (Lib.cut s [58]).1 ∧ ((Lib.cut s [58]).2.2 = true ↔ 0 < actN s) then some ⟨placeL actWs 5 (Lib.cut s [58]).1, actN s⟩ else none
def allO {α β : Type} (f : α → Option β) : List α → Option (List β)
 | [] => some []
 | x :: r => match f x, allO f r with
  | some y, some l => some (y :: l)
  | _, _ => none
def opR : List UInt8 → Bool × Int
 | 33 :: t => (true, placeL opWs 12 t)
 | w => (false, placeL opWs 12 w)
structure RuleIs (ws : List (List UInt8)) (x : RuOne) : Prop where
 len : ws.length = 8
 word : ws.getD 0 [] = (if x.chain then chainW else ruleW)
 id : numB 999999999 (ws.getD 1 []) = x.id
 id0 : 0 ≤ x.id
 phase : numB 999999999 (ws.getD 2 []) = x.phase
 phase0 : 0 ≤ x.phase
 vars : allO varR (splL 44 (ws.getD 3 [])) = some x.vars
 pipe : ParseIs (ws.getD 4 []) x.pipe
 op : opR (ws.getD 5 []) = (x.no, x.op)
 op0 : x.op ≠ 0
 arg : unquoteL (ws.getD 6 []) = some x.arg.data.toList
 acts : allO actR (splL 44 (ws.getD 7 [])) = some x.acts
structure HeadIs (ws : List (List UInt8)) (r : RuSet) : Prop where
 len : ws.length = 3
 word : ws.getD 0 [] = scoreW
 most : numB 999999999 (ws.getD 1 []) = r.most
 most0 : 0 ≤ r.most
 status : numB 999999999 (ws.getD 2 []) = r.status
 status0 : 0 ≤ r.status
end Go.Proofs.YthfjmlcjkbgboaaGreatDoor
