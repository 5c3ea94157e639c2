/- Part 32 of the proof: lemmas and walks that the last texts use. -/
import Derived.Test.YtdkbfljhfhjofaaGreatDoorM01
import Derived.Test.YtdkbfljhfhjofaaGreatDoorM02
import Derived.Test.YtdkbfljhfhjofaaGreatDoorM07
import Derived.Test.YtdkbfljhfhjofaaGreatDoorM28
import Derived.Test.YtdkbfljhfhjofaaGreatDoorM31
import Derived.Shelf.GgClosure.Gives
import Derived.Lib.SliceRun
namespace Go.Proofs.YtdkbfljhfhjofaaGreatDoor
open Go.RowKit
theorem ponly_low {a w w' : World} {row : Option Nat} (h : a.grownBy w row) (hb : Below a.heap.size w w') : a.grownBy w' row :=
  ⟨hb.os.trans h.os, hb.tape.trans h.tape, hb.output.trans h.output, Nat.le_trans h.size hb.size, fun i hi hne => (hb.block i hi).trans (h.block i hi hne)⟩
/-- The words at a node ahead of the sort. -/
def accN (ws : List (List UInt8)) (e : List Nat) (ats : List Nat) (i k : Nat) : List Nat := e ++ (List.range k).filter fun j => decide (ats.getD j 0 = i ∧ 0 < i ∧ j < ws.length)
theorem accN_snoc (ws : List (List UInt8)) (e : List Nat) (ats : List Nat) (i k : Nat) (hk : k < ws.length) : accN ws e ats i (k + 1) = if ats.getD k 0 = i ∧ 0 < i then accN ws e ats i k ++ [k] else accN ws e ats i k := by
  unfold accN
  rw [List.range_succ, List.filter_append, ← List.append_assoc]
  by_cases h : ats.getD k 0 = i ∧ 0 < i
  · rw [if_pos h, List.filter_cons, if_pos (by simp only [decide_eq_true_eq]; exact ⟨h.1, h.2, hk⟩)]; rfl
  · rw [if_neg h, List.filter_cons, if_neg (by simp only [decide_eq_true_eq]; exact fun h2 => h ⟨h2.1, h2.2.1⟩), List.filter_nil, List.append_nil]
theorem ends_root {ws : List (List UInt8)} (h : ∀ w ∈ ws, w ≠ []) : endsOf ws [] = [] := by
  unfold endsOf
  rw [List.filter_eq_nil_iff]
  intro k hk
  rw [List.mem_range] at hk
  simp only [decide_eq_true_eq, List.suffix_nil]
  have : ws.getD k [] ∈ ws := by rw [List.getD_eq_getElem?_getD, List.getElem?_eq_getElem hk]; exact List.getElem_mem hk
  exact h _ this
theorem ends_node {ws ss : List (List UInt8)} {ns : List NodeP} {ats : List Nat} {n i : Nat} {x : NodeP} (hl : Lev ws n ns ss) (hw : ∀ w ∈ ws, w.length ≤ n) (ha : AtOk ws n ss ats) (h0 : 0 < i) (hx : ns[i]? = some x) :
    sortN (accN ws (endsOf ws (ss.getD x.fail [])) ats i ws.length) = endsOf ws (ss.getD i []) := by
  obtain ⟨s, hs⟩ : ∃ s, ss[i]? = some s := ⟨_, List.getElem?_eq_getElem (by rw [← hl.inv.len]; exact (List.getElem?_eq_some_iff.1 hx).1)⟩
  obtain ⟨hf, f, hf1, hf2⟩ := hl.inv.fail_at h0 hx hs
  have e1 : ss.getD i [] = s := by rw [List.getD_eq_getElem?_getD, hs]; rfl
  have e2 : ss.getD x.fail [] = f := by rw [List.getD_eq_getElem?_getD, hf1]; rfl
  rw [e1, e2]
  have hwl : ∀ k, k < ws.length → (ws.getD k []).take n = ws.getD k [] := fun k hk => by
    have : ws.getD k [] ∈ ws := by rw [List.getD_eq_getElem?_getD, List.getElem?_eq_getElem hk]; exact List.getElem_mem hk
    exact List.take_of_length_le (hw _ this)
  have hat : ∀ k, k < ws.length → (ats.getD k 0 = i ↔ ws.getD k [] = s) := fun k hk => by
    have := ha.str k hk
    rw [hwl k hk] at this
    constructor
    · intro e; rw [e, hs] at this; exact (Option.some.inj this).symm
    · intro e; rw [e] at this; exact hl.inv.inj this hs
  have hmem : ∀ k, k ∈ accN ws (endsOf ws f) ats i ws.length ↔ k ∈ endsOf ws f ∨ (k < ws.length ∧ ws.getD k [] = s) := fun k => by
    unfold accN
    rw [List.mem_append, List.mem_filter, List.mem_range, decide_eq_true_eq]
    refine or_congr_right ⟨fun ⟨h1, h2, _, _⟩ => ⟨h1, (hat k h1).1 h2⟩, fun ⟨h1, h2⟩ => ⟨h1, (hat k h1).2 h2, h0, h1⟩⟩
  have hnod : (accN ws (endsOf ws f) ats i ws.length).Nodup := by
    unfold accN
    rw [List.nodup_append]
    refine ⟨(endsOf_sorted ws f).imp fun h => Nat.ne_of_lt h, List.nodup_range.sublist List.filter_sublist, fun a h1 b h2 e => ?_⟩
    subst e
    rw [List.mem_filter, List.mem_range, decide_eq_true_eq] at h2
    have h3 := (mem_endsOf.1 h1).2
    rw [(hat a h2.1).1 h2.2.1] at h3
    exact hf2.2.2.1 (suffix_eq hf2.2.1 h3.length_le)
  refine sorted_ext (sortN_sorted hnod) (endsOf_sorted ws s) fun k => ?_
  rw [(sortN_perm _).mem_iff, hmem, mem_ends_fail (Lev.words hl hw) hf2]
/-- The nodes so far: the first i have their words. -/
structure NodesAt (ws ss : List (List UInt8)) (ns : List NodeP) (B lo g cap : Nat) (i : Nat) (ms : List NodeM) (w : World) : Prop where
  own : OwnG rowN w B (.slice (some ⟨g, 0, none⟩) ms.length cap) ms
  fst : ms.map Prod.fst = ns
  done : ∀ j m, j < i → ms[j]? = some m → EndsAt w lo m.2 (endsOf ws (ss.getD j []))
  rest : ∀ j m, i ≤ j → ms[j]? = some m → m.2 = (none, 0, 0)
theorem EndsAt.lower {w : World} {lo lo' : Nat} {s : SlT} {l : List Nat} (h : EndsAt w lo s l) (hl : lo' ≤ lo) : EndsAt w lo' s l := by
  refine ⟨h.1, fun h0 => ?_⟩
  obtain ⟨g, e, h1, h2⟩ := h.2 h0
  exact ⟨g, e, by omega, h2⟩
/-- The node at hand while its words come. -/
structure NodeNow (ms : List NodeM) (B g cap i : Nat) (w0 : World) (acc : List Nat) (s : SlT) (w : World) : Prop where
  row : OwnG rowI w w0.heap.size (slV s) acc
  own : OwnG rowN w B (.slice (some ⟨g, 0, none⟩) ms.length cap) (ms.set i ((ms.getD i (⟨0, 0, 0⟩, none, 0, 0)).1, s))
  only : w0.grownBy w (some g)
theorem NodesAt.next {ws ss : List (List UInt8)} {ns : List NodeP} {B lo g cap i : Nat} {ms : List NodeM} {w0 w w' : World} {s : SlT} {e : List Nat} (h : NodesAt ws ss ns B lo g cap i ms w0) (hi : i < ms.length) (hlo : lo ≤ w0.heap.size) (hg : g < lo)
    (ho : OwnG rowN w B (.slice (some ⟨g, 0, none⟩) ms.length cap) (ms.set i ((ms.getD i (⟨0, 0, 0⟩, none, 0, 0)).1, s))) (hw : w0.grownBy w (some g)) (he : EndsAt w' w0.heap.size s e) (hx : e = endsOf ws (ss.getD i [])) {g' : Nat} (hg' : w.grownBy w' (some g')) (hor : w0.heap.size ≤ g' ∨ w' = w) :
    NodesAt ws ss ns B lo g cap (i + 1) (ms.set i ((ms.getD i (⟨0, 0, 0⟩, none, 0, 0)).1, s)) w' ∧ w0.grownBy w' (some g) := by
  have hkeep : ∀ j, j < w0.heap.size → w'.heap[j]? = w.heap[j]? := fun j hj => by
    rcases hor with c | rfl
    · exact hg'.block j (Nat.lt_of_lt_of_le hj hw.size) (fun e => by injection e with e; omega)
    · rfl
  have hz : w.heap.size ≤ w'.heap.size := hg'.size
  have hgd : ms.getD i (⟨0, 0, 0⟩, none, 0, 0) = ms[i] := by rw [List.getD_eq_getElem?_getD, List.getElem?_eq_getElem hi]; rfl
  refine ⟨⟨?_, ?_, fun j m hj hm => ?_, fun j m hj hm => ?_⟩, ⟨hg'.os.trans hw.os, hg'.tape.trans hw.tape, hg'.output.trans hw.output, Nat.le_trans hw.size hz, fun j hj hne => (hkeep j hj).trans (hw.block j hj hne)⟩⟩
  · rw [List.length_set]
    exact ho.keep fun j e => hkeep j (by have e : g = j := Option.some.inj e; omega)
  · rw [List.map_set, h.fst, hgd]
    have : ns[i]? = some ms[i].1 := by rw [← h.fst, List.getElem?_map, List.getElem?_eq_getElem hi]; rfl
    refine List.ext_getElem? fun j => ?_
    by_cases c : i = j
    · subst c
      rw [List.getElem?_set_self (by rw [← h.fst, List.length_map]; exact hi), this]
    · rw [List.getElem?_set_ne c]
  · by_cases c : i = j
    · subst c
      rw [List.getElem?_set_self hi] at hm
      rw [← Option.some.inj hm, ← hx]
      exact he.lower hlo
    · rw [List.getElem?_set_ne c] at hm
      have h1 := h.done j m (by omega) hm
      exact h1.keep (Nat.le_trans hw.size hz) fun k hk hk2 => (hkeep k hk2).trans (hw.block k hk2 fun e => by injection e with e; omega)
  · rw [List.getElem?_set_ne (by omega)] at hm
    exact h.rest j m (by omega) hm
/-- A word more. -/
theorem NodeNow.add {ms : List NodeM} {B g cap i : Nat} {w0 w w4 : World} {acc : List Nat} {s : SlT} (h : NodeNow ms B g cap i w0 acc s w) (hi : i < ms.length) (hg : g < w0.heap.size) {k g4 c4 : Nat} (ho : OwnG rowI w4 w0.heap.size (.slice (some ⟨g4, 0, none⟩) (acc ++ [k]).length c4) (acc ++ [k])) (hb : Below w0.heap.size w w4) :
    NodeNow ms B g cap i w0 (acc ++ [k]) (some ⟨g4, 0, none⟩, acc.length + 1, c4) (w4.setCell ⟨g, i * 4 + 3, none⟩ (.slice (some ⟨g4, 0, none⟩) (acc.length + 1) c4)) := by
  have hl : (acc ++ [k]).length = acc.length + 1 := by simp
  rw [hl] at ho
  have hg4 := (ho.lt g4 rfl).1
  have h1 : OwnG rowN w4 B (.slice (some ⟨g, 0, none⟩) ms.length cap) (ms.set i ((ms.getD i (⟨0, 0, 0⟩, none, 0, 0)).1, s)) := h.own.keep fun j e => hb.block j (by have e : g = j := Option.some.inj e; omega)
  have hlen : (ms.set i ((ms.getD i (⟨0, 0, 0⟩, none, 0, 0)).1, s)).length = ms.length := List.length_set ..
  rw [← hlen] at h1
  have h2 := h1.stored i (by rw [hlen]; exact hi) 3 (by decide) (.slice (some ⟨g4, 0, none⟩) (acc.length + 1) c4) ((ms.getD i (⟨0, 0, 0⟩, none, 0, 0)).1, some ⟨g4, 0, none⟩, acc.length + 1, c4) (by rw [List.getElem_set_self]; rfl)
  refine ⟨?_, ?_, ?_⟩
  · exact ho.keep fun j e => Below.heap_setCell w4 ⟨g, i * 4 + 3, none⟩ _ j fun e2 => by injection e with e; rw [← e] at e2; have : g4 = g := e2; omega
  · have h3 := h2.1
    rw [List.set_set, hlen] at h3
    exact h3
  · exact only_setCell (ponly_low h.only hb) _ _
/-- The start: the words of the failure. -/
theorem NodeNow.start {ws ss : List (List UInt8)} {ns : List NodeP} {B lo g cap i : Nat} {ms : List NodeM} {w0 w4 : World} {s : SlT} {acc : List Nat} (h : NodesAt ws ss ns B lo g cap i ms w0) (hi : i < ms.length) (hg : g < w0.heap.size) (ho : OwnG rowI w4 w0.heap.size (slV s) acc) (hb : Below w0.heap.size w0 w4) :
    NodeNow ms B g cap i w0 acc s (w4.setCell ⟨g, i * 4 + 3, none⟩ (slV s)) := by
  have h1 : OwnG rowN w4 B (.slice (some ⟨g, 0, none⟩) ms.length cap) ms := h.own.keep fun j e => hb.block j (by have e : g = j := Option.some.inj e; omega)
  have hgd : ms.getD i (⟨0, 0, 0⟩, none, 0, 0) = ms[i] := by rw [List.getD_eq_getElem?_getD, List.getElem?_eq_getElem hi]; rfl
  have h2 := h1.stored i hi 3 (by decide) (slV s) ((ms.getD i (⟨0, 0, 0⟩, none, 0, 0)).1, s) (by rw [hgd]; rfl)
  refine ⟨?_, h2.1, only_setCell ⟨hb.os, hb.tape, hb.output, hb.size, fun j hj _ => hb.block j hj⟩ _ _⟩
  exact ho.keep fun j e => Below.heap_setCell w4 ⟨g, i * 4 + 3, none⟩ _ j fun e2 => by
    have := (ho.lt j e).1
    have e3 : j = g := e2
    omega
end Go.Proofs.YtdkbfljhfhjofaaGreatDoor
namespace Go.Proofs.YtdkbfljhfhjofaaGreatDoor
open Go.RowKit
theorem srcS {wr : World} {B n : Nat} {A : Option Addr} {xs : List Value} {a0 : Nat → Value} (h : Sl wr B 1 A n xs) {j : Nat} (hj : j < n) (hx : ∀ j, j < n → xs[j]? = some (a0 j)) :
    ∃ b off, A = some ⟨b, off, none⟩ ∧ wr.cell? ⟨b, off + j, none⟩ = some (a0 j) := by
  have hl := h.len
  obtain ⟨b, off, e, _, hc⟩ := h.src (by omega)
  have hq := hx j hj
  have hat : ∀ i v, xs[i]? = some v → wr.cell? ⟨b, off + i, none⟩ = some v := fun i v hv => by
    have hi : i < xs.length := (List.getElem?_eq_some_iff.1 hv).1
    rw [hc i hi, ← hv, List.getElem?_eq_getElem hi]
  exact ⟨b, off, e, hat _ _ hq⟩
set_option maxRecDepth 100000 in
set_option maxHeartbeats 800000 in
theorem IdxFS_any (g : Nat) (lb : Array Value) (eg : ∀ args w, (callFunc g args).run Tryz.prog w = .ok (.enter g args) w) (A : Option Addr) (n c : Nat) (xs : List Value) (a0 : Nat → Value) (p : Nat → Bool) (w : World)
    (h : Sl w w.heap.size 1 A n xs) (hbig : n ≤ 9223372036854775807) (hx : ∀ j, j < n → xs[j]? = some (a0 j))
    (hp : ∀ W j, j < n → Below w.heap.size w W → Calls Tryz.prog g (#[a0 j] ++ lb) W (BoolPost (p j) W)) :
    Calls Tryz.prog 204 #[.slice A n c, .func (.func g) #[] lb] w fun e w' => e = .returned (.int .i64 (hitI p n)) ∧ Below w.heap.size w w' := by
  have HP := Lib.hid hp
  have HX := Lib.hid hx
  clear hp hx
  go_enter Tryz.func204, Tryz.ntmps204
  go_wp2_with fail
  go_loopw [5, 8] (fun _ i wr => ∃ j : Nat, j ≤ n ∧ i = .int .i64 j ∧ Below w.heap.size w wr ∧ Hid (∀ i, i < j → p i = false)) (fun _ i _ => n - (intOf i).toNat)
  case atStart => exact ⟨0, Nat.zero_le _, rfl, Below.refl _ _, fun i hi => absurd hi (by omega)⟩
  case round =>
    obtain ⟨j, hj, rfl, hb, hno⟩ := hrel
    by_cases hlt : j < n
    · obtain ⟨b, off, rfl, hc0⟩ := srcS (h.below hb) hlt HX.out
      have hc := HP.out wr j hlt hb
      cases hq : p j with
      | true =>
        rw [hq] at hc
        have HIT := Lib.hid (hit_at p n j hlt hq hno)
        clear hq
        go_wp2_with (go_at_fn g; refine hc.mono ?_; rintro e w' ⟨rfl, hb1⟩)
        go_ret
        exact ⟨ret_int HIT.out.symm, hb.trans (hb1.mono hb.size)⟩
      | false =>
        rw [hq] at hc
        have hno2 : Hid (∀ i, i < j + 1 → p i = false) := fun i hi => by
          by_cases e : i = j
          · rw [e]; exact hq
          · exact hno i (by omega)
        clear hq hno
        go_wp2_with (go_at_fn g; refine hc.mono ?_; rintro e w' ⟨rfl, hb1⟩)
        go_roundw
        case rel => exact ⟨j + 1, by omega, by go_num, hb.trans (hb1.mono hb.size), hno2⟩
        case measure => simp [intOf] <;> omega
    · obtain rfl : j = n := by omega
      have HIT := Lib.hid (hit_none p j hno)
      go_wp2_with fail
      go_ret
      exact ⟨ret_int HIT.out.symm, hb⟩
set_option maxRecDepth 100000 in
theorem ContFS_any (g : Nat) (lb : Array Value) (eg : ∀ args w, (callFunc g args).run Tryz.prog w = .ok (.enter g args) w) (A : Option Addr) (n c : Nat) (xs : List Value) (a0 : Nat → Value) (p : Nat → Bool) (w : World)
    (h : Sl w w.heap.size 1 A n xs) (hbig : n ≤ 9223372036854775807) (hx : ∀ j, j < n → xs[j]? = some (a0 j))
    (hp : ∀ W j, j < n → Below w.heap.size w W → Calls Tryz.prog g (#[a0 j] ++ lb) W (BoolPost (p j) W)) :
    Calls Tryz.prog 171 #[.slice A n c, .func (.func g) #[] lb] w (BoolPost (anyN p n) w) := by
  have HC := Lib.hid (IdxFS_any g lb eg A n c xs a0 p w h hbig hx hp)
  have HA := Lib.hid (hit_any p n)
  clear hp hx h
  go_enter Tryz.func171, Tryz.ntmps171
  go_wp2_with fail
  refine HC.out.mono ?_
  rintro e w1 ⟨rfl, hb⟩
  go_wp2_with fail
  go_ret
  exact ⟨ret_bool HA.out, hb⟩
end Go.Proofs.YtdkbfljhfhjofaaGreatDoor
namespace Go.Proofs.YtdkbfljhfhjofaaGreatDoor
open Go.RowKit
theorem longW (s : ByteArray) (W : World) : Calls Tryz.prog 172 #[.string s] W (BoolPost (decide (40 < s.size)) W) := by
  by_cases h : 40 < s.size
  · have e : decide (40 < s.size) = true := decide_eq_true h
    rw [e]
    clear e
    go_enter Tryz.func172, Tryz.ntmps172
    go_wp2_with fail
    go_ret
    exact ⟨by simp; omega, Below.refl _ _⟩
  · have e : decide (40 < s.size) = false := decide_eq_false h
    rw [e]
    clear e
    go_enter Tryz.func172, Tryz.ntmps172
    go_wp2_with fail
    go_ret
    exact ⟨by simp; omega, Below.refl _ _⟩
def codeW (ws : List ByteArray) : Nat :=
  if 30 < ws.length then 2 else if anyN (fun j => decide (40 < (ws.getD j ByteArray.empty).size)) ws.length then 2 else if ws.length = 0 then 1 else if Lib.containsS ws ByteArray.empty then 1 else 0
theorem check_calls (A : Option Addr) (c n : Nat) (ws : List ByteArray) (w : World) (hn : ws.length = n) (h : Sl w w.heap.size 1 A n (ws.map Value.string)) :
    Calls Tryz.prog 130 #[.slice A n c] w fun e w' => e = .returned (.int .i64 (codeW ws : Nat)) ∧ Below w.heap.size w w' := by
  by_cases h30 : 30 < n
  · have HC : Hid (codeW ws = 2) := by unfold codeW; rw [if_pos (by omega)]; exact Lib.hid rfl
    clear h
    go_enter Tryz.func130, Tryz.ntmps130
    go_wp2_with fail
    go_ret
    exact ⟨by rw [HC.out]; rfl, Below.refl _ _⟩
  · have hx : ∀ j, j < n → (ws.map Value.string)[j]? = some (.string (ws.getD j ByteArray.empty)) := fun j hj => by
      rw [List.getElem?_map, List.getD_eq_getElem?_getD, List.getElem?_eq_getElem (by omega)]; rfl
    have HC := Lib.hid (ContFS_any 172 #[] (enters_of Tryz.func172 (by kernel_rfl) rfl) A n c (ws.map Value.string) (fun j => .string (ws.getD j ByteArray.empty)) (fun j => decide (40 < (ws.getD j ByteArray.empty).size)) w h (by omega) hx (fun W j _ _ => longW _ W))
    by_cases hlong : anyN (fun j => decide (40 < (ws.getD j ByteArray.empty).size)) n = true
    · have HV : Hid (codeW ws = 2) := by unfold codeW; rw [hn, if_neg h30, if_pos hlong]; exact Lib.hid rfl
      rw [hlong] at HC
      clear h hx hlong
      go_enter Tryz.func130, Tryz.ntmps130
      go_wp2_with (go_at_call 171; refine HC.out.mono ?_; rintro e w1 ⟨rfl, hb⟩)
      go_ret
      exact ⟨by rw [HV.out]; rfl, hb⟩
    · have hl : anyN (fun j => decide (40 < (ws.getD j ByteArray.empty).size)) n = false := by simpa using hlong
      rw [hl] at HC
      by_cases h0 : n = 0
      · have HV : Hid (codeW ws = 1) := by unfold codeW; rw [hn, if_neg h30, if_neg hlong, if_pos h0]; exact Lib.hid rfl
        subst h0
        clear h hx hlong hl
        go_enter Tryz.func130, Tryz.ntmps130
        go_wp2_with (go_at_call 171; refine HC.out.mono ?_; rintro e w1 ⟨rfl, hb⟩)
        go_ret
        exact ⟨by rw [HV.out]; rfl, hb⟩
      · have HE : Hid (∀ w1, Below w.heap.size w w1 → Calls Tryz.prog 173 #[.slice A n c, .string ByteArray.empty] w1 fun e w' => e = .returned (.bool (Lib.containsS ws ByteArray.empty)) ∧ w' = w1) := Lib.hid fun w1 hb => by
          obtain ⟨b, off, rfl, _, hc⟩ := (h.below hb).src (by rw [List.length_map]; omega)
          have := Tryz.slices_Contains_string b off n c ws ByteArray.empty w1 (by omega) (by omega) (fun j hj => by
            rw [hc j (by rw [List.length_map]; omega), List.getElem_map, List.getD_eq_getElem?_getD, List.getElem?_eq_getElem hj]; rfl)
          rw [List.take_of_length_le (by omega)] at this
          exact this
        have HV : Hid (codeW ws = if Lib.containsS ws ByteArray.empty then 1 else 0) := by unfold codeW; rw [hn, if_neg h30, if_neg hlong, if_neg h0]; exact Lib.hid rfl
        clear h hx hlong hl
        generalize hq : Lib.containsS ws ByteArray.empty = q at HE HV
        clear hq
        cases q
        · go_enter Tryz.func130, Tryz.ntmps130
          go_wp2_with (first | (go_at_call 171; refine HC.out.mono ?_; rintro e w1 ⟨rfl, hb⟩) | (go_at_call 173; refine (HE.out _ hb).mono ?_; rintro e w2 ⟨rfl, rfl⟩))
          go_ret
          exact ⟨by rw [HV.out]; rfl, hb⟩
        · go_enter Tryz.func130, Tryz.ntmps130
          go_wp2_with (first | (go_at_call 171; refine HC.out.mono ?_; rintro e w1 ⟨rfl, hb⟩) | (go_at_call 173; refine (HE.out _ hb).mono ?_; rintro e w2 ⟨rfl, rfl⟩))
          go_ret
          exact ⟨by rw [HV.out]; rfl, hb⟩
end Go.Proofs.YtdkbfljhfhjofaaGreatDoor
namespace Go.Proofs.YtdkbfljhfhjofaaGreatDoor
open Go.RowKit
theorem make_refused (A : Option Addr) (c n : Nat) (ws : List ByteArray) (w : World) (hn : ws.length = n) (h : Sl w w.heap.size 1 A n (ws.map Value.string)) (h0 : codeW ws ≠ 0) :
    Calls Tryz.prog 92 #[.slice A n c] w fun e w' => e = .returned (.tuple #[.slice none 0 0, .int .i64 (codeW ws : Nat)]) ∧ Below w.heap.size w w' := by
  have HC := Lib.hid (check_calls A c n ws w hn h)
  generalize codeW ws = r at *
  clear h
  go_enter Tryz.func92, Tryz.ntmps92
  go_wp2_with (go_at_call 130; refine HC.out.mono ?_; rintro e w1 ⟨rfl, hb⟩)
  go_ret2
  exact ⟨rfl, hb⟩
end Go.Proofs.YtdkbfljhfhjofaaGreatDoor
namespace Go.Proofs.YtdkbfljhfhjofaaGreatDoor
open Go.RowKit
theorem info_I : (Tryz.prog.info? 3).map (fun i => (i.zero, i.size, i.bytes)) = some (some (.int .i64 0), 1, 8) := by kernel_rfl
set_option maxRecDepth 100000 in
set_option maxHeartbeats 800000 in
theorem CloneI_any (A : Option Addr) (n c : Nat) (xs : List Value) (w : World) (h : Sl w w.heap.size 1 A n xs) (h1 : ∀ u ∈ xs, u.oneCell' = true) (hn : n * 8 ≤ 140737488355328) :
    Calls Tryz.prog 132 #[.slice A n c] w (RowIs 3 1 n xs w) := by
  obtain ⟨i0, hi, hz0, hz1, hz2⟩ := info_parts info_I
  have hnil := fun (w : World) (a : Option Addr) (n c : Nat) => Lib.run_eql_slice_nil (P := Tryz.prog) w 36 3 a n c 0 0 Tryz.underlying36
  cases A with
  | none =>
    have hl := h.len
    have hxs : xs = [] := by
      rcases Nat.eq_zero_or_pos xs.length with h0 | h0
      · exact List.eq_nil_of_length_eq_zero h0
      · obtain ⟨b, off, e, _⟩ := h.src h0; cases e
    subst hxs
    have hn0 : n = 0 := by simp at hl; omega
    subst hn0
    go_enter Tryz.func132, Tryz.ntmps132
    go_wp2_with fail
    go_ret
    exact ⟨_, rfl, World.ownsRow_nil w _ 3 1, Below.refl _ _⟩
  | some ad =>
    have hcells : ∀ j u, xs[j]? = some u → w.cell? (ad.add j) = some u := fun j u hu => by
      have hj := (List.getElem?_eq_some_iff.1 hu).1
      obtain ⟨b, off, e, _, hc⟩ := h.src (by omega)
      injection e with e
      subst e
      rw [Go.WideShapes.add_plain, hc j hj, ← hu, List.getElem?_eq_getElem hj]
    have hcells2 : ∀ j u, xs[j]? = some u → (w.alloc (.cells #[] 3)).cell? (ad.add j) = some u := fun j u hu => cell_kept ((Below.refl _ _).alloc (Nat.le_refl _) _) (hcells j u hu)
    have HC := Lib.hid hcells2
    have hl := h.len
    clear h hcells hcells2
    go_enter Tryz.func132, Tryz.ntmps132
    go_wp2_with (at_builtin; refine wpList_append_own _ rfl _ _ 36 rfl w.heap.size 3 i0 (.int .i64 0) 1 8 Tryz.underlying36 hi hz0 hz1 hz2 rfl (by decide) (.slice (some ⟨w.heap.size, 0, none⟩) 0 0) 0 [] rfl (World.ownsRow_lit w #[] 0 (Nat.le_refl _) (by decide) (by simp)) ad n c xs rfl hl HC.out h1 (by unfold maxLen; omega) (by omega) (by simp) ?_; intro v' w1 hown hg _)
    go_ret
    refine ⟨_, rfl, by simpa using hown, ((Below.refl _ _).alloc (Nat.le_refl _) _).grown hg (by simp) (fun k hk => ?_)⟩
    simp [Value.ownBlock] at hk
    omega
end Go.Proofs.YtdkbfljhfhjofaaGreatDoor
