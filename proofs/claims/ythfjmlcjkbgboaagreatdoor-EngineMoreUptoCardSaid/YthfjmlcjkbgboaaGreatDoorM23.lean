/- Part 23 of the proof: lemmas and walks that the last texts use. -/
import Derived.Test.YthfjmlcjkbgboaaGreatDoorM01
import Derived.Test.YthfjmlcjkbgboaaGreatDoorM03
import Derived.Test.YthfjmlcjkbgboaaGreatDoorM04
import Derived.Test.YthfjmlcjkbgboaaGreatDoorM22
import Derived.Shelf.GgClosure.Gives
import Derived.Lib.SliceRun
import Derived.Deep.CutRange
import Derived.BigRegion
namespace Go.Proofs.YthfjmlcjkbgboaaGreatDoor
open Go.RowKit
theorem srcS {wr : World} {B n : Nat} {A : Option Addr} {xs : List Value} {a0 : Nat → Value} (h : Sl wr B 1 A n xs) {j : Nat} (hj : j < n) (hx : ∀ j, j < n → xs[j]? = some (a0 j)) :
    ∃ b off, A = some ⟨b, off, none⟩ ∧ wr.cell? ⟨b, off + j, none⟩ = some (a0 j) := by
  have hl := h.len
  obtain ⟨b, off, e, _, hc⟩ := h.src (by omega)
  have hq := hx j hj
  have hat : ∀ i v, xs[i]? = some v → wr.cell? ⟨b, off + i, none⟩ = some v := fun i v hv => by
    have hi : i < xs.length := (List.getElem?_eq_some_iff.1 hv).1
    rw [hc i hi, ← hv, List.getElem?_eq_getElem hi]
  exact ⟨b, off, e, hat _ _ hq⟩
set_option maxRecDepth 100000 in
set_option maxHeartbeats 800000 in
theorem IdxFS_any (g : Nat) (lb : Array Value) (eg : ∀ args w, (callFunc g args).run Tryz.prog w = .ok (.enter g args) w) (A : Option Addr) (n c : Nat) (xs : List Value) (a0 : Nat → Value) (p : Nat → Bool) (w : World)
    (h : Sl w w.heap.size 1 A n xs) (hbig : n ≤ 9223372036854775807) (hx : ∀ j, j < n → xs[j]? = some (a0 j))
    (hp : ∀ W j, j < n → Below w.heap.size w W → Calls Tryz.prog g (#[a0 j] ++ lb) W (BoolPost (p j) W)) :
    Calls Tryz.prog 136 #[.slice A n c, .func (.func g) #[] lb] w fun e w' => e = .returned (.int .i64 (hitI p n)) ∧ Below w.heap.size w w' := by
  have HP := Lib.hid hp
  have HX := Lib.hid hx
  clear hp hx
  go_enter Tryz.func136, Tryz.ntmps136
  go_wp2_with fail
  go_loopw [5, 8] (fun _ i wr => ∃ j : Nat, j ≤ n ∧ i = .int .i64 j ∧ Below w.heap.size w wr ∧ Hid (∀ i, i < j → p i = false)) (fun _ i _ => n - (intOf i).toNat)
  case atStart => exact ⟨0, Nat.zero_le _, rfl, Below.refl _ _, fun i hi => absurd hi (by omega)⟩
  case round =>
    obtain ⟨j, hj, rfl, hb, hno⟩ := hrel
    by_cases hlt : j < n
    · obtain ⟨b, off, rfl, hc0⟩ := srcS (h.below hb) hlt HX.out
      have hc := HP.out wr j hlt hb
      cases hq : p j with
      | true =>
        rw [hq] at hc
        have HIT := Lib.hid (hit_at p n j hlt hq hno)
        clear hq
        go_wp2_with (go_at_fn g; refine hc.mono ?_; rintro e w' ⟨rfl, hb1⟩)
        go_ret
        exact ⟨ret_int HIT.out.symm, hb.trans (hb1.mono hb.size)⟩
      | false =>
        rw [hq] at hc
        have hno2 : Hid (∀ i, i < j + 1 → p i = false) := fun i hi => by
          by_cases e : i = j
          · rw [e]; exact hq
          · exact hno i (by omega)
        clear hq hno
        go_wp2_with (go_at_fn g; refine hc.mono ?_; rintro e w' ⟨rfl, hb1⟩)
        go_roundw
        case rel => exact ⟨j + 1, by omega, by go_num, hb.trans (hb1.mono hb.size), hno2⟩
        case measure => simp [intOf] <;> omega
    · obtain rfl : j = n := by omega
      have HIT := Lib.hid (hit_none p j hno)
      go_wp2_with fail
      go_ret
      exact ⟨ret_int HIT.out.symm, hb⟩
set_option maxRecDepth 100000 in
theorem ContFS_any (g : Nat) (lb : Array Value) (eg : ∀ args w, (callFunc g args).run Tryz.prog w = .ok (.enter g args) w) (A : Option Addr) (n c : Nat) (xs : List Value) (a0 : Nat → Value) (p : Nat → Bool) (w : World)
    (h : Sl w w.heap.size 1 A n xs) (hbig : n ≤ 9223372036854775807) (hx : ∀ j, j < n → xs[j]? = some (a0 j))
    (hp : ∀ W j, j < n → Below w.heap.size w W → Calls Tryz.prog g (#[a0 j] ++ lb) W (BoolPost (p j) W)) :
    Calls Tryz.prog 92 #[.slice A n c, .func (.func g) #[] lb] w (BoolPost (anyN p n) w) := by
  have HC := Lib.hid (IdxFS_any g lb eg A n c xs a0 p w h hbig hx hp)
  have HA := Lib.hid (hit_any p n)
  clear hp hx h
  go_enter Tryz.func92, Tryz.ntmps92
  go_wp2_with fail
  refine HC.out.mono ?_
  rintro e w1 ⟨rfl, hb⟩
  go_wp2_with fail
  go_ret
  exact ⟨ret_bool HA.out, hb⟩
end Go.Proofs.YthfjmlcjkbgboaaGreatDoor
namespace Go.Proofs.YthfjmlcjkbgboaaGreatDoor
open Go.RowKit
theorem longW (s : ByteArray) (W : World) : Calls Tryz.prog 229 #[.string s] W (BoolPost (decide (40 < s.size)) W) := by
  by_cases h : 40 < s.size
  · have e : decide (40 < s.size) = true := decide_eq_true h
    rw [e]
    clear e
    go_enter Tryz.func229, Tryz.ntmps229
    go_wp2_with fail
    go_ret
    exact ⟨by simp; omega, Below.refl _ _⟩
  · have e : decide (40 < s.size) = false := decide_eq_false h
    rw [e]
    clear e
    go_enter Tryz.func229, Tryz.ntmps229
    go_wp2_with fail
    go_ret
    exact ⟨by simp; omega, Below.refl _ _⟩
def codeW (ws : List ByteArray) : Nat :=
  if 30 < ws.length then 2 else if anyN (fun j => decide (40 < (ws.getD j ByteArray.empty).size)) ws.length then 2 else if ws.length = 0 then 1 else if Lib.containsS ws ByteArray.empty then 1 else 0
theorem check_calls (A : Option Addr) (c n : Nat) (ws : List ByteArray) (w : World) (hn : ws.length = n) (h : Sl w w.heap.size 1 A n (ws.map Value.string)) :
    Calls Tryz.prog 187 #[.slice A n c] w fun e w' => e = .returned (.int .i64 (codeW ws : Nat)) ∧ Below w.heap.size w w' := by
  by_cases h30 : 30 < n
  · have HC : Hid (codeW ws = 2) := by unfold codeW; rw [if_pos (by omega)]; exact Lib.hid rfl
    clear h
    go_enter Tryz.func187, Tryz.ntmps187
    go_wp2_with fail
    go_ret
    exact ⟨by rw [HC.out]; rfl, Below.refl _ _⟩
  · have hx : ∀ j, j < n → (ws.map Value.string)[j]? = some (.string (ws.getD j ByteArray.empty)) := fun j hj => by
      rw [List.getElem?_map, List.getD_eq_getElem?_getD, List.getElem?_eq_getElem (by omega)]; rfl
    have HC := Lib.hid (ContFS_any 229 #[] (enters_of Tryz.func229 (by kernel_rfl) rfl) A n c (ws.map Value.string) (fun j => .string (ws.getD j ByteArray.empty)) (fun j => decide (40 < (ws.getD j ByteArray.empty).size)) w h (by omega) hx (fun W j _ _ => longW _ W))
    by_cases hlong : anyN (fun j => decide (40 < (ws.getD j ByteArray.empty).size)) n = true
    · have HV : Hid (codeW ws = 2) := by unfold codeW; rw [hn, if_neg h30, if_pos hlong]; exact Lib.hid rfl
      rw [hlong] at HC
      clear h hx hlong
      go_enter Tryz.func187, Tryz.ntmps187
      go_wp2_with (go_at_call 92; refine HC.out.mono ?_; rintro e w1 ⟨rfl, hb⟩)
      go_ret
      exact ⟨by rw [HV.out]; rfl, hb⟩
    · have hl : anyN (fun j => decide (40 < (ws.getD j ByteArray.empty).size)) n = false := by simpa using hlong
      rw [hl] at HC
      by_cases h0 : n = 0
      · have HV : Hid (codeW ws = 1) := by unfold codeW; rw [hn, if_neg h30, if_neg hlong, if_pos h0]; exact Lib.hid rfl
        subst h0
        clear h hx hlong hl
        go_enter Tryz.func187, Tryz.ntmps187
        go_wp2_with (go_at_call 92; refine HC.out.mono ?_; rintro e w1 ⟨rfl, hb⟩)
        go_ret
        exact ⟨by rw [HV.out]; rfl, hb⟩
      · have HE : Hid (∀ w1, Below w.heap.size w w1 → Calls Tryz.prog 130 #[.slice A n c, .string ByteArray.empty] w1 fun e w' => e = .returned (.bool (Lib.containsS ws ByteArray.empty)) ∧ w' = w1) := Lib.hid fun w1 hb => by
          obtain ⟨b, off, rfl, _, hc⟩ := (h.below hb).src (by rw [List.length_map]; omega)
          have := Tryz.slices_Contains_string b off n c ws ByteArray.empty w1 (by omega) (by omega) (fun j hj => by
            rw [hc j (by rw [List.length_map]; omega), List.getElem_map, List.getD_eq_getElem?_getD, List.getElem?_eq_getElem hj]; rfl)
          rw [List.take_of_length_le (by omega)] at this
          exact this
        have HV : Hid (codeW ws = if Lib.containsS ws ByteArray.empty then 1 else 0) := by unfold codeW; rw [hn, if_neg h30, if_neg hlong, if_neg h0]; exact Lib.hid rfl
        clear h hx hlong hl
        generalize hq : Lib.containsS ws ByteArray.empty = q at HE HV
        clear hq
        cases q
        · go_enter Tryz.func187, Tryz.ntmps187
          go_wp2_with (first | (go_at_call 92; refine HC.out.mono ?_; rintro e w1 ⟨rfl, hb⟩) | (go_at_call 130; refine (HE.out _ hb).mono ?_; rintro e w2 ⟨rfl, rfl⟩))
          go_ret
          exact ⟨by rw [HV.out]; rfl, hb⟩
        · go_enter Tryz.func187, Tryz.ntmps187
          go_wp2_with (first | (go_at_call 92; refine HC.out.mono ?_; rintro e w1 ⟨rfl, hb⟩) | (go_at_call 130; refine (HE.out _ hb).mono ?_; rintro e w2 ⟨rfl, rfl⟩))
          go_ret
          exact ⟨by rw [HV.out]; rfl, hb⟩
end Go.Proofs.YthfjmlcjkbgboaaGreatDoor
namespace Go.Proofs.YthfjmlcjkbgboaaGreatDoor
open Go.RowKit
theorem make_refused (A : Option Addr) (c n : Nat) (ws : List ByteArray) (w : World) (hn : ws.length = n) (h : Sl w w.heap.size 1 A n (ws.map Value.string)) (h0 : codeW ws ≠ 0) :
    Calls Tryz.prog 143 #[.slice A n c] w fun e w' => e = .returned (.tuple #[.slice none 0 0, .int .i64 (codeW ws : Nat)]) ∧ Below w.heap.size w w' := by
  have HC := Lib.hid (check_calls A c n ws w hn h)
  generalize codeW ws = r at *
  clear h
  go_enter Tryz.func143, Tryz.ntmps143
  go_wp2_with (go_at_call 187; refine HC.out.mono ?_; rintro e w1 ⟨rfl, hb⟩)
  go_ret2
  exact ⟨rfl, hb⟩
end Go.Proofs.YthfjmlcjkbgboaaGreatDoor
namespace Go.Proofs.YthfjmlcjkbgboaaGreatDoor
open Go.RowKit
theorem info_I : (Tryz.prog.info? 3).map (fun i => (i.zero, i.size, i.bytes)) = some (some (.int .i64 0), 1, 8) := by kernel_rfl
set_option maxRecDepth 100000 in
set_option maxHeartbeats 800000 in
theorem CloneI_any (A : Option Addr) (n c : Nat) (xs : List Value) (w : World) (h : Sl w w.heap.size 1 A n xs) (h1 : ∀ u ∈ xs, u.oneCell' = true) (hn : n * 8 ≤ 140737488355328) :
    Calls Tryz.prog 189 #[.slice A n c] w (RowIs 3 1 n xs w) := by
  obtain ⟨i0, hi, hz0, hz1, hz2⟩ := info_parts info_I
  have hnil := fun (w : World) (a : Option Addr) (n c : Nat) => Lib.run_eql_slice_nil (P := Tryz.prog) w 23 3 a n c 0 0 Tryz.underlying23
  cases A with
  | none =>
    have hl := h.len
    have hxs : xs = [] := by
      rcases Nat.eq_zero_or_pos xs.length with h0 | h0
      · exact List.eq_nil_of_length_eq_zero h0
      · obtain ⟨b, off, e, _⟩ := h.src h0; cases e
    subst hxs
    have hn0 : n = 0 := by simp at hl; omega
    subst hn0
    go_enter Tryz.func189, Tryz.ntmps189
    go_wp2_with fail
    go_ret
    exact ⟨_, rfl, World.ownsRow_nil w _ 3 1, Below.refl _ _⟩
  | some ad =>
    have hcells : ∀ j u, xs[j]? = some u → w.cell? (ad.add j) = some u := fun j u hu => by
      have hj := (List.getElem?_eq_some_iff.1 hu).1
      obtain ⟨b, off, e, _, hc⟩ := h.src (by omega)
      injection e with e
      subst e
      rw [Go.WideShapes.add_plain, hc j hj, ← hu, List.getElem?_eq_getElem hj]
    have hcells2 : ∀ j u, xs[j]? = some u → (w.alloc (.cells #[] 3)).cell? (ad.add j) = some u := fun j u hu => cell_kept ((Below.refl _ _).alloc (Nat.le_refl _) _) (hcells j u hu)
    have HC := Lib.hid hcells2
    have hl := h.len
    clear h hcells hcells2
    go_enter Tryz.func189, Tryz.ntmps189
    go_wp2_with (at_builtin; refine wpList_append_own _ rfl _ _ 23 rfl w.heap.size 3 i0 (.int .i64 0) 1 8 Tryz.underlying23 hi hz0 hz1 hz2 rfl (by decide) (.slice (some ⟨w.heap.size, 0, none⟩) 0 0) 0 [] rfl (World.ownsRow_lit w #[] 0 (Nat.le_refl _) (by decide) (by simp)) ad n c xs rfl hl HC.out h1 (by unfold maxLen; omega) (by omega) (by simp) ?_; intro v' w1 hown hg _)
    go_ret
    refine ⟨_, rfl, by simpa using hown, ((Below.refl _ _).alloc (Nat.le_refl _) _).grown hg (by simp) (fun k hk => ?_)⟩
    simp [Value.ownBlock] at hk
    omega
end Go.Proofs.YthfjmlcjkbgboaaGreatDoor
namespace Go.Proofs.YthfjmlcjkbgboaaGreatDoor
open Go.RowKit
structure GoodW (ws : List ByteArray) : Prop where
  few : ws.length ≤ 30
  some : 0 < ws.length
  short : ∀ w ∈ ws, w.size ≤ 40
  full : ∀ w ∈ ws, w.size ≠ 0
theorem good_of_code {ws : List ByteArray} (h : codeW ws = 0) : GoodW ws := by
  unfold codeW at h
  split at h
  · omega
  rename_i h1
  split at h
  · omega
  rename_i h2
  split at h
  · omega
  rename_i h3
  split at h
  · omega
  rename_i h4
  have h2' : anyN (fun j => decide (40 < (ws.getD j ByteArray.empty).size)) ws.length = false := by simpa using h2
  refine ⟨by omega, by omega, fun w hw => ?_, fun w hw e => ?_⟩
  · obtain ⟨j, hj, rfl⟩ := List.getElem_of_mem hw
    have := (any_false _ _).1 h2' j hj
    rw [List.getD_eq_getElem?_getD, List.getElem?_eq_getElem hj] at this
    simpa using this
  · have he : w = ByteArray.empty := ByteArray.ext (Array.eq_empty_of_size_eq_zero e)
    subst he
    exact h4 ((Lib.containsS_iff _ _).2 hw)
/-- What Make leaves. -/
structure TreeIs (w : World) (lo : Nat) (ws : List ByteArray) (g cap : Nat) (ns : List NodeP) (ss : List (List UInt8)) (ms : List NodeM) : Prop where
  lev : Lev (lstS ws) 40 ns ss
  few : ns.length ≤ 400
  at_ : ∃ lo2, lo ≤ lo2 ∧ NodesAt (lstS ws) ss ns lo lo2 g cap ns.length ms w
def MakePost (ws : List ByteArray) (w : World) (e : Ending) (w' : World) : Prop :=
  Below w.heap.size w w' ∧ ((e = .returned (.tuple #[.slice none 0 0, .int .i64 2]) ∧ Full (lstS ws)) ∨ ∃ g cap ns ss ms, e = .returned (.tuple #[.slice (some ⟨g, 0, none⟩) ms.length cap, .int .i64 0]) ∧ TreeIs w' w.heap.size ws g cap ns ss ms)
section
variable {ops : Array Oper} {rest : List Oper} {o : Oper} {a : Act} {Q : Exit → Act → World → Prop} {w : World}
theorem wpList_make_I (hgd : o.guard = none) (x y : Operand) (hop : o.op = .makeSlice 23 x y) (base n g : Nat) (hg : w.heap.size = g) (hx : a.eval x = .int .i64 (n : Int)) (hy : a.eval y = .int .i64 (n : Int)) (hn : n ≤ 1048576) (hb : base ≤ w.heap.size)
    (hK : ∀ w', OwnG rowI w' base (.slice (some ⟨g, 0, none⟩) n n) (List.replicate n 0) → Below w.heap.size w w' → g < w'.heap.size → wpList Tryz.prog ops Q rest (a.put o.dst (.slice (some ⟨g, 0, none⟩) n n)) w') :
    wpList Tryz.prog ops Q (o :: rest) a w := by
  subst hg
  obtain ⟨i0, hi, hz0, hz1, hz2⟩ := info_parts rowI.info
  have hby : rowI.bytes = 8 := rfl
  refine wpList_make_full w hgd x y 23 hop base 3 i0 (.int .i64 0) 1 Tryz.underlying23 hi hz0 hz1 .i64 .i64 _ _ n hx hy rfl rfl (by rw [hz2, hby]; omega) (by unfold maxLen; omega) hb fun w' h1 h2 => ?_
  rw [Nat.mul_one] at h1
  have e : (madeCells (Value.int .i64 0).cells n).toList = List.replicate n (Value.int .i64 0) := toList_madeCells_one (.int .i64 0) n
  rw [e] at h1
  have h3 : OwnG rowI w' base (.slice (some ⟨w.heap.size, 0, none⟩) n n) (List.replicate n 0) := by
    unfold OwnG
    rw [List.length_replicate]
    have : (List.replicate n 0).flatMap rowI.cells = List.replicate n (Value.int .i64 0) := by
      have h4 : ∀ m : Nat, (List.replicate m 0).flatMap rowI.cells = List.replicate m (Value.int .i64 0) := fun m => by
        induction m with
        | zero => rfl
        | succ m ih => rw [List.replicate_succ, List.flatMap_cons, ih, List.replicate_succ]; rfl
      exact h4 n
    rw [this]
    exact h1
  exact hK w' h3 ⟨h2.os, h2.tape, h2.output, h2.size, fun j hj => h2.block j hj (by simp)⟩ (h3.lt _ rfl).2
end
theorem lev_begin (ws : List ByteArray) (h : 0 < ws.length) {w : World} {B gm bm ga g : Nat} (hM : Mk w B gm bm ga ws.length g 1 [(⟨0, 0, 0⟩, none, 0, 0)] [] (List.replicate ws.length 0)) : LevAt w B gm bm ga ws.length ws 0 g 1 [⟨0, 0, 0⟩] [[]] [] (List.replicate ws.length 0) where
  mkr := hM
  lev := lev_start (by intro e; rw [lstS, List.map_eq_nil_iff] at e; rw [e] at h; exact absurd h (by simp))
  ats := by have := at_start (ws := lstS ws); rwa [show (lstS ws).length = ws.length by rw [lstS, List.length_map]] at this
  next := NextOk.start
  few := by simp
theorem mk_begin {w w1 w2 : World} {n : Nat} (hw : w.heap.size ≤ w1.heap.size) (h2 : OwnG rowI w2 w1.heap.size (.slice (some ⟨w1.heap.size + 1 + 1, 0, none⟩) n n) (List.replicate n 0))
    (hb : Below ((w1.alloc (.cells #[.int .u8 0, .int .i64 0, .int .i64 0, .slice none 0 0] 266)).alloc (.map #[] 0)).heap.size ((w1.alloc (.cells #[.int .u8 0, .int .i64 0, .int .i64 0, .slice none 0 0] 266)).alloc (.map #[] 0)) w2) :
    Mk (w2.alloc (.cells #[.slice (some ⟨w1.heap.size, 0, none⟩) 1 1, .map (some (w1.heap.size + 1)), .slice (some ⟨w1.heap.size + 1 + 1, 0, none⟩) n n] 269)) w.heap.size w2.heap.size (w1.heap.size + 1) (w1.heap.size + 1 + 1) n w1.heap.size 1 [(⟨0, 0, 0⟩, none, 0, 0)] [] (List.replicate n 0) := by
  have hz := hb.size
  simp only [World.size_alloc] at hz
  have hA : ∀ o, Below w2.heap.size w2 (w2.alloc o) := fun o => (Below.refl _ _).alloc (Nat.le_refl _) _
  have hown : OwnG rowN (w1.alloc (.cells #[.int .u8 0, .int .i64 0, .int .i64 0, .slice none 0 0] 266)) w.heap.size (.slice (some ⟨w1.heap.size, 0, none⟩) 1 1) [(⟨0, 0, 0⟩, none, 0, 0)] :=
    World.ownsRow_lit w1 #[.int .u8 0, .int .i64 0, .int .i64 0, .slice none 0 0] 1 hw (by decide) rfl
  have hown2 := (hown.below ((Below.refl _ _).alloc (Nat.le_refl _) (.map #[] 0))).below hb
  have hmap : MpAt w2 (w1.heap.size + 1) [] := by
    refine ⟨#[], 0, ?_, rfl⟩
    have h1 := heap_alloc_new (w1.alloc (.cells #[.int .u8 0, .int .i64 0, .int .i64 0, .slice none 0 0] 266)) (.map #[] 0)
    rw [World.size_alloc] at h1
    exact (hb.block _ (by simp)).trans h1
  refine ⟨?_, hown2.below (hA _), ?_, hmap.keep ((hA _).block _ (by omega)), by omega, by omega⟩
  · have := heap_alloc_new w2 (.cells #[.slice (some ⟨w1.heap.size, 0, none⟩) 1 1, .map (some (w1.heap.size + 1)), .slice (some ⟨w1.heap.size + 1 + 1, 0, none⟩) n n] 269)
    rw [List.length_replicate]
    exact this
  · rw [List.length_replicate]
    exact (h2.low hw).below (hA _)
def RelM (ws : List ByteArray) (gm bm ga n : Nat) (w : World) (i : Value) (wr : World) : Prop :=
  ∃ (k g cap : Nat) (ns : List NodeP) (ss : List (List UInt8)) (l : List (EdgeK × Nat)) (ats : List Nat), k ≤ 40 ∧ i = .int .i64 (k : Int) ∧ Below w.heap.size w wr ∧ Hid (LevAt wr w.heap.size gm bm ga n ws k g cap ns ss l ats)
def RelN (ws : List ByteArray) (ss : List (List UInt8)) (ns : List NodeP) (B g cap : Nat) (wo : World) (v : Value) (wr : World) : Prop :=
  ∃ (i : Nat) (ms : List NodeM), i ≤ ns.length ∧ v = .int .i64 (i : Int) ∧ NodesAt (lstS ws) ss ns B wo.heap.size g cap i ms wr ∧ wo.grownBy wr (some g)
def RelK (ws : List ByteArray) (e : List Nat) (ats : List Nat) (ms : List NodeM) (B g cap i : Nat) (w0 : World) (v : Value) (wq : World) : Prop :=
  ∃ (k : Nat) (s : SlT), k ≤ ws.length ∧ v = .int .i64 (k : Int) ∧ NodeNow ms B g cap i w0 (accN (lstS ws) e ats i k) s wq
/-- The words of the failure, in memory. -/
def failE (ws : List (List UInt8)) (ss : List (List UInt8)) (i f : Nat) : List Nat := if i = 0 then [] else endsOf ws (ss.getD f [])
theorem ends_few (ws : List (List UInt8)) (s : List UInt8) : (endsOf ws s).length ≤ ws.length := by
  unfold endsOf
  exact Nat.le_trans (List.length_filter_le _ _) (by simp)
theorem fail_few (ws : List (List UInt8)) (ss : List (List UInt8)) (i f : Nat) : (failE ws ss i f).length ≤ ws.length := by
  unfold failE
  split
  · exact Nat.zero_le _
  · exact ends_few _ _
theorem acc_few (ws : List (List UInt8)) (e ats : List Nat) (i k : Nat) (he : e.length ≤ 30) (hk : k ≤ 30) : (accN ws e ats i k).length ≤ 60 := by
  unfold accN
  rw [List.length_append]
  have := List.length_filter_le (fun j => decide (ats.getD j 0 = i ∧ 0 < i ∧ j < ws.length)) (List.range k)
  rw [List.length_range] at this
  omega
theorem NodesAt.src {ws ss : List (List UInt8)} {ns : List NodeP} {B lo g cap i : Nat} {ms : List NodeM} {w : World} (h : NodesAt ws ss ns B lo g cap i ms w) (hi : Inv ns ss) (hlt : i < ms.length) :
    ∃ (f : Nat) (x : NodeP) (sf : SlT), ns[i]? = some x ∧ x.fail = f ∧ f < ms.length ∧ w.cell? ⟨g, i * 4 + 2, none⟩ = some (.int .i64 (f : Int)) ∧ w.cell? ⟨g, f * 4 + 3, none⟩ = some (slV sf) ∧ EndsAt w lo sf (failE ws ss i f) := by
  have hx : ns[i]? = some ms[i].1 := by rw [← h.fst, List.getElem?_map, List.getElem?_eq_getElem hlt]; rfl
  have hl : ns.length = ms.length := by rw [← h.fst, List.length_map]
  have hfl : ms[i].1.fail < ms.length ∧ (0 < i → ms[i].1.fail < i) ∧ (i = 0 → ms[i].1.fail = 0) := by
    rcases Nat.eq_zero_or_pos i with c | c
    · subst c
      rw [hi.zero] at hx
      have e : ms[0].1.fail = 0 := by rw [← Option.some.inj hx]
      exact ⟨by omega, fun h => absurd h (by omega), fun _ => e⟩
    · have := (hi.node i _ c hx).2.1
      exact ⟨by omega, fun _ => this, fun e => by omega⟩
  have h2 := (h.own.at i hlt 2 (by decide)).1
  have h3 := (h.own.at ms[i].1.fail hfl.1 3 (by decide)).1
  refine ⟨ms[i].1.fail, ms[i].1, ms[ms[i].1.fail].2, hx, rfl, hfl.1, h2.trans rfl, h3.trans rfl, ?_⟩
  unfold failE
  split
  · rename_i c
    have := h.rest (ms[i].1.fail) _ (by omega) (List.getElem?_eq_getElem hfl.1)
    rw [this]
    exact ⟨rfl, fun h => absurd h (by simp)⟩
  · exact h.done _ _ (hfl.2.1 (by omega)) (List.getElem?_eq_getElem hfl.1)
theorem NodesAt.spot {ws ss : List (List UInt8)} {ns : List NodeP} {B lo g cap i : Nat} {ms : List NodeM} {w : World} (h : NodesAt ws ss ns B lo g cap i ms w) (hlt : i < ms.length) :
    (∃ u, w.cell? ⟨g, i * 4 + 3, none⟩ = some u) ∧ w.frozen? ⟨g, i * 4 + 3, none⟩ = false := by
  have := h.own.at i hlt 3 (by decide)
  exact ⟨⟨_, this.1.trans rfl⟩, this.2⟩
theorem NodeNow.spot {ms : List NodeM} {B g cap i : Nat} {w0 w : World} {acc : List Nat} {s : SlT} (h : NodeNow ms B g cap i w0 acc s w) (hi : i < ms.length) :
    w.cell? ⟨g, i * 4 + 3, none⟩ = some (slV s) ∧ w.frozen? ⟨g, i * 4 + 3, none⟩ = false := by
  have hlen : (ms.set i ((ms.getD i (⟨0, 0, 0⟩, none, 0, 0)).1, s)).length = ms.length := List.length_set ..
  have h1 := h.own
  rw [← hlen] at h1
  have := h1.at i (by rw [hlen]; exact hi) 3 (by decide)
  rw [List.getElem_set_self] at this
  exact ⟨this.1.trans rfl, this.2⟩
theorem sl_len {w : World} {b : Nat} {s : SlT} {l : List Nat} (h : OwnG rowI w b (slV s) l) : s.2.1 = l.length := by
  obtain ⟨A, c, e, _⟩ := h.form
  injection e
theorem ends_here {ws : List ByteArray} (hG : GoodW ws) {ss : List (List UInt8)} {ns : List NodeP} {ats : List Nat} {i f : Nat} {x : NodeP} (hl : Lev (lstS ws) 40 ns ss) (ha : AtOk (lstS ws) 40 ss ats) (hx : ns[i]? = some x) (hf : x.fail = f) :
    sortN (accN (lstS ws) (failE (lstS ws) ss i f) ats i ws.length) = endsOf (lstS ws) (ss.getD i []) := by
  have hle : (lstS ws).length = ws.length := by rw [lstS, List.length_map]
  rcases Nat.eq_zero_or_pos i with c | c
  · subst c
    have e1 : accN (lstS ws) (failE (lstS ws) ss 0 f) ats 0 ws.length = [] := by
      unfold accN failE
      rw [if_pos rfl, List.nil_append, List.filter_eq_nil_iff]
      intro k _
      simp
    have e2 : ss.getD 0 [] = [] := by rw [List.getD_eq_getElem?_getD, hl.inv.trie.root]; rfl
    rw [e1, e2, ends_root]
    · unfold sortN
      rw [List.map_nil, List.mergeSort_nil]
      rfl
    · intro w hw
      obtain ⟨v, hv, rfl⟩ := List.mem_map.1 hw
      intro e
      exact hG.full v hv (by have := congrArg List.length e; simpa using this)
  · have := ends_node hl (fun w hw => by
      obtain ⟨v, hv, rfl⟩ := List.mem_map.1 hw
      have := hG.short v hv
      simpa using this) ha c hx
    rw [hf, hle] at this
    unfold failE
    rw [if_neg (by omega)]
    exact this
set_option maxRecDepth 100000 in
set_option maxHeartbeats 1600000 in
theorem make_good (hlevel : LevelC) (A : Option Addr) (c n : Nat) (ws : List ByteArray) (w : World) (hn : ws.length = n) (h : Sl w w.heap.size 1 A n (ws.map Value.string)) (h0 : codeW ws = 0) :
    Calls Tryz.prog 143 #[.slice A n c] w (MakePost ws w) := by
  have hG := Lib.hid (good_of_code h0)
  have HC := Lib.hid (check_calls A c n ws w hn h)
  rw [h0] at HC
  have HS := Lib.hid h
  have hn30 : n ≤ 30 := by rw [← hn]; exact hG.out.few
  have hn0 : 0 < n := by rw [← hn]; exact hG.out.some
  have HLV := Lib.hid hlevel
  have hmm := @run_makeMap Tryz.prog
  clear h h0 hlevel
  go_enter Tryz.func143, Tryz.ntmps143
  go_wp2_with (first | (go_at_call 187; refine HC.out.mono ?_; rintro e w1 ⟨rfl, hb1⟩) | (at_make; refine wpList_make_I rfl _ _ rfl w1.heap.size n (w1.heap.size + 1 + 1) (by simp) rfl rfl (by omega) (by simp; omega) ?_; intro w2 hO2 hb2 hz2))
  have hMK := mk_begin hb1.size hO2 hb2
  have hbW : Below w.heap.size w (w2.alloc (.cells #[.slice (some ⟨w1.heap.size, 0, none⟩) 1 1, .map (some (w1.heap.size + 1)), .slice (some ⟨w1.heap.size + 1 + 1, 0, none⟩) n n] 269)) := by
    have hz := hb1.size
    have hz2' := hb2.size
    simp only [World.size_alloc] at hz2'
    exact ((((hb1.alloc hz _).alloc (by simp; omega) _).trans (hb2.mono (by simp; omega))).alloc (by omega) _)
  have hL0 := Lib.hid (lev_begin ws (by omega) (by rw [hn]; exact hMK))
  rw [hn] at hL0
  clear hmm hMK hb2 hO2 hz2 hb1
  generalize w2.heap.size = gm at *
  generalize w1.heap.size + 1 + 1 = ga at *
  generalize w1.heap.size + 1 = bm at *
  generalize w1.heap.size = g00 at *
  generalize w2.alloc _ = W at *
  go_loopw [24] (fun i wr => RelM ws gm bm ga n w i wr) (fun i _ => 40 - (intOf i).toNat)
  case atStart => exact ⟨0, _, _, _, _, _, _, by omega, rfl, hbW, hL0⟩
  case round =>
    obtain ⟨k, g, cap, ns, ss, l, ats, hk, rfl, hb, hL⟩ := hrel
    clear hbW hL0 HC
    by_cases hkl : k < 40
    · have hd : decide ((k : Int) < 40) = true := by simp; omega
      have HQ := Lib.hid (HLV.out ws k hkl (by omega) (by omega) A c w.heap.size gm bm ga n g cap ns ss l ats wr (by rw [hn]; exact HS.out.below hb) hL.out)
      rw [hn] at HQ
      go_wp2_with (go_at_call 188; apply Hid.out)
      unfold Hid
      refine HQ.out.mono ?_
      rintro e w3 ⟨hb3, ⟨rfl, hfull⟩ | ⟨rfl, g3, cap3, ns3, ss3, l3, ats3, hL3⟩⟩
      · go_wp2_with fail
        go_ret2
        exact ⟨hb.trans hb3, .inl ⟨rfl, hfull⟩⟩
      · go_wp2_with fail
        exact ⟨⟨k + 1, g3, cap3, ns3, ss3, l3, ats3, by omega, rfl, hb.trans hb3, Lib.hid hL3⟩, by simp [intOf] <;> omega⟩
    · have e40 : k = 40 := by omega
      rw [e40] at hL
      have hd : decide ((k : Int) < 40) = false := by simp; omega
      clear e40
      obtain ⟨wo, rfl⟩ : ∃ wo : World, wo = wr := ⟨_, rfl⟩
      obtain ⟨hc0, _, hc2, _⟩ := hL.out.mkr.cells
      have hlt := hL.out.mkr.lt
      have hne := hL.out.mkr.ne
      have hblk := Lib.hid hL.out.mkr.blk
      rw [List.length_map] at hc0
      have hal : ats.length = n := by have := hL.out.ats.len; rw [this, lstS, List.length_map, hn]
      rw [hal] at hc2
      go_wp2_with fail
      go_loopw [38] (fun i wr => RelN ws ss ns w.heap.size g cap wo i wr) (fun i _ => ns.length - (intOf i).toNat)
      case atStart =>
        refine ⟨0, ns.map nilE, Nat.zero_le _, rfl, ⟨hL.out.mkr.own, map_nilE ns, fun j m h => absurd h (by omega), fun j m _ hm => ?_⟩, ⟨rfl, rfl, rfl, Nat.le_refl _, fun _ _ _ => rfl⟩⟩
        rw [List.getElem?_map] at hm
        obtain ⟨x, _, rfl⟩ := Option.map_eq_some_iff.1 hm
        rfl
      case round =>
        obtain ⟨i, ms, hi, rfl, hN, hO⟩ := hrel
        have hml : ms.length = ns.length := by rw [← hN.fst, List.length_map]
        have h400 := hL.out.few
        have hkm : wr.heap[gm]? = wo.heap[gm]? := hO.block gm hlt.1 (fun e => hne.1 (Option.some.inj e))
        have hka : wr.heap[ga]? = wo.heap[ga]? := hO.block ga hlt.2.2.1 (fun e => hne.2.2.2.1 (Option.some.inj e).symm)
        have hd0 := (cell_heap hkm 0).trans hc0
        have hd2 := (cell_heap hkm 2).trans hc2
        clear hc0 hc2
        by_cases hil : i < ns.length
        · have hil' : i < ms.length := by omega
          obtain ⟨f, x, sf, hx, hxf, hfl, hcf, hce, hEf⟩ := hN.src hL.out.lev.inv hil'
          obtain ⟨⟨u, hsp⟩, hsf⟩ := hN.spot hil'
          have hzz := hO.size
          have hcl := CloneI_any sf.1 sf.2.1 sf.2.2 _ wr.drew (hEf.sl.drewN 1) (fun u hu => by obtain ⟨x, _, h⟩ := List.mem_flatMap.1 hu; exact rowI.one x u h) (by rw [hEf.1]; have := fail_few (lstS ws) ss i f; rw [show (lstS ws).length = ws.length by rw [lstS, List.length_map]] at this; omega)
          rw [hEf.1] at hcl
          obtain ⟨A1, n1, c1⟩ := sf
          obtain rfl : n1 = (failE (lstS ws) ss i f).length := hEf.1
          dsimp only at hcl
          have HCL := Lib.hid hcl
          have HN := Lib.hid hN
          have HO := Lib.hid hO
          have hfl' : (f : Int) < (ns.length : Int) := by omega
          unfold slV at hce
          clear hcl hEf hN hO
          go_upto_region 15 with fail
          go_cut [8] from 47 to 61 (fun s8 wx => s8 = .pointer (some ⟨g, i * 4, none⟩) ∧ ∃ s : SlT, Hid (NodeNow ms w.heap.size g cap i wr (failE (lstS ws) ss i f) s wx))
          case first =>
            go_region_with (first | (go_at_call 189; (with_reducible refine (HCL.out).mono ?_); rintro e w2 ⟨v2, rfl, ho2, hb2⟩; have ho3 : OwnG rowI w2 wr.heap.size v2 (failE (lstS ws) ss i f) := ho2; obtain ⟨A2, c2, rfl, _⟩ := ho3.form; have hs2 := cell_kept hb2 hsp; have hs3 := free_kept hb2 hsp hsf))
            all_goals
              clear hs2 hs3 hd0 hd2 hcf hce hsp hsf
              go_wp2_with fail
              go_meet
              exact ⟨rfl, (A2, _, c2), Lib.hid (NodeNow.start HN.out hil' (by omega) ho3 (undrew hb2))⟩
          case rest =>
            obtain ⟨rfl, s0, hNow⟩ := hcut
            obtain ⟨wx, rfl⟩ : ∃ wx : World, wx = wc := ⟨_, rfl⟩
            clear hcf hce hsp hsf u HCL
            have hOnly := hNow.out.only
            have hkm2 : wx.heap[gm]? = wr.heap[gm]? := hOnly.block gm (by omega) (fun e => hne.1 (Option.some.inj e))
            have hd2' := (cell_heap hkm2 2).trans hd2
            clear hd0 hd2
            obtain ⟨w0, rfl⟩ : ∃ w0 : World, w0 = wr := ⟨_, rfl⟩
            go_wp2_with fail
            go_loopw [67] (fun i' wq => RelK ws (failE (lstS ws) ss i f) ats ms w.heap.size g cap i w0 i' wq) (fun i' _ => n - (intOf i').toNat)
            case atStart => exact ⟨0, s0, Nat.zero_le _, rfl, by unfold accN; rw [List.range_zero, List.filter_nil, List.append_nil]; exact hNow.out⟩
            case round =>
              obtain ⟨q, s, hq, rfl, hQ⟩ := hrel
              obtain ⟨A5, n5, c5⟩ := s
              obtain rfl : n5 = _ := sl_len hQ.row
              have hsp := hQ.spot hil'
              unfold slV at hsp
              dsimp only at hsp
              obtain ⟨hp1, hp2⟩ := hsp
              have hka2 : wr.heap[ga]? = wo.heap[ga]? := (hQ.only.block ga (by omega) (fun e => hne.2.2.2.1 (Option.some.inj e).symm)).trans hka
              have hacc := acc_few (lstS ws) (failE (lstS ws) ss i f) ats i q (by have := fail_few (lstS ws) ss i f; rw [show (lstS ws).length = ws.length by rw [lstS, List.length_map]] at this; omega) (by omega)
              by_cases hql : q < n
              · have hat := (cell_heap hka2 q).trans (hL.out.mkr.at q (by omega)).1
                have HS5 := Lib.hid (accN_snoc (lstS ws) (failE (lstS ws) ss i f) ats i q (by rw [lstS, List.length_map]; omega))
                rw [show ats.getD q 0 = ats[q]'(by omega) by rw [List.getD_eq_getElem?_getD, List.getElem?_eq_getElem (by omega)]; rfl] at HS5
                have HQ := Lib.hid hQ
                have hzq := hQ.only.size
                clear hQ hka2
                generalize ats[q]'(by omega) = a at hat HS5
                generalize accN (lstS ws) (failE (lstS ws) ss i f) ats i q = acc at *
                by_cases hai : a = i
                · subst hai
                  by_cases ha0 : 0 < a
                  · rw [if_pos ⟨rfl, ha0⟩] at HS5
                    go_wp2_with (at_builtin; refine wpList_append_g rowI rfl _ _ rfl w0.heap.size _ acc rfl HQ.out.row (by omega) _ q rfl wr.heap.size rfl 1 rfl (by omega) ?_; intro v4 w4 hO4 hb4 hk4 hz4; obtain ⟨g4, c4, rfl, _, _⟩ := hO4.head (by simp); have hs4 := (hb4.cell (p := ⟨g, a * 4 + 3, none⟩) (show g < w0.heap.size by omega)).trans hp1; have hs5 := (hb4.frozen (p := ⟨g, a * 4 + 3, none⟩) (show g < w0.heap.size by omega)).trans hp2)
                    exact ⟨⟨q + 1, (some ⟨g4, 0, none⟩, acc.length + 1, c4), by omega, rfl, by rw [HS5.out]; exact HQ.out.add hil' (by omega) hO4 hb4⟩, by simp [intOf] <;> omega⟩
                  · rw [if_neg (fun h => ha0 h.2)] at HS5
                    obtain rfl : a = 0 := by omega
                    go_wp2_with fail
                    exact ⟨⟨q + 1, (A5, _, c5), by omega, rfl, by rw [HS5.out]; exact HQ.out⟩, by simp [intOf] <;> omega⟩
                · rw [if_neg (fun h => hai h.1)] at HS5
                  have he : ((a : Int) == (i : Int)) = false := beq_eq_false_iff_ne.2 (by omega)
                  go_wp2_with fail
                  exact ⟨⟨q + 1, (A5, _, c5), by omega, rfl, by rw [HS5.out]; exact HQ.out⟩, by simp [intOf] <;> omega⟩
              · have e5 : q = ws.length := by omega
                rw [e5] at hQ hp1 hacc
                clear e5
                have hEN := ends_here hG.out hL.out.lev hL.out.ats hx hxf
                have HSO := Lib.hid (sort_ends hQ.row (by omega))
                unfold slV at HSO
                dsimp only at HSO
                have HQ := Lib.hid hQ
                clear hQ
                generalize accN (lstS ws) (failE (lstS ws) ss i f) ats i ws.length = acc at *
                go_wp2_with (go_at_call 190; refine HSO.out.mono ?_; rintro e w6 ⟨rfl, hE6, g6, hgr6, hor⟩)
                have hfin := NodesAt.next HN.out hil' hzz (by omega) HQ.out.own HQ.out.only hE6 hEN hgr6 hor
                exact ⟨⟨i + 1, _, by omega, rfl, hfin.1, only_trans HO.out hfin.2⟩, by simp [intOf] <;> omega⟩
        · have e6 : i = ns.length := by omega
          rw [e6] at hN
          have HN := Lib.hid hN
          have HO := Lib.hid hO
          clear hN hO e6
          go_wp2_with fail
          go_ret2
          exact ⟨hb.trans ⟨HO.out.os, HO.out.tape, HO.out.output, HO.out.size, fun j hj => HO.out.block j (Nat.lt_of_lt_of_le hj hb.size) (fun e => by have := hL.out.mkr.base.2.1; have e := Option.some.inj e; omega)⟩, .inr ⟨g, cap, ns, ss, ms, by rw [hml]; rfl, ⟨hL.out.lev, hL.out.few, wo.heap.size, hb.size, HN.out⟩⟩⟩
end Go.Proofs.YthfjmlcjkbgboaaGreatDoor
