/- Part 33 of the proof: lemmas and walks that the last texts use. -/
import Derived.Test.YthfjmlcjkbgboaaGreatDoorM26
import Derived.Test.YthfjmlcjkbgboaaGreatDoorM32
import Derived.Defers
import Derived.Laws.Pointers
import Derived.Laws.LoneSync
import Derived.RegionCalls
import Derived.ChangeAlike
import Derived.Deep.RegionHeld3
namespace Go.Proofs.YthfjmlcjkbgboaaGreatDoor
open Go.RowKit
theorem full_low {ws : List ByteArray} (h : Full (lstS (ws.map lowB))) : Full (lstS ws) := by
  obtain ⟨ss, hn, hl, hp⟩ := h
  have key : ∀ v ∈ ss, ∃ u, lowerL u = v ∧ ∃ w ∈ lstS ws, u <+: w := fun v hv => by
    obtain ⟨x, hx, hpre⟩ := hp v hv
    obtain ⟨b, hb, rfl⟩ := List.mem_map.1 hx
    obtain ⟨a, ha, rfl⟩ := List.mem_map.1 hb
    unfold lowB at hpre
    rw [bs_toList] at hpre
    refine ⟨a.data.toList.take v.length, ?_, a.data.toList, List.mem_map.2 ⟨a, ha, rfl⟩, List.take_prefix _ _⟩
    have e := List.prefix_iff_eq_take.1 hpre
    unfold lowerL at e ⊢
    rw [List.map_take]
    exact e.symm
  have : ∀ l : List (List UInt8), l.Nodup → (∀ v ∈ l, ∃ u, lowerL u = v ∧ ∃ w ∈ lstS ws, u <+: w) → ∃ us : List (List UInt8), us.Nodup ∧ us.length = l.length ∧ (∀ u ∈ us, ∃ w ∈ lstS ws, u <+: w) ∧ us.map lowerL = l := by
    intro l
    induction l with
    | nil => exact fun _ _ => ⟨[], List.nodup_nil, rfl, fun u h => (by cases h), rfl⟩
    | cons v r ih =>
      intro hn hk
      obtain ⟨h1, h2⟩ := List.nodup_cons.1 hn
      obtain ⟨us, h3, h4, h5, h6⟩ := ih h2 fun x hx => hk x (List.mem_cons_of_mem _ hx)
      obtain ⟨u, e, hu⟩ := hk v List.mem_cons_self
      refine ⟨u :: us, List.nodup_cons.2 ⟨fun hm => h1 ?_, h3⟩, by simp [h4], fun x hx => ?_, by rw [List.map_cons, e, h6]⟩
      · rw [← h6, ← e]; exact List.mem_map.2 ⟨u, hm, rfl⟩
      · rcases List.mem_cons.1 hx with rfl | hx
        · exact hu
        · exact h5 x hx
  obtain ⟨us, h1, h2, h3, _⟩ := this ss hn key
  exact ⟨us, h1, by omega, h3⟩
theorem ok_low {ws : List ByteArray} (h : OkW ws) : OkW (ws.map lowB) :=
  ⟨⟨by rw [List.length_map]; exact h.1.few, by rw [List.length_map]; exact h.1.some, fun x hx => by
      obtain ⟨a, ha, rfl⟩ := List.mem_map.1 hx
      rw [lowB_size]; exact h.1.short a ha, fun x hx => by
      obtain ⟨a, ha, rfl⟩ := List.mem_map.1 hx
      rw [lowB_size]; exact h.1.full a ha⟩, fun hf => h.2 (full_low hf)⟩
theorem OwnG.keepN {w w' : World} {base g n c : Nat} {α : Type} {R : RowT α} {l : List α} (h : OwnG R w base (.slice (some ⟨g, 0, none⟩) n c) l) (hk : w'.heap[g]? = w.heap[g]?) : OwnG R w' base (.slice (some ⟨g, 0, none⟩) n c) l := by
  refine ⟨h.1, ?_⟩
  rcases h.2 with h0 | ⟨g', cap, cur, h1, h2, h3, h4⟩
  · exact .inl h0
  · have e : g = g' := by injection h1 with h1; injection h1 with h1; injection h1 with h1
    exact .inr ⟨g', cap, cur, h1, h2, (by rw [← e]; rw [← e] at h3; exact hk.trans h3), h4⟩
theorem PhrAt.since {B : Nat} {ws : List ByteArray} {gt gb : Nat} {w W : World} (h : PhrAt B ws gt gb w) (hs : Since B w W) : PhrAt B ws gt gb W := by
  obtain ⟨h1, h2, lo, g, cap, ns, ss, ms, A, c, h3, h4, h5, ht⟩ := h
  refine ⟨h1, h2, lo, g, cap, ns, ss, ms, A, c, h3, cell_same (hs.keep _ h1 (World.block_lt_of_cell? w _ h4)) 0 h4, cell_same (hs.keep _ h2 (World.block_lt_of_cell? w _ h5)) 0 h5, ?_⟩
  obtain ⟨q1, q2, lo2, q3, q4⟩ := ht
  have hg := q4.own.lt g rfl
  exact ⟨q1, q2, lo2, q3, ⟨q4.own.keepN (hs.keep g (by omega) hg.2), q4.fst, fun j m hj hm => (q4.done j m hj hm).keep hs.size fun k hk1 hk => hs.keep k (by omega) hk, q4.rest⟩⟩
noncomputable def tstO (op : Int) (arg v : ByteArray) : Bool :=
  if op = 1 then tstR arg v else if op = 2 then tstP (phrW arg) v else if op = 7 ∨ op = 8 ∨ op = 9 then tstN op (decN (numL 10 9 arg.data.toList)) v.data.toList
  else if op = 10 then tstA arg v else if op = 11 then tstG arg v else if op = 12 then true else tstT op arg v
theorem MadeT.same {f g : ByteArray → Bool} (h : ∀ v, f v = g v) {w : World} {e : Ending} {w' : World} (hm : MadeT f w e w') : MadeT g w e w' := by
  obtain ⟨fid, caps, e1, ⟨fid2, caps2, e2, h2⟩, hb⟩ := hm
  exact ⟨fid, caps, e1, ⟨fid2, caps2, e2, h2.1, fun W hW hl s hs => (h2.2 W hW hl s hs).mono fun e w' h' => ⟨by rw [h'.1, h s], h'.2⟩⟩, hb⟩
section
variable (arg : ByteArray) (w : World)
set_option maxRecDepth 100000 in
set_option maxHeartbeats 1600000 in
theorem madeO_reg (ha : arg.size ≤ 1048576) (h0 : (parseP arg.data.toList).2.2 = 0) : Calls Tryz.prog 104 #[.int .i64 1, .string arg] w (MadeT (tstR arg) w) := by
  have hb : Below w.heap.size w ((w.alloc (.cells #[.int .i64 1] 3)).alloc (.cells #[.string arg] 9)) := ((Below.refl _ _).alloc (Nat.le_refl _) _).alloc (by simp) _
  have HP := Lib.hid (regular_any arg ((w.alloc (.cells #[.int .i64 1] 3)).alloc (.cells #[.string arg] 9)) ha h0)
  generalize tstR arg = f at *
  go_enter Tryz.func104, Tryz.ntmps104
  go_wp2_with (go_at_call 148; apply Hid.out)
  unfold Hid
  refine HP.out.mono ?_
  rintro e w1 ⟨fid, caps, rfl, hT, hb1⟩
  have hb2 := hb.trans (hb1.mono hb.size)
  have HT := Lib.hid hT
  clear hT
  go_wp2_with fail
  go_ret2
  exact ⟨fid, caps, rfl, HT.out.low hb.size, hb2⟩
set_option maxRecDepth 100000 in
set_option maxHeartbeats 1600000 in
theorem madeO_adr (hlib : LibOk w) (ha : arg.size ≤ 1048576) (h0 : netsC arg.data.toList = 0) : Calls Tryz.prog 104 #[.int .i64 10, .string arg] w (MadeT (tstA arg) w) := by
  have hb : Below w.heap.size w ((w.alloc (.cells #[.int .i64 10] 3)).alloc (.cells #[.string arg] 9)) := ((Below.refl _ _).alloc (Nat.le_refl _) _).alloc (by simp) _
  have HP := Lib.hid (addresses_any arg ((w.alloc (.cells #[.int .i64 10] 3)).alloc (.cells #[.string arg] 9)) (hlib.below hb) ha h0)
  generalize tstA arg = f at *
  clear h0
  go_enter Tryz.func104, Tryz.ntmps104
  go_wp2_with (go_at_call 151; apply Hid.out)
  unfold Hid
  refine HP.out.mono ?_
  rintro e w1 ⟨fid, caps, rfl, hT, hb1⟩
  have hb2 := hb.trans (hb1.mono hb.size)
  have HT := Lib.hid hT
  clear hT
  go_wp2_with fail
  go_ret2
  exact ⟨fid, caps, rfl, HT.out.low hb.size, hb2⟩
set_option maxRecDepth 100000 in
set_option maxHeartbeats 1600000 in
theorem madeO_rng (hlib : LibOk w) (ha : arg.size ≤ 1048576) (h0 : (bytesR arg.data.toList).2 = 0) : Calls Tryz.prog 104 #[.int .i64 11, .string arg] w (MadeT (tstG arg) w) := by
  have hb : Below w.heap.size w ((w.alloc (.cells #[.int .i64 11] 3)).alloc (.cells #[.string arg] 9)) := ((Below.refl _ _).alloc (Nat.le_refl _) _).alloc (by simp) _
  have HP := Lib.hid (ranges_any arg ((w.alloc (.cells #[.int .i64 11] 3)).alloc (.cells #[.string arg] 9)) (hlib.below hb) ha h0)
  generalize tstG arg = f at *
  clear h0
  go_enter Tryz.func104, Tryz.ntmps104
  go_wp2_with (go_at_call 152; apply Hid.out)
  unfold Hid
  refine HP.out.mono ?_
  rintro e w1 ⟨fid, caps, rfl, hT, hb1⟩
  have hb2 := hb.trans (hb1.mono hb.size)
  have HT := Lib.hid hT
  clear hT
  go_wp2_with fail
  go_ret2
  exact ⟨fid, caps, rfl, HT.out.low hb.size, hb2⟩
set_option maxRecDepth 100000 in
theorem madeO_phr (hlib : LibOk w) (ha : arg.size ≤ 1048576) (h0 : mkC (piecesP arg) = 0) : Calls Tryz.prog 104 #[.int .i64 2, .string arg] w (MadeT (tstP (phrW arg)) w) := by
  have hok : OkW (phrW arg) := ok_low (mkC_ok.1 h0)
  refine (madeP_any arg w hlib ha).mono fun e w' h => ?_
  obtain ⟨hb, gt, gb, rfl, hat⟩ := h.1 hok
  exact ⟨_, _, rfl, ⟨_, _, rfl, fun _ _ => rfl, fun W hW _ x hx => phrTest_any (phrW arg) hok.1 x hx _ gt gb W (hat.since hW)⟩, hb⟩
set_option maxRecDepth 100000 in
theorem madeO_num (op : Int) (hop : op = 7 ∨ op = 8 ∨ op = 9) (ha : arg.size ≤ 1048576) (h0 : (numL 10 9 arg.data.toList).isSome = true) : Calls Tryz.prog 104 #[.int .i64 op, .string arg] w (MadeT (fun v => tstN op (decN (numL 10 9 arg.data.toList)) v.data.toList) w) := by
  refine (MadeN_any op arg w hop (by unfold maxLen; omega)).mono fun e w' h => ?_
  obtain ⟨g1, g2, rfl, h1, h2, hb, y1, y2⟩ := h
  have hE : decE (numL 10 9 arg.data.toList) = 0 := by
    cases hn : numL 10 9 arg.data.toList with
    | none => rw [hn] at h0; cases h0
    | some n => rfl
  rw [hE]
  exact ⟨_, _, rfl, ⟨_, _, rfl, fun _ _ => rfl, fun W hW _ x hx => (numTest_any x g1 g2 op _ W hop (cell_same (hW.keep _ y1 (World.block_lt_of_cell? w' _ h1)) 0 h1) (cell_same (hW.keep _ y2 (World.block_lt_of_cell? w' _ h2)) 0 h2) (by unfold maxLen; omega)).mono fun e w' h => ⟨h.1, by rw [h.2]; exact Below.refl _ _⟩⟩, hb⟩
set_option maxRecDepth 100000 in
set_option maxHeartbeats 1600000 in
theorem madeO_txt (op : Int) (hop : op = 3 ∨ op = 4 ∨ op = 5 ∨ op = 6) (_ : LibOk w) (ha : arg.size ≤ 200) : Calls Tryz.prog 104 #[.int .i64 op, .string arg] w (MadeT (tstT op arg) w) := by
  have HM : Hid (Calls Tryz.prog 104 #[.int .i64 op, .string arg] w fun e w' => e = .returned (.tuple #[.func (.func 154) #[] #[.pointer (some ⟨w.heap.size, 0, none⟩), .pointer (some ⟨w.heap.size + 1, 0, none⟩)], .int .i64 0]) ∧ w' = (w.alloc (.cells #[.int .i64 op] 3)).alloc (.cells #[.string arg] 9)) := by
    have d1 : decide ((200 : Int) < (arg.size : Int)) = false := by simp; omega
    unfold Hid
    skip
    rcases hop with rfl | rfl | rfl | rfl
    all_goals
      go_enter Tryz.func104, Tryz.ntmps104
      go_wp2_with fail
      go_ret2
      exact ⟨rfl, rfl⟩
  refine HM.out.mono fun e w' h => ?_
  obtain ⟨rfl, rfl⟩ := h
  have hb : Below w.heap.size w ((w.alloc (.cells #[.int .i64 op] 3)).alloc (.cells #[.string arg] 9)) := ((Below.refl _ _).alloc (Nat.le_refl _) _).alloc (by simp) _
  have c1 : ((w.alloc (.cells #[.int .i64 op] 3)).alloc (.cells #[.string arg] 9)).cell? ⟨w.heap.size, 0, none⟩ = some (.int .i64 op) :=
    cell_of_row _ _ 0 _ _ _ ((Below.heap_alloc _ _ _ (by simp)).trans (heap_alloc_new w _))
  have c2 : ((w.alloc (.cells #[.int .i64 op] 3)).alloc (.cells #[.string arg] 9)).cell? ⟨w.heap.size + 1, 0, none⟩ = some (.string arg) := by
    have := heap_alloc_new (w.alloc (.cells #[.int .i64 op] 3)) (.cells #[.string arg] 9)
    rw [World.size_alloc] at this
    exact cell_of_row _ _ 0 _ _ _ this
  exact ⟨_, _, rfl, ⟨_, _, rfl, fun _ _ => rfl, fun W hW hl x hx => textTest_any op hop arg x hx _ _ W hl (cell_same (hW.keep _ (Nat.le_refl _) (World.block_lt_of_cell? _ _ c1)) 0 c1) (cell_same (hW.keep _ (Nat.le_succ _) (World.block_lt_of_cell? _ _ c2)) 0 c2)⟩, hb⟩
set_option maxRecDepth 100000 in
set_option maxHeartbeats 1600000 in
theorem madeO_none (h0 : arg.data.toList = []) : Calls Tryz.prog 104 #[.int .i64 12, .string arg] w (MadeT (fun _ => true) w) := by
  have hb : Below w.heap.size w ((w.alloc (.cells #[.int .i64 12] 3)).alloc (.cells #[.string arg] 9)) := ((Below.refl _ _).alloc (Nat.le_refl _) _).alloc (by simp) _
  have q : arg.toList.isEmpty = true := by rw [ByteArray.toList_eq, h0]; rfl
  have q2 : (arg.toList == []) = true := by rw [ByteArray.toList_eq, h0]; rfl
  go_enter Tryz.func104, Tryz.ntmps104
  go_wp2_with fail
  go_ret2
  exact ⟨153, #[], rfl, ⟨_, _, rfl, fun _ _ => rfl, fun W _ _ x _ => anyT_any x W⟩, hb⟩
theorem Made_any (op : Int) (h1 : 1 ≤ op) (h2 : op ≤ 12) (hlib : LibOk w) (ha : arg.size ≤ 1048576) (h0 : argC op arg = 0) : Calls Tryz.prog 104 #[.int .i64 op, .string arg] w (MadeT (tstO op arg) w) := by
  unfold argC at h0
  by_cases c1 : op = 1
  · subst c1
    rw [if_pos rfl] at h0
    exact (madeO_reg arg w ha h0).mono fun e w' h => h.same fun v => by unfold tstO; rw [if_pos rfl]
  rw [if_neg c1] at h0
  by_cases c2 : op = 2
  · subst c2
    rw [if_pos rfl] at h0
    exact (madeO_phr arg w hlib ha (by exact_mod_cast h0)).mono fun e w' h => h.same fun v => by unfold tstO; rw [if_neg c1, if_pos rfl]
  rw [if_neg c2] at h0
  by_cases c3 : op = 7 ∨ op = 8 ∨ op = 9
  · rw [if_pos c3] at h0
    have hs : (numL 10 9 arg.data.toList).isSome = true := by
      by_cases hs : (numL 10 9 arg.data.toList).isSome = true
      · exact hs
      · rw [if_neg hs] at h0; exact absurd h0 (by decide)
    exact (madeO_num arg w op c3 ha hs).mono fun e w' h => h.same fun v => by unfold tstO; rw [if_neg c1, if_neg c2, if_pos c3]
  rw [if_neg c3] at h0
  by_cases c4 : op = 10
  · subst c4
    rw [if_pos rfl] at h0
    exact (madeO_adr arg w hlib ha h0).mono fun e w' h => h.same fun v => by unfold tstO; rw [if_neg c1, if_neg c2, if_neg c3, if_pos rfl]
  rw [if_neg c4] at h0
  by_cases c5 : op = 11
  · subst c5
    rw [if_pos rfl] at h0
    exact (madeO_rng arg w hlib ha h0).mono fun e w' h => h.same fun v => by unfold tstO; rw [if_neg c1, if_neg c2, if_neg c3, if_neg c4, if_pos rfl]
  rw [if_neg c5] at h0
  by_cases c6 : op = 12
  · subst c6
    rw [if_pos rfl] at h0
    have hn : arg.data.toList = [] := by
      by_cases hn : arg.data.toList = []
      · exact hn
      · rw [if_neg hn] at h0; exact absurd h0 (by decide)
    exact (madeO_none arg w hn).mono fun e w' h => h.same fun v => by unfold tstO; rw [if_neg c1, if_neg c2, if_neg c3, if_neg c4, if_neg c5, if_pos rfl]
  rw [if_neg c6] at h0
  have hsz : arg.size ≤ 200 := by
    by_cases hs : 200 < arg.size
    · rw [if_pos hs] at h0; exact absurd h0 (by decide)
    · omega
  exact (madeO_txt arg w op (by omega) hlib hsz).mono fun e w' h => h.same fun v => by unfold tstO; rw [if_neg c1, if_neg c2, if_neg c3, if_neg c4, if_neg c5, if_neg c6]
end
end Go.Proofs.YthfjmlcjkbgboaaGreatDoor
namespace Go.Proofs.YthfjmlcjkbgboaaGreatDoor
open Go.RowKit
theorem disable_s (w : World) : (callFunc 268 #[]).run Tryz.prog w = .ok (.value (.tuple #[])) w := run_call_mark0 Tryz.func268 (by kernel_rfl) (by kernel_rfl) (by kernel_rfl) .disable (by kernel_rfl) w
theorem enable_s (w : World) : (callFunc 270 #[]).run Tryz.prog w = .ok (.value (.tuple #[])) w := run_call_mark0 Tryz.func270 (by kernel_rfl) (by kernel_rfl) (by kernel_rfl) .enable (by kernel_rfl) w
theorem acquire_s (a : Addr) (w : World) : (callFunc 271 #[.pointer (some a)]).run Tryz.prog w = .ok (.value (.tuple #[])) w := run_call_marked Tryz.func271 (by kernel_rfl) (by kernel_rfl) (by kernel_rfl) .acquire (by kernel_rfl) a w
theorem release_s (a : Addr) (w : World) : (callFunc 273 #[.pointer (some a)]).run Tryz.prog w = .ok (.value (.tuple #[])) w := run_call_marked Tryz.func273 (by kernel_rfl) (by kernel_rfl) (by kernel_rfl) .releaseMerge (by kernel_rfl) a w
set_option maxRecDepth 100000 in
set_option maxHeartbeats 1600000 in
theorem store_deferred (a : Addr) (x : Value) (u : FrameMode) (w : World) (hc : w.cell? a = some x) (hz : w.frozen? a = false) :
    CallsD Tryz.prog 197 #[.pointer (some a), .bool true] u w fun e u' w' => u' = u ∧ (e = .returned (.tuple #[]) ∧ w' = w.drew.setCell a (.int .u32 1)) := by
  have hc' : w.drew.cell? a = some x := by go_simp
  have hz' : w.drew.frozen? a = false := by go_simp
  have hst := run_call_store (P := Tryz.prog) Tryz.func238 (by kernel_rfl) (by kernel_rfl) (by kernel_rfl) (by kernel_rfl) (k := .u32) (y := 1) hc' hz'
  go_enter_d Tryz.func197, Tryz.ntmps197
  go_wp2
  go_region_calls
  all_goals (go_end0; exact ⟨rfl, rfl⟩)
set_option maxRecDepth 100000 in
set_option maxHeartbeats 1600000 in
theorem unlock_deferred (a : Addr) (u : FrameMode) (w : World) (hc : w.cell? a = some (.int .i32 1)) (hz : w.frozen? a = false) :
    CallsD Tryz.prog 196 #[.pointer (some a)] u w fun e u' w' => u' = u ∧ (e = .returned (.tuple #[]) ∧ w' = w.setCell a (.int .i32 0)) := by
  have hd := disable_s
  have he := enable_s
  have hr := release_s
  have hadd := run_call_add (P := Tryz.prog) Tryz.func274 (by kernel_rfl) (by kernel_rfl) (by kernel_rfl) .i32 (by kernel_rfl) (y := -1) (s := 0) hc hz (by simp [go_sem]; rfl)
  have hcv := run_convert_to_unsafe (P := Tryz.prog) (src := 336) (dst := 247) Tryz.underlying336 Tryz.underlying247 (by kernel_rfl) hc
  go_enter_d Tryz.func196, Tryz.ntmps196
  go_wp2
  go_end0
  go_wp2
  go_end0
  exact ⟨rfl, rfl⟩
set_option maxRecDepth 100000 in
set_option maxHeartbeats 1600000 in
theorem lock_free (a : Addr) (w : World) (hc : w.cell? a = some (.int .i32 0)) (hz : w.frozen? a = false) :
    Calls Tryz.prog 195 #[.pointer (some a)] w fun e w' => e = .returned (.tuple #[]) ∧ w' = w.setCell a (.int .i32 1) := by
  have hd := disable_s
  have he := enable_s
  have ha := acquire_s
  have hcas := run_call_cas_hit (P := Tryz.prog) Tryz.func269 (by kernel_rfl) (by kernel_rfl) (by kernel_rfl) .i32 (by kernel_rfl) (y := 1) hc hz
  have hc' : (w.setCell a (.int .i32 1)).cell? a = some (.int .i32 1) := World.cell?_setCell_same w a _ hc
  have hcv := run_convert_to_unsafe (P := Tryz.prog) (src := 336) (dst := 247) Tryz.underlying336 Tryz.underlying247 (by kernel_rfl) hc'
  go_enter Tryz.func195, Tryz.ntmps195
  go_wp2
  first | go_end0 | (simp only [Exit.inBlock, Exit.then]; refine bodyPost_ret (results_none rfl _ _ _) rfl ?_) | refine bodyPost_ret (results_none rfl _ _ _) rfl ?_
  go_wp2
  go_end0
  exact ⟨rfl, rfl⟩
/-- What is known when the function that Once runs has come back. -/
def Ran (b off : Nat) (Q : World → Prop) (e : Ending) (w' : World) : Prop :=
  e = .returned (.tuple #[]) ∧ w'.cell? ⟨b, off, none⟩ = some (.int .u32 0) ∧ w'.frozen? ⟨b, off, none⟩ = false ∧ w'.cell? ⟨b, off + 1, none⟩ = some (.int .i32 1) ∧ w'.frozen? ⟨b, off + 1, none⟩ = false ∧ Q w'
def Once (b off : Nat) (Q : World → Prop) (e : Ending) (w' : World) : Prop :=
  e = .returned (.tuple #[]) ∧ ∃ W, Q W ∧ w' = (W.drew.setCell ⟨b, off, none⟩ (.int .u32 1)).setCell ⟨b, off + 1, none⟩ (.int .i32 0)
set_option maxRecDepth 100000 in
set_option maxHeartbeats 1600000 in
theorem slow_any (b off : Nat) (pl : Addr) (Q : World → Prop) (w : World)
    (h0 : w.cell? ⟨b, off, none⟩ = some (.int .u32 0)) (h1 : w.cell? ⟨b, off + 1, none⟩ = some (.int .i32 0))
    (_ : w.frozen? ⟨b, off, none⟩ = false) (f1 : w.frozen? ⟨b, off + 1, none⟩ = false)
    (hf : Calls Tryz.prog 103 #[.pointer (some pl)] (w.setCell ⟨b, off + 1, none⟩ (.int .i32 1)) (Ran b off Q)) :
    Calls Tryz.prog 147 #[.pointer (some ⟨b, off, none⟩), .func (.func 103) #[] #[.pointer (some pl)]] w (Once b off Q) := by
  have hl := run_call_load (P := Tryz.prog) Tryz.func194 (by kernel_rfl) (by kernel_rfl) (by kernel_rfl) .u32 (by kernel_rfl) (w := w.setCell ⟨b, off + 1, none⟩ (.int .i32 1)) (a := ⟨b, off, none⟩) (x := 0) ((World.cell?_setCell_other _ ⟨b, off + 1, none⟩ ⟨b, off, none⟩ _ (by simp)).trans h0)
  have hnot : ∀ (x : Bool) (w : World), (Op.unary .not (.bool x)).run Tryz.prog w = .ok (.bool (!x)) w := fun _ _ => rfl
  have HF := Lib.hid hf
  clear hf
  go_enter_defers Tryz.func147, Tryz.ntmps147
  go_wp2_with (first | (go_at_call 195; refine (lock_free ⟨b, off + 1, none⟩ _ (by go_simp) (by go_simp)).mono ?_; rintro e w' ⟨rfl, rfl⟩) | (go_at_call 146; go_in) | (go_at_call 103; apply Hid.out))
  unfold Hid
  refine HF.out.mono ?_
  rintro e w1 ⟨rfl, a0, z0, a1, z1, hQ⟩
  have HQ := Lib.hid hQ
  clear hQ hl h0 h1 f1 HF
  go_wp2
  refine leaves_cons (f := 197) (args := #[.pointer (some ⟨b, off, none⟩), .bool true]) (by simp) (by simp [go_sem]) ?_
  refine (store_deferred ⟨b, off, none⟩ (.int .u32 0) .returning _ a0 z0).mono ?_
  rintro e u' w'' ⟨rfl, rfl, rfl⟩
  refine leaves_cons (f := 196) (args := #[.pointer (some ⟨b, off + 1, none⟩)]) (by simp [settle]) (by simp [go_sem]) ?_
  refine (unlock_deferred ⟨b, off + 1, none⟩ _ _ ?_ (by simp [z1])).mono ?_
  · refine (World.cell?_setCell_other _ ⟨b, off, none⟩ ⟨b, off + 1, none⟩ _ (by simp)).trans ?_
    rw [World.cell?_drew]
    exact a1
  rintro e u' w'' ⟨rfl, rfl, rfl⟩
  simp [Leaves, settle, results, Tryz.results147]
  exact ⟨rfl, _, HQ.out, rfl⟩
set_option maxRecDepth 100000 in
set_option maxHeartbeats 1600000 in
theorem do_first (b off : Nat) (pl : Addr) (Q : World → Prop) (w : World)
    (h0 : w.cell? ⟨b, off, none⟩ = some (.int .u32 0)) (h1 : w.cell? ⟨b, off + 1, none⟩ = some (.int .i32 0))
    (f0 : w.frozen? ⟨b, off, none⟩ = false) (f1 : w.frozen? ⟨b, off + 1, none⟩ = false)
    (hf : Calls Tryz.prog 103 #[.pointer (some pl)] (w.setCell ⟨b, off + 1, none⟩ (.int .i32 1)) (Ran b off Q)) :
    Calls Tryz.prog 102 #[.pointer (some ⟨b, off, none⟩), .func (.func 103) #[] #[.pointer (some pl)]] w (Once b off Q) := by
  have hl := run_call_load (P := Tryz.prog) Tryz.func194 (by kernel_rfl) (by kernel_rfl) (by kernel_rfl) .u32 (by kernel_rfl) h0
  have hnot : ∀ (x : Bool) (w : World), (Op.unary .not (.bool x)).run Tryz.prog w = .ok (.bool (!x)) w := fun _ _ => rfl
  have HS := Lib.hid (slow_any b off pl Q w h0 h1 f0 f1 hf)
  clear hf
  go_enter Tryz.func102, Tryz.ntmps102
  go_wp2_with (first | (go_at_call 147; apply Hid.out) | (go_at_call 146; go_in))
  unfold Hid
  refine HS.out.mono ?_
  rintro e w1 ⟨rfl, W, hQ, hw⟩
  have HQ := Lib.hid hQ
  have HW := Lib.hid hw
  clear hQ hw
  go_wp2
  go_end0
  exact ⟨rfl, W, HQ.out, HW.out⟩
theorem do_done (a : Addr) (d : Int) (hd : ¬ d = 0) (fv : Value) (w : World) (h0 : w.cell? a = some (.int .u32 d)) :
    Calls Tryz.prog 102 #[.pointer (some a), fv] w fun e w' => e = .returned (.tuple #[]) ∧ w' = w := by
  have hl := run_call_load (P := Tryz.prog) Tryz.func194 (by kernel_rfl) (by kernel_rfl) (by kernel_rfl) .u32 (by kernel_rfl) h0
  have hnot : ∀ (x : Bool) (w : World), (Op.unary .not (.bool x)).run Tryz.prog w = .ok (.bool (!x)) w := fun _ _ => rfl
  have hd' : (d != 0) = true := by simp [hd]
  go_enter Tryz.func102, Tryz.ntmps102
  go_wp2
  go_end0
  exact ⟨rfl, rfl⟩
end Go.Proofs.YthfjmlcjkbgboaaGreatDoor
namespace Go.Proofs.YthfjmlcjkbgboaaGreatDoor
open Go.RowKit
/-- A rule's cells, Once's and the tester's. -/
structure RCells where
  id : Int
  ph : Int
  vs : Value
  ps : Value
  nt : Bool
  op : Int
  arg : ByteArray
  av : Value
  ch : Bool
def RBox (g : Nat) (r : RCells) (d m : Int) (t : Value) (w : World) : Prop :=
  w.heap[g]? = some (.cells #[.int .i64 r.id, .int .i64 r.ph, r.vs, r.ps, .bool r.nt, .int .i64 r.op, .string r.arg, r.av, .bool r.ch, .int .u32 d, .int .i32 m, .int .u32 0, t] 100 (0, 0))
section
variable {g : Nat} {r : RCells} {d m : Int} {t : Value} {w w' : World}
theorem RBox.keep (h : RBox g r d m t w) (hk : w'.heap[g]? = w.heap[g]?) : RBox g r d m t w' := hk.trans h
theorem RBox.lt (h : RBox g r d m t w) : g < w.heap.size := heap_lt h
theorem RBox.once (h : RBox g r d m t w) : (w.cell? ⟨g, 9, none⟩ = some (.int .u32 d) ∧ w.cell? ⟨g, 10, none⟩ = some (.int .i32 m)) ∧ w.frozen? ⟨g, 9, none⟩ = false ∧ w.frozen? ⟨g, 10, none⟩ = false :=
  ⟨⟨cell_of_row w g 9 _ _ _ h, cell_of_row w g 10 _ _ _ h⟩, frozen_of_row w g 9 _ _ h, frozen_of_row w g 10 _ _ h⟩
theorem RBox.test (h : RBox g r d m t w) : w.cell? ⟨g, 12, none⟩ = some t ∧ w.frozen? ⟨g, 12, none⟩ = false := ⟨cell_of_row w g 12 _ _ _ h, frozen_of_row w g 12 _ _ h⟩
theorem RBox.rule (h : RBox g r d m t w) : w.cell? ⟨g, 3, none⟩ = some r.ps ∧ w.cell? ⟨g, 4, none⟩ = some (.bool r.nt) ∧ w.cell? ⟨g, 5, none⟩ = some (.int .i64 r.op) ∧ w.cell? ⟨g, 6, none⟩ = some (.string r.arg) :=
  ⟨cell_of_row w g 3 _ _ _ h, cell_of_row w g 4 _ _ _ h, cell_of_row w g 5 _ _ _ h, cell_of_row w g 6 _ _ _ h⟩
theorem RBox.setD (h : RBox g r d m t w) (k : Int) : RBox g r k m t (w.setCell ⟨g, 9, none⟩ (.int .u32 k)) := heap_setCell_same w g 9 _ _ _ h
theorem RBox.setM (h : RBox g r d m t w) (k : Int) : RBox g r d k t (w.setCell ⟨g, 10, none⟩ (.int .i32 k)) := heap_setCell_same w g 10 _ _ _ h
theorem RBox.setT (h : RBox g r d m t w) (u : Value) : RBox g r d m u (w.setCell ⟨g, 12, none⟩ u) := heap_setCell_same w g 12 _ _ _ h
end
theorem store_fn {w : World} {a : Addr} {x : Value} (f : Fn) (p c : Array Value) (h : w.cell? a = some x) (hz : w.frozen? a = false) : (store a (.func f p c)).run Tryz.prog w = .ok () (w.setCell a (.func f p c)) :=
  (run_store Tryz.prog w a _ .plain rfl).trans (by simp [h, hz])
/-- What the function leaves that Once runs. -/
def MadeW (g : Nat) (f : ByteArray → Bool) (w : World) (w' : World) : Prop :=
  ∃ t W, TestAt w.heap.size f t W ∧ Below w.heap.size w W ∧ w' = W.setCell ⟨g, 12, none⟩ t
set_option maxRecDepth 100000 in
set_option maxHeartbeats 1600000 in
theorem runs_any (g pl : Nat) (r : RCells) (d m : Int) (w : World) (h : RBox g r d m .nilFunc w) (hp : w.cell? ⟨pl, 0, none⟩ = some (.pointer (some ⟨g, 0, none⟩))) (hlib : LibOk w) (h1 : 1 ≤ r.op) (h2 : r.op ≤ 12) (ha : r.arg.size ≤ 1048576) (h0 : argC r.op r.arg = 0) :
    Calls Tryz.prog 103 #[.pointer (some ⟨pl, 0, none⟩)] w fun e w' => e = .returned (.tuple #[]) ∧ MadeW g (tstO r.op r.arg) w w' := by
  have HM : Hid (∀ W, Below w.heap.size w W → Calls Tryz.prog 104 #[.int .i64 r.op, .string r.arg] W (MadeT (tstO r.op r.arg) W)) := fun W hb => Made_any r.arg W r.op h1 h2 (hlib.below hb) ha h0
  generalize tstO r.op r.arg = f at *
  obtain ⟨r0, r1, r2, r3⟩ := h.rule
  obtain ⟨t0, t1⟩ := h.test
  have hg := h.lt
  clear h0
  go_enter Tryz.func103, Tryz.ntmps103
  have HMD : Hid (Calls Tryz.prog 104 #[.int .i64 r.op, .string r.arg] w.drew (MadeT f w.drew)) := HM.out _ (Below.refl _ _).drew
  have HPOST : Hid (∀ W fid caps, TestAt w.heap.size f (.func (.func fid) #[] caps) W → Below w.heap.size w W → MadeW g f w (W.setCell ⟨g, 12, none⟩ (.func (.func fid) #[] caps))) := fun W fid caps hT hb => ⟨_, W, hT, hb, rfl⟩
  clear HM
  go_region_held3 (fun w' => w'.cell? ⟨pl, 0, none⟩ = some (.pointer (some ⟨g, 0, none⟩)) ∧ w'.cell? ⟨g, 5, none⟩ = some (.int .i64 r.op) ∧ w'.cell? ⟨g, 6, none⟩ = some (.string r.arg))
    (first | exact ⟨hp, r2, r3⟩ | exact ⟨hp2, p5, p6⟩ | exact ⟨hp3, p53, p63⟩ | go_keep | fail "keep")
    (first | (go_at_call 104; (with_reducible refine (HMD.out).mono ?_); rintro e w2 ⟨fid, caps, rfl, hT, hb2'⟩; have hb2 : Below w.heap.size w w2 := undrew hb2'; have hp2 := cell_kept hb2 hp; have p5 := cell_kept hb2 r2; have p6 := cell_kept hb2 r3; have q2 := cell_kept hb2 t0; have f2 := free_kept hb2 t0 t1; have s2 := store_fn (.func fid) #[] caps q2 f2; have hp3 := (World.cell?_setCell_other w2 ⟨g, 12, none⟩ ⟨pl, 0, none⟩ (.func (.func fid) #[] caps) (by simp)).trans hp2; have p53 := (World.cell?_setCell_other w2 ⟨g, 12, none⟩ ⟨g, 5, none⟩ (.func (.func fid) #[] caps) (by simp)).trans p5; have p63 := (World.cell?_setCell_other w2 ⟨g, 12, none⟩ ⟨g, 6, none⟩ (.func (.func fid) #[] caps) (by simp)).trans p6; have HR := Lib.hid (HPOST.out w2 fid caps hT hb2); clear hT hb2') | fail "arm")
  all_goals
    clear hp2 p5 p6 q2 f2 s2 hp3 p53 p63
    go_end0
    exact ⟨rfl, HR.out⟩
/-- Of what was there only block g may have changed, and what lies below B is as it was. -/
structure Oth (B g : Nat) (w w' : World) : Prop where
  below : Below B w w'
  keep : ∀ k, k < w.heap.size → k ≠ g → w'.heap[k]? = w.heap[k]?
theorem Oth.of {B g : Nat} {w w' : World} (hb : Below w.heap.size w w') (hB : B ≤ w.heap.size) : Oth B g w w' := ⟨hb.mono hB, fun k h _ => hb.block k h⟩
theorem Oth.set {B g : Nat} (hB : B ≤ g) (w : World) (j : Nat) (v : Value) : Oth B g w (w.setCell ⟨g, j, none⟩ v) :=
  ⟨(Below.refl _ _).setCell (p := ⟨g, j, none⟩) hB v, fun k _ hne => Below.heap_setCell w ⟨g, j, none⟩ v k hne⟩
theorem Oth.trans {B g : Nat} {w W V : World} (h : Oth B g w W) (k : Oth B g W V) : Oth B g w V :=
  ⟨h.below.trans k.below, fun j hj hne => (k.keep j (Nat.lt_of_lt_of_le hj h.below.size) hne).trans (h.keep j hj hne)⟩
theorem Oth.drew {B g : Nat} {w : World} (hB : B ≤ w.heap.size) : Oth B g w w.drew := Oth.of (Below.refl _ _).drew hB
/-- A rule that was asked: its tester is made; what the tester reads lies apart from the blocks that F names. -/
def Ready (F : Nat → Prop) (g : Nat) (r : RCells) (f : ByteArray → Bool) (w : World) : Prop := ∃ t w0 lo, RBox g r 1 0 t w ∧ TestAt lo f t w0 ∧ Since lo w0 w ∧ ∀ k, F k → ¬ (lo ≤ k ∧ k < w0.heap.size)
section
variable {F : Nat → Prop} {g : Nat} {r : RCells} {f : ByteArray → Bool} {w W : World}
theorem Ready.box (h : Ready F g r f w) : ∃ t, RBox g r 1 0 t w := by obtain ⟨t, _, _, h, _⟩ := h; exact ⟨t, h⟩
theorem Ready.lt (h : Ready F g r f w) : g < w.heap.size := by obtain ⟨t, h⟩ := h.box; exact h.lt
theorem Ready.keep (h : Ready F g r f w) (hz : w.heap.size ≤ W.heap.size) (hg : W.heap[g]? = w.heap[g]?) (hk : ∀ k, k < w.heap.size → ¬ F k → W.heap[k]? = w.heap[k]?) : Ready F g r f W := by
  obtain ⟨t, w0, lo, hr, hT, hs, hF⟩ := h
  exact ⟨t, w0, lo, hr.keep hg, hT, ⟨Nat.le_trans hs.size hz, fun k h1 h2 => (hk k (Nat.lt_of_lt_of_le h2 hs.size) fun hf => hF k hf ⟨h1, h2⟩).trans (hs.keep k h1 h2)⟩, hF⟩
theorem Ready.next (h : Ready F g r f w) (hb : Below w.heap.size w W) : Ready F g r f W := h.keep hb.size (hb.block g h.lt) fun k hk _ => hb.block k hk
theorem Ready.more {F' : Nat → Prop} (h : Ready F g r f w) (hf : ∀ k, F' k → F k ∨ w.heap.size ≤ k) : Ready F' g r f w := by
  obtain ⟨t, w0, lo, hr, hT, hs, hF⟩ := h
  refine ⟨t, w0, lo, hr, hT, hs, fun k hk hb => ?_⟩
  rcases hf k hk with h1 | h1
  · exact hF k h1 hb
  · have := hs.size; omega
end
def HoldsPost (B : Nat) (F : Nat → Prop) (g : Nat) (r : RCells) (f : ByteArray → Bool) (s : ByteArray) (w : World) (e : Ending) (w' : World) : Prop :=
  e = .returned (.bool (f s)) ∧ Ready F g r f w' ∧ Oth B g w w'
theorem once_ends {B g : Nat} {F : Nat → Prop} {r : RCells} {f : ByteArray → Bool} {w0 W : World} (hB : B ≤ g) (hF : ∀ k, F k → k < w0.heap.size) (h : RBox g r 0 0 .nilFunc w0) (hQ : MadeW g f (w0.setCell ⟨g, 10, none⟩ (.int .i32 1)) W) :
    ∃ fid caps, RBox g r 1 0 (.func (.func fid) #[] caps) ((W.drew.setCell ⟨g, 9, none⟩ (.int .u32 1)).setCell ⟨g, 10, none⟩ (.int .i32 0)) ∧ TestAt w0.heap.size f (.func (.func fid) #[] caps) ((W.drew.setCell ⟨g, 9, none⟩ (.int .u32 1)).setCell ⟨g, 10, none⟩ (.int .i32 0)) ∧ Ready F g r f ((W.drew.setCell ⟨g, 9, none⟩ (.int .u32 1)).setCell ⟨g, 10, none⟩ (.int .i32 0)) ∧ Oth B g w0 ((W.drew.setCell ⟨g, 9, none⟩ (.int .u32 1)).setCell ⟨g, 10, none⟩ (.int .i32 0)) := by
  obtain ⟨t, Wm, ⟨fid, caps, rfl, hT⟩, hb, rfl⟩ := hQ
  have hg := h.lt
  have hbm : RBox g r 0 1 .nilFunc Wm := (h.setM 1).keep (hb.block g (by rw [World.size_setCell]; exact hg))
  have hgm := hbm.lt
  have o1 : Oth B g w0 Wm := (Oth.set hB w0 10 (.int .i32 1)).trans (Oth.of hb (by rw [World.size_setCell]; omega))
  have o2 : Oth B g Wm (((Wm.setCell ⟨g, 12, none⟩ (.func (.func fid) #[] caps)).drew.setCell ⟨g, 9, none⟩ (.int .u32 1)).setCell ⟨g, 10, none⟩ (.int .i32 0)) :=
    (((Oth.set hB Wm 12 _).trans (Oth.drew (by rw [World.size_setCell]; omega))).trans (Oth.set hB _ 9 _)).trans (Oth.set hB _ 10 _)
  have hr : RBox g r 1 0 (.func (.func fid) #[] caps) (((Wm.setCell ⟨g, 12, none⟩ (.func (.func fid) #[] caps)).drew.setCell ⟨g, 9, none⟩ (.int .u32 1)).setCell ⟨g, 10, none⟩ (.int .i32 0)) := by
    have h1 : RBox g r 0 1 (.func (.func fid) #[] caps) (Wm.setCell ⟨g, 12, none⟩ (.func (.func fid) #[] caps)).drew := hbm.setT _
    exact (h1.setD 1).setM 0
  have hT' : TestAt (w0.setCell ⟨g, 10, none⟩ (.int .i32 1)).heap.size f (.func (.func fid) #[] caps) Wm := ⟨fid, caps, rfl, hT⟩
  rw [World.size_setCell] at hT'
  have hS : Since w0.heap.size Wm (((Wm.setCell ⟨g, 12, none⟩ (.func (.func fid) #[] caps)).drew.setCell ⟨g, 9, none⟩ (.int .u32 1)).setCell ⟨g, 10, none⟩ (.int .i32 0)) := ⟨o2.below.size, fun k h1 h2 => o2.keep k h2 (by omega)⟩
  exact ⟨fid, caps, hr, hT'.since hS, ⟨_, Wm, _, hr, hT', hS, fun k hk hb => by have := hF k hk; omega⟩, o1.trans o2⟩
set_option maxRecDepth 100000 in
set_option maxHeartbeats 1600000 in
theorem holds_first (B : Nat) (F : Nat → Prop) (g : Nat) (r : RCells) (s : ByteArray) (w : World) (hB : B ≤ g) (hF : ∀ k, F k → k < w.heap.size) (h : RBox g r 0 0 .nilFunc w) (hL : ∀ W, Oth B g w W → LibOk W) (h1 : 1 ≤ r.op) (h2 : r.op ≤ 12) (ha : r.arg.size ≤ 1048576) (h0 : argC r.op r.arg = 0) (hs : s.size ≤ 8192) :
    Calls Tryz.prog 57 #[.pointer (some ⟨g, 0, none⟩), .string s] w (HoldsPost B F g r (tstO r.op r.arg) s w) := by
  have hg := h.lt
  obtain ⟨w0, hw0⟩ : ∃ w0, w.alloc (.cells #[.pointer (some ⟨g, 0, none⟩)] 86) = w0 := ⟨_, rfl⟩
  have hb0 : Below w.heap.size w w0 := by rw [← hw0]; exact (Below.refl _ _).alloc (Nat.le_refl _) _
  have o0 : Oth B g w w0 := Oth.of hb0 (by omega)
  have hr0 : RBox g r 0 0 .nilFunc w0 := h.keep (hb0.block g hg)
  have hp0 : w0.heap[w.heap.size]? = some (.cells #[.pointer (some ⟨g, 0, none⟩)] 86 (0, 0)) := by rw [← hw0]; exact heap_alloc_new w _
  have hp1 : (w0.setCell ⟨g, 10, none⟩ (.int .i32 1)).cell? ⟨w.heap.size, 0, none⟩ = some (.pointer (some ⟨g, 0, none⟩)) :=
    cell_of_row _ _ 0 _ _ _ ((Below.heap_setCell w0 ⟨g, 10, none⟩ (.int .i32 1) w.heap.size (by show w.heap.size ≠ g; omega)).trans hp0)
  have hrun := runs_any g w.heap.size r 0 1 (w0.setCell ⟨g, 10, none⟩ (.int .i32 1)) (hr0.setM 1) hp1 (hL _ (o0.trans (Oth.set hB w0 10 _))) h1 h2 ha h0
  generalize tstO r.op r.arg = f at *
  obtain ⟨⟨c9, c10⟩, f9, f10⟩ := hr0.once
  have hran : Calls Tryz.prog 103 #[.pointer (some ⟨w.heap.size, 0, none⟩)] (w0.setCell ⟨g, 10, none⟩ (.int .i32 1)) (Ran g 9 (MadeW g f (w0.setCell ⟨g, 10, none⟩ (.int .i32 1)))) := hrun.mono fun e w' ⟨e1, hQ⟩ => by
    obtain ⟨t, Wm, hT, hb, e2⟩ := hQ
    have hbm : RBox g r 0 1 .nilFunc Wm := (hr0.setM 1).keep (hb.block g (by rw [World.size_setCell]; exact hr0.lt))
    have hbt : RBox g r 0 1 t w' := by rw [e2]; exact hbm.setT t
    obtain ⟨⟨a, b⟩, c, d⟩ := hbt.once
    exact ⟨e1, a, c, b, d, t, Wm, hT, hb, e2⟩
  have HDO := Lib.hid (do_first g 9 ⟨w.heap.size, 0, none⟩ (MadeW g f (w0.setCell ⟨g, 10, none⟩ (.int .i32 1))) w0 c9 c10 f9 f10 hran)
  have HEN : Hid (∀ W, MadeW g f (w0.setCell ⟨g, 10, none⟩ (.int .i32 1)) W → ∃ fid caps, RBox g r 1 0 (.func (.func fid) #[] caps) ((W.drew.setCell ⟨g, 9, none⟩ (.int .u32 1)).setCell ⟨g, 10, none⟩ (.int .i32 0)) ∧ TestAt w0.heap.size f (.func (.func fid) #[] caps) ((W.drew.setCell ⟨g, 9, none⟩ (.int .u32 1)).setCell ⟨g, 10, none⟩ (.int .i32 0)) ∧ Ready F g r f ((W.drew.setCell ⟨g, 9, none⟩ (.int .u32 1)).setCell ⟨g, 10, none⟩ (.int .i32 0)) ∧ Oth B g w0 ((W.drew.setCell ⟨g, 9, none⟩ (.int .u32 1)).setCell ⟨g, 10, none⟩ (.int .i32 0))) := fun W hQ => once_ends hB (fun k hk => Nat.lt_of_lt_of_le (hF k hk) hb0.size) hr0 hQ
  have HP0 := Lib.hid hp0
  have HL := Lib.hid hL
  have HO := Lib.hid o0
  have hz : w.heap.size < w0.heap.size := heap_lt hp0
  have HW0 := Lib.hid hw0
  clear hrun hran hp0 hp1 c9 c10 f9 f10 hr0 hb0 hL o0 h0 hw0
  go_enter Tryz.func57, Tryz.ntmps57
  go_upto_region 1 with fail
  rw [HW0.out]
  have p0 := cell_of_row w0 w.heap.size 0 _ _ _ HP0.out
  simp only [List.getElem?_toArray, List.getElem?_cons_zero] at p0
  have hmf : ∀ (fn : Fn) (first cap : Array Value) (w : World), (Instr.makeFunc fn first cap).run Tryz.prog w = .ok (.func fn first cap) w := fun _ _ _ _ => rfl
  go_wp2_with (go_at_call 102; apply Hid.out)
  unfold Hid
  refine HDO.out.mono ?_
  rintro e w1 ⟨rfl, W, hQ, hw1⟩
  obtain ⟨fid, caps, hr1, hT1, hready, o1⟩ := HEN.out W hQ
  rw [← hw1] at hr1 hT1 hready o1
  have ow := HO.out.trans o1
  have hlib1 := HL.out w1 ow
  have p1 : w1.cell? ⟨w.heap.size, 0, none⟩ = some (.pointer (some ⟨g, 0, none⟩)) := cell_of_row w1 w.heap.size 0 _ _ _ ((o1.keep _ hz (by omega)).trans HP0.out)
  obtain ⟨q1, _⟩ := hr1.test
  obtain ⟨fid', caps', e', eg, hcall⟩ := hT1
  injection e' with e1 _ e2
  injection e1 with e1
  subst e1; subst e2
  have hc := hcall w1 (Since.refl _ _) hlib1 s hs
  have HRD := Lib.hid hready
  have HOW := Lib.hid ow
  have hz1 : g < w1.heap.size := hr1.lt
  clear hready hcall hQ hw1 hr1 o1 ow HDO HEN HP0 HL HO p0
  go_wp2_with (go_at_fn fid; refine hc.mono ?_; rintro e w2 ⟨rfl, hb2⟩)
  go_ret
  exact ⟨rfl, HRD.out.next hb2, HOW.out.trans (Oth.of hb2 (by omega))⟩
set_option maxRecDepth 100000 in
set_option maxHeartbeats 1600000 in
theorem holds_again (B : Nat) (F : Nat → Prop) (g : Nat) (r : RCells) (f : ByteArray → Bool) (s : ByteArray) (w : World) (hB : B ≤ g) (h : Ready F g r f w) (hlib : LibOk w) (hs : s.size ≤ 8192) :
    Calls Tryz.prog 57 #[.pointer (some ⟨g, 0, none⟩), .string s] w (HoldsPost B F g r f s w) := by
  have hg : g < w.heap.size := h.lt
  obtain ⟨w0, hw0⟩ : ∃ w0, w.alloc (.cells #[.pointer (some ⟨g, 0, none⟩)] 86) = w0 := ⟨_, rfl⟩
  have hb0 : Below w.heap.size w w0 := by rw [← hw0]; exact (Below.refl _ _).alloc (Nat.le_refl _) _
  have hp0 : w0.heap[w.heap.size]? = some (.cells #[.pointer (some ⟨g, 0, none⟩)] 86 (0, 0)) := by rw [← hw0]; exact heap_alloc_new w _
  have hrd := h.next hb0
  have hready := hrd
  obtain ⟨t, w00, lo, hr, hT0, hS0, _⟩ := hrd
  have hT := hT0.since hS0
  obtain ⟨fid, caps, rfl, eg, hcall⟩ := hT
  clear hT0 hS0
  obtain ⟨⟨c9, _⟩, _⟩ := hr.once
  obtain ⟨q1, _⟩ := hr.test
  have hc := hcall w0 (Since.refl _ _) (hlib.below hb0) s hs
  have HDN := Lib.hid (do_done ⟨g, 9, none⟩ 1 (by decide) (.func (.func 103) #[] #[.pointer (some ⟨w.heap.size, 0, none⟩)]) w0 c9)
  have HRD := Lib.hid hready
  have HB0 := Lib.hid hb0
  have p0 := cell_of_row w0 w.heap.size 0 _ _ _ hp0
  simp only [List.getElem?_toArray, List.getElem?_cons_zero] at p0
  have HW0 := Lib.hid hw0
  have hmf : ∀ (fn : Fn) (first cap : Array Value) (w : World), (Instr.makeFunc fn first cap).run Tryz.prog w = .ok (.func fn first cap) w := fun _ _ _ _ => rfl
  have hz0 : g < w0.heap.size := hr.lt
  clear hready hcall hr hb0 hp0 h hw0 c9 hlib
  go_enter Tryz.func57, Tryz.ntmps57
  go_upto_region 1 with fail
  rw [HW0.out]
  go_wp2_with (go_at_call 102; apply Hid.out)
  unfold Hid
  refine HDN.out.mono ?_
  rintro e w1 ⟨rfl, rfl⟩
  go_wp2_with (go_at_fn fid; refine hc.mono ?_; rintro e w2 ⟨rfl, hb2⟩)
  go_ret
  exact ⟨rfl, HRD.out.next hb2, (Oth.of HB0.out (by omega)).trans (Oth.of hb2 (by omega))⟩
end Go.Proofs.YthfjmlcjkbgboaaGreatDoor
