/- The walk of HeadOwn. -/
import Derived.Test.YtchoenfclfafiaaDoorRmF
import Derived.Test.YtchoenfclfafiaaDoorSerF
import Derived.Test.YtchoenfclfafiaaDoorFOf
import Derived.Test.YtchoenfclfafiaaDoorOpenU
namespace Go.Proofs.YtchoenfclfafiaaDoor
open Go.RowKit

theorem room_sl {w : World} {base g n cap : Nat} {T : TypeId} {size k : Nat} {xs ys : List Value} (h : w.ownsRow base T size (.slice (some ⟨g, 0, none⟩) (n + k) cap) (n + k) (xs ++ ys)) (hx : xs.length = n * size) : Sl w w.heap.size size (some ⟨g, 0, none⟩) n xs := by
  refine ⟨hx, fun _ => ⟨g, 0, rfl, (h.lt g rfl).2, fun j hj => ?_⟩⟩
  have hl := h.1
  rw [List.length_append] at hl
  rw [Nat.zero_add, h.cellAt j (by omega), List.getElem?_append_left hj, List.getElem?_eq_getElem hj]
theorem hd_new (w : World) (m t : ByteArray) (v : Value) : HdAt w.heap.size m t v (w.alloc (.cells #[.string m, .string t, v] 29)) := heap_alloc_new _ _
theorem of_none (w : World) : Calls Tryd.prog 22 #[.agg #[.string (ByteArray.mk #[]), .string (ByteArray.mk #[]), .slice none 0 0]] w (OfPost (1, 0, 0) w) :=
  Of_any (ByteArray.mk #[]) (ByteArray.mk #[]) none 0 0 [] w rfl (Sl.nil _ _ _ _) (by simp) (by simp) (by simp)

theorem rmRow_ofF' {w : World} {base g n cap : Nat} {T : TypeId} {size : Nat} {xs : List Value} (h : w.ownsRow base T size (.slice (some ⟨g, 0, none⟩) n cap) n xs) : base ≤ g := (h.lt g rfl).1
set_option maxRecDepth 100000 in
set_option maxHeartbeats 1600000 in
theorem spoil_nil (f0 f1 : ByteArray) (w : World) : Calls Tryd.prog 28 #[.slice none 0 0, .agg #[.string f0, .string f1]] w fun e w' => e = .returned (.tuple #[]) ∧ Below w.heap.size w w' := by
  have hbx := (Below.refl w.heap.size w).alloc (Nat.le_refl _) (.cells #[.string f0, .string f1] 65)
  have HB := Lib.hid hbx
  clear hbx
  have d0 : decide ((0 : Int) < 0) = false := rfl
  go_enter Tryd.func28, Tryd.ntmps28
  go_wp2_with fail
  go_loopw [4, 11] (fun _ i wr => i = .int .i64 0 ∧ Below w.heap.size w wr) (fun _ i _ => (intOf i).toNat)
  case atStart => exact ⟨rfl, HB.out⟩
  case round =>
    obtain ⟨rfl, hb⟩ := hrel
    go_wp2_with fail
    exact bodyPost_end (v := .tuple #[]) (by simp [results, Tryd.results28, go_sem]) rfl ⟨rfl, hb⟩
theorem spoil_own (f0 f1 : ByteArray) {w : World} {base n c : Nat} {A : Option Addr} {l : List PairV} (h : OwnV w base (.slice A n c) l) : Calls Tryd.prog 28 #[.slice A n c, .agg #[.string f0, .string f1]] w fun e w' => e = .returned (.tuple #[]) ∧ w.grownBy w' (Value.slice A n c).ownBlock := by
  rcases h.2 with ⟨e, _⟩ | ⟨g, cap, cur, e, h0, h1, h2, h3, h4, _⟩
  · injection e with e1 e2 e3
    subst e1; subst e2; subst e3
    exact (spoil_nil f0 f1 w).mono fun e w' ⟨h1, h2⟩ => ⟨h1, only_below (World.grownBy.refl _ _) h2⟩
  · injection e with e1 e2 e3
    subst e1; subst e3
    exact (spoilF_any g n c f0 f1 w ⟨⟨cur, h4, h1⟩⟩ (by rw [e2]; exact h2) h3).mono fun e w' ⟨h1, _, h2⟩ => ⟨h1, h2⟩
set_option maxRecDepth 100000 in
set_option maxHeartbeats 3200000 in
theorem headOwn_walk (m t : ByteArray) (fs : List PairV) (A : Option Addr) (c : Nat) (w : World) (hf : Sl w w.heap.size 2 A fs.length (fs.flatMap cellsV)) (hm : m.size ≤ maxLen) (ht : t.size ≤ maxLen) (hok : StripOk fs) (hfl : fs.length ≤ 1048576) (hlib : LibOk w) (htab : TabOk w) :
    Calls Tryd.prog 5 #[.agg #[.string m, .string t, .slice A fs.length c]] w fun e w' => e = .returned (.bool true) ∧ Below w.heap.size w w' := by
  have hbx : ∀ W, Below (w.heap.size + 1) (w.alloc (.cells #[.string m, .string t, .slice A fs.length c] 29)) W → (W.cell? ⟨w.heap.size, 0, none⟩ = some (.string m) ∧ W.cell? ⟨w.heap.size, 1, none⟩ = some (.string t) ∧ W.cell? ⟨w.heap.size, 2, none⟩ = some (.slice A fs.length c)) ∧ Below w.heap.size w W ∧ Sl W w.heap.size 2 A fs.length (fs.flatMap cellsV) ∧ LibOk W ∧ TabOk W := fun W hb => by
    obtain ⟨h1, h2⟩ := box_facts hb
    exact ⟨⟨h1 0, h1 1, h1 2⟩, h2, hf.below h2, hlib.below h2, htab.below h2⟩
  have HBX := Lib.hid hbx
  obtain ⟨W0, hW0⟩ : ∃ W0, w.alloc (.cells #[.string m, .string t, .slice A fs.length c] 29) = W0 := ⟨_, rfl⟩
  have hz0 : w.heap.size + 1 ≤ W0.heap.size := by rw [← hW0]; simp
  rw [hW0] at HBX
  have HW0 := Lib.hid hW0
  have HOF := Lib.hid (of_none W0)
  unfold OfPost ofV at HOF
  clear hbx hW0 hf hlib htab
  go_enter Tryd.func5, Tryd.ntmps5
  go_upto_region 1 with fail
  rw [HW0.out]
  go_wp2_with fail
  refine HOF.out.mono ?_
  rintro e w1 ⟨rfl, hb1⟩
  have hb1 := hb1.mono hz0
  have hz1 : w.heap.size < w1.heap.size := Nat.le_trans hz0 hb1.size
  have hb2 := hb1.alloc (o := .cells #[.int .i64 1, .int .i64 0] 61) hz1
  have ⟨⟨b0, b1, b2⟩, _⟩ := HBX.out _ hb2
  have ⟨⟨a0, a1, a2⟩, _⟩ := HBX.out _ hb1
  have hb3 := hb2.alloc (o := .cells #[.string m, .string t, .slice A fs.length c] 29) (Nat.le_trans hz0 hb2.size)
  have hi1 : HdAt (w1.heap.size + 1) m t (.slice A fs.length c) ((w1.alloc (.cells #[.int .i64 1, .int .i64 0] 61)).alloc (.cells #[.string m, .string t, .slice A fs.length c] 29)) := by
    have := hd_new (w1.alloc (.cells #[.int .i64 1, .int .i64 0] 61)) m t (.slice A fs.length c)
    rw [World.size_alloc] at this
    exact this
  obtain ⟨W1, hW1⟩ : ∃ W1, (w1.alloc (.cells #[.int .i64 1, .int .i64 0] 61)).alloc (.cells #[.string m, .string t, .slice A fs.length c] 29) = W1 := ⟨_, rfl⟩
  have hz2 : w1.heap.size + 1 < W1.heap.size := by rw [← hW1]; simp
  rw [hW1] at hi1 hb3
  have ⟨⟨c0, c1, c2⟩, _, hsA, _⟩ := HBX.out _ hb3
  have hcl : (fs.flatMap cellsV).length = fs.length * 2 := cellsV_len fs
  have hROOM := Lib.hid (roomyF_any A fs.length c (fs.flatMap cellsV) (.string (ByteArray.mk #[113])) (.string (ByteArray.mk #[])) W1 (hsA.more (Nat.le_trans (Nat.le_succ _) (Nat.le_trans hz0 hb3.size))) (cellsV_one fs) (by simp [Value.oneCell']) (by omega))
  have HW1 := Lib.hid hW1
  clear hW1 hsA
  go_upto_region 5 with fail
  rw [HW1.out]
  go_wp2_with fail
  refine hROOM.out.mono ?_
  rintro e w3 ⟨g, cap, rfl, hR, hb4⟩
  have hi3 : HdAt (w1.heap.size + 1) m t (.slice A fs.length c) w3 := (hb4.block _ hz2).trans hi1
  have hb5 := hb3.trans (hb4.mono (Nat.le_trans hz0 hb3.size))
  have hz3 : w1.heap.size + 1 < w3.heap.size := Nat.lt_of_lt_of_le hz2 hb4.size
  have ⟨r0, r1, r2⟩ := hi3.cells
  have f0 := hi3.free 0
  have f1 := hi3.free 1
  have f2 := hi3.free 2
  have hgb : W1.heap.size ≤ g := (rmRow_ofF' hR)
  clear a0 a1 a2 b0 b1 b2 c0 c1 c2 hb4
  go_upto_region 6 with fail
  -- the head that is handed in
  obtain ⟨W4, hW4⟩ : ∃ W4, w3.setCell ⟨w1.heap.size + 1, 2, none⟩ (.slice (some ⟨g, 0, none⟩) fs.length cap) = W4 := ⟨_, rfl⟩
  have hi4 : HdAt (w1.heap.size + 1) m t (.slice (some ⟨g, 0, none⟩) fs.length cap) W4 := by rw [← hW4]; exact hi3.put _
  have hb6 : Below (w.heap.size + 1) W0 W4 := by rw [← hW4]; exact hb5.setCell (p := ⟨w1.heap.size + 1, 2, none⟩) (by show w.heap.size + 1 ≤ w1.heap.size + 1; omega) _
  have hR4 : W4.ownsRow W1.heap.size 65 2 (.slice (some ⟨g, 0, none⟩) (fs.length + 2) cap) (fs.length + 2) (fs.flatMap cellsV ++ [.string (ByteArray.mk #[113]), .string (ByteArray.mk #[]), .string (ByteArray.mk #[113]), .string (ByteArray.mk #[])]) := by
    rw [← hW4]
    exact ownsRow_setCell_other (a := ⟨w1.heap.size + 1, 2, none⟩) hR (fun e => by simp [Value.ownBlock] at e; omega) _
  have hz4 : w1.heap.size + 1 < W4.heap.size := by rw [← hW4]; simp only [World.size_setCell]; exact hz3
  have hzg : g < W4.heap.size := (hR4.lt g rfl).2
  rw [hW4]
  have HFACT : Hid (∀ W, Below W4.heap.size W4 W → HdAt (w1.heap.size + 1) m t (.slice (some ⟨g, 0, none⟩) fs.length cap) W ∧ W.ownsRow W1.heap.size 65 2 (.slice (some ⟨g, 0, none⟩) (fs.length + 2) cap) (fs.length + 2) (fs.flatMap cellsV ++ [.string (ByteArray.mk #[113]), .string (ByteArray.mk #[]), .string (ByteArray.mk #[113]), .string (ByteArray.mk #[])]) ∧ Sl W W.heap.size 2 (some ⟨g, 0, none⟩) fs.length (fs.flatMap cellsV) ∧ Below (w.heap.size + 1) W0 W) := fun W hb => by
    have h1 := ownsRow_below hR4 hb
    exact ⟨(hb.block _ hz4).trans hi4, h1, room_sl h1 hcl, hb6.trans (hb.mono (Nat.le_trans hz0 hb6.size))⟩
  have HSTRIP : Hid (∀ (A : Option Addr) (c : Nat) W, Sl W W.heap.size 2 A fs.length (fs.flatMap cellsV) → LibOk W → Calls Tryd.prog 24 #[.agg #[.string m, .string t, .slice A fs.length c]] W (StripPost ⟨m, t, fs⟩ W)) := fun A c W h1 h2 => Strip_any ⟨m, t, fs⟩ A c W h1 hok h2
  have HFW : Hid (∀ (A : Option Addr) (c : Nat) W, Sl W W.heap.size 2 A fs.length (fs.flatMap cellsV) → LibOk W → TabOk W → Calls Tryd.prog 25 #[.agg #[.string m, .string t, .slice A fs.length c, .string (ByteArray.mk #[])]] W fun e w' => ∃ v, e = .returned v ∧ Below W.heap.size W w') := fun A c W h1 h2 h3 => by
    refine (Forward_any ⟨m, t, fs⟩ (ByteArray.mk #[]) A c W h1 hm ht (by decide) hok h2 h3).mono ?_
    rintro e w' ⟨h | h, hb⟩
    · exact ⟨_, h.2, hb⟩
    · exact ⟨_, h.2, hb⟩
  have HSAME : Hid (∀ W A1 A2 c1 c2, _ → _ → _) := fun W A1 A2 c1 c2 h1 h2 => SameHead_yes m t fs A1 A2 c1 c2 W h1 h2 (by omega)
  have HSAME2 : Hid (∀ W A1 A2 c1 c2, _ → _ → _) := fun W A1 A2 c1 c2 h1 h2 => SameHead_yes m t (stripF fs) A1 A2 c1 c2 W h1 h2 (by have : (stripF fs).length ≤ fs.length := List.length_filter_le _ _; omega)
  have hsl4 := (HFACT.out W4 (Below.refl _ _)).2.2.1
  have hS1 := HSTRIP.out (some ⟨g, 0, none⟩) cap W4 hsl4 (HBX.out W4 hb6).2.2.2.1
  have HS1 := Lib.hid hS1
  have ⟨r0, r1, r2⟩ := hi4.cells
  clear hS1 hsl4 hW4 hi4 hi3 hi1 hb6 hb5 hb3 hb2 hb1 hR4 hR hROOM HOF f0 f1 f2
  go_wp2_with fail
  refine HS1.out.mono ?_
  rintro e w5 ⟨As, cs, rfl, hOs, hb5⟩
  dsimp only at hOs ⊢
  have hzs : (stripF fs).length ≤ fs.length := List.length_filter_le _ _
  have hss5 := OwnV.sl hOs
  have HFARS : Hid (∀ k, (Value.slice As (stripF fs).length cs).ownBlock = some k → k < w5.heap.size) := fun k hk => (World.ownsRow.lt hOs k hk).2
  have hal := (Below.refl w5.heap.size w5).alloc (Nat.le_refl _) (.cells #[.string m, .string t, .slice As (stripF fs).length cs] 29)
  have hs6 := hd_new w5 m t (.slice As (stripF fs).length cs)
  have hOs6 := hOs.below hal
  have hb6 := hb5.trans (hal.mono hb5.size)
  obtain ⟨W6, hW6⟩ : ∃ W6, w5.alloc (.cells #[.string m, .string t, .slice As (stripF fs).length cs] 29) = W6 := ⟨_, rfl⟩
  have hz5 : w5.heap.size < W6.heap.size := by rw [← hW6]; simp
  have hz45 := hb5.size
  rw [hW6] at hs6 hOs6 hb6
  have HFACT2 : Hid (∀ W, Below W6.heap.size W6 W → HdAt w5.heap.size m t (.slice As (stripF fs).length cs) W ∧ OwnV W W4.heap.size (.slice As (stripF fs).length cs) (stripF fs)) := fun W hb => ⟨(hb.block _ hz5).trans hs6, hOs6.below hb⟩
  obtain ⟨hi6, hR6, hsl6, hB6⟩ := HFACT.out W6 hb6
  have HFW6 := Lib.hid (HFW.out (some ⟨g, 0, none⟩) cap W6 hsl6 (HBX.out W6 hB6).2.2.2.1 (HBX.out W6 hB6).2.2.2.2)
  have ⟨x0, x1, x2⟩ := hi6.cells
  have HB6 := Lib.hid hb6
  clear r0 r1 r2 hOs hss5 hal hs6 hOs6 hb5 hb6 hi6 hR6 hsl6 hB6 HFW HS1
  go_upto_region 7 with fail
  try rw [hW6]
  go_wp2_with fail
  refine HFW6.out.mono ?_
  rintro e w7 ⟨v7, rfl, hb7⟩
  have hb47 := HB6.out.trans (hb7.mono HB6.out.size)
  obtain ⟨hi7, hR7, hsl7, hB7⟩ := HFACT.out w7 hb47
  have ⟨⟨b0, b1, b2⟩, _, hA7, _⟩ := HBX.out w7 hB7
  have HSM7 := Lib.hid (HSAME.out w7 (some ⟨g, 0, none⟩) A cap c hsl7 (hA7.more (Nat.le_trans (Nat.le_of_lt (Nat.lt_succ_self _)) (Nat.le_trans hz0 hB7.size))))
  clear x0 x1 x2
  have ⟨x0, x1, x2⟩ := hi7.cells
  have HB7 := Lib.hid hb7
  have HB47 := Lib.hid hb47
  clear hb7 hb47 hi7 hR7 hsl7 hB7 hA7 HFW6
  go_wp2_with (go_at_call 26; apply Hid.out)
  unfold Hid
  refine HSM7.out.mono ?_
  rintro e w8 ⟨rfl, hb8⟩
  have hb48 := HB47.out.trans (hb8.mono HB47.out.size)
  have hb68 := HB7.out.trans (hb8.mono HB7.out.size)
  obtain ⟨hi8, hR8, hsl8, hB8⟩ := HFACT.out w8 hb48
  have HKEPT := Lib.hid (keptF_any g fs.length cap W1.heap.size (fs.flatMap cellsV) (ByteArray.mk #[113]) (ByteArray.mk #[]) w8 hR8 hcl (by omega))
  clear x0 x1 x2 b0 b1 b2
  have ⟨x0, x1, x2⟩ := hi8.cells
  have HB48 := Lib.hid hb48
  have HB68 := Lib.hid hb68
  clear hb8 hb48 hb68 hi8 hR8 hsl8 hB8 HSM7
  go_wp2_with (go_at_call 27; apply Hid.out)
  unfold Hid
  refine HKEPT.out.mono ?_
  rintro e w9 ⟨rfl, hb9⟩
  have hb49 := HB48.out.trans (hb9.mono HB48.out.size)
  have hb69 := HB68.out.trans (hb9.mono HB68.out.size)
  obtain ⟨hi9, hR9, hsl9, hB9⟩ := HFACT.out w9 hb49
  obtain ⟨hs9, hOs9⟩ := HFACT2.out w9 hb69
  have ⟨⟨b0, b1, b2⟩, _, hA9, hl9, _⟩ := HBX.out w9 hB9
  have HS9 := Lib.hid (HSTRIP.out A c w9 (hA9.more (Nat.le_trans (Nat.le_succ _) (Nat.le_trans hz0 hB9.size))) hl9)
  clear x0 x1 x2
  have HB49 := Lib.hid hb49
  have HB69 := Lib.hid hb69
  have HB9 := Lib.hid hB9
  clear hb9 hb49 hb69 hi9 hR9 hsl9 hB9 hs9 hOs9 hA9 hl9 HKEPT
  go_wp2_with (go_at_call 24; apply Hid.out)
  unfold Hid
  refine HS9.out.mono ?_
  rintro e w10 ⟨At, ct, rfl, hOt, hb10⟩
  dsimp only at hOt ⊢
  have hal := (Below.refl w10.heap.size w10).alloc (Nat.le_refl _) (.cells #[.string m, .string t, .slice At (stripF fs).length ct] 29)
  have ht11 := hd_new w10 m t (.slice At (stripF fs).length ct)
  have hOt11 := hOt.below hal
  have hb911 := hb10.trans (hal.mono hb10.size)
  obtain ⟨W11, hW11⟩ : ∃ W11, w10.alloc (.cells #[.string m, .string t, .slice At (stripF fs).length ct] 29) = W11 := ⟨_, rfl⟩
  have hz10 : w10.heap.size < W11.heap.size := by rw [← hW11]; simp
  have hz911 := hb10.size
  rw [hW11] at ht11 hOt11 hb911
  have hb411 := HB49.out.trans (hb911.mono HB49.out.size)
  have hb611 := HB69.out.trans (hb911.mono HB69.out.size)
  obtain ⟨hi11, hR11, _, hB11⟩ := HFACT.out W11 hb411
  obtain ⟨hs11, hOs11⟩ := HFACT2.out W11 hb611
  obtain ⟨hrm, hrm1, hrm2, _⟩ := rmRow_ofF hR11
  have HSP := Lib.hid (spoilF_any g fs.length cap (ByteArray.mk #[]) (ByteArray.mk #[]) W11 hrm (by omega) hrm2)
  have hgs : w5.heap.size < w9.heap.size := Nat.lt_of_lt_of_le hz5 HB69.out.size
  have hgg : g < w5.heap.size := Nat.lt_of_lt_of_le hzg hz45
  have hg0 : w.heap.size + 1 ≤ g := by omega
  have HW11 := Lib.hid hW11
  clear b0 b1 b2
  have ⟨x0, x1, x2⟩ := hi11.cells
  have HN11 := Lib.hid (And.intro hs11 (And.intro hOs11 (And.intro ht11 (And.intro hOt11 hB11))))
  clear hOt hal ht11 hOt11 hb911 hb411 hb611 hi11 hR11 hB11 hs11 hOs11 hrm hW11 hb10
  go_upto_region 11 with fail
  rw [HW11.out]
  go_wp2_with (go_at_call 28; apply Hid.out)
  unfold Hid
  refine HSP.out.mono ?_
  rintro e w12 ⟨rfl, _, hg12⟩
  obtain ⟨hs11, hOs11, ht11, hOt11, hB11⟩ := HN11.out
  have hB12 := hB11.grown hg12 (Nat.le_trans hz0 hB11.size) (fun k hk => by injection hk with hk; omega)
  have hs12 : HdAt w5.heap.size m t (.slice As (stripF fs).length cs) w12 := (hg12.block _ (by omega) (fun e => by injection e with e; omega)).trans hs11
  have ht12 : HdAt w10.heap.size m t (.slice At (stripF fs).length ct) w12 := (hg12.block _ hz10 (fun e => by injection e with e; omega)).trans ht11
  have hOs12 : OwnV w12 W4.heap.size (.slice As (stripF fs).length cs) (stripF fs) := hOs11.keep fun k hk => hg12.block k (World.ownsRow.lt hOs11 k hk).2 (fun e => by injection e with e; have := (World.ownsRow.lt hOs11 k hk).1; omega)
  have hOt12 : OwnV w12 w9.heap.size (.slice At (stripF fs).length ct) (stripF fs) := hOt11.keep fun k hk => hg12.block k (World.ownsRow.lt hOt11 k hk).2 (fun e => by injection e with e; have := (World.ownsRow.lt hOt11 k hk).1; omega)
  have HSM12 := Lib.hid (HSAME2.out w12 As At cs ct (OwnV.sl hOs12) (OwnV.sl hOt12))
  clear x0 x1 x2
  have ⟨x0, x1, x2⟩ := hs12.cells
  have ⟨y0, y1, y2⟩ := ht12.cells
  have hz12 := hg12.size
  have HN12 := Lib.hid (And.intro hs12 (And.intro hOs12 (And.intro ht12 (And.intro hOt12 hB12))))
  clear hs11 hOs11 ht11 hOt11 hB11 hB12 hs12 ht12 hOs12 hOt12 hg12
  go_wp2_with (go_at_call 26; apply Hid.out)
  unfold Hid
  refine HSM12.out.mono ?_
  rintro e w13 ⟨rfl, hb13⟩
  obtain ⟨hs12, hOs12, ht12, hOt12, hB12⟩ := HN12.out
  have hlt5 : w5.heap.size < w12.heap.size := by omega
  have hlt10 : w10.heap.size < w12.heap.size := by omega
  have hs13 : HdAt w5.heap.size m t (.slice As (stripF fs).length cs) w13 := (hb13.block _ hlt5).trans hs12
  have ht13 : HdAt w10.heap.size m t (.slice At (stripF fs).length ct) w13 := (hb13.block _ hlt10).trans ht12
  have hOs13 := hOs12.below hb13
  have hOt13 := hOt12.below hb13
  have hB13 := hB12.trans (hb13.mono (Nat.le_trans hz0 hB12.size))
  have HSP13 := Lib.hid (spoil_own (ByteArray.mk #[]) (ByteArray.mk #[]) hOs13)
  have hz13 := hb13.size
  clear x0 x1 x2 y0 y1 y2
  have ⟨x0, x1, x2⟩ := hs13.cells
  have HN13 := Lib.hid (And.intro ht13 (And.intro hOs13 (And.intro hOt13 hB13)))
  clear hs12 hOs12 ht12 hOt12 hB12 hs13 ht13 hOs13 hOt13 hB13 hb13
  go_wp2_with (go_at_call 28; apply Hid.out)
  unfold Hid
  refine HSP13.out.mono ?_
  rintro e w14 ⟨rfl, hg14⟩
  obtain ⟨ht13, hOs13, hOt13, hB13⟩ := HN13.out
  have hlt13 : w10.heap.size < w13.heap.size := by omega
  have hB14 := hB13.grown hg14 (Nat.le_trans hz0 hB13.size) (fun k hk => by have := (World.ownsRow.lt hOs13 k hk).1; omega)
  have hfar : ∀ k, (Value.slice As (stripF fs).length cs).ownBlock = some k → k < w9.heap.size := fun k hk => by have := HFARS.out k hk; omega
  have ht14 : HdAt w10.heap.size m t (.slice At (stripF fs).length ct) w14 := (hg14.block _ hlt13 (fun e => by have := hfar _ e.symm; omega)).trans ht13
  have hOt14 : OwnV w14 w9.heap.size (.slice At (stripF fs).length ct) (stripF fs) := hOt13.keep fun k hk => hg14.block k (World.ownsRow.lt hOt13 k hk).2 (fun e => by have := (World.ownsRow.lt hOt13 k hk).1; have := hfar _ e.symm; omega)
  have ⟨⟨b0, b1, b2⟩, hbw14, hA14, hl14, _⟩ := HBX.out w14 hB14
  have hz14 := hg14.size
  have hz10b : w10.heap.size < w14.heap.size := by omega
  have hzb : w.heap.size < w14.heap.size := Nat.le_trans hz0 hB14.size
  clear x0 x1 x2
  have HT : Hid (∀ W, Below w14.heap.size w14 W → (W.cell? ⟨w10.heap.size, 0, none⟩ = some (.string m) ∧ W.cell? ⟨w10.heap.size, 1, none⟩ = some (.string t) ∧ W.cell? ⟨w10.heap.size, 2, none⟩ = some (.slice At (stripF fs).length ct)) ∧ (W.cell? ⟨w.heap.size, 0, none⟩ = some (.string m) ∧ W.cell? ⟨w.heap.size, 1, none⟩ = some (.string t) ∧ W.cell? ⟨w.heap.size, 2, none⟩ = some (.slice A fs.length c)) ∧ Sl W W.heap.size 2 At (stripF fs).length ((stripF fs).flatMap cellsV)) := fun W hb => by
    have h1 : HdAt w10.heap.size m t (.slice At (stripF fs).length ct) W := (hb.block _ hz10b).trans ht14
    exact ⟨h1.cells, ⟨cell_kept hb b0, cell_kept hb b1, cell_kept hb b2⟩, OwnV.sl (hOt14.below hb)⟩
  have HST : Hid (∀ W, Below w14.heap.size w14 W → Calls Tryd.prog 24 #[.agg #[.string m, .string t, .slice A fs.length c]] W (StripPost ⟨m, t, fs⟩ W)) := fun W hb =>
    HSTRIP.out A c W ((hA14.below (hb.mono (Nat.le_of_lt hzb))).more (Nat.le_trans (Nat.le_of_lt hzb) hb.size)) (hl14.below hb)
  have HBW := Lib.hid hbw14
  have ⟨⟨y0, y1, y2⟩, _, _⟩ := HT.out w14 (Below.refl _ _)
  clear hg14 ht13 hOs13 hOt13 hB13 hB14 ht14 hOt14 hbw14 hA14 hl14
  go_upto_region 14 with fail
  go_region_held3 (fun w' => (w'.cell? ⟨w10.heap.size, 0, none⟩ = some (.string m) ∧ w'.cell? ⟨w10.heap.size, 1, none⟩ = some (.string t) ∧ w'.cell? ⟨w10.heap.size, 2, none⟩ = some (.slice At (stripF fs).length ct)) ∧ (w'.cell? ⟨w.heap.size, 0, none⟩ = some (.string m) ∧ w'.cell? ⟨w.heap.size, 1, none⟩ = some (.string t) ∧ w'.cell? ⟨w.heap.size, 2, none⟩ = some (.slice A fs.length c)))
    (first | exact ⟨(HT.out _ hb15b).1, (HT.out _ hb15b).2.1⟩ | exact ⟨(HT.out _ hb15a).1, (HT.out _ hb15a).2.1⟩ | exact ⟨(HT.out _ (Below.refl _ _)).1, (HT.out _ (Below.refl _ _)).2.1⟩ | exact ⟨(HT.out _ (Below.refl _ _).drew).1, (HT.out _ (Below.refl _ _).drew).2.1⟩ | go_keep | fail "K")
    (first
      | (go_at_call 24; (with_reducible refine (HST.out _ ?_).mono ?_); (first | exact Below.refl _ _ | exact (Below.refl _ _).drew | fail "B"); rintro e w15 ⟨A9, c9, rfl, hO9, hb15⟩; dsimp only at hO9; (first | (have hb15a : Below w14.heap.size w14 w15 := undrew hb15) | (have hb15a : Below w14.heap.size w14 w15 := hb15) | fail "C"); have hs15 := OwnV.sl hO9)
      | (go_at_call 26; (with_reducible refine (HSAME2.out w15 A9 At c9 ct hs15 (HT.out _ hb15a).2.2).mono ?_); rintro e w16 ⟨rfl, hb16⟩; have hb15b : Below w14.heap.size w14 w16 := hb15a.trans (hb16.mono hb15a.size)) | fail "D")
  all_goals (go_wp2_with fail; go_ret)
  all_goals exact ⟨rfl, HBW.out.trans (hb15b.mono HBW.out.size)⟩
/-! Sizes. -/
theorem piecesH_len (v : ByteArray) : (pieceS v).length ≤ v.size + 1 := by
  unfold pieceS
  rw [List.length_map]
  have := splL_len 44 v.data.toList
  have e : v.data.toList.length = v.size := by simp
  omega
def bulkH (l : List PairV) : Nat := (l.map fun x => x.1.size + x.2.size + 2).sum
theorem bulkH_cons (x : PairV) (l : List PairV) : bulkH (x :: l) = (x.1.size + x.2.size + 2) + bulkH l := by unfold bulkH; rw [List.map_cons, List.sum_cons]
theorem bulkH_mem {l : List PairV} : ∀ x ∈ l, x.1.size + x.2.size + 2 ≤ bulkH l := by
  induction l with
  | nil => intro x hx; cases hx
  | cons y l ih =>
    intro x hx
    have e := bulkH_cons y l
    rcases List.mem_cons.1 hx with h | h
    · subst h; omega
    · have := ih x h; omega
theorem dropH_bulk (fs : List PairV) (name : ByteArray) : ((getL fs name).flatMap pieceS).length ≤ bulkH fs := by
  induction fs with
  | nil => exact Nat.zero_le _
  | cons f fs ih =>
    rw [bulkH_cons]
    unfold getL at ih ⊢
    rw [List.filter_cons]
    split
    · rw [List.map_cons, List.flatMap_cons, List.length_append]
      have := piecesH_len f.2
      omega
    · omega
theorem stripH_fine {fs : List PairV} (hn : fs.length ≤ 1048577) (hb : bulkH fs ≤ 1048576) : StripOk fs := by
  refine ⟨by omega, fun f hf => ?_, ?_⟩
  · have := bulkH_mem f hf
    omega
  · unfold dropB
    rw [List.length_append]
    have := dropH_bulk fs connN
    show 8 + _ ≤ _
    omega
theorem bulkH_le {H : Type} : ∀ l : List PairV, bulkH l ≤ Rows.uptoBulkAll (l.map fun f => (fieldD f : DataW H)) ∧ l.length ≤ Rows.uptoBulkAll (l.map fun f => (fieldD f : DataW H))
  | [] => ⟨Nat.le_refl _, Nat.le_refl _⟩
  | x :: l => by
    have ih := bulkH_le (H := H) l
    have e1 : x.1.data.toList.length = x.1.size := by simp
    have e2 : x.2.data.toList.length = x.2.size := by simp
    rw [List.map_cons, Rows.uptoBulkAll, bulkH_cons, List.length_cons]
    simp only [fieldD, Rows.uptoBulk, Rows.uptoBulkAll, e1, e2]
    simp only [fieldD] at ih
    omega
theorem head_bulk {H : Type} {m t : ByteArray} {fs : List PairV} {y : DataW H} (hy : (y = .nil ∧ fs = []) ∨ ∃ sp, y = .slice (fs.map fieldD) sp) (hb : Rows.uptoBulk (DataW.agg [.lit (.string m.data.toList), .lit (.string t.data.toList), y] : DataW H) ≤ 1048576) : fs.length ≤ 1048576 ∧ bulkH fs ≤ 1048576 := by
  simp only [Rows.uptoBulk, Rows.uptoBulkAll] at hb
  rcases hy with ⟨_, h⟩ | ⟨sp, rfl⟩
  · rw [h]; exact ⟨Nat.zero_le _, Nat.zero_le _⟩
  · have : bulkH fs ≤ Rows.uptoBulkAll (fs.map (fieldD (H := H))) ∧ fs.length ≤ Rows.uptoBulkAll (fs.map (fieldD (H := H))) := bulkH_le fs
    simp only [Rows.uptoBulk] at hb
    exact ⟨by omega, by omega⟩
theorem headOwn_any (m t : ByteArray) (A : Option Addr) (n c : Nat) (fs : List (ByteArray × ByteArray)) (w : World) (hn : n = fs.length) {v : Value} (x : HeadArg w v m t A c fs) (hz : fs.length ≤ 1048576 ∧ bulkH fs ≤ 1048576) (hlib : LibOk w) (ht : Lib.TabIs Tryd.prog w "internal/strconv.uint64pow10" .u64 Lib.pow10Tab) :
    Calls Tryd.prog 5 #[.agg #[.string m, .string t, .slice A n c]] w fun e w' => e = .returned (.bool true) ∧ Below w.heap.size w w' := by
  subst hn
  exact headOwn_walk m t fs A c w x.sl x.msize x.tsize (stripH_fine (by omega) hz.2) hz.1 hlib (TabOk.of ht)
end Go.Proofs.YtchoenfclfafiaaDoor
