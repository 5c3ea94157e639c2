/- The walk of OneCuts. -/
import Derived.Test.YtchoenfclfafiaaDoorCutX
import Derived.Test.YtchoenfclfafiaaDoorRest
import Derived.Test.YtchoenfclfafiaaDoorOpenI
namespace Go.Proofs.YtchoenfclfafiaaDoor
open Go.RowKit

def get16 : ByteArray := ByteArray.mk #[71, 69, 84, 32, 47, 32, 72, 84, 84, 80, 47, 49, 46, 49, 13, 10]
theorem feed_get : feedL (get16 ++ ByteArray.mk #[13, 10]).data.toList 4096 4096 = ⟨[⟨⟨ByteArray.mk #[71, 69, 84], ByteArray.mk #[47], []⟩, []⟩], 0, []⟩ := by kernel_rfl
theorem feed_nil {H B : Int} (hH : 0 < H) : feedL [] H B = ⟨[], 0, []⟩ := by
  refine feed_more ?_
  have e : Lib.index (cutAt [] H) endL = -1 := by unfold cutAt; rw [List.take_nil]; rfl
  unfold oneR
  rw [e, if_pos (by decide), if_neg (by show ¬ H ≤ 0; omega)]
theorem rdAt_lt {g : Nat} {r : ByteArray} {o : Int} {w : World} (h : RdAt g r o w) : g < w.heap.size := by
  unfold RdAt at h
  rw [Array.getElem?_eq_some_iff] at h
  exact h.1
theorem rdAt_below {g : Nat} {r : ByteArray} {o : Int} {w w' : World} (h : RdAt g r o w) (hb : Below w.heap.size w w') : RdAt g r o w' := (hb.block g (rdAt_lt h)).trans h
theorem rdAt_put {g : Nat} {r r' : ByteArray} {o o' : Int} {w : World} (h : RdAt g r o w) : RdAt g r' o' ((w.setCell ⟨g, 0, none⟩ (.string r')).setCell ⟨g, 1, none⟩ (.int .i64 o')) := by
  unfold RdAt at h ⊢
  simp [World.setCell, Array.getElem?_modify, h]
theorem ownQ_sl {w : World} {base : Nat} {A : Option Addr} {n c : Nat} {l : List RqC} (h : OwnQ w base (.slice A n c) l) : Sl w w.heap.size 4 A l.length (l.flatMap cellsRq) := by
  obtain ⟨A', c', e, hs⟩ := h.form
  injection e with e1 e2 e3
  subst e1
  exact hs
def CuRel (S : List UInt8) (N : Nat) (H B : Int) (g : Nat) (w0 : World) (v0 v14 v15 v16 : Value) (wr : World) : Prop :=
  ∃ (p : List UInt8) (u : ByteArray) (xs : List RqC) (k : Nat), v0 = .string u ∧ S = p ++ u.data.toList ∧ v15 = .int .i64 (feedL p H B).e ∧ v16 = .int .i64 k ∧ k ≤ N + 1 ∧ (k = N + 1 → u.size = 0) ∧ xs.map RqC.q = (feedL p H B).qs ∧ OwnQ wr g v14 xs ∧ RdAt g (bs (feedL p H B).rest) (feedL p H B).e wr ∧ Below g w0 wr
set_option maxRecDepth 100000 in
set_option maxHeartbeats 3200000 in
theorem oneCuts_any (s : ByteArray) (H B A0 : Int) (a : IArg) (w : World) {v : Value} (hs : s.size ≤ 140737488351232) (y : IntsArg w v a) (hl : a.l.length ≤ 17592186044416) (hlib : LibOk w) :
    Calls Tryd.prog 4 #[.string s, .agg #[.int .i64 H, .int .i64 B, .int .i64 A0], .slice a.A a.l.length a.c] w fun e w' => e = .returned (.bool true) ∧ Below w.heap.size w w' := by
  have hbx : ∀ W, Below (w.heap.size + 1) (w.alloc (.cells #[.int .i64 H, .int .i64 B, .int .i64 A0] 47)) W → (W.cell? ⟨w.heap.size, 0, none⟩ = some (.int .i64 H) ∧ W.cell? ⟨w.heap.size, 1, none⟩ = some (.int .i64 B) ∧ W.cell? ⟨w.heap.size, 2, none⟩ = some (.int .i64 A0)) ∧ Below w.heap.size w W ∧ LibOk W ∧ Sl W w.heap.size 1 a.A a.l.length (a.l.map (Value.int .i64)) := fun W hb => by
    obtain ⟨h1, h2⟩ := box_facts hb
    exact ⟨⟨h1 0, h1 1, h1 2⟩, h2, hlib.below h2, y.sl.below h2⟩
  have HBX := Lib.hid hbx
  obtain ⟨W0, hW0⟩ : ∃ W0, w.alloc (.cells #[.int .i64 H, .int .i64 B, .int .i64 A0] 47) = W0 := ⟨_, rfl⟩
  have hz0 : w.heap.size + 1 ≤ W0.heap.size := by rw [← hW0]; simp
  rw [hW0] at HBX
  have HW0 := Lib.hid hW0
  have HG : Hid (∀ W, LibOk W → Calls Tryd.prog 17 #[.agg #[.string (ByteArray.mk #[71, 69, 84, 32, 47, 32, 72, 84, 84, 80, 47, 49, 46, 49, 13, 10]), .int .i64 0], .agg #[.int .i64 4096, .int .i64 4096, .int .i64 40], .string (ByteArray.mk #[13, 10])] W fun e w' => ∃ A c, e = .returned (.tuple #[.agg #[.string (ByteArray.mk #[]), .int .i64 0], .slice A 1 c, .int .i64 0]) ∧ Below W.heap.size W w') := fun W h => by
    refine (Feed_good get16 (ByteArray.mk #[13, 10]) 4096 4096 40 W (by decide) (by decide) (by decide) h).mono ?_
    rintro e w' ⟨xs, v, rfl, hx, hO, hb⟩
    rw [feed_get] at hx ⊢
    obtain ⟨A, c, rfl, _⟩ := hO.form
    have hl1 : xs.length = 1 := by have := congrArg List.length hx; simpa using this
    rw [hl1]
    exact ⟨A, c, rfl, hb⟩
  clear hbx hW0 hlib y
  by_cases hgo : boundsB H B A0 = true ∧ s.size ≤ 8192
  · obtain ⟨hbb, hss⟩ := hgo
    obtain ⟨hH, hB⟩ := bounds_in hbb
    have hH0 : 0 ≤ H := by omega
    have HFD : Hid (∀ (r u : ByteArray) W, r.size ≤ 65536 → u.size ≤ 8192 → LibOk W → Calls Tryd.prog 17 #[.agg #[.string r, .int .i64 0], .agg #[.int .i64 H, .int .i64 B, .int .i64 A0], .string u] W (FeedPost (feedL (r ++ u).data.toList H B) W)) := fun r u W h1 h2 h3 => Feed_good r u H B A0 W hbb h1 h2 h3
    have HR : Hid (∀ (n : Int) (m : Nat) W, m ≤ 8192 → _) := fun n m W hm => RestN_any n ((m : Int) + 1) W (by omega) (by omega)
    go_enter Tryd.func4, Tryd.ntmps4
    go_upto_region 1 with fail
    rw [HW0.out]
    go_wp2_with fail
    refine (wide_any _).mono ?_
    rintro e w1 ⟨rfl, hb1⟩
    have hb1 := hb1.mono hz0
    have HGX := Lib.hid (HG.out w1 (HBX.out w1 hb1).2.2.1)
    go_wp2_with fail
    refine HGX.out.mono ?_
    rintro e w2 ⟨A3, c3, rfl, hb2⟩
    have hz1 : w.heap.size + 1 ≤ w1.heap.size := Nat.le_trans hz0 hb1.size
    have hb3 := (hb1.trans (hb2.mono hz1)).alloc (o := .cells #[.string (ByteArray.mk #[]), .int .i64 0] 51) (Nat.le_trans hz1 hb2.size)
    have ⟨⟨b0, b1, b2⟩, _, hl3, _⟩ := HBX.out _ hb3
    have HN2 := Lib.hid (HFD.out (ByteArray.mk #[]) s _ (by decide) hss hl3)
    have HB3 := Lib.hid hb3
    have hz2 : w.heap.size < w2.heap.size := Nat.lt_of_lt_of_le hz1 hb2.size
    have he0 : ((ByteArray.mk #[]) ++ s).data.toList = s.data.toList := by rw [ByteArray.data_append, Array.toList_append]; rfl
    rw [he0] at HN2
    clear hb1 hb2 hb3 hl3 HG HGX
    go_wp2_with fail
    refine HN2.out.mono ?_
    rintro e w4 ⟨xs, vl, rfl, hxs, hOl, hb4⟩
    obtain ⟨Al, cl, rfl, _⟩ := hOl.form
    have hb44 := HB3.out.trans (hb4.mono (Nat.le_trans hz0 HB3.out.size))
    have hz4 : w.heap.size + 1 ≤ w4.heap.size := Nat.le_trans hz0 hb44.size
    -- the result's box
    obtain ⟨F, hF⟩ : ∃ F, feedL s.data.toList H B = F := ⟨_, rfl⟩
    have hfl := feed_len H B hH0 hB.1 s.size s.data.toList (by simp)
    have hfi := feed_in s.size s.data.toList H B hH0 hB.1 (by simp)
    rw [hF] at hxs hfl hfi ⊢
    have hne1 : (F.e == 1) = false := by
      rcases hfi with h | ⟨_, h, _⟩
      · rw [h]; rfl
      · rcases h with h | h | h | h <;> rw [h] <;> rfl
    have hne2 : (F.e == 2) = false := by
      rcases hfi with h | ⟨_, h, _⟩
      · rw [h]; rfl
      · rcases h with h | h | h | h <;> rw [h] <;> rfl
    have hR4 : RdAt w4.heap.size (bs F.rest) F.e (w4.alloc (.cells #[.string (bs F.rest), .int .i64 F.e] 51)) := heap_alloc_new w4 _
    obtain ⟨W5, hW5⟩ : ∃ W5, w4.alloc (.cells #[.string (bs F.rest), .int .i64 F.e] 51) = W5 := ⟨_, rfl⟩
    have hb45 : Below w4.heap.size w4 W5 := by rw [← hW5]; exact (Below.refl _ _).alloc (Nat.le_refl _) _
    have hz5 : W5.heap.size = w4.heap.size + 1 := by rw [← hW5]; simp
    rw [hW5] at hR4
    have hOl5 := hOl.below hb45
    have hx0 : RdAt W5.heap.size (ByteArray.mk #[]) 0 (W5.alloc (.cells #[.string (ByteArray.mk #[]), .int .i64 0] 51)) := heap_alloc_new W5 _
    have hz6 : w4.heap.size + 1 ≤ W5.heap.size := Nat.le_of_eq hz5.symm
    have HST : Hid (CuRel s.data.toList a.l.length H B W5.heap.size W5 (.string s) (.slice none 0 0) (.int .i64 0) (.int .i64 0) (W5.alloc (.cells #[.string (ByteArray.mk #[]), .int .i64 0] 51))) :=
      ⟨[], s, [], 0, rfl, rfl, by rw [feed_nil (by omega)], rfl, Nat.zero_le _, fun h => by omega, by rw [feed_nil (by omega)]; rfl, OwnQ.nil _ _, by rw [feed_nil (by omega)]; exact hx0, (Below.refl _ _).alloc (Nat.le_refl _) _⟩
    have HW5 := Lib.hid hW5
    have HFAP : Hid (∀ (p u : List UInt8), feedL (p ++ u) H B = _) := fun p u => feed_append H B hH0 hB.1 p.length p u (Nat.le_refl _)
    have HFLN : Hid (∀ (p : List UInt8), _ ∧ _) := fun p => feed_len H B hH0 hB.1 p.length p (Nat.le_refl _)
    have HF := Lib.hid hF
    have HOL := Lib.hid hOl5
    have HXS := Lib.hid hxs
    have HR4 := Lib.hid hR4
    have HB45 := Lib.hid (hb44.trans (hb45.mono hz4))
    have i00 : ((0 : Int) == 0) = true := rfl
    clear hz5 b0 b1 b2 HN2 hx0 hW5 hF hOl hOl5 hxs hR4 hb4 hb44 hb45 hfi
    go_upto_region 7 with fail
    rw [HW5.out]
    go_wp2_with fail
    go_loopw [0, 14, 15, 16] (fun v0 v14 v15 v16 wr => CuRel s.data.toList a.l.length H B W5.heap.size W5 v0 v14 v15 v16 wr) (fun _ _ _ v16 _ => a.l.length + 1 - (intOf v16).toNat)
    case atStart => exact HST.out
    case round =>
      obtain ⟨p, u, ms, k, rfl, hS, rfl, rfl, hk, hku, hms, hO, hRd, hb⟩ := hrel
      have hSl : p.length + u.size = s.size := by
        have := congrArg List.length hS
        rw [List.length_append] at this
        simpa using this.symm
      have hus : u.size ≤ 8192 := by omega
      have hpl := (HFLN.out p).2
      have hql := (HFLN.out p).1
      have HAP := Lib.hid (HFAP.out p u.data.toList)
      have HAPQ : Hid (∀ q : List UInt8, _) := fun q => HFAP.out p q
      rw [← hS, HF.out] at HAP
      obtain ⟨G, hG⟩ : ∃ G, feedL p H B = G := ⟨_, rfl⟩
      have HGG := Lib.hid hG
      rw [hG] at hRd hms hpl hql HAP HAPQ ⊢
      obtain ⟨Am, cm, rfl, _⟩ := hO.form
      by_cases hgo : G.e = 0 ∧ k ≤ a.l.length
      · obtain ⟨hGe, hkl⟩ := hgo
        rw [hGe] at hRd ⊢
        have d1 : decide ((k : Int) ≤ (a.l.length : Int)) = true := by simp; omega
        have i7 : IntKind.i64.wrap ((k : Int) + 1) = (k : Int) + 1 := IntWalk.i64_in _ (by omega)
        have HRD := Lib.hid hRd
        have HB := Lib.hid hb
        have HO := Lib.hid hO
        have HRE := Lib.hid (HR.out)
        have hzr := hb.size
        clear hRd hb hO hG
        go_upto_if 65 with fail
        go_cut [17] from 50 to 89 (fun s17 wx => ∃ n : Nat, s17 = .int .i64 n ∧ n ≤ u.size ∧ (k = a.l.length → n = u.size) ∧ wr = wx)
        case first =>
          by_cases hlt : k < a.l.length
          · have d2 : decide ((k : Int) < (a.l.length : Int)) = true := by simp; omega
            have i1 : (0 : Int) ≤ (k : Int) := by omega
            have i2 : (k : Int) < (a.l.length : Int) := by omega
            have i3 : IntKind.i64.wrap ((u.size : Int) + 1) = (u.size : Int) + 1 := IntWalk.i64_in _ (by omega)
            obtain ⟨_, _, _, hsl⟩ := HBX.out _ (HB45.out.trans (HB.out.mono (by omega)))
            obtain ⟨b, off, hA, hbB, hc⟩ := hsl.src (by rw [List.length_map]; omega)
            have hck := hc k (by rw [List.length_map]; exact hlt)
            rw [List.getElem_map] at hck
            have HRE2 := Lib.hid (HRE.out a.l[k] u.size wr hus)
            clear hc hsl
            generalize a.l[k] = z at *
            rw [hA]
            go_wp2_with fail
            refine HRE2.out.mono ?_
            rintro e w7 ⟨j, rfl, hj, hw7⟩
            subst w7
            go_wp2_with fail
            rw [← hA]
            go_meet
            exact ⟨j, rfl, by omega, fun h => by omega, rfl⟩
          · have d2 : decide ((k : Int) < (a.l.length : Int)) = false := by simp; omega
            go_wp2_with fail
            go_meet
            exact ⟨u.size, rfl, Nat.le_refl _, fun _ => rfl, rfl⟩
        case rest =>
          obtain ⟨n, rfl, hn, hkn, rfl⟩ := hcut
          obtain ⟨A6, c6, hv14, hsl6⟩ := HO.out.form
          have hq : (u.extract 0 n).data.toList = u.data.toList.take n := by rw [Lib.extract_data]; simp
          have hqs : (u.extract 0 n).size ≤ 8192 := by rw [ByteArray.size_extract]; omega
          have hrs : (bs G.rest).size ≤ 65536 := by rw [bs_size]; omega
          have hap : (bs G.rest ++ u.extract 0 n).data.toList = G.rest ++ u.data.toList.take n := by rw [ByteArray.data_append, Array.toList_append, hq]; rfl
          have hAQ := HAPQ.out (u.data.toList.take n)
          rw [if_pos hGe] at hAQ
          obtain ⟨K, hK⟩ : ∃ K, feedL (G.rest ++ u.data.toList.take n) H B = K := ⟨_, rfl⟩
          rw [hK] at hAQ
          have HAQ := Lib.hid hAQ
          have hcall : ∀ W, Below wr.heap.size wr W → Calls Tryd.prog 17 #[.agg #[.string (bs G.rest), .int .i64 0], .agg #[.int .i64 H, .int .i64 B, .int .i64 A0], .string (u.extract 0 n)] W (FeedPost K W) := fun W hW => by
            have := HFD.out (bs G.rest) (u.extract 0 n) W hrs hqs (HBX.out _ (HB45.out.trans ((HB.out.trans (hW.mono hzr)).mono (by omega)))).2.2.1
            rw [hap, hK] at this
            exact this
          have HCALL := Lib.hid hcall
          have i1 : (0 : Int) ≤ (n : Int) := by omega
          have i2 : (n : Int) ≤ (u.size : Int) := by omega
          have ⟨r0, r1⟩ := HRD.out.cells
          have f0 := HRD.out.free 0
          have f1 := HRD.out.free 1
          have ⟨⟨b0, b1, b2⟩, _, _, _⟩ := HBX.out _ (HB45.out.trans (HB.out.mono (by omega)))
          clear hq hqs hrs hap hAQ hK hcall hsl6 hv14
          go_upto_region 17 with fail
          go_cut [15, 18] from 50 to 89 (fun s15 s18 wx => ∃ (ys : List RqC) (Ay : Option Addr) (cy : Nat), s15 = .int .i64 K.e ∧ s18 = .slice Ay ys.length cy ∧ ys.map RqC.q = K.qs ∧ OwnQ wx wr.heap.size (.slice Ay ys.length cy) ys ∧ OwnQ wx W5.heap.size (.slice Am ms.length cm) ms ∧ RdAt W5.heap.size (bs K.rest) K.e wx ∧ Below W5.heap.size W5 wx)
          case first =>
            go_region_with (go_at_call 17; (with_reducible refine (HCALL.out _ ?_).mono ?_); (first | exact Below.refl _ _ | exact (Below.refl _ _).drew); rintro e w7 ⟨ys, vy, rfl, hys, hOy, hb7⟩; obtain ⟨Ay, cy, rfl, _⟩ := hOy.form; have hb8 : Below wr.heap.size wr w7 := (by first | exact undrew hb7 | exact hb7); have hr7 := rdAt_below HRD.out hb8; have ⟨r70, r71⟩ := hr7.cells; have f70 := hr7.free 0; have f71 := hr7.free 1)
            all_goals (go_wp2_with fail; go_meet)
            all_goals
              have hp : ∀ (g : Nat), g ≠ W5.heap.size → (((w7.setCell ⟨W5.heap.size, 0, none⟩ (.string (bs K.rest))).setCell ⟨W5.heap.size, 1, none⟩ (.int .i64 K.e))).heap[g]? = w7.heap[g]? := fun g hg => by rw [Below.heap_setCell _ _ _ _ hg, Below.heap_setCell _ _ _ _ hg]
              exact ⟨ys, Ay, cy, rfl, rfl, hys, OwnQ.other (w := w7) hOy hr7 hp, OwnQ.other (HO.out.below hb8) hr7 hp, rdAt_put hr7, ((HB.out.trans (hb8.mono hzr)).setCell (p := ⟨W5.heap.size, 0, none⟩) (Nat.le_refl _) _).setCell (p := ⟨W5.heap.size, 1, none⟩) (Nat.le_refl _) _⟩
          case rest =>
            obtain ⟨ys, Ay, cy, rfl, rfl, hys, hOy, hOm, hRd, hb⟩ := hcut
            have hms2 : ms.length ≤ 8192 := by have := congrArg List.length hms; rw [List.length_map] at this; omega
            have hys2 : ys.length ≤ 131072 := by
              have := congrArg List.length hys
              rw [List.length_map] at this
              have h2 := (HFLN.out (p ++ u.data.toList.take n)).1
              rw [HAQ.out] at h2
              rw [List.length_append, List.length_append, List.length_take] at h2
              omega
            have HOY := Lib.hid hOy
            have HOM := Lib.hid hOm
            have HRD2 := Lib.hid hRd
            have HB2 := Lib.hid hb
            have hzc := hb.size
            clear hOy hOm hRd hb r0 r1 f0 f1 b0 b1 b2
            go_wp2_with (at_builtin; apply Hid.out)
            unfold Hid
            refine wpList_append_qq rfl (.tmp 84) (.tmp 85) rfl W5.heap.size wr.heap.size (.slice Am ms.length cm) (.slice Ay ys.length cy) ms ys rfl rfl (by exact HOM.out) (by exact HOY.out) (by exact hzc) (by omega) ?_
            intro v8 w8 hO8 hb8 hin8 hk8 hz8
            obtain ⟨A8, c8, rfl, _⟩ := hO8.form
            have hr8 : RdAt W5.heap.size (bs K.rest) K.e w8 := (hk8 _ (rdAt_lt HRD2.out) (fun e => own_apart HOM.out.row HRD2.out (by decide) e)).trans HRD2.out
            have hN : CuRel s.data.toList a.l.length H B W5.heap.size W5 (.string (u.extract n u.size)) (.slice A8 (ms ++ ys).length c8) (.int .i64 K.e) (.int .i64 ((k : Int) + 1)) w8 := by
              refine ⟨p ++ u.data.toList.take n, u.extract n u.size, ms ++ ys, k + 1, rfl, ?_, ?_, by rw [Int.natCast_succ], by omega, fun h => ?_, ?_, hO8, ?_, HB2.out.trans hb8⟩
              · rw [Lib.extract_to_end, List.append_assoc, List.take_append_drop]; exact hS
              · rw [HAQ.out]
              · rw [ByteArray.size_extract]; have := hkn (by omega); omega
              · rw [HAQ.out, List.map_append, hms, hys]
              · rw [HAQ.out]; exact hr8
            have HN := Lib.hid hN
            rw [List.length_append] at HN
            clear hN hO8 hb8 hin8 hk8 hr8
            try rw [List.length_append]
            go_wp2_with fail
            go_roundw
            case rel => exact HN.out
            case measure => simp [intOf] <;> omega
      · have hFG : F = G := by
          have h := HAP.out
          by_cases h0 : G.e = 0
          · have hu0 : u.size = 0 := hku (by omega)
            have hue : u.data.toList = [] := List.eq_nil_of_length_eq_zero (by simpa using hu0)
            have hSp : s.data.toList = p := by rw [hS, hue, List.append_nil]
            rw [← HF.out, ← HGG.out, hSp]
          · rw [if_neg h0] at h; exact h
        subst hFG
        have ⟨x0, x1⟩ := hRd.cells
        have ⟨y0, y1⟩ := (rdAt_below HR4.out hb).cells
        have hlm : ms.length ≤ 8192 := by have := congrArg List.length hms; rw [List.length_map] at this; omega
        have hlx : xs.length ≤ 8192 := by have := congrArg List.length HXS.out; rw [List.length_map] at this; omega
        have hox := HOL.out.below hb
        have hsl1 := ownQ_sl hox
        have hsl2 := ownQ_sl hO
        have HEQ := Lib.hid (EqualQ_yes xs ms Al Am cl cm wr hsl1 hsl2 hox.all hO.all (HXS.out.trans hms.symm) (by omega))
        have HEND : Hid (∀ W, Below wr.heap.size wr W → Below w.heap.size w W) := fun W h => (HBX.out _ (HB45.out.trans ((hb.trans (h.mono hb.size)).mono (by omega)))).2.1
        have HG := Lib.hid hgo
        clear hgo hb hox hsl1 hsl2 hO hRd hms hql hpl
        by_cases h0 : F.e = 0
        · have hk1 : decide ((k : Int) ≤ (a.l.length : Int)) = false := by
            have := HG.out
            simp
            rcases Nat.lt_or_ge a.l.length k with h | h
            · omega
            · exact absurd ⟨h0, h⟩ this
          have hk2 : a.l.length < k := by
            rcases Nat.lt_or_ge a.l.length k with h | h
            · exact h
            · exact absurd ⟨h0, h⟩ HG.out
          have e0 : (F.e == 0) = true := beq_iff_eq.2 h0
          have e1 : (F.e == F.e) = true := by simp
          clear h0
          go_wp2_with (go_at_call 20; refine HEQ.out.mono ?_; rintro e w9 ⟨rfl, hb9⟩)
          go_ret
          exact ⟨rfl, HEND.out _ hb9⟩
        · have e0 : (F.e == 0) = false := beq_eq_false_iff_ne.2 h0
          have e1 : (F.e == F.e) = true := by simp
          clear h0
          go_wp2_with (go_at_call 20; refine HEQ.out.mono ?_; rintro e w9 ⟨rfl, hb9⟩)
          go_ret
          exact ⟨rfl, HEND.out _ hb9⟩
  · have HNO : Hid (∀ W, LibOk W → Calls Tryd.prog 17 #[.agg #[.string (ByteArray.mk #[]), .int .i64 0], .agg #[.int .i64 H, .int .i64 B, .int .i64 A0], .string s] W fun e w' => ∃ x : Int, (x = 1 ∨ x = 2) ∧ e = .returned (.tuple #[.agg #[.string (ByteArray.mk #[]), .int .i64 0], .slice none 0 0, .int .i64 x]) ∧ Below W.heap.size W w') := fun W _ => by
      cases hb : boundsB H B A0 with
      | false => exact (Feed_bad (ByteArray.mk #[]) s H B A0 W hb).mono fun e w' h => ⟨1, .inl rfl, h.1, h.2⟩
      | true => exact (Feed_large (ByteArray.mk #[]) s H B A0 W hb (by decide) (by rcases Nat.lt_or_ge 8192 s.size with h | h; exact h; exact absurd ⟨hb, h⟩ hgo)).mono fun e w' h => ⟨2, .inr rfl, h.1, h.2⟩
    clear hgo
    go_enter Tryd.func4, Tryd.ntmps4
    go_upto_region 1 with fail
    rw [HW0.out]
    go_wp2_with fail
    refine (wide_any _).mono ?_
    rintro e w1 ⟨rfl, hb1⟩
    have hb1 := hb1.mono hz0
    have HGX := Lib.hid (HG.out w1 (HBX.out w1 hb1).2.2.1)
    go_wp2_with fail
    refine HGX.out.mono ?_
    rintro e w2 ⟨A3, c3, rfl, hb2⟩
    have hz1 : w.heap.size + 1 ≤ w1.heap.size := Nat.le_trans hz0 hb1.size
    have hb3 := (hb1.trans (hb2.mono hz1)).alloc (o := .cells #[.string (ByteArray.mk #[]), .int .i64 0] 51) (Nat.le_trans hz1 hb2.size)
    have ⟨⟨b0, b1, b2⟩, _, hl3, _⟩ := HBX.out _ hb3
    have HN2 := Lib.hid (HNO.out _ hl3)
    have HB3 := Lib.hid hb3
    have hz2 : w.heap.size < w2.heap.size := Nat.lt_of_lt_of_le hz1 hb2.size
    clear hb1 hb2 hb3 hl3 HNO HG HGX
    go_wp2_with fail
    refine HN2.out.mono ?_
    rintro e w4 ⟨x, hx, rfl, hb4⟩
    have hb5 := (HB3.out.trans (hb4.mono (Nat.le_trans hz0 HB3.out.size))).alloc (o := .cells #[.string (ByteArray.mk #[]), .int .i64 0] 51) (Nat.le_trans (Nat.le_trans hz0 HB3.out.size) hb4.size)
    have HB5 := Lib.hid (HBX.out _ hb5).2.1
    clear hb4 hb5 HB3 HN2 b0 b1 b2
    rcases hx with rfl | rfl
    · go_wp2_with fail
      go_ret
      exact ⟨rfl, HB5.out⟩
    · go_wp2_with fail
      go_ret
      exact ⟨rfl, HB5.out⟩
end Go.Proofs.YtchoenfclfafiaaDoor
