/- The walk of serial.Strip. -/
import Derived.Test.YtchoenfclfafiaaDoorSerL
namespace Go.Proofs.YtchoenfclfafiaaDoor
open Go.RowKit

def StripPost (h : HeadV) (w : World) (e : Ending) (w' : World) : Prop :=
  ∃ A c, e = .returned (.agg #[.string h.m, .string h.t, .slice A (stripF h.fs).length c]) ∧ OwnV w' w.heap.size (.slice A (stripF h.fs).length c) (stripF h.fs) ∧ Below w.heap.size w w'
/-- The words to drop so far. -/
structure DropSt (w2 : World) (lit : Nat) (w : World) (v : Value) (acc : List ByteArray) : Prop where
  own : OwnS w lit v acc
  far : ∀ q, v.ownBlock = some q → q = lit ∨ w2.heap.size ≤ q
  grown : w2.grownBy w (some lit)
def OutRel (cs : List ByteArray) (w2 : World) (lit : Nat) (v i : Value) (wr : World) : Prop :=
  ∃ k : Nat, k ≤ cs.length ∧ i = .int .i64 k ∧ DropSt w2 lit wr v (hopsB ++ (cs.take k).flatMap pieceS)
def InnRel (acc qs : List ByteArray) (ps : List ByteArray) (w2 : World) (lit gp : Nat) (v i : Value) (wr : World) : Prop :=
  ∃ j : Nat, j ≤ qs.length ∧ i = .int .i64 j ∧ DropSt w2 lit wr v (acc ++ qs.take j) ∧ (∀ q, v.ownBlock = some q → q ≠ gp) ∧ wr.heap[gp]? = some (.cells (ps.map Value.string).toArray 9 (0, 0))
theorem DropSt.below {w2 : World} {lit : Nat} {w w' : World} {v : Value} {acc : List ByteArray} (h : DropSt w2 lit w v acc) (hb : Below w.heap.size w w') : DropSt w2 lit w' v acc :=
  ⟨h.own.below hb, h.far, only_below h.grown hb⟩
theorem DropSt.push {w2 : World} {lit : Nat} {w w' : World} {v v' : Value} {acc : List ByteArray} {x : ByteArray} (h : DropSt w2 lit w v acc) (ho : OwnS w' lit v' (acc ++ [x])) (hg : w.grownBy w' v.ownBlock) (hw : ∀ k, v'.ownBlock = some k → v.ownBlock = some k ∨ w.heap.size ≤ k) :
    DropSt w2 lit w' v' (acc ++ [x]) :=
  ⟨ho, fun q hq => (hw q hq).elim (h.far q) (fun h2 => .inr (Nat.le_trans h.grown.size h2)), ⟨hg.os.trans h.grown.os, hg.tape.trans h.grown.tape, hg.output.trans h.grown.output, Nat.le_trans h.grown.size hg.size, fun i hi hne =>
    (hg.block i (Nat.lt_of_lt_of_le hi h.grown.size) (fun e => (h.far i e.symm).elim (fun h2 => hne (by rw [h2])) (fun h2 => by omega))).trans (h.grown.block i hi hne)⟩⟩
theorem OwnS.sl2 {w : World} {b n c : Nat} {A : Option Addr} {l : List ByteArray} (h : OwnS w b (.slice A n c) l) : n = l.length ∧ Sl w w.heap.size 1 A l.length (l.map Value.string) := by
  obtain ⟨A', c', e, hs⟩ := h.form
  injection e with e1 e2 e3
  subst e1; subst e2
  exact ⟨rfl, hs⟩
def FldRel (fs : List PairV) (m t : ByteArray) (H : Nat) (W1 : World) (i : Value) (wr : World) : Prop :=
  ∃ k v, k ≤ fs.length ∧ i = .int .i64 k ∧ HdAt H m t v wr ∧ OwnV wr (H + 1) v ((fs.take k).filter (keepB fs)) ∧ Below H W1 wr

set_option maxRecDepth 100000 in
set_option maxHeartbeats 6400000 in
theorem Strip_any (h : HeadV) (A : Option Addr) (c : Nat) (w : World) (hf : Sl w w.heap.size 2 A h.fs.length (h.fs.flatMap cellsV)) (hok : StripOk h.fs) (hlib : LibOk w) :
    Calls Tryd.prog 24 #[.agg #[.string h.m, .string h.t, .slice A h.fs.length c]] w (StripPost h w) := by
  obtain ⟨m, t, fs⟩ := h
  dsimp only at *
  obtain ⟨W0, hW0⟩ : ∃ W0, (w.alloc (.cells #[.string m, .string t, .slice A fs.length c] 29)).alloc (.cells #[.string (ByteArray.mk #[]), .string (ByteArray.mk #[]), .slice none 0 0] 29) = W0 := ⟨_, rfl⟩
  have hb0 : Below w.heap.size w W0 := by rw [← hW0]; exact ((Below.refl _ _).alloc (Nat.le_refl _) _).alloc (by simp) _
  have hzz : W0.heap.size = w.heap.size + 2 := by rw [← hW0]; simp
  have ha : HdAt w.heap.size m t (.slice A fs.length c) W0 := by
    unfold HdAt
    rw [← hW0]
    exact (Below.heap_alloc _ _ _ (by simp)).trans (heap_alloc_new w _)
  have hr : ResAt (w.heap.size + 1) W0 := by
    unfold ResAt
    rw [← hW0]
    have := heap_alloc_new (w.alloc (.cells #[.string m, .string t, .slice A fs.length c] 29)) (.cells #[.string (ByteArray.mk #[]), .string (ByteArray.mk #[]), .slice none 0 0] 29)
    rw [World.size_alloc] at this
    exact this
  have hbx : ∀ W, Below W0.heap.size W0 W → HdAt w.heap.size m t (.slice A fs.length c) W ∧ ResAt (w.heap.size + 1) W ∧ Below w.heap.size w W ∧ Sl W W.heap.size 2 A fs.length (fs.flatMap cellsV) ∧ LibOk W := fun W hb => by
    have h2 := hb0.trans (hb.mono hb0.size)
    exact ⟨(hb.block _ (by omega)).trans ha, hr.below hb (by omega), h2, (hf.below h2).more h2.size, hlib.below h2⟩
  have HBX := Lib.hid hbx
  have HW0 := Lib.hid hW0
  have hz0 : w.heap.size < W0.heap.size := by omega
  have hz1 : w.heap.size + 1 < W0.heap.size := by omega
  have HOK := Lib.hid hok
  have hn := hok.n
  have hgl := getL_len' fs connN
  have hcsz : ∀ x ∈ getL fs connN, x.size ≤ 4194304 := fun x hx => by
    obtain ⟨f, hf, rfl⟩ := List.mem_map.1 hx
    exact (hok.sz f (List.mem_filter.1 hf).1).2
  have HCSZ := Lib.hid hcsz
  have HDL : Hid ((hopsB ++ (getL fs connN).flatMap pieceS).length ≤ 4194304) := hok.drop
  have HDE : Hid (dropB fs = hopsB ++ (getL fs connN).flatMap pieceS) := rfl
  have HGET : Hid (∀ W, Below W0.heap.size W0 W → Calls Tryd.prog 41 #[.agg #[.string m, .string t, .slice A fs.length c], .string connN] W (RowPost (getL fs connN) W)) := fun W h =>
    Get_any m t A fs.length c fs connN W rfl (HBX.out W h).2.2.2.1 (fun f hf => by have := (hok.sz f hf).1; unfold maxLen; omega) (by decide) (by omega)
  generalize hcs : getL fs connN = cs at *
  have ⟨a0, a1, a2⟩ := ha.cells
  clear hW0 hb0 ha hr hbx hf hok hcsz hlib hcs hzz
  have hlw : Sl (W0.alloc (.cells (hopsB.map Value.string).toArray 9)) (W0.alloc (.cells (hopsB.map Value.string).toArray 9)).heap.size 1 (some ⟨W0.heap.size, 0, none⟩) 8 (hopsB.map Value.string) := Sl.lit rfl (by simp) rfl rfl
  have hlo : OwnS (W0.alloc (.cells (hopsB.map Value.string).toArray 9)) W0.heap.size (.slice (some ⟨W0.heap.size, 0, none⟩) 8 8) hopsB := World.ownsRow_lit W0 (hopsB.map Value.string).toArray 8 (Nat.le_refl _) (by decide) rfl
  have hla : Below W0.heap.size W0 (W0.alloc (.cells (hopsB.map Value.string).toArray 9)) := (Below.refl _ _).alloc (Nat.le_refl _) _
  have HG1 := Lib.hid (HGET.out _ hla)
  have HLO := Lib.hid hlo
  clear hlw hlo hla HGET
  go_enter Tryd.func24, Tryd.ntmps24
  go_upto_region 1 with fail
  rw [HW0.out]
  go_wp2_with fail
  refine HG1.out.mono ?_
  rintro e w2 ⟨v2, rfl, hO2, hb2⟩
  obtain ⟨A2, d2, rfl, hs2⟩ := hO2.form
  have hlo2 := HLO.out.below hb2
  have hb2 := below_new hb2 (Nat.le_refl _)
  have hz2 : W0.heap.size < w2.heap.size := (hlo2.lt _ rfl).2
  have HCS : Hid (∀ W, w2.grownBy W (some W0.heap.size) → ∀ k (h : k < cs.length), ∃ b off, A2 = some ⟨b, off, none⟩ ∧ W.cell? ⟨b, off + k, none⟩ = some (.string cs[k])) := fun W hg k h => by
    obtain ⟨b, off, rfl, hbB, hc⟩ := hs2.src (by rw [List.length_map]; omega)
    have hl := hO2.lt b rfl
    simp at hl
    refine ⟨b, off, rfl, hg.cell ?_ (fun e => by injection e with e; have : b = W0.heap.size := e; omega)⟩
    rw [hc k (by rw [List.length_map]; exact h), List.getElem_map]
  have HBG : Hid (∀ W, w2.grownBy W (some W0.heap.size) → Below W0.heap.size W0 W) := fun W hg => hb2.grown hg (Nat.le_of_lt hz2) (fun k hk => by injection hk with hk; omega)
  have HST : Hid (DropSt w2 W0.heap.size w2 (.slice (some ⟨W0.heap.size, 0, none⟩) 8 8) hopsB) := ⟨hlo2, fun q hq => .inl (by injection hq with hq; exact hq.symm), ⟨rfl, rfl, rfl, Nat.le_refl _, fun _ _ _ => rfl⟩⟩
  clear hlo2 hb2 hs2 hO2 HG1 HLO HW0
  go_wp2_with fail
  go_loopw [3, 15] (fun v i wr => OutRel cs w2 W0.heap.size v i wr) (fun _ i _ => cs.length - (intOf i).toNat)
  case atStart => exact ⟨0, Nat.zero_le _, rfl, by simpa using HST.out⟩
  case round =>
    obtain ⟨k, hk, rfl, hD⟩ := hrel
    have hBG := HBG.out wr hD.grown
    have hdl := HDL.out
    obtain ⟨Ao, co, rfl, _⟩ := hD.own.form
    by_cases hlt : k < cs.length
    · have dd1 : decide ((k : Int) < (cs.length : Int)) = true := by simp; omega
      have i7 : IntKind.i64.wrap ((k : Int) + 1) = (k : Int) + 1 := IntWalk.i64_in _ (by omega)
      obtain ⟨b, off, rfl, x0⟩ := HCS.out wr hD.grown k hlt
      obtain ⟨m0, hm0⟩ := (HBX.out wr hBG).2.2.2.2
      have hxs := HCSZ.out cs[k] (List.getElem_mem hlt)
      have HPS := Lib.hid (pieces_snoc cs k hlt)
      have hpl1 := pieces_le cs (k + 1)
      rw [HPS.out, List.length_append] at hpl1
      have HACL : Hid ((hopsB ++ (cs.take k).flatMap pieceS).length + (pieceS cs[k]).length ≤ 4194304) := by
        unfold Hid
        rw [List.length_append] at hdl ⊢
        omega
      generalize cs[k] = X at *
      have hsp := Tryd.strings_Split X ⟨#[44]⟩ m0 wr (by omega) hm0 (by decide)
      have hps := split_one 44 X
      have hpl := Lib.splitB_all ⟨#[44]⟩ (by decide) 0 _ X rfl
      generalize Lib.splitB ⟨#[44]⟩ 0 (Lib.countB X ⟨#[44]⟩) X = ps at hsp hps hpl
      generalize Lib.countB X ⟨#[44]⟩ = n at hsp hpl
      rw [← hpl] at hsp
      have HQS : Hid (pieceS X = ps.map fun p => bs (lowerL (trimL p.data.toList))) := by
        unfold Hid pieceS
        rw [← hps, List.map_map]
        rfl
      have HPZ : Hid (∀ p ∈ ps, p.size ≤ 4194304) := fun p hp => by
        have hm : p.data.toList ∈ splL 44 X.data.toList := by rw [← hps]; exact List.mem_map.2 ⟨p, hp, rfl⟩
        have h1 := splL_piece 44 X.data.toList _ hm
        have h2 : X.data.toList.length = X.size := by simp
        have h3 : p.data.toList.length = p.size := by simp
        omega
      have HSP := Lib.hid hsp
      have HD := Lib.hid hD
      clear hsp hps hpl hD hBG hm0 hpl1 hdl
      generalize hac : hopsB ++ (cs.take k).flatMap pieceS = acc at *
      have HNEXT : Hid (hopsB ++ (cs.take (k + 1)).flatMap pieceS = acc ++ pieceS X) := by unfold Hid; rw [HPS.out, ← hac, List.append_assoc]
      have hacp : 0 < acc.length := by rw [← hac, List.length_append]; show 0 < 8 + _; omega
      have hacl := HACL.out
      rw [HQS.out] at HNEXT hacl
      clear hac HPS HQS HACL
      generalize hqs : (ps.map fun p => bs (lowerL (trimL p.data.toList))) = qs at *
      have hql : qs.length = ps.length := by rw [← hqs, List.length_map]
      have HQJ : Hid (∀ j (h : j < ps.length) (h2 : j < qs.length), bs (lowerL (trimL ps[j].data.toList)) = qs[j]) := fun j h h2 => by simp [← hqs]
      clear hqs
      go_wp2_with fail
      refine HSP.out.mono ?_
      rintro e w3 ⟨rfl, hw3⟩
      have hb3 : Below wr.heap.size wr w3 := by rw [hw3]; exact (Below.refl _ _).alloc (Nat.le_refl _) _
      have hg3 : w3.heap[wr.heap.size]? = some (.cells (ps.map Value.string).toArray 9 (0, 0)) := by rw [hw3]; exact heap_alloc_new wr _
      have HI0 : Hid (InnRel acc qs ps w2 W0.heap.size wr.heap.size (.slice Ao acc.length co) (.int .i64 0) w3) := ⟨0, Nat.zero_le _, rfl, by simpa using HD.out.below hb3, fun q hq => by have := (HD.out.own.lt q hq).2; omega, hg3⟩
      clear hw3 hb3 hg3 HSP
      obtain ⟨wo, rfl⟩ : ∃ wo : World, wo = wr := ⟨_, rfl⟩
      go_wp2_with fail
      go_loopw [3, 22] (fun v i wr => InnRel acc qs ps w2 W0.heap.size wo.heap.size v i wr) (fun _ i _ => qs.length - (intOf i).toNat)
      case atStart => exact HI0.out
      case round =>
        obtain ⟨j, hj, rfl, hDi, hfar, hrow⟩ := hrel
        obtain ⟨Ai, ci, rfl, _⟩ := hDi.own.form
        have hgi : wo.heap.size < wr.heap.size := by
          rw [Array.getElem?_eq_some_iff] at hrow
          exact hrow.1
        have hlj : (acc ++ qs.take j).length ≤ 4194304 := by rw [List.length_append]; have := List.length_take_le j qs; omega
        have hlp : 0 < (acc ++ qs.take j).length := by rw [List.length_append]; omega
        by_cases hltj : j < qs.length
        · have dj : decide ((j : Int) < (ps.length : Int)) = true := by simp; omega
          have i9 : IntKind.i64.wrap ((j : Int) + 1) = (j : Int) + 1 := IntWalk.i64_in _ (by omega)
          have hjp : j < ps.length := by omega
          have y0 : wr.cell? ⟨wo.heap.size, j, none⟩ = some (.string ps[j]) := by
            rw [cell_of_row wr _ j _ _ _ hrow]
            simp [hjp]
          have hpz := HPZ.out ps[j] (List.getElem_mem hjp)
          have hq := HQJ.out j hjp hltj
          have HTK : Hid (acc ++ qs.take (j + 1) = acc ++ qs.take j ++ [bs (lowerL (trimL ps[j].data.toList))]) := by unfold Hid; rw [hq, List.take_succ_eq_append_getElem hltj, List.append_assoc]
          generalize ps[j] = p at *
          have hpd : p.data.toList.length = p.size := by simp
          have htl := trimL_len p.data.toList
          have HTR : Hid (∀ W, Calls Tryd.prog 47 #[.string p] W fun e w' => e = .returned (.string (bs (trimL p.data.toList))) ∧ w' = W) := fun W => Trim_any p W (by unfold maxLen; omega)
          have HLW : Hid (∀ W, Calls Tryd.prog 42 #[.string (bs (trimL p.data.toList))] W (StrPost (bs (lowerL (trimL p.data.toList))) W)) := fun W => by
            have := Lower_any (bs (trimL p.data.toList)) W (by rw [bs_size]; unfold maxLen; omega)
            rw [bs_toList] at this
            exact this
          generalize bs (lowerL (trimL p.data.toList)) = Q at *
          generalize bs (trimL p.data.toList) = TQ at *
          generalize acc ++ qs.take j = ac2 at *
          have HDI := Lib.hid hDi
          have HROW := Lib.hid hrow
          have HFAR := Lib.hid hfar
          clear hDi hrow hfar hq hpd htl
          go_wp2_with fail
          refine (HTR.out wr).mono ?_
          rintro e w4 ⟨rfl, hw4⟩
          rw [hw4]
          clear hw4
          go_wp2_with fail
          refine (HLW.out wr).mono ?_
          rintro e w5 ⟨rfl, hb5⟩
          have hD5 := HDI.out.below hb5
          have hO5 := hD5.own
          have hz5 : W0.heap.size ≤ w5.heap.size := Nat.le_trans (Nat.le_of_lt hz2) hD5.grown.size
          have hr5 := (hb5.block _ hgi).trans HROW.out
          have hg5 : wo.heap.size < w5.heap.size := Nat.lt_of_lt_of_le hgi hb5.size
          go_wp2_with (at_builtin; refine wpList_append_sw rfl (.tmp 26) (.tmp 30) rfl W0.heap.size (.slice Ai ac2.length ci) ac2 rfl (by exact hO5) (by exact hlp) (by exact hz5) Q w5.heap.size rfl 1 rfl (by exact hlj) ?_; intro v6 w6 hO6 hg6 hw6)
          exact ⟨⟨j + 1, by omega, rfl, by rw [HTK.out]; exact hD5.push hO6 hg6 hw6, fun q hq => (hw6 q hq).elim (HFAR.out q) (fun h => by omega), (hg6.block _ hg5 (fun e => HFAR.out _ e.symm rfl)).trans hr5⟩, by dsimp only [intOf]; omega⟩
        · obtain rfl : j = qs.length := by omega
          have dj : decide ((qs.length : Int) < (ps.length : Int)) = false := by rw [hql]; simp
          rw [List.take_length] at hDi
          have HDI := Lib.hid hDi
          rw [List.take_length]
          clear hDi hrow hfar
          go_wp2_with fail
          exact ⟨⟨k + 1, by omega, rfl, by rw [HNEXT.out]; exact HDI.out⟩, by dsimp only [intOf]; omega⟩
    · obtain rfl : k = cs.length := by omega
      have dd1 : decide ((cs.length : Int) < (cs.length : Int)) = false := by simp
      rw [List.take_length] at hD ⊢
      rw [← HDE.out] at hD ⊢
      have hdl2 : (dropB fs).length ≤ 4194304 := HOK.out.drop
      obtain ⟨_, hdsl⟩ := hD.own.sl2
      have HDS : Hid (∀ W, Below wr.heap.size wr W → Sl W W.heap.size 1 Ao (dropB fs).length ((dropB fs).map Value.string)) := fun W h => (hdsl.below h).more h.size
      have ⟨hh, _, _, _, _⟩ := HBX.out wr hBG
      have ⟨b0, b1, b2⟩ := hh.cells
      have hz3 : W0.heap.size ≤ wr.heap.size := hBG.size
      have hz30 : w.heap.size < wr.heap.size := Nat.lt_of_lt_of_le hz0 hz3
      have hz31 : w.heap.size + 1 < wr.heap.size := Nat.lt_of_lt_of_le hz1 hz3
      have HBG3 := Lib.hid hBG
      have HSN := fun k h => Lib.hid (strip_snoc fs k h)
      have HLOW : Hid (∀ f ∈ fs, ∀ W, Calls Tryd.prog 42 #[.string f.1] W (StrPost (lowN f) W)) := fun f hf W => Lower_any f.1 W (by have := (HOK.out.sz f hf).1; unfold maxLen; omega)
      generalize hDB : dropB fs = D at *
      clear hD hdsl hh hBG HBG HCS HCSZ HDL HDE HST hdl hgl hz2
      obtain ⟨wp, rfl⟩ : ∃ wp : World, wp = wr := ⟨_, rfl⟩
      go_wp2_with fail
      go_loopw [42] (fun i wr => FldRel fs m t wp.heap.size wp i wr) (fun i _ => fs.length - (intOf i).toNat)
      case atStart => exact ⟨0, .slice none 0 0, Nat.zero_le _, rfl, heap_alloc_new _ _, OwnV.nil _ _, (Below.refl _ _).alloc (Nat.le_refl _) _⟩
      case round =>
        obtain ⟨k, v, hk, rfl, hH, hO, hb⟩ := hrel
        have hBr := HBG3.out.trans (hb.mono hz3)
        have ⟨_, hres, hbw, hsl, _⟩ := HBX.out wr hBr
        have hds := HDS.out wr hb
        have hHlt : wp.heap.size < wr.heap.size := by
          have := hH
          unfold HdAt at this
          rw [Array.getElem?_eq_some_iff] at this
          exact this.1
        have hle := strip_le fs k
        by_cases hlt : k < fs.length
        · have dd2 : decide ((k : Int) < (fs.length : Int)) = true := by simp; omega
          have i7 : IntKind.i64.wrap ((k : Int) + 1) = (k : Int) + 1 := IntWalk.i64_in _ (by omega)
          obtain ⟨b', off', rfl, _, x0, x1⟩ := fld_at hsl k hlt
          have HT := HSN k hlt
          have HLW := Lib.hid (HLOW.out fs[k] (List.getElem_mem hlt))
          have hal : Below wr.heap.size wr (wr.alloc (.cells #[.string fs[k].1, .string fs[k].2] 65)) := (Below.refl _ _).alloc (Nat.le_refl _) _
          have hO3 := hO.below hal
          have hH3 := (hal.block _ hHlt).trans hH
          have hb3 := hb.trans (hal.mono hb.size)
          have hds3 := (hds.below hal).more hal.size
          have HA3 : Hid (∀ W, Below (wr.alloc (.cells #[.string fs[k].1, .string fs[k].2] 65)).heap.size (wr.alloc (.cells #[.string fs[k].1, .string fs[k].2] 65)) W → W.cell? ⟨wr.heap.size, 0, none⟩ = some (.string fs[k].1) ∧ W.cell? ⟨wr.heap.size, 1, none⟩ = some (.string fs[k].2)) := fun W h => ⟨new_cell h 0, new_cell h 1⟩
          generalize fs[k] = X at *
          generalize hQ : lowN X = Q at *
          obtain ⟨n1, n2⟩ := X
          dsimp only at *
          have hz4 : wp.heap.size < (wr.alloc (.cells #[.string n1, .string n2] 65)).heap.size := Nat.lt_of_lt_of_le hHlt hal.size
          have HO3 := Lib.hid hO3
          have HH3 := Lib.hid hH3
          have HB3 := Lib.hid hb3
          have HDS3 := Lib.hid hds3
          clear hO3 hH3 hb3 hds3 hal hO hH hb hBr hres hbw hsl hds b0 b1 b2
          go_wp2_with fail
          refine (HLW.out _).mono ?_
          rintro e w4 ⟨rfl, hb4⟩
          have hH4 : HdAt wp.heap.size m t v w4 := (hb4.block _ hz4).trans HH3.out
          have hO4 := HO3.out.below hb4
          have hB4 := HB3.out.trans (hb4.mono HB3.out.size)
          have ⟨t0, t1⟩ := HA3.out w4 hb4
          have hCT := ContainsS_any co Q ((HDS3.out.below hb4).more hb4.size) (by omega)
          have hz44 : wp.heap.size < w4.heap.size := Nat.lt_of_lt_of_le hz4 hb4.size
          cases hq : Lib.containsS D Q with
          | true =>
            have HT2 : Hid ((fs.take (k + 1)).filter (keepB fs) = (fs.take k).filter (keepB fs)) := by unfold Hid; rw [HT.out, if_pos hq, List.append_nil]
            rw [hq] at hCT
            have HCT := Lib.hid hCT
            have HN := Lib.hid (And.intro hH4 (And.intro hO4 hB4))
            clear hq hCT hH4 hO4 hB4 hb4 t0 t1
            go_wp2_with (go_at_call 48; (with_reducible refine HCT.out.mono ?_); rintro e w5 ⟨rfl, rfl⟩)
            exact ⟨⟨k + 1, v, by omega, rfl, HN.out.1, by rw [HT2.out]; exact HN.out.2.1, HN.out.2.2⟩, by dsimp only [intOf]; omega⟩
          | false =>
            have HT2 : Hid ((fs.take (k + 1)).filter (keepB fs) = (fs.take k).filter (keepB fs) ++ [(n1, n2)]) := by unfold Hid; rw [HT.out, if_neg (by rw [hq]; decide)]
            rw [hq] at hCT
            have HCT := Lib.hid hCT
            obtain ⟨Af, cf, rfl, _⟩ := hO4.form
            have ⟨h0, h1, h2⟩ := hH4.cells
            have HHF : Hid ((Value.slice Af ((fs.take k).filter (keepB fs)).length cf).ownBlock ≠ some wp.heap.size) := fun e => by have := (World.ownsRow.lt hO4 _ e).1; omega
            generalize (fs.take k).filter (keepB fs) = acc at *
            have HO4 := Lib.hid hO4
            have HH4 := Lib.hid hH4
            have HB4 := Lib.hid hB4
            have hz5 : wp.heap.size + 1 ≤ w4.heap.size := hz44
            clear hq hCT hH4 hO4 hB4 hb4
            go_wp2_with (first
              | (go_at_call 48; (with_reducible refine HCT.out.mono ?_); rintro e w5 ⟨rfl, rfl⟩)
              | (at_builtin; refine wpList_append_v rfl (.tmp 53) (.tmp 55) rfl (wp.heap.size + 1) (.slice Af acc.length cf) acc rfl (by exact HO4.out) (by exact hz5) _ (n1, n2) rfl w5.heap.size rfl 1 rfl (by omega) ?_; intro v6 w6 hO6 hb6 hk6 hz6; have hH6 : HdAt wp.heap.size m t (.slice Af acc.length cf) w6 := (hk6 wp.heap.size hz5 HHF.out).trans HH4.out; obtain ⟨A6, c6, rfl, _⟩ := hO6.form; have f26 := hH6.free 2; have h26 := hH6.cells.2.2))
            have hH7 := hH6.put (.slice A6 (acc ++ [(n1, n2)]).length c6)
            have hb7 := (HB4.out.trans (hb6.mono (Nat.le_succ _))).setCell (p := ⟨wp.heap.size, 2, none⟩) (Nat.le_refl _) (.slice A6 (acc ++ [(n1, n2)]).length c6)
            have hO7 : OwnV (w6.setCell ⟨wp.heap.size, 2, none⟩ (.slice A6 (acc ++ [(n1, n2)]).length c6)) (wp.heap.size + 1) (.slice A6 (acc ++ [(n1, n2)]).length c6) (acc ++ [(n1, n2)]) := by
              refine hO6.keep fun g hg => ?_
              have hne : g ≠ wp.heap.size := fun e => by have := (World.ownsRow.lt hO6 g hg).1; omega
              rw [Below.heap_setCell _ _ _ _ hne]
            have hlen6 : (acc ++ [(n1, n2)]).length = acc.length + 1 := by rw [List.length_append]; rfl
            rw [hlen6] at hH7 hb7 hO7
            exact ⟨⟨k + 1, _, by omega, rfl, hH7, by rw [HT2.out]; exact hO7, hb7⟩, by dsimp only [intOf]; omega⟩
        · obtain rfl : k = fs.length := by omega
          have dd2 : decide ((fs.length : Int) < (fs.length : Int)) = false := by simp
          rw [List.take_length] at hO hle
          have e1 : fs.filter (keepB fs) = stripF fs := rfl
          rw [e1] at hO hle
          obtain ⟨Af, cf, rfl, _⟩ := hO.form
          have ⟨h0, h1, h2⟩ := hH.cells
          have ⟨r0, r1, r2⟩ := hres.cells
          have f0 := hres.free 0
          have f1 := hres.free 1
          have f2 := hres.free 2
          have hO7 : OwnV (((wr.setCell ⟨w.heap.size + 1, 0, none⟩ (.string m)).setCell ⟨w.heap.size + 1, 1, none⟩ (.string t)).setCell ⟨w.heap.size + 1, 2, none⟩ (.slice Af (stripF fs).length cf)) w.heap.size (.slice Af (stripF fs).length cf) (stripF fs) := by
            refine (hO.keep fun g hg => ?_).low (by omega)
            have hne : g ≠ w.heap.size + 1 := fun e => by have := (World.ownsRow.lt hO g hg).1; omega
            rw [Below.heap_setCell _ _ _ _ hne, Below.heap_setCell _ _ _ _ hne, Below.heap_setCell _ _ _ _ hne]
          have HP : Hid (StripPost ⟨m, t, fs⟩ w (.returned (.agg #[.string m, .string t, .slice Af (stripF fs).length cf])) (((wr.setCell ⟨w.heap.size + 1, 0, none⟩ (.string m)).setCell ⟨w.heap.size + 1, 1, none⟩ (.string t)).setCell ⟨w.heap.size + 1, 2, none⟩ (.slice Af (stripF fs).length cf))) :=
            ⟨Af, cf, rfl, hO7, ((hbw.setCell (p := ⟨w.heap.size + 1, 0, none⟩) (Nat.le_succ _) _).setCell (p := ⟨w.heap.size + 1, 1, none⟩) (Nat.le_succ _) _).setCell (p := ⟨w.heap.size + 1, 2, none⟩) (Nat.le_succ _) _⟩
          have tt := three_set (.string m) (.string t) (.slice Af (stripF fs).length cf) r0 r1 r2
          have TT := Lib.hid tt
          clear hO7 hO hH hb hBr hres hbw hsl hds b0 b1 b2 tt
          generalize stripF fs = SF at *
          go_wp2_with fail
          exact bodyPost_ret (v := .agg #[.string m, .string t, .slice Af SF.length cf]) (by simp [results, Tryd.results24, go_sem, TT.out.1, TT.out.2.1, TT.out.2.2]) rfl HP.out
end Go.Proofs.YtchoenfclfafiaaDoor
