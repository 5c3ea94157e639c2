/- Part 24 of the proof: lemmas and walks that the last texts use. -/
import Derived.Test.YthfjmlcjkbgboaaGreatDoorM04
import Derived.Test.YthfjmlcjkbgboaaGreatDoorM23
import Derived.Shelf.GgClosure.Gives
namespace Go.Proofs.YthfjmlcjkbgboaaGreatDoor
open Go.RowKit
theorem srcI {wr : World} {B n : Nat} {A : Option Addr} {xs : List Value} {a0 : Nat → Value} (h : Sl wr B 1 A n xs) {j : Nat} (hj : j < n) (hx : ∀ j, j < n → xs[j]? = some (a0 j)) :
    ∃ b off, A = some ⟨b, off, none⟩ ∧ wr.cell? ⟨b, off + j, none⟩ = some (a0 j) := by
  have hl := h.len
  obtain ⟨b, off, e, _, hc⟩ := h.src (by omega)
  have hq := hx j hj
  have hat : ∀ i v, xs[i]? = some v → wr.cell? ⟨b, off + i, none⟩ = some v := fun i v hv => by
    have hi : i < xs.length := (List.getElem?_eq_some_iff.1 hv).1
    rw [hc i hi, ← hv, List.getElem?_eq_getElem hi]
  exact ⟨b, off, e, hat _ _ hq⟩
set_option maxRecDepth 100000 in
set_option maxHeartbeats 800000 in
theorem IdxFI_any (g : Nat) (lb : Array Value) (eg : ∀ args w, (callFunc g args).run Tryz.prog w = .ok (.enter g args) w) (A : Option Addr) (n c : Nat) (xs : List Value) (a0 : Nat → Value) (p : Nat → Bool) (w : World)
    (h : Sl w w.heap.size 1 A n xs) (hbig : n ≤ 9223372036854775807) (hx : ∀ j, j < n → xs[j]? = some (a0 j))
    (hp : ∀ W j, j < n → Below w.heap.size w W → Calls Tryz.prog g (#[a0 j] ++ lb) W (BoolPost (p j) W)) :
    Calls Tryz.prog 112 #[.slice A n c, .func (.func g) #[] lb] w fun e w' => e = .returned (.int .i64 (hitI p n)) ∧ Below w.heap.size w w' := by
  have HP := Lib.hid hp
  have HX := Lib.hid hx
  clear hp hx
  go_enter Tryz.func112, Tryz.ntmps112
  go_wp2_with fail
  go_loopw [5, 8] (fun _ i wr => ∃ j : Nat, j ≤ n ∧ i = .int .i64 j ∧ Below w.heap.size w wr ∧ Hid (∀ i, i < j → p i = false)) (fun _ i _ => n - (intOf i).toNat)
  case atStart => exact ⟨0, Nat.zero_le _, rfl, Below.refl _ _, fun i hi => absurd hi (by omega)⟩
  case round =>
    obtain ⟨j, hj, rfl, hb, hno⟩ := hrel
    by_cases hlt : j < n
    · obtain ⟨b, off, rfl, hc0⟩ := srcI (h.below hb) hlt HX.out
      have hc := HP.out wr j hlt hb
      cases hq : p j with
      | true =>
        rw [hq] at hc
        have HIT := Lib.hid (hit_at p n j hlt hq hno)
        clear hq
        go_wp2_with (go_at_fn g; refine hc.mono ?_; rintro e w' ⟨rfl, hb1⟩)
        go_ret
        exact ⟨ret_int HIT.out.symm, hb.trans (hb1.mono hb.size)⟩
      | false =>
        rw [hq] at hc
        have hno2 : Hid (∀ i, i < j + 1 → p i = false) := fun i hi => by
          by_cases e : i = j
          · rw [e]; exact hq
          · exact hno i (by omega)
        clear hq hno
        go_wp2_with (go_at_fn g; refine hc.mono ?_; rintro e w' ⟨rfl, hb1⟩)
        go_roundw
        case rel => exact ⟨j + 1, by omega, by go_num, hb.trans (hb1.mono hb.size), hno2⟩
        case measure => simp [intOf] <;> omega
    · obtain rfl : j = n := by omega
      have HIT := Lib.hid (hit_none p j hno)
      go_wp2_with fail
      go_ret
      exact ⟨ret_int HIT.out.symm, hb⟩
set_option maxRecDepth 100000 in
theorem ContFI_any (g : Nat) (lb : Array Value) (eg : ∀ args w, (callFunc g args).run Tryz.prog w = .ok (.enter g args) w) (A : Option Addr) (n c : Nat) (xs : List Value) (a0 : Nat → Value) (p : Nat → Bool) (w : World)
    (h : Sl w w.heap.size 1 A n xs) (hbig : n ≤ 9223372036854775807) (hx : ∀ j, j < n → xs[j]? = some (a0 j))
    (hp : ∀ W j, j < n → Below w.heap.size w W → Calls Tryz.prog g (#[a0 j] ++ lb) W (BoolPost (p j) W)) :
    Calls Tryz.prog 63 #[.slice A n c, .func (.func g) #[] lb] w (BoolPost (anyN p n) w) := by
  have HC := Lib.hid (IdxFI_any g lb eg A n c xs a0 p w h hbig hx hp)
  have HA := Lib.hid (hit_any p n)
  clear hp hx h
  go_enter Tryz.func63, Tryz.ntmps63
  go_wp2_with fail
  refine HC.out.mono ?_
  rintro e w1 ⟨rfl, hb⟩
  go_wp2_with fail
  go_ret
  exact ⟨ret_bool HA.out, hb⟩
end Go.Proofs.YthfjmlcjkbgboaaGreatDoor
namespace Go.Proofs.YthfjmlcjkbgboaaGreatDoor
open Go.RowKit
theorem NodesAt.below {ws ss : List (List UInt8)} {ns : List NodeP} {B lo g cap i : Nat} {ms : List NodeM} {w w' : World} (h : NodesAt ws ss ns B lo g cap i ms w) (hb : Below w.heap.size w w') : NodesAt ws ss ns B lo g cap i ms w' :=
  ⟨h.own.below hb, h.fst, fun j m hj hm => (h.done j m hj hm).keep hb.size fun k _ hk => hb.block k hk, h.rest⟩
theorem TreeIs.below {w w' : World} {lo : Nat} {ws : List ByteArray} {g cap : Nat} {ns : List NodeP} {ss : List (List UInt8)} {ms : List NodeM} (h : TreeIs w lo ws g cap ns ss ms) (hb : Below w.heap.size w w') : TreeIs w' lo ws g cap ns ss ms := by
  obtain ⟨h1, h2, lo2, h3, h4⟩ := h
  exact ⟨h1, h2, lo2, h3, h4.below hb⟩
theorem TreeIs.len {w : World} {lo : Nat} {ws : List ByteArray} {g cap : Nat} {ns : List NodeP} {ss : List (List UInt8)} {ms : List NodeM} (h : TreeIs w lo ws g cap ns ss ms) : ms.length = ns.length ∧ 0 < ns.length ∧ g < w.heap.size := by
  obtain ⟨h1, h2, lo2, h3, h4⟩ := h
  exact ⟨by rw [← h4.fst, List.length_map], (List.getElem?_eq_some_iff.1 h1.inv.zero).1, (h4.own.lt g rfl).2⟩
/-- A node's cells. -/
theorem TreeIs.at {w : World} {lo : Nat} {ws : List ByteArray} {g cap : Nat} {ns : List NodeP} {ss : List (List UInt8)} {ms : List NodeM} (h : TreeIs w lo ws g cap ns ss ms) (k : Nat) (hk : k < ns.length) :
    ∃ s : SlT, w.cell? ⟨g, k * 4, none⟩ = some (.int .u8 ns[k].b.toNat) ∧ w.cell? ⟨g, k * 4 + 1, none⟩ = some (.int .i64 (ns[k].up : Int)) ∧ w.cell? ⟨g, k * 4 + 2, none⟩ = some (.int .i64 (ns[k].fail : Int)) ∧ w.cell? ⟨g, k * 4 + 3, none⟩ = some (slV s) ∧ EndsAt w 0 s (endsOf (lstS ws) (ss.getD k [])) := by
  have hl := h.len.1
  obtain ⟨h1, h2, lo2, h3, h4⟩ := h
  have hk' : k < ms.length := by omega
  have e : ms[k].1 = ns[k] := by
    have := h4.fst
    have h5 : (ms.map Prod.fst)[k]? = ns[k]? := by rw [this]
    rw [List.getElem?_map, List.getElem?_eq_getElem hk', List.getElem?_eq_getElem hk] at h5
    exact Option.some.inj h5
  rw [← e]
  exact ⟨ms[k].2, (h4.own.at k hk' 0 (by decide)).1, (h4.own.at k hk' 1 (by decide)).1, (h4.own.at k hk' 2 (by decide)).1, (h4.own.at k hk' 3 (by decide)).1, (h4.done k _ hk (List.getElem?_eq_getElem hk')).lower (Nat.zero_le _)⟩
/-- The edges of the first nodes. -/
theorem next_none {ns : List NodeP} {ss : List (List UInt8)} (hi : Inv ns ss) {l : List (EdgeK × Nat)} {i : Nat} (h0 : 0 < i) (hlt : i < ns.length) (hl : NextOk (ns.take i) l) : lookE l ((ns[i].up : Int), ns[i].b) = none := by
  cases h : lookE l ((ns[i].up : Int), ns[i].b) with
  | none => rfl
  | some j =>
    obtain ⟨hj0, n, hn, hup, hb⟩ := (hl _ _ j).1 h
    have hji : j < i := by have := (List.getElem?_eq_some_iff.1 hn).1; rw [List.length_take] at this; omega
    rw [List.getElem?_take_of_lt hji] at hn
    obtain ⟨_, _, p, f, e1, _, e3, _⟩ := hi.node i ns[i] h0 (List.getElem?_eq_getElem hlt)
    have := (hi.kid e1 (j := j) (b := ns[i].b)).2 ⟨hj0, n, hn, hup, hb⟩
    exact absurd (hi.inj this e3) (by omega)
theorem next_more {ns : List NodeP} {ss : List (List UInt8)} (hi : Inv ns ss) {l : List (EdgeK × Nat)} {i : Nat} (h0 : 0 < i) (hlt : i < ns.length) (hl : NextOk (ns.take i) l) : NextOk (ns.take (i + 1)) (l ++ [(((ns[i].up : Int), ns[i].b), i)]) := by
  have hlen : (ns.take i).length = i := by rw [List.length_take]; omega
  have := hl.add ns[i] (by omega) (next_none hi h0 hlt hl)
  rw [hlen] at this
  rw [List.take_succ_eq_append_getElem hlt]
  exact this
theorem next_first {ns : List NodeP} {ss : List (List UInt8)} (hi : Inv ns ss) : NextOk (ns.take 1) [] := by
  have h0 := hi.zero
  have hlt := (List.getElem?_eq_some_iff.1 h0).1
  have : ns.take 1 = [⟨0, 0, 0⟩] := by
    rw [show (1 : Nat) = 0 + 1 from rfl, List.take_succ_eq_append_getElem hlt, List.take_zero]
    rw [List.getElem?_eq_getElem hlt] at h0
    rw [Option.some.inj h0]; rfl
  rw [this]
  exact NextOk.start
theorem below_no (k m B : Nat) (W : World) (hk : k < m) (hc : W.cell? ⟨B, 0, none⟩ = some (.int .i64 (m : Int))) :
    Calls Tryz.prog 307 #[.int .i64 (k : Int), .pointer (some ⟨B, 0, none⟩)] W (BoolPost false W) := by
  have d1 : decide ((k : Int) < 0) = false := by simp
  have d2 : decide ((m : Int) ≤ (k : Int)) = false := by simp; omega
  go_enter Tryz.func307, Tryz.ntmps307
  go_wp2_with fail
  go_ret
  exact ⟨by simp [hk], Below.refl _ _⟩
theorem next_one {ns : List NodeP} {ss : List (List UInt8)} (hi : Inv ns ss) {l : List (EdgeK × Nat)} (h : NextOk (ns.take 0) l) : NextOk (ns.take 1) l := fun a b j => by
  rw [h a b j]
  constructor
  · rintro ⟨_, n, hn, _⟩; simp at hn
  · intro h2; exact absurd ((next_first hi a b j).2 h2) (by simp [lookE])
theorem ends_vals {w : World} {lo : Nat} {s : SlT} {l : List Nat} (h : EndsAt w lo s l) : ∀ j, j < s.2.1 → (l.flatMap rowI.cells)[j]? = some (.int .i64 ((l.getD j 0 : Nat) : Int)) := fun j hj => by
  have hj' : j < l.length := by rw [← h.1]; exact hj
  have hf := flat_at rowI.cells 1 (fun _ => rfl) l j 0 hj' (by decide)
  rw [show j * 1 + 0 = j by omega] at hf
  rw [hf, List.getD_eq_getElem?_getD, List.getElem?_eq_getElem hj']
  rfl
theorem ends_fine {ws : List ByteArray} {str : List UInt8} {W : World} {s : SlT} {lo B : Nat} (hws : ws.length ≤ 30) (h : EndsAt W lo s (endsOf (lstS ws) str)) (hB : B < W.heap.size) (hc : W.cell? ⟨B, 0, none⟩ = some (.int .i64 (ws.length : Int))) :
    Calls Tryz.prog 63 #[slV s, .func (.func 307) #[] #[.pointer (some ⟨B, 0, none⟩)]] W (BoolPost false W) := by
  have hfew := ends_few (lstS ws) str
  have hle : (lstS ws).length = ws.length := by rw [lstS, List.length_map]
  have := ContFI_any 307 #[.pointer (some ⟨B, 0, none⟩)] (enters_of Tryz.func307 (by kernel_rfl) rfl) s.1 s.2.1 s.2.2 _ (fun j => .int .i64 (((endsOf (lstS ws) str).getD j 0 : Nat) : Int)) (fun _ => false) W h.sl (by rw [h.1]; omega) (ends_vals h) fun W' j hj hb => by
    have hj' : j < (endsOf (lstS ws) str).length := by rw [← h.1]; exact hj
    have hm : (endsOf (lstS ws) str).getD j 0 ∈ endsOf (lstS ws) str := by rw [List.getD_eq_getElem?_getD, List.getElem?_eq_getElem hj']; exact List.getElem_mem hj'
    have hlt := (mem_endsOf.1 hm).1
    rw [hle] at hlt
    exact below_no _ ws.length B W' hlt ((hb.cell (p := ⟨B, 0, none⟩) hB).trans hc)
  have e : anyN (fun _ => false) s.2.1 = false := (any_false _ _).2 fun _ _ => rfl
  rw [e] at this
  exact this
/-- The round's state. -/
def RelC (ns : List NodeP) (m bm : Nat) (w : World) (v : Value) (wr : World) : Prop :=
  ∃ (k : Nat) (l : List (EdgeK × Nat)), k ≤ ns.length ∧ v = .int .i64 (k : Int) ∧ Below w.heap.size w wr ∧ MpAt wr bm l ∧ NextOk (ns.take k) l ∧ wr.heap[w.heap.size]? = some (.cells #[.int .i64 (m : Int)] 3)
set_option maxRecDepth 100000 in
set_option maxHeartbeats 1600000 in
theorem check_tree (ws : List ByteArray) (hws : ws.length ≤ 30) (lo g cap : Nat) (ns : List NodeP) (ss : List (List UInt8)) (ms : List NodeM) (w : World) (hT : TreeIs w lo ws g cap ns ss ms) :
    Calls Tryz.prog 277 #[.slice (some ⟨g, 0, none⟩) ms.length cap, .int .i64 (ws.length : Int)] w fun e w' => e = .returned (.int .i64 0) ∧ Below w.heap.size w w' := by
  obtain ⟨hl, h0, hg⟩ := hT.len
  have h4 := hT.few
  rw [hl]
  obtain ⟨s0, _, hu0, hf0, _⟩ := hT.at 0 h0
  have hz : ns[0] = ⟨0, 0, 0⟩ := by have := hT.lev.inv.zero; rw [List.getElem?_eq_getElem h0] at this; exact Option.some.inj this
  rw [hz] at hu0 hf0
  have hu : w.cell? ⟨g, 1, none⟩ = some (.int .i64 0) := by simpa using hu0
  have hf : w.cell? ⟨g, 2, none⟩ = some (.int .i64 0) := by simpa using hf0
  have d1 : decide ((400 : Int) < (ns.length : Int)) = false := by simp; omega
  have d2 : decide ((30 : Int) < (ws.length : Int)) = false := by simp; omega
  have d3 : ((ns.length : Int) == 0) = false := beq_eq_false_iff_ne.2 (by omega)
  have hgw : g ≠ w.heap.size := by omega
  have HT := Lib.hid hT
  have hmm := @run_makeMap Tryz.prog
  clear hu0 hf0 hT
  go_enter Tryz.func277, Tryz.ntmps277
  go_wp2_with fail
  go_loopw [37] (fun v wr => RelC ns ws.length (w.heap.size + 1) w v wr) (fun v _ => ns.length - (intOf v).toNat)
  case atStart =>
    refine ⟨0, [], Nat.zero_le _, rfl, ((Below.refl _ _).alloc (Nat.le_refl _) _).alloc (by simp) _, ⟨#[], 0, ?_, rfl⟩, ?_, ?_⟩
    · have := heap_alloc_new (w.alloc (.cells #[.int .i64 (ws.length : Int)] 3)) (.map #[] 0)
      rw [World.size_alloc] at this
      exact this
    · intro a b j
      simp [lookE]
    · exact (Below.heap_alloc _ _ _ (by simp)).trans (heap_alloc_new w (.cells #[.int .i64 (ws.length : Int)] 3))
  case round =>
    obtain ⟨k, l, hk, rfl, hb, hM, hN, hwb⟩ := hrel
    clear hu hf d1 d2 d3
    by_cases hkl : k < ns.length
    · obtain ⟨s, c0, c1, c2, c3, hE⟩ := (HT.out.below hb).at k hkl
      have hcw := cell_of_row wr w.heap.size 0 _ _ _ hwb
      have hzw := some_lt hwb
      have hgz : g ≠ wr.heap.size := by omega
      have HCF : Hid (∀ o, Calls Tryz.prog 63 #[slV s, .func (.func 307) #[] #[.pointer (some ⟨w.heap.size, 0, none⟩)]] (wr.alloc o) (BoolPost false (wr.alloc o))) := Lib.hid fun o =>
        ends_fine hws (hE.keep (by simp) fun j _ hj => Below.heap_alloc _ _ _ hj) (by simp; omega) (cell_kept ((Below.refl _ _).alloc (Nat.le_refl _) o) hcw)
      obtain ⟨A5, n5, c5⟩ := s
      unfold slV at c3 HCF
      dsimp only at c3 HCF
      have HB := Lib.hid hb
      have HM := Lib.hid hM
      have HN := Lib.hid hN
      have HW := Lib.hid hwb
      have hbm : w.heap.size + 1 < wr.heap.size := by obtain ⟨es, ck, h5, _⟩ := hM; exact some_lt h5
      by_cases hk0 : k = 0
      · subst hk0
        simp only [Nat.zero_mul, Nat.zero_add] at c0 c1 c2 c3
        clear hE hM hN hb hwb
        go_wp2_with (go_at_call 63; refine (HCF.out _).mono ?_; rintro e w2 ⟨rfl, hb2⟩)
        have hb3 : Below wr.heap.size wr w2 := below_new hb2 (Nat.le_refl _)
        exact ⟨⟨1, l, by omega, rfl, HB.out.trans (hb3.mono (by omega)), HM.out.keep (hb3.block _ hbm), next_one HT.out.lev.inv HN.out, (hb3.block _ hzw).trans HW.out⟩, by simp [intOf] <;> omega⟩
      · obtain ⟨hu1, hf1, _⟩ := HT.out.lev.inv.node k ns[k] (by omega) (List.getElem?_eq_getElem hkl)
        have hnone := next_none HT.out.lev.inv (by omega) hkl hN
        have hmore := Lib.hid (next_more HT.out.lev.inv (by omega) hkl hN)
        obtain ⟨o, hput⟩ := run_put_edges hM ((ns[k].up : Int), ns[k].b) k ⟨by omega, by show (ns[k].up : Int) < _; omega⟩ hnone
        have HPUT : Hid (∀ W : World, W.heap[w.heap.size + 1]? = wr.heap[w.heap.size + 1]? → (Instr.mapUpdate 267 (.map (some (w.heap.size + 1))) (.agg #[.int .i64 (ns[k].up : Int), .int .u8 ns[k].b.toNat]) (.int .i64 (k : Int))).run Tryz.prog W = .ok () (ChangeMaps.setBlock W (w.heap.size + 1) o) ∧ MpAt (ChangeMaps.setBlock W (w.heap.size + 1) o) (w.heap.size + 1) (l ++ [(((ns[k].up : Int), ns[k].b), k)])) := Lib.hid hput
        have HLK : Hid (∀ W, Below wr.heap.size wr W → (Instr.lookup 267 (.map (some (w.heap.size + 1))) (.agg #[.int .i64 (ns[k].up : Int), .int .u8 ns[k].b.toNat]) true).run Tryz.prog W = .ok (.tuple #[.int .i64 0, .bool false]) W) := Lib.hid fun W hW => by
          have := run_look_edge2 (w := W) (hM.keep (hW.block _ hbm)) ((ns[k].up : Int), ns[k].b) ⟨by omega, by show (ns[k].up : Int) < _; omega⟩
          rw [hnone] at this
          exact this
        generalize ns[k] = x at *
        obtain ⟨xb, xu, xf⟩ := x
        dsimp only at c0 c1 c2 hu1 hf1 hmore HPUT HLK
        have t1 : decide ((xu : Int) < 0) = false := by simp
        have t2 : decide ((k : Int) ≤ (xu : Int)) = false := by simp; omega
        have t3 : decide ((xf : Int) < 0) = false := by simp
        have t4 : decide ((k : Int) ≤ (xf : Int)) = false := by simp; omega
        have t5 : ((k : Int) == 0) = false := beq_eq_false_iff_ne.2 (by omega)
        clear hE hM hN hb hwb hput hnone
        go_wp2_with (go_at_call 63; refine (HCF.out _).mono ?_; rintro e w2 ⟨rfl, hb2⟩; have hb3 : Below wr.heap.size wr w2 := below_new hb2 (Nat.le_refl _); have n0 := new_cell hb2 0; have n1 := new_cell hb2 1; have n2 := new_cell hb2 2; have hlk := HLK.out w2 hb3; have hpu := (HPUT.out w2 (hb3.block _ hbm)).1)
        have hMP := (HPUT.out w2 (hb3.block _ hbm)).2
        exact ⟨⟨k + 1, _, by omega, rfl, (HB.out.trans (hb3.mono (by omega))).trans (below_setBlock _ _ _ _ (by omega)), hMP, hmore.out, (put_kept _ _ _ _ (by omega)).trans ((hb3.block _ hzw).trans HW.out)⟩, by simp [intOf] <;> omega⟩
    · have e : k = ns.length := by omega
      clear hN
      go_wp2_with fail
      go_ret
      exact ⟨rfl, hb⟩
end Go.Proofs.YthfjmlcjkbgboaaGreatDoor
namespace Go.Proofs.YthfjmlcjkbgboaaGreatDoor
open Go.RowKit
abbrev HitP := Nat × Nat
def rowH : RowT HitP where
  e := 348
  t := 316
  size := 2
  bytes := 16
  z := .agg #[.int .i64 0, .int .i64 0]
  cells x := [.int .i64 (x.1 : Int), .int .i64 (x.2 : Int)]
  hsz _ := rfl
  hpos := by decide
  under := Tryz.underlying316
  info := by kernel_rfl
  hz := rfl
  one x u hu := by
    simp only [List.mem_cons, List.not_mem_nil, or_false] at hu
    rcases hu with rfl | rfl <;> rfl
  hbytes := by decide
def hitsAt (ws : List (List UInt8)) (s : List UInt8) (j : Nat) : List HitP := (endsOf ws (s.take (j + 1))).map fun k => (k, j + 1)
def hitsTo (ws : List (List UInt8)) (s : List UInt8) (i : Nat) : List HitP := (List.range i).flatMap (hitsAt ws s)
theorem hitsTo_succ (ws : List (List UInt8)) (s : List UInt8) (i : Nat) : hitsTo ws s (i + 1) = hitsTo ws s i ++ hitsAt ws s i := by
  unfold hitsTo
  rw [List.range_succ, List.flatMap_append]
  simp
theorem hitsTo_pre (ws : List (List UInt8)) (s : List UInt8) {i n : Nat} (h : i ≤ n) : hitsTo ws s i <+: hitsTo ws s n := by
  induction n with
  | zero => obtain rfl : i = 0 := by omega
            exact List.prefix_refl _
  | succ n ih =>
    by_cases c : i = n + 1
    · subst c; exact List.prefix_refl _
    · rw [hitsTo_succ]
      exact (ih (by omega)).trans (List.prefix_append _ _)
theorem hitsTo_few (ws : List (List UInt8)) (s : List UInt8) (h : ws.length ≤ 30) : ∀ i, (hitsTo ws s i).length ≤ 30 * i
  | 0 => by simp [hitsTo]
  | i + 1 => by
    have := hitsTo_few ws s h i
    have h2 : (hitsAt ws s i).length ≤ 30 := by unfold hitsAt; rw [List.length_map]; exact Nat.le_trans (ends_few _ _) h
    rw [hitsTo_succ, List.length_append]
    omega
/-- What hits answers: all, or the first alone. -/
def hitsM (ws : List (List UInt8)) (s : List UInt8) (m : Int) : List HitP := if m = 1 then (hitsTo ws s s.length).take 1 else hitsTo ws s s.length
def HitsPost (ws : List (List UInt8)) (s : List UInt8) (m : Int) (w : World) (e : Ending) (w' : World) : Prop :=
  ∃ v, e = .returned v ∧ OwnG rowH w' w.heap.size v (hitsM ws s m) ∧ Below w.heap.size w w'
def RelH1 (ns : List NodeP) (w : World) (v : Value) (wr : World) : Prop :=
  ∃ (k : Nat) (l : List (EdgeK × Nat)), k ≤ ns.length ∧ v = .int .i64 (k : Int) ∧ Below w.heap.size w wr ∧ MpAt wr w.heap.size l ∧ NextOk (ns.take k) l
def RelH2 (ws : List (List UInt8)) (ss : List (List UInt8)) (s : ByteArray) (m : Int) (l : List (EdgeK × Nat)) (w : World) (v10 v11 v : Value) (wr : World) : Prop :=
  ∃ (i a : Nat) (str : List UInt8), i ≤ s.size ∧ v = .int .i64 (i : Int) ∧ v11 = .int .i64 (a : Int) ∧ ss[a]? = some str ∧ IsLong ss (s.data.toList.take i) str ∧ OwnG rowH wr w.heap.size v10 (hitsTo ws s.data.toList i) ∧ (m = 1 → hitsTo ws s.data.toList i = []) ∧ Below w.heap.size w wr ∧ MpAt wr w.heap.size l
def RelH3 (ss : List (List UInt8)) (f : List UInt8) (b : UInt8) (l : List (EdgeK × Nat)) (w : World) (v11 v13 v14 : Value) (wr : World) : Prop :=
  ∃ a : Nat, v11 = .int .i64 (a : Int) ∧ v13 = .int .i64 (((lookE l ((a : Int), b)).getD 0 : Nat) : Int) ∧ v14 = .bool (lookE l ((a : Int), b)).isSome ∧ Hid (FailAt ss f b a) ∧ wr = w
def RelH4 (ws : List (List UInt8)) (s : ByteArray) (m : Int) (l : List (EdgeK × Nat)) (i : Nat) (w : World) (v10 v : Value) (wr : World) : Prop :=
  ∃ q : Nat, q ≤ (hitsAt ws s.data.toList i).length ∧ v = .int .i64 (q : Int) ∧ OwnG rowH wr w.heap.size v10 (hitsTo ws s.data.toList i ++ (hitsAt ws s.data.toList i).take q) ∧ (m = 1 → hitsTo ws s.data.toList i ++ (hitsAt ws s.data.toList i).take q = []) ∧ Below w.heap.size w wr ∧ MpAt wr w.heap.size l
theorem next_nil {ns : List NodeP} : NextOk (ns.take 0) [] := fun a b j => by simp [lookE]
theorem hits_one {ws : List (List UInt8)} {s : List UInt8} {i q : Nat} (hi : i < s.length) (hq : q < (hitsAt ws s i).length) (h : hitsTo ws s i ++ (hitsAt ws s i).take q = []) : [(hitsAt ws s i)[q]] = hitsM ws s 1 := by
  obtain ⟨h1, h2⟩ := List.append_eq_nil_iff.1 h
  have hpre : hitsTo ws s (i + 1) <+: hitsTo ws s s.length := hitsTo_pre ws s hi
  have hq0 : q = 0 := by
    have := congrArg List.length h2
    rw [List.length_take, List.length_nil] at this
    omega
  subst hq0
  unfold hitsM
  rw [if_pos rfl]
  rw [hitsTo_succ, h1, List.nil_append] at hpre
  obtain ⟨t, ht⟩ := hpre
  rw [← ht]
  have : ∀ (L : List HitP) (h : 0 < L.length), [L[0]] = List.take 1 (L ++ t) := fun L h => by
    cases L with
    | nil => exact absurd h (by simp)
    | cons y r => rfl
  exact this _ hq
theorem hits_all {ws : List (List UInt8)} {s : List UInt8} {m : Int} {i : Nat} (e : i = s.length) (h : m = 1 → hitsTo ws s i = []) : hitsM ws s m = hitsTo ws s i := by
  unfold hitsM
  split
  · rename_i hm
    rw [← e, h hm]; rfl
  · rw [← e]
theorem hitsAt_len (ws : List (List UInt8)) (s : List UInt8) (i : Nat) : (hitsAt ws s i).length = (endsOf ws (s.take (i + 1))).length := by unfold hitsAt; rw [List.length_map]
theorem hitsAt_get (ws : List (List UInt8)) (s : List UInt8) (i q : Nat) (h : q < (hitsAt ws s i).length) (h2 : q < (endsOf ws (s.take (i + 1))).length) : (hitsAt ws s i)[q] = ((endsOf ws (s.take (i + 1)))[q], i + 1) := List.getElem_map ..
theorem take_byte {s : ByteArray} {i : Nat} (h : i < s.size) : s.data.toList.take (i + 1) = s.data.toList.take i ++ [s[i]] := by
  rw [List.take_succ_eq_append_getElem (by simpa using h)]; rfl
set_option maxRecDepth 100000 in
set_option maxHeartbeats 3200000 in
theorem hits_tree (ws : List ByteArray) (hG : GoodW ws) (m : Int) (hm : m = 1 ∨ m = -1) (s : ByteArray) (hs : s.size ≤ 8192) (lo g cap : Nat) (ns : List NodeP) (ss : List (List UInt8)) (ms : List NodeM) (w : World) (hT : TreeIs w lo ws g cap ns ss ms) :
    Calls Tryz.prog 243 #[.slice (some ⟨g, 0, none⟩) ms.length cap, .string s, .int .i64 m] w (HitsPost (lstS ws) s.data.toList m w) := by
  obtain ⟨hl, h0, hg⟩ := hT.len
  have h4 := hT.few
  rw [hl]
  have hgw : g ≠ w.heap.size := by omega
  have HT := Lib.hid hT
  have HG := Lib.hid hG
  have HMM := Lib.hid hm
  have hmm := @run_makeMap Tryz.prog
  clear hT hG hm
  go_enter Tryz.func243, Tryz.ntmps243
  go_wp2_with fail
  go_loopw [20] (fun v wr => RelH1 ns w v wr) (fun v _ => ns.length - (intOf v).toNat)
  case atStart => exact ⟨0, [], Nat.zero_le _, rfl, (Below.refl _ _).alloc (Nat.le_refl _) _, ⟨#[], 0, heap_alloc_new w (.map #[] 0), rfl⟩, next_nil⟩
  case round =>
    obtain ⟨k, l, hk, rfl, hb, hM, hN⟩ := hrel
    by_cases hkl : k < ns.length
    · obtain ⟨s4, c0, c1, c2, c3, _⟩ := (HT.out.below hb).at k hkl
      have hbm : w.heap.size < wr.heap.size := by obtain ⟨es, ck, h5, _⟩ := hM; exact some_lt h5
      have hgz : g ≠ wr.heap.size := by omega
      obtain ⟨A5, n5, c5⟩ := s4
      unfold slV at c3
      dsimp only at c3
      have HB := Lib.hid hb
      have HM := Lib.hid hM
      have HN := Lib.hid hN
      by_cases hk0 : k = 0
      · subst hk0
        simp only [Nat.zero_mul, Nat.zero_add] at c0 c1 c2 c3
        clear hM hN hb
        go_wp2_with fail
        exact ⟨⟨1, l, by omega, rfl, HB.out.alloc HB.out.size _, HM.out.keep (Below.heap_alloc _ _ _ hbm), next_one HT.out.lev.inv HN.out⟩, by simp [intOf] <;> omega⟩
      · have hnone := next_none HT.out.lev.inv (by omega) hkl hN
        have hu1 := (HT.out.lev.inv.node k ns[k] (by omega) (List.getElem?_eq_getElem hkl)).1
        have hmore := Lib.hid (next_more HT.out.lev.inv (by omega) hkl hN)
        obtain ⟨o, hput⟩ := run_put_edges hM ((ns[k].up : Int), ns[k].b) k ⟨by omega, by show (ns[k].up : Int) < _; omega⟩ hnone
        have HPUT : Hid (∀ W : World, W.heap[w.heap.size]? = wr.heap[w.heap.size]? → (Instr.mapUpdate 267 (.map (some w.heap.size)) (.agg #[.int .i64 (ns[k].up : Int), .int .u8 ns[k].b.toNat]) (.int .i64 (k : Int))).run Tryz.prog W = .ok () (ChangeMaps.setBlock W w.heap.size o) ∧ MpAt (ChangeMaps.setBlock W w.heap.size o) w.heap.size (l ++ [(((ns[k].up : Int), ns[k].b), k)])) := Lib.hid hput
        generalize ns[k] = x at *
        obtain ⟨xb, xu, xf⟩ := x
        dsimp only at c0 c1 c2 hmore HPUT
        have t5 : decide (0 < (k : Int)) = true := by simp; omega
        have hpu := (HPUT.out (wr.alloc (.cells #[.int .u8 xb.toNat, .int .i64 (xu : Int), .int .i64 (xf : Int), .slice A5 n5 c5] 266)) (Below.heap_alloc _ _ _ hbm)).1
        have HMP := Lib.hid (HPUT.out (wr.alloc (.cells #[.int .u8 xb.toNat, .int .i64 (xu : Int), .int .i64 (xf : Int), .slice A5 n5 c5] 266)) (Below.heap_alloc _ _ _ hbm)).2
        clear hM hN hb hput hnone
        go_wp2_with fail
        exact ⟨⟨k + 1, _, by omega, rfl, (HB.out.alloc HB.out.size _).trans (below_setBlock _ _ _ _ (Nat.le_refl _)), HMP.out, hmore.out⟩, by simp [intOf] <;> omega⟩
    · have e : k = ns.length := by omega
      rw [e, List.take_of_length_le (Nat.le_refl _)] at hN
      clear e
      have HN := Lib.hid hN
      have HMb := Lib.hid hM
      have HBb := Lib.hid hb
      clear hN hM hb
      obtain ⟨wo, rfl⟩ : ∃ wo : World, wo = wr := ⟨_, rfl⟩
      go_wp2_with fail
      go_loopw [10, 11, 37] (fun v10 v11 v wr => RelH2 (lstS ws) ss s m l w v10 v11 v wr) (fun _ _ v _ => s.size - (intOf v).toNat)
      case atStart =>
        refine ⟨0, 0, [], Nat.zero_le _, rfl, rfl, HT.out.lev.inv.trie.root, ?_, OwnG.nil _ _ _, fun _ => rfl, HBb.out, HMb.out⟩
        rw [List.take_zero]
        exact ⟨HT.out.lev.inv.trie.nil_mem, List.suffix_refl _, fun u _ h => h⟩
      case round =>
        obtain ⟨i, a, str, hi, rfl, rfl, hstr, hlong, hO, hone, hb, hM⟩ := hrel
        have hbm : w.heap.size < wr.heap.size := by obtain ⟨es, ck, h5, _⟩ := hM; exact some_lt h5
        have hform := hO.form
        obtain ⟨A8, c8, rfl, _⟩ := hform
        have hfew := hitsTo_few (lstS ws) s.data.toList (by rw [lstS, List.length_map]; exact HG.out.few) i
        by_cases hil : i < s.size
        · have ht1 := take_byte hil
          have HLK : Hid (∀ a : Nat, a < ns.length → ∀ x : UInt8, (Instr.lookup 267 (.map (some w.heap.size)) (.agg #[.int .i64 (a : Int), .int .u8 x.toNat]) true).run Tryz.prog wr = .ok (.tuple #[.int .i64 (((lookE l ((a : Int), x)).getD 0 : Nat) : Int), .bool (lookE l ((a : Int), x)).isSome]) wr) := Lib.hid fun a ha x =>
            run_look_edge2 hM ((a : Int), x) ⟨by omega, by show (a : Int) < _; omega⟩
          have hal := HT.out.lev.inv.lt hstr
          have HF : Hid (FailAt ss (s.data.toList.take i) s[i] a) := Lib.hid ⟨⟨str, hstr, cand_of_long s[i] hlong⟩⟩
          have HO := Lib.hid hO
          have HONE := Lib.hid hone
          have HB := Lib.hid hb
          have HM := Lib.hid hM
          clear hO hone hb hM hlong hstr
          have HT1 := Lib.hid ht1
          clear ht1
          generalize hx : s[i] = x at HF HT1
          have hlk := HLK.out a hal x
          obtain ⟨w1, rfl⟩ : ∃ w1 : World, w1 = wr := ⟨_, rfl⟩
          go_wp2_with fail
          go_loopw [11, 13, 14] (fun v11 v13 v14 wr => RelH3 ss (s.data.toList.take i) x l w1 v11 v13 v14 wr) (fun v11 _ _ _ => (intOf v11).toNat)
          case atStart => exact ⟨a, rfl, rfl, rfl, HF, rfl⟩
          case round =>
            obtain ⟨a2, rfl, rfl, rfl, hF2, rfl⟩ := hrel
            have ha2 : a2 < ns.length := by obtain ⟨v, hv, _⟩ := hF2.out.cand; exact HT.out.lev.inv.lt hv
            have HX := Lib.hid (HN.out a2 x)
            clear hlk
            cases hlook : lookE l ((a2 : Int), x) with
            | some j =>
              obtain ⟨str2, hs2, hlong2⟩ := hF2.out.found HT.out.lev.inv ((HX.out j).1 hlook)
              rw [← HT1.out] at hlong2
              have hjl := HT.out.lev.inv.lt hs2
              obtain ⟨sE, _, _, _, c3w, hE⟩ := HT.out.at j hjl
              have c3 := (HB.out.cell (p := ⟨g, j * 4 + 3, none⟩) hg).trans c3w
              have he : endsOf (lstS ws) (ss.getD j []) = endsOf (lstS ws) (s.data.toList.take (i + 1)) := by
                rw [List.getD_eq_getElem?_getD, hs2]
                exact (ends_long (Lev.words HT.out.lev (fun w' hw' => by obtain ⟨v, hv, rfl⟩ := List.mem_map.1 hw'; have := HG.out.short v hv; simpa using this)) hlong2).symm
              rw [he] at hE
              obtain ⟨A6, n6, c6⟩ := sE
              have hn6 : n6 = (hitsAt (lstS ws) s.data.toList i).length := by rw [hitsAt_len]; exact hE.1
              subst hn6
              unfold slV at c3
              dsimp only at c3
              have HLONG := Lib.hid hlong2
              have HEE := Lib.hid hE
              clear hlook hlong2 hE he
              simp only [Option.getD_some, Option.isSome_some]
              obtain ⟨w2, rfl⟩ : ∃ w2 : World, w2 = wr := ⟨_, rfl⟩
              go_wp2_with fail
              go_loopw [10, 79] (fun v10 v wr => RelH4 (lstS ws) s m l i w v10 v wr) (fun _ v _ => (hitsAt (lstS ws) s.data.toList i).length - (intOf v).toNat)
              case atStart => exact ⟨0, Nat.zero_le _, rfl, by rw [List.take_zero, List.append_nil]; exact HO.out, by rw [List.take_zero, List.append_nil]; exact HONE.out, HB.out, HM.out⟩
              case round =>
                obtain ⟨q, hq, rfl, hO4, hone4, hb4, hM4⟩ := hrel
                have hal4 := hitsAt_len (lstS ws) s.data.toList i
                have hf5 : (hitsAt (lstS ws) s.data.toList i).length ≤ 30 := by
                  rw [hal4]
                  exact Nat.le_trans (ends_few _ _) (by rw [lstS, List.length_map]; exact HG.out.few)
                by_cases hql : q < (hitsAt (lstS ws) s.data.toList i).length
                · obtain ⟨g6, e6, _, hz6, hcells⟩ := HEE.out.2 (by omega)
                  dsimp only at e6
                  subst e6
                  have hc6 := (hb4.cell (p := ⟨g6, q, none⟩) hz6).trans (hcells q (by omega))
                  have HNEW := Lib.hid (hitsAt_get (lstS ws) s.data.toList i q hql (by omega))
                  generalize (endsOf (lstS ws) (s.data.toList.take (i + 1)))[q]'(by omega) = kq at hc6 HNEW
                  have hlen4 : (hitsTo (lstS ws) s.data.toList i ++ (hitsAt (lstS ws) s.data.toList i).take q).length = (hitsTo (lstS ws) s.data.toList i).length + q := by
                    rw [List.length_append, List.length_take, Nat.min_eq_left hq]
                  have HO4 := Lib.hid hO4
                  have HB4 := Lib.hid hb4
                  have HM4 := Lib.hid hM4
                  have hbz := hb4.size
                  have hform := hO4.form
                  obtain ⟨A9, c9, rfl, _⟩ := hform
                  have HTK : Hid (hitsTo (lstS ws) s.data.toList i ++ (hitsAt (lstS ws) s.data.toList i).take (q + 1) = (hitsTo (lstS ws) s.data.toList i ++ (hitsAt (lstS ws) s.data.toList i).take q) ++ [(kq, i + 1)]) := by
                    unfold Hid
                    rw [List.take_succ_eq_append_getElem hql, HNEW.out, List.append_assoc]
                  have hap := hM4
                  obtain ⟨es', ck, h5, _⟩ := hap
                  have hap2 := hO4.apart h5 (fun cs fz e => by cases e)
                  have hlt5 := some_lt h5
                  have HMK : Hid (∀ w5 : World, w5.heap[w.heap.size]? = wr.heap[w.heap.size]? → MpAt w5 w.heap.size l) := Lib.hid fun w5 hk5 => hM4.keep hk5
                  have hX4 : (hitsTo (lstS ws) s.data.toList i ++ (hitsAt (lstS ws) s.data.toList i).take q).length ≤ 250000 := by omega
                  have HONE1 : m = 1 → Hid (hitsTo (lstS ws) s.data.toList i ++ (hitsAt (lstS ws) s.data.toList i).take q = [] ∧ [(kq, i + 1)] = hitsM (lstS ws) s.data.toList 1) := fun e => Lib.hid ⟨hone4 e, by rw [← HNEW.out]; exact hits_one (by simpa using hil) hql (hone4 e)⟩
                  clear hO4 hb4 hM4 hone4 hlen4 h5
                  generalize hitsTo (lstS ws) s.data.toList i ++ (hitsAt (lstS ws) s.data.toList i).take q = X at *
                  rcases HMM.out with rfl | rfl
                  · have HH := Lib.hid (HONE1 rfl).out.2
                    obtain rfl := (HONE1 rfl).out.1
                    clear HONE1
                    go_wp2_with (at_builtin; refine wpList_append_g rowH rfl _ _ rfl w.heap.size _ [] rfl HO4.out (by omega) _ (kq, i + 1) rfl wr.heap.size rfl 1 rfl (by simp) ?_; intro v5 w5 hO5 hb5 hk5 hz5; obtain ⟨g7, c7, rfl, _, _⟩ := hO5.head (by simp))
                    go_ret
                    exact ⟨_, rfl, by rw [← HH.out]; exact hO5, HB4.out.trans hb5⟩
                  · have t6 : (((X.length : Nat) : Int) + 1 == -1) = false := beq_eq_false_iff_ne.2 (by omega)
                    go_wp2_with (at_builtin; refine wpList_append_g rowH rfl _ _ rfl w.heap.size _ X rfl HO4.out (by omega) _ (kq, i + 1) rfl wr.heap.size rfl 1 rfl (by omega) ?_; intro v5 w5 hO5 hb5 hk5 hz5; obtain ⟨g7, c7, rfl, _, _⟩ := hO5.head (by simp))
                    have hO6 := hO5
                    rw [List.length_append, List.length_singleton] at hO6
                    exact ⟨⟨u6, .slice (some ⟨g7, 0, none⟩) (X.length + 1) c7, .int .i64 (kq : Int), .int .i64 ((q : Int) + 1), ⟨q + 1, by omega, rfl, by rw [HTK.out]; exact hO6, fun e => absurd e (by decide), HB4.out.trans hb5, HMK.out _ (hk5 _ hlt5 hap2)⟩, rfl, rfl, rfl, rfl⟩, by simp [intOf]; omega⟩
                · have e : q = (hitsAt (lstS ws) s.data.toList i).length := by omega
                  rw [e, List.take_of_length_le (Nat.le_refl _), ← hitsTo_succ] at hO4 hone4
                  clear e
                  have HO4 := Lib.hid hO4
                  have HONE4 := Lib.hid hone4
                  have hform := hO4.form
                  obtain ⟨A9, c9, rfl, _⟩ := hform
                  clear hO4 hone4
                  go_wp2_with fail
                  exact ⟨⟨i + 1, j, str2, by omega, rfl, rfl, hs2, HLONG.out, HO4.out, HONE4.out, hb4, hM4⟩, by simp [intOf] <;> omega⟩
            | none =>
              have hno : ∀ j, ¬ (0 < j ∧ ∃ y, ns[j]? = some y ∧ y.up = a2 ∧ y.b = x) := fun j h => by rw [(HX.out j).2 h] at hlook; cases hlook
              by_cases ha0 : a2 = 0
              · subst ha0
                have hlong2 := hF2.out.none HT.out.lev.inv hno
                rw [← HT1.out] at hlong2
                have hE0 : hitsAt (lstS ws) s.data.toList i = [] := by
                  unfold hitsAt
                  rw [ends_long (Lev.words HT.out.lev (fun w' hw' => by obtain ⟨v, hv, rfl⟩ := List.mem_map.1 hw'; have := HG.out.short v hv; simpa using this)) hlong2, ends_root]
                  · rfl
                  · intro w' hw' e
                    obtain ⟨v, hv, rfl⟩ := List.mem_map.1 hw'
                    exact HG.out.full v hv (by have := congrArg List.length e; simpa using this)
                have hR := Lib.hid (hitsTo_succ (lstS ws) s.data.toList i)
                rw [hE0, List.append_nil] at hR
                clear hE0 hlook hno
                simp only [Option.getD_none, Option.isSome_none]
                go_wp2_with fail
                exact ⟨⟨i + 1, 0, [], by omega, rfl, rfl, HT.out.lev.inv.trie.root, hlong2, by rw [hR.out]; exact HO.out, by rw [hR.out]; exact HONE.out, HB.out, HM.out⟩, by simp [intOf] <;> omega⟩
              · obtain ⟨y, hy⟩ : ∃ y, ns[a2]? = some y := ⟨_, List.getElem?_eq_getElem ha2⟩
                obtain ⟨hf3, hf4⟩ := hF2.out.next HT.out.lev.inv (by omega) hy hno
                obtain ⟨_, _, _, c2, _⟩ := (HT.out.below HB.out).at a2 ha2
                have hye : ns[a2] = y := by rw [List.getElem?_eq_getElem ha2] at hy; exact Option.some.inj hy
                rw [hye] at c2
                have HF3 := Lib.hid hf3
                have hlk := HLK.out y.fail (by omega) x
                have t5 : decide (0 < (a2 : Int)) = true := by simp; omega
                clear hf3 hno hlook hye hy
                simp only [Option.getD_none, Option.isSome_none]
                go_wp2_with fail
                exact ⟨⟨y.fail, rfl, rfl, rfl, HF3, rfl⟩, by simp [intOf] <;> omega⟩
        · have e : i = s.data.toList.length := by simp; omega
          have HM2 := Lib.hid (hits_all e hone)
          clear e
          go_wp2_with fail
          go_ret
          exact ⟨_, rfl, by rw [HM2.out]; exact hO, hb⟩
end Go.Proofs.YthfjmlcjkbgboaaGreatDoor
