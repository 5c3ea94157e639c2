/- phrase.Check of what Make made: fine. -/
import Derived.Test.YtipkelbbfgidhaaGreatDoorPhI
import Derived.Test.YtipkelbbfgidhaaGreatDoorCFI
namespace Go.Proofs.YtipkelbbfgidhaaGreatDoor
open Go.RowKit

theorem NodesAt.below {ws ss : List (List UInt8)} {ns : List NodeP} {B lo g cap i : Nat} {ms : List NodeM} {w w' : World} (h : NodesAt ws ss ns B lo g cap i ms w) (hb : Below w.heap.size w w') : NodesAt ws ss ns B lo g cap i ms w' :=
  ⟨h.own.below hb, h.fst, fun j m hj hm => (h.done j m hj hm).keep hb.size fun k _ hk => hb.block k hk, h.rest⟩
theorem TreeIs.below {w w' : World} {lo : Nat} {ws : List ByteArray} {g cap : Nat} {ns : List NodeP} {ss : List (List UInt8)} {ms : List NodeM} (h : TreeIs w lo ws g cap ns ss ms) (hb : Below w.heap.size w w') : TreeIs w' lo ws g cap ns ss ms := by
  obtain ⟨h1, h2, lo2, h3, h4⟩ := h
  exact ⟨h1, h2, lo2, h3, h4.below hb⟩
theorem TreeIs.len {w : World} {lo : Nat} {ws : List ByteArray} {g cap : Nat} {ns : List NodeP} {ss : List (List UInt8)} {ms : List NodeM} (h : TreeIs w lo ws g cap ns ss ms) : ms.length = ns.length ∧ 0 < ns.length ∧ g < w.heap.size := by
  obtain ⟨h1, h2, lo2, h3, h4⟩ := h
  exact ⟨by rw [← h4.fst, List.length_map], (List.getElem?_eq_some_iff.1 h1.inv.zero).1, (h4.own.lt g rfl).2⟩
/-- A node's cells. -/
theorem TreeIs.at {w : World} {lo : Nat} {ws : List ByteArray} {g cap : Nat} {ns : List NodeP} {ss : List (List UInt8)} {ms : List NodeM} (h : TreeIs w lo ws g cap ns ss ms) (k : Nat) (hk : k < ns.length) :
    ∃ s : SlT, w.cell? ⟨g, k * 4, none⟩ = some (.int .u8 ns[k].b.toNat) ∧ w.cell? ⟨g, k * 4 + 1, none⟩ = some (.int .i64 (ns[k].up : Int)) ∧ w.cell? ⟨g, k * 4 + 2, none⟩ = some (.int .i64 (ns[k].fail : Int)) ∧ w.cell? ⟨g, k * 4 + 3, none⟩ = some (slV s) ∧ EndsAt w 0 s (endsOf (lstS ws) (ss.getD k [])) := by
  have hl := h.len.1
  obtain ⟨h1, h2, lo2, h3, h4⟩ := h
  have hk' : k < ms.length := by omega
  have e : ms[k].1 = ns[k] := by
    have := h4.fst
    have h5 : (ms.map Prod.fst)[k]? = ns[k]? := by rw [this]
    rw [List.getElem?_map, List.getElem?_eq_getElem hk', List.getElem?_eq_getElem hk] at h5
    exact Option.some.inj h5
  rw [← e]
  exact ⟨ms[k].2, (h4.own.at k hk' 0 (by decide)).1, (h4.own.at k hk' 1 (by decide)).1, (h4.own.at k hk' 2 (by decide)).1, (h4.own.at k hk' 3 (by decide)).1, (h4.done k _ hk (List.getElem?_eq_getElem hk')).lower (Nat.zero_le _)⟩
/-- The edges of the first nodes. -/
theorem next_none {ns : List NodeP} {ss : List (List UInt8)} (hi : Inv ns ss) {l : List (EdgeK × Nat)} {i : Nat} (h0 : 0 < i) (hlt : i < ns.length) (hl : NextOk (ns.take i) l) : lookE l ((ns[i].up : Int), ns[i].b) = none := by
  cases h : lookE l ((ns[i].up : Int), ns[i].b) with
  | none => rfl
  | some j =>
    obtain ⟨hj0, n, hn, hup, hb⟩ := (hl _ _ j).1 h
    have hji : j < i := by have := (List.getElem?_eq_some_iff.1 hn).1; rw [List.length_take] at this; omega
    rw [List.getElem?_take_of_lt hji] at hn
    obtain ⟨_, _, p, f, e1, _, e3, _⟩ := hi.node i ns[i] h0 (List.getElem?_eq_getElem hlt)
    have := (hi.kid e1 (j := j) (b := ns[i].b)).2 ⟨hj0, n, hn, hup, hb⟩
    exact absurd (hi.inj this e3) (by omega)
theorem next_more {ns : List NodeP} {ss : List (List UInt8)} (hi : Inv ns ss) {l : List (EdgeK × Nat)} {i : Nat} (h0 : 0 < i) (hlt : i < ns.length) (hl : NextOk (ns.take i) l) : NextOk (ns.take (i + 1)) (l ++ [(((ns[i].up : Int), ns[i].b), i)]) := by
  have hlen : (ns.take i).length = i := by rw [List.length_take]; omega
  have := hl.add ns[i] (by omega) (next_none hi h0 hlt hl)
  rw [hlen] at this
  rw [List.take_succ_eq_append_getElem hlt]
  exact this
theorem next_first {ns : List NodeP} {ss : List (List UInt8)} (hi : Inv ns ss) : NextOk (ns.take 1) [] := by
  have h0 := hi.zero
  have hlt := (List.getElem?_eq_some_iff.1 h0).1
  have : ns.take 1 = [⟨0, 0, 0⟩] := by
    rw [show (1 : Nat) = 0 + 1 from rfl, List.take_succ_eq_append_getElem hlt, List.take_zero]
    rw [List.getElem?_eq_getElem hlt] at h0
    rw [Option.some.inj h0]; rfl
  rw [this]
  exact NextOk.start
theorem below_no (k m B : Nat) (W : World) (hk : k < m) (hc : W.cell? ⟨B, 0, none⟩ = some (.int .i64 (m : Int))) :
    Calls Tryz.prog 108 #[.int .i64 (k : Int), .pointer (some ⟨B, 0, none⟩)] W (BoolPost false W) := by
  have d1 : decide ((k : Int) < 0) = false := by simp
  have d2 : decide ((m : Int) ≤ (k : Int)) = false := by simp; omega
  go_enter Tryz.func108, Tryz.ntmps108
  go_wp2_with fail
  go_ret
  exact ⟨by simp [hk], Below.refl _ _⟩
theorem next_one {ns : List NodeP} {ss : List (List UInt8)} (hi : Inv ns ss) {l : List (EdgeK × Nat)} (h : NextOk (ns.take 0) l) : NextOk (ns.take 1) l := fun a b j => by
  rw [h a b j]
  constructor
  · rintro ⟨_, n, hn, _⟩; simp at hn
  · intro h2; exact absurd ((next_first hi a b j).2 h2) (by simp [lookE])
theorem ends_vals {w : World} {lo : Nat} {s : SlT} {l : List Nat} (h : EndsAt w lo s l) : ∀ j, j < s.2.1 → (l.flatMap rowI.cells)[j]? = some (.int .i64 ((l.getD j 0 : Nat) : Int)) := fun j hj => by
  have hj' : j < l.length := by rw [← h.1]; exact hj
  have hf := flat_at rowI.cells 1 (fun _ => rfl) l j 0 hj' (by decide)
  rw [show j * 1 + 0 = j by omega] at hf
  rw [hf, List.getD_eq_getElem?_getD, List.getElem?_eq_getElem hj']
  rfl
theorem ends_fine {ws : List ByteArray} {str : List UInt8} {W : World} {s : SlT} {lo B : Nat} (hws : ws.length ≤ 30) (h : EndsAt W lo s (endsOf (lstS ws) str)) (hB : B < W.heap.size) (hc : W.cell? ⟨B, 0, none⟩ = some (.int .i64 (ws.length : Int))) :
    Calls Tryz.prog 107 #[slV s, .func (.func 108) #[] #[.pointer (some ⟨B, 0, none⟩)]] W (BoolPost false W) := by
  have hfew := ends_few (lstS ws) str
  have hle : (lstS ws).length = ws.length := by rw [lstS, List.length_map]
  have := ContFI_any 108 #[.pointer (some ⟨B, 0, none⟩)] (enters_of Tryz.func108 (by kernel_rfl) rfl) s.1 s.2.1 s.2.2 _ (fun j => .int .i64 (((endsOf (lstS ws) str).getD j 0 : Nat) : Int)) (fun _ => false) W h.sl (by rw [h.1]; omega) (ends_vals h) fun W' j hj hb => by
    have hj' : j < (endsOf (lstS ws) str).length := by rw [← h.1]; exact hj
    have hm : (endsOf (lstS ws) str).getD j 0 ∈ endsOf (lstS ws) str := by rw [List.getD_eq_getElem?_getD, List.getElem?_eq_getElem hj']; exact List.getElem_mem hj'
    have hlt := (mem_endsOf.1 hm).1
    rw [hle] at hlt
    exact below_no _ ws.length B W' hlt ((hb.cell (p := ⟨B, 0, none⟩) hB).trans hc)
  have e : anyN (fun _ => false) s.2.1 = false := (any_false _ _).2 fun _ _ => rfl
  rw [e] at this
  exact this
/-- The round's state. -/
def RelC (ns : List NodeP) (m bm : Nat) (w : World) (v : Value) (wr : World) : Prop :=
  ∃ (k : Nat) (l : List (EdgeK × Nat)), k ≤ ns.length ∧ v = .int .i64 (k : Int) ∧ Below w.heap.size w wr ∧ MpAt wr bm l ∧ NextOk (ns.take k) l ∧ wr.heap[w.heap.size]? = some (.cells #[.int .i64 (m : Int)] 3)
set_option maxRecDepth 100000 in
set_option maxHeartbeats 1600000 in
theorem check_tree (ws : List ByteArray) (hws : ws.length ≤ 30) (lo g cap : Nat) (ns : List NodeP) (ss : List (List UInt8)) (ms : List NodeM) (w : World) (hT : TreeIs w lo ws g cap ns ss ms) :
    Calls Tryz.prog 78 #[.slice (some ⟨g, 0, none⟩) ms.length cap, .int .i64 (ws.length : Int)] w fun e w' => e = .returned (.int .i64 0) ∧ Below w.heap.size w w' := by
  obtain ⟨hl, h0, hg⟩ := hT.len
  have h4 := hT.few
  rw [hl]
  obtain ⟨s0, _, hu0, hf0, _⟩ := hT.at 0 h0
  have hz : ns[0] = ⟨0, 0, 0⟩ := by have := hT.lev.inv.zero; rw [List.getElem?_eq_getElem h0] at this; exact Option.some.inj this
  rw [hz] at hu0 hf0
  have hu : w.cell? ⟨g, 1, none⟩ = some (.int .i64 0) := by simpa using hu0
  have hf : w.cell? ⟨g, 2, none⟩ = some (.int .i64 0) := by simpa using hf0
  have d1 : decide ((400 : Int) < (ns.length : Int)) = false := by simp; omega
  have d2 : decide ((30 : Int) < (ws.length : Int)) = false := by simp; omega
  have d3 : ((ns.length : Int) == 0) = false := beq_eq_false_iff_ne.2 (by omega)
  have hgw : g ≠ w.heap.size := by omega
  have HT := Lib.hid hT
  have hmm := @run_makeMap Tryz.prog
  clear hu0 hf0 hT
  go_enter Tryz.func78, Tryz.ntmps78
  go_wp2_with fail
  go_loopw [37] (fun v wr => RelC ns ws.length (w.heap.size + 1) w v wr) (fun v _ => ns.length - (intOf v).toNat)
  case atStart =>
    refine ⟨0, [], Nat.zero_le _, rfl, ((Below.refl _ _).alloc (Nat.le_refl _) _).alloc (by simp) _, ⟨#[], 0, ?_, rfl⟩, ?_, ?_⟩
    · have := heap_alloc_new (w.alloc (.cells #[.int .i64 (ws.length : Int)] 3)) (.map #[] 0)
      rw [World.size_alloc] at this
      exact this
    · intro a b j
      simp [lookE]
    · exact (Below.heap_alloc _ _ _ (by simp)).trans (heap_alloc_new w (.cells #[.int .i64 (ws.length : Int)] 3))
  case round =>
    obtain ⟨k, l, hk, rfl, hb, hM, hN, hwb⟩ := hrel
    clear hu hf d1 d2 d3
    by_cases hkl : k < ns.length
    · obtain ⟨s, c0, c1, c2, c3, hE⟩ := (HT.out.below hb).at k hkl
      have hcw := cell_of_row wr w.heap.size 0 _ _ _ hwb
      have hzw := some_lt hwb
      have hgz : g ≠ wr.heap.size := by omega
      have HCF : Hid (∀ o, Calls Tryz.prog 107 #[slV s, .func (.func 108) #[] #[.pointer (some ⟨w.heap.size, 0, none⟩)]] (wr.alloc o) (BoolPost false (wr.alloc o))) := Lib.hid fun o =>
        ends_fine hws (hE.keep (by simp) fun j _ hj => Below.heap_alloc _ _ _ hj) (by simp; omega) (cell_kept ((Below.refl _ _).alloc (Nat.le_refl _) o) hcw)
      obtain ⟨A5, n5, c5⟩ := s
      unfold slV at c3 HCF
      dsimp only at c3 HCF
      have HB := Lib.hid hb
      have HM := Lib.hid hM
      have HN := Lib.hid hN
      have HW := Lib.hid hwb
      have hbm : w.heap.size + 1 < wr.heap.size := by obtain ⟨es, ck, h5, _⟩ := hM; exact some_lt h5
      by_cases hk0 : k = 0
      · subst hk0
        simp only [Nat.zero_mul, Nat.zero_add] at c0 c1 c2 c3
        clear hE hM hN hb hwb
        go_wp2_with (go_at_call 107; refine (HCF.out _).mono ?_; rintro e w2 ⟨rfl, hb2⟩)
        have hb3 : Below wr.heap.size wr w2 := below_new hb2 (Nat.le_refl _)
        exact ⟨⟨1, l, by omega, rfl, HB.out.trans (hb3.mono (by omega)), HM.out.keep (hb3.block _ hbm), next_one HT.out.lev.inv HN.out, (hb3.block _ hzw).trans HW.out⟩, by simp [intOf] <;> omega⟩
      · obtain ⟨hu1, hf1, _⟩ := HT.out.lev.inv.node k ns[k] (by omega) (List.getElem?_eq_getElem hkl)
        have hnone := next_none HT.out.lev.inv (by omega) hkl hN
        have hmore := Lib.hid (next_more HT.out.lev.inv (by omega) hkl hN)
        obtain ⟨o, hput⟩ := run_put_edges hM ((ns[k].up : Int), ns[k].b) k ⟨by omega, by show (ns[k].up : Int) < _; omega⟩ hnone
        have HPUT : Hid (∀ W : World, W.heap[w.heap.size + 1]? = wr.heap[w.heap.size + 1]? → (Instr.mapUpdate 92 (.map (some (w.heap.size + 1))) (.agg #[.int .i64 (ns[k].up : Int), .int .u8 ns[k].b.toNat]) (.int .i64 (k : Int))).run Tryz.prog W = .ok () (ChangeMaps.setBlock W (w.heap.size + 1) o) ∧ MpAt (ChangeMaps.setBlock W (w.heap.size + 1) o) (w.heap.size + 1) (l ++ [(((ns[k].up : Int), ns[k].b), k)])) := Lib.hid hput
        have HLK : Hid (∀ W, Below wr.heap.size wr W → (Instr.lookup 92 (.map (some (w.heap.size + 1))) (.agg #[.int .i64 (ns[k].up : Int), .int .u8 ns[k].b.toNat]) true).run Tryz.prog W = .ok (.tuple #[.int .i64 0, .bool false]) W) := Lib.hid fun W hW => by
          have := run_look_edge2 (w := W) (hM.keep (hW.block _ hbm)) ((ns[k].up : Int), ns[k].b) ⟨by omega, by show (ns[k].up : Int) < _; omega⟩
          rw [hnone] at this
          exact this
        generalize ns[k] = x at *
        obtain ⟨xb, xu, xf⟩ := x
        dsimp only at c0 c1 c2 hu1 hf1 hmore HPUT HLK
        have t1 : decide ((xu : Int) < 0) = false := by simp
        have t2 : decide ((k : Int) ≤ (xu : Int)) = false := by simp; omega
        have t3 : decide ((xf : Int) < 0) = false := by simp
        have t4 : decide ((k : Int) ≤ (xf : Int)) = false := by simp; omega
        have t5 : ((k : Int) == 0) = false := beq_eq_false_iff_ne.2 (by omega)
        clear hE hM hN hb hwb hput hnone
        go_wp2_with (go_at_call 107; refine (HCF.out _).mono ?_; rintro e w2 ⟨rfl, hb2⟩; have hb3 : Below wr.heap.size wr w2 := below_new hb2 (Nat.le_refl _); have n0 := new_cell hb2 0; have n1 := new_cell hb2 1; have n2 := new_cell hb2 2; have hlk := HLK.out w2 hb3; have hpu := (HPUT.out w2 (hb3.block _ hbm)).1)
        have hMP := (HPUT.out w2 (hb3.block _ hbm)).2
        exact ⟨⟨k + 1, _, by omega, rfl, (HB.out.trans (hb3.mono (by omega))).trans (below_setBlock _ _ _ _ (by omega)), hMP, hmore.out, (put_kept _ _ _ _ (by omega)).trans ((hb3.block _ hzw).trans HW.out)⟩, by simp [intOf] <;> omega⟩
    · have e : k = ns.length := by omega
      clear hN
      go_wp2_with fail
      go_ret
      exact ⟨rfl, hb⟩
end Go.Proofs.YtipkelbbfgidhaaGreatDoor
