/- Part 14 of the proof: lemmas and walks that the last texts use. -/
import Derived.Test.YthfjmlcjkbgboaaGreatDoorM12
import Derived.Test.YthfjmlcjkbgboaaGreatDoorM13
import Derived.Deep.AppendLies
import Derived.Deep.RegionWith
namespace Go.Proofs.YthfjmlcjkbgboaaGreatDoor
section
open Go.RowKit
structure TC where
  t : Tree
  A : Option Addr
  c : Nat
def cellsTC (x : TC) : List Value := cellsX x.t.kind x.t.set x.A x.t.kids.length x.c
/-- A row of trees of the call's own. -/
def OwnT (w : World) (base : Nat) (v : Value) (l : List TC) : Prop := w.ownsRow base 217 6 v l.length (l.flatMap cellsTC)
theorem OwnT.nil (w : World) (base : Nat) : OwnT w base (.slice none 0 0) [] := World.ownsRow_nil w base 217 6
theorem OwnT.below {w w' : World} {base : Nat} {v : Value} {l : List TC} (h : OwnT w base v l) (hb : Below w.heap.size w w') : OwnT w' base v l := ownsRow_below h hb
theorem OwnT.keep {w w' : World} {base : Nat} {v : Value} {l : List TC} (h : OwnT w base v l) (hk : ∀ g, v.ownBlock = some g → w'.heap[g]? = w.heap[g]?) : OwnT w' base v l := by
  refine ⟨h.1, ?_⟩
  rcases h.2 with h0 | ⟨g, cap, cur, h1, h2, h3, h4⟩
  · exact .inl h0
  · exact .inr ⟨g, cap, cur, h1, h2, (hk g (by rw [h1]; rfl)).trans h3, h4⟩
theorem flat_lxk {w : World} {p : Nat → Prop} : ∀ (l : List TC) (b off : Nat), p b → (∀ x ∈ l, LX w p x.t (cellsTC x)) → (∀ j u, (l.flatMap cellsTC)[j]? = some u → w.cell? ⟨b, off + j, none⟩ = some u) → LXK w p (l.map TC.t) (some ⟨b, off, none⟩)
  | [], _, _, _, _, _ => by rw [List.map_nil, LXK]; trivial
  | x :: l, b, off, hb, hl, hc => by
    rw [List.map_cons, LXK]
    refine ⟨b, off, cellsTC x, rfl, hb, rfl, fun j hj => ?_, hl x (by simp), flat_lxk l b (off + 6) hb (fun y hy => hl y (by simp [hy])) fun j u hu => ?_⟩
    · refine hc j _ ?_
      rw [List.flatMap_cons, List.getElem?_append_left hj, List.getElem?_eq_getElem hj]
    · have := hc (6 + j) u (by rw [List.flatMap_cons, List.getElem?_append_right (by show 6 ≤ _; omega)]; show (l.flatMap cellsTC)[6 + j - 6]? = _; rw [Nat.add_sub_cancel_left]; exact hu)
      rw [Nat.add_assoc]
      exact this
theorem info_rex : (Tryz.prog.info? 217).map (fun i => (i.zero, i.size, i.bytes)) = some (some (.agg #[.int .i64 0, .int .u64 0, .int .u64 0, .int .u64 0, .int .u64 0, .slice none 0 0]), 6, 64) := by kernel_rfl
section
variable {ops : Array Oper} {o : Oper} {a : Act} {Q : Exit → Act → World → Prop} {w : World}
theorem step_append_t {K : Act → World → Prop} {E : Prop} (hgd : o.guard = none) (s x : Operand) (ho : o.op = .call { callee := .builtin .append, args := #[s, x], argTypes := #[215, 215] })
    (base : Nat) (v : Value) (l : List TC) (n : Nat) (hn : l.length = n) (hs : a.eval s = v) (hown : OwnT w base v l) (hbase : base ≤ w.heap.size) (y : TC) (g0 c : Nat) (hx : a.eval x = .slice (some ⟨g0, 0, none⟩) 1 c) (hp : PutX w g0 (cellsTC y)) (hlen : n ≤ 1000)
    (h : ∀ g cap w', OwnT w' base (.slice (some ⟨g, 0, none⟩) (n + 1) cap) (l ++ [y]) → w.grownBy w' v.ownBlock → (v.ownBlock = some g ∨ g = w.heap.size) → g < w'.heap.size → K (a.put o.dst (.slice (some ⟨g, 0, none⟩) (n + 1) cap)) w') :
    if Region.wanted o (yielded ops a.tmps) = true then Oper.wp Tryz.prog o a w K Q else E := by
  subst hn
  have hw : Region.wanted o (yielded ops a.tmps) = true := by simp [Region.wanted, hgd]
  rw [if_pos hw]
  obtain ⟨i0, hi, hz0, hz1, hz2⟩ := info_parts info_rex
  refine wp_append_lies (P := Tryz.prog) w s x 215 ho base 217 i0 _ 6 64 Tryz.underlying215 hi hz0 hz1 hz2 rfl (by decide) v l.length (l.flatMap cellsTC) hs hown
    ⟨g0, 0, none⟩ 1 c (cellsTC y) hx rfl (fun j u hu => ?_) (fun u hu => ?_) (by decide) (by unfold maxLen; omega) (by omega) hbase w.heap.size rfl ?_
  · rw [addr_add]
    exact (cell_of_row w g0 j _ _ _ hp).trans (by simpa using hu)
  · unfold cellsTC cellsX at hu
    simp only [List.mem_cons, List.not_mem_nil, or_false] at hu
    rcases hu with rfl | rfl | rfl | rfl | rfl | rfl <;> rfl
  · intro g cap w' h1 h2 h3 h4
    refine h g cap w' ?_ h2 h3 h4
    unfold OwnT
    rw [List.length_append, List.flatMap_append, List.flatMap_cons, List.flatMap_nil, List.append_nil]
    exact h1
end
def CopyC (t : Tree) : Prop := ∀ (A : Option Addr) (c : Nat) (w : World), LT w w.heap.size t (cellsX t.kind t.set A t.kids.length c) →
  Calls Tryz.prog 285 #[argX t A c] w fun e w' => ∃ A' c', e = .returned (argX t A' c') ∧ NewX w w' t A' c' ∧ Below w.heap.size w w'
/-- The copy so far: j kids. -/
structure CpSt (ts : List Tree) (k : Int) (S : Set4) (w : World) (j : Nat) (l : List TC) (A : Option Addr) (c : Nat) (wr : World) : Prop where
  map : l.map TC.t = ts.take j
  len : l.length = j
  own : OwnT wr (w.heap.size + 3) (.slice A j c) l
  out : PutX wr (w.heap.size + 2) (cellsX k S A j c)
  trees : ∀ x ∈ l, LX wr (fun b => w.heap.size + 2 < b ∧ (Value.slice A j c).ownBlock ≠ some b ∧ b < wr.heap.size) x.t (cellsTC x)
  zero : ZeroX wr (w.heap.size + 1)
  low : Below w.heap.size w wr
theorem CpSt.size {ts : List Tree} {k : Int} {S : Set4} {w : World} {j : Nat} {l : List TC} {A : Option Addr} {c : Nat} {wr : World} (h : CpSt ts k S w j l A c wr) : w.heap.size + 2 < wr.heap.size := h.out.lt
theorem CpSt.more {ts : List Tree} {k : Int} {S : Set4} {w : World} {j : Nat} {l : List TC} {A : Option Addr} {c : Nat} {wr w' : World} (h : CpSt ts k S w j l A c wr) (hb : Below wr.heap.size wr w') : CpSt ts k S w j l A c w' :=
  ⟨h.map, h.len, h.own.below hb, (hb.block _ h.out.lt).trans h.out,
    fun x hx => LX.keep (fun _ hb2 => ⟨hb2.1, hb2.2.1, Nat.lt_of_lt_of_le hb2.2.2 hb.size⟩) (fun b o hb2 => hb.cell (p := ⟨b, o, none⟩) hb2.2.2) _ _ (h.trees x hx), (hb.block _ h.zero.lt).trans h.zero, h.low.trans (hb.mono h.low.size)⟩
/-- One more kid. -/
theorem CpSt.add {ts : List Tree} {k : Int} {S : Set4} {w : World} {j : Nat} {l : List TC} {A : Option Addr} {c : Nat} {wa wr w' : World} {y : TC} {g cap : Nat} (h : CpSt ts k S w j l A c wr) (hj : ts.take (j + 1) = ts.take j ++ [y.t])
    (hz : w.heap.size + 2 < wa.heap.size) (hy : LX wr (Fresh wa.heap.size wr.heap.size) y.t (cellsTC y)) (hva : ∀ b, (Value.slice A j c).ownBlock = some b → b < wa.heap.size)
    (ho : OwnT w' (w.heap.size + 3) (.slice (some ⟨g, 0, none⟩) (j + 1) cap) (l ++ [y])) (hg : wr.grownBy w' (Value.slice A j c).ownBlock) (hw : (Value.slice A j c).ownBlock = some g ∨ g = wr.heap.size) :
    CpSt ts k S w (j + 1) (l ++ [y]) (some ⟨g, 0, none⟩) cap (w'.setCell ⟨w.heap.size + 2, 5, none⟩ (.slice (some ⟨g, 0, none⟩) (j + 1) cap)) := by
  have hsz := hg.size
  have hgl := World.ownsRow.lt ho g rfl
  have hown : ∀ b, (Value.slice A j c).ownBlock = some b → w.heap.size + 3 ≤ b := fun b hb => (World.ownsRow.lt h.own b hb).1
  have hfar : ∀ b, b < wr.heap.size → (Value.slice A j c).ownBlock ≠ some b → b ≠ w.heap.size + 2 → (w'.setCell ⟨w.heap.size + 2, 5, none⟩ (.slice (some ⟨g, 0, none⟩) (j + 1) cap)).heap[b]? = wr.heap[b]? := fun b h1 h2 h3 =>
    (Below.heap_setCell _ _ _ _ h3).trans (hg.block b h1 (fun e => h2 e.symm))
  have hs2 : (w'.setCell ⟨w.heap.size + 2, 5, none⟩ (.slice (some ⟨g, 0, none⟩) (j + 1) cap)).heap.size = w'.heap.size := by simp [World.setCell]
  have hout : w'.heap[w.heap.size + 2]? = wr.heap[w.heap.size + 2]? := hg.block _ (by have := h.size; omega) (fun e => by have := hown _ e.symm; omega)
  refine ⟨?_, ?_, ?_, ?_, fun x hx => ?_, ?_, ?_⟩
  · rw [List.map_append, h.map, hj]; rfl
  · rw [List.length_append, h.len]; rfl
  · exact ho.keep fun b hb => Below.heap_setCell _ _ _ _ (show b ≠ w.heap.size + 2 by have := (World.ownsRow.lt ho b hb).1; omega)
  · have := hout.trans h.out
    unfold PutX
    simp only [World.setCell, Array.getElem?_modify, this]
    rfl
  · have hnew : ∀ b, (Value.slice A j c).ownBlock ≠ some b → b < wr.heap.size → (Value.slice (some ⟨g, 0, none⟩) (j + 1) cap).ownBlock ≠ some b := fun b h1 h2 e => by
      have e2 : g = b := Option.some.inj e
      rcases hw with hw | hw
      · exact h1 (by rw [hw, e2])
      · omega
    have hcell : ∀ b o, b < wr.heap.size → (Value.slice A j c).ownBlock ≠ some b → b ≠ w.heap.size + 2 → (w'.setCell ⟨w.heap.size + 2, 5, none⟩ (.slice (some ⟨g, 0, none⟩) (j + 1) cap)).cell? ⟨b, o, none⟩ = wr.cell? ⟨b, o, none⟩ := fun b o h1 h2 h3 => by
      simp only [World.cell?, hfar b h1 h2 h3]
    rcases List.mem_append.1 hx with hx | hx
    · exact LX.keep (fun b hb => ⟨hb.1, hnew b hb.2.1 hb.2.2, by have := hb.2.2; omega⟩) (fun b o hb => hcell b o hb.2.2 hb.2.1 (by have := hb.1; omega)) _ _ (h.trees x hx)
    · rw [List.mem_singleton.1 hx]
      have hne : ∀ b, wa.heap.size ≤ b → (Value.slice A j c).ownBlock ≠ some b := fun b hb e => by have := hva b e; omega
      exact LX.keep (fun b hb => ⟨by have := hb.1; omega, hnew b (hne b hb.1) hb.2, by have := hb.2; omega⟩) (fun b o hb => hcell b o hb.2 (hne b hb.1) (by have := hb.1; omega)) _ _ hy
  · exact (hfar _ h.zero.lt (fun e => by have := hown _ e; omega) (by omega)).trans h.zero
  · refine (h.low.grown hg h.low.size (fun b hb => by have := hown b hb; omega)).setCell (by show w.heap.size ≤ w.heap.size + 2; omega) _
/-- The copy is whole. -/
theorem CpSt.tree {ts : List Tree} {k : Int} {S : Set4} {w : World} {l : List TC} {A : Option Addr} {c : Nat} {wr : World} (h : CpSt ts k S w ts.length l A c wr) (hS : S.Wf) :
    LX wr (fun b => w.heap.size + 2 < b ∧ b < wr.heap.size) (.node k S ts) (cellsX k S A ts.length c) := by
  have hm : l.map TC.t = ts := by rw [h.map, List.take_length]
  rw [LX]
  refine ⟨A, c, rfl, hS, ?_⟩
  rcases h.own.2 with ⟨_, h0⟩ | ⟨g, cap, cur, e, hg, hgg, _⟩
  · have : l = [] := List.eq_nil_of_length_eq_zero h0
    subst this
    rw [← hm]
    exact LXK.nil _ _ _
  · have hlt := World.ownsRow.lt h.own g (by rw [e]; rfl)
    have hA : A = some ⟨g, 0, none⟩ := by injection e
    rw [hA, ← hm]
    refine flat_lxk l g 0 ⟨by omega, hlt.2⟩ (fun x hx => LX.keep (fun b hb => ⟨hb.1, hb.2.2⟩) (fun _ _ _ => rfl) _ _ (h.trees x hx)) fun j u hu => ?_
    have := World.ownsRow.cells (g := g) h.own (by rw [e]; rfl) j u hu
    rw [addr_add] at this
    rw [Nat.zero_add]
    exact this
end
section
open Go.RowKit
def CpRel (ts : List Tree) (k : Int) (S : Set4) (w : World) (v14 : Value) (wr : World) : Prop :=
  ∃ (j : Nat) (l : List TC) (A : Option Addr) (c : Nat), v14 = .int .i64 j ∧ j ≤ ts.length ∧ CpSt ts k S w j l A c wr
set_option maxRecDepth 100000 in
set_option maxHeartbeats 6400000 in
theorem copy_node (k : Int) (S : Set4) (ts : List Tree) (hts : ts.length ≤ 2) (ih : ∀ (i : Nat) (h : i < ts.length), CopyC ts[i]) : CopyC (.node k S ts) := by
  intro A c w hl
  have IH := Lib.hid ih
  rw [LT] at hl
  obtain ⟨A', c', he, hwf, hk⟩ := hl
  have hA : A' = A := by unfold cellsX at he; simp only [List.cons.injEq, Value.slice.injEq] at he; exact he.2.2.2.2.2.1.1.symm
  subst hA
  have HWF := Lib.hid hwf
  have HLK : Hid (∀ W, Below w.heap.size w W → LK W w.heap.size ts A') := fun W h => hk.below h
  have HS0 : Hid (CpRel ts k S w (.int .i64 (0 : Nat)) (((w.alloc (.cells #[.int .i64 k, .int .u64 S.a, .int .u64 S.b, .int .u64 S.c, .int .u64 S.d, .slice A' ts.length c] 217)).alloc (.cells #[.int .i64 0, .int .u64 0, .int .u64 0, .int .u64 0, .int .u64 0, .slice none 0 0] 217)).alloc (.cells #[.int .i64 k, .int .u64 S.a, .int .u64 S.b, .int .u64 S.c, .int .u64 S.d, .slice none 0 0] 217))) := by
    refine ⟨0, [], none, 0, rfl, Nat.zero_le _, ⟨rfl, rfl, OwnT.nil _ _, ?_, fun x hx => absurd hx (by simp), ?_, ?_⟩⟩
    · have := PutX.new ((w.alloc (.cells #[.int .i64 k, .int .u64 S.a, .int .u64 S.b, .int .u64 S.c, .int .u64 S.d, .slice A' ts.length c] 217)).alloc (.cells #[.int .i64 0, .int .u64 0, .int .u64 0, .int .u64 0, .int .u64 0, .slice none 0 0] 217)) (cellsX k S none 0 0)
      simpa [cellsX] using this
    · have := ZeroX.new (w.alloc (.cells #[.int .i64 k, .int .u64 S.a, .int .u64 S.b, .int .u64 S.c, .int .u64 S.d, .slice A' ts.length c] 217))
      rw [World.size_alloc] at this
      exact (Below.heap_alloc _ _ _ (by simp)).trans this
    · exact (((Below.refl _ _).alloc (Nat.le_refl _) _).alloc (by simp) _).alloc (by simp; omega) _
  unfold argX Tree.kind Tree.set Tree.kids
  dsimp only
  clear ih hk he hwf
  go_enter Tryz.func285, Tryz.ntmps285
  go_upto_region 3 with fail
  generalize ((w.alloc (.cells #[.int .i64 k, .int .u64 S.a, .int .u64 S.b, .int .u64 S.c, .int .u64 S.d, .slice A' ts.length c] 217)).alloc (.cells #[.int .i64 0, .int .u64 0, .int .u64 0, .int .u64 0, .int .u64 0, .slice none 0 0] 217)).alloc (.cells #[.int .i64 k, .int .u64 S.a, .int .u64 S.b, .int .u64 S.c, .int .u64 S.d, .slice none 0 0] 217) = W1 at *
  go_loopw [14] (fun v14 wr => CpRel ts k S w v14 wr) (fun v14 _ => ts.length - (intOf v14).toNat)
  case atStart => exact HS0.out
  case round =>
    obtain ⟨j, l, A2, c2, rfl, hj, hC⟩ := hrel
    have HCC := Lib.hid hC
    have hz := hC.size
    have ⟨o0, o1, o2, o3, o4, o5⟩ := (show PutX wr (w.heap.size + 1 + 1) [_, _, _, _, _, _] from hC.out).cells
    by_cases hlt : j < ts.length
    · have d1 : decide ((j : Int) < (ts.length : Int)) = true := decide_eq_true (by omega)
      have i7 : IntKind.i64.wrap ((j : Int) + 1) = (j : Int) + 1 := IntWalk.i64_in _ (by omega)
      obtain ⟨b, off, cs2, rfl, hbB, hca, hl2⟩ := (HLK.out wr hC.low).at j hlt
      have IHj := IH.out j hlt
      have HTK : Hid (ts.take (j + 1) = ts.take j ++ [ts[j]]) := by unfold Hid; rw [List.take_succ_eq_append_getElem hlt]
      generalize ts[j] = t2 at *
      obtain ⟨A3, c3, hcs2, _⟩ := hl2.parts
      subst hcs2
      have ⟨y0, y1, y2, y3, y4, y5⟩ := (show CellsAt wr b (off + j * 6) [_, _, _, _, _, _] from hca).six
      have HLT2 := Lib.hid hl2
      clear hca hC
      obtain ⟨wa, hwa⟩ : ∃ wa, wr.alloc (.cells #[.int .i64 t2.kind, .int .u64 t2.set.a, .int .u64 t2.set.b, .int .u64 t2.set.c, .int .u64 t2.set.d, .slice A3 t2.kids.length c3] 217) = wa := ⟨_, rfl⟩
      have hal : Below wr.heap.size wr wa := by rw [← hwa]; exact (Below.refl _ _).alloc (Nat.le_refl _) _
      have hza : wr.heap.size < wa.heap.size := by rw [← hwa]; simp
      have hxa : PutX wa wr.heap.size [.int .i64 t2.kind, .int .u64 t2.set.a, .int .u64 t2.set.b, .int .u64 t2.set.c, .int .u64 t2.set.d, .slice A3 t2.kids.length c3] := by rw [← hwa]; exact PutX.new wr (cellsX t2.kind t2.set A3 t2.kids.length c3)
      have ⟨x0, x1, x2, x3, x4, x5⟩ := hxa.cells
      have hCa := HCC.out.more hal
      have hpl : ∀ b, (Value.slice A2 j c2).ownBlock = some b → b < wa.heap.size := fun b hb => (World.ownsRow.lt hCa.own b hb).2
      have HPL := Lib.hid hpl
      have HCA := Lib.hid hCa
      have HCP : Hid (∀ W, Below wa.heap.size wa W → Calls Tryz.prog 285 #[.agg #[.int .i64 t2.kind, .int .u64 t2.set.a, .int .u64 t2.set.b, .int .u64 t2.set.c, .int .u64 t2.set.d, .slice A3 t2.kids.length c3]] W fun e w' => ∃ A' c', e = .returned (.agg #[.int .i64 t2.kind, .int .u64 t2.set.a, .int .u64 t2.set.b, .int .u64 t2.set.c, .int .u64 t2.set.d, .slice A' t2.kids.length c']) ∧ LX w' (Fresh wa.heap.size w'.heap.size) t2 (cellsX t2.kind t2.set A' t2.kids.length c') ∧ CpSt ts k S w j l A2 c2 w') := fun W hW =>
        (IHj A3 c3 W (LT.keep (Nat.le_trans (Nat.le_trans HCC.out.low.size (Nat.le_of_lt hza)) hW.size) (fun bb oo hp => (hal.trans (hW.mono (Nat.le_of_lt hza))).cell (p := ⟨bb, oo, none⟩) (Nat.lt_of_lt_of_le hp HCC.out.low.size)) _ _ HLT2.out)).mono
          (fun e w' ⟨A', c', h1, h2, h3⟩ => ⟨A', c', h1, LX.keep (fun b hb => ⟨Nat.le_trans hW.size hb.1, hb.2⟩) (fun _ _ _ => rfl) _ _ h2, hCa.more (hW.trans (h3.mono hW.size))⟩)
      clear hl2 hCa hpl IHj
      have hWA := Lib.hid hwa
      go_upto_region 5 with fail
      clear hwa y0 y1 y2 y3 y4 y5
      have ⟨o0, o1, o2, o3, o4, o5⟩ := (show PutX wa (w.heap.size + 1 + 1) [.int .i64 k, .int .u64 S.a, .int .u64 S.b, .int .u64 S.c, .int .u64 S.d, .slice A2 j c2] from HCA.out.out).cells
      have hjl : j ≤ 1000 := by omega
      have hll : l.length = j := HCA.out.len
      have HADD : Hid (∀ A' c' w2 w3 g cap, LX w2 (Fresh wa.heap.size w2.heap.size) t2 (cellsX t2.kind t2.set A' t2.kids.length c') → CpSt ts k S w j l A2 c2 w2 →
          OwnT w3 (w.heap.size + 3) (.slice (some ⟨g, 0, none⟩) (j + 1) cap) (l ++ [⟨t2, A', c'⟩]) → w2.grownBy w3 (Value.slice A2 j c2).ownBlock → ((Value.slice A2 j c2).ownBlock = some g ∨ g = w2.heap.size) →
          CpRel ts k S w (.int .i64 ((j : Int) + 1)) (w3.setCell ⟨w.heap.size + 2, 5, none⟩ (.slice (some ⟨g, 0, none⟩) (j + 1) cap))) := fun A' c' w2 w3 g cap h1 h2 h3 h4 h5 =>
        ⟨j + 1, _, _, _, by rw [Int.natCast_succ], hlt, CpSt.add (y := ⟨t2, A', c'⟩) h2 HTK.out (Nat.lt_of_lt_of_le hz (Nat.le_of_lt hza)) h1 HPL.out h3 h4 h5⟩
      clear hxa
      go_region_law (first
        | (refine step_append_t rfl (.tmp 19) (.tmp 22) rfl (w.heap.size + 3) (.slice A2 j c2) l j hll rfl (by exact HB4.out.own) (by exact HB4.out.size) ⟨t2, A9, c9⟩ w2.heap.size 1 rfl (by exact PutX.new w2 _) hjl ?_; intro g cap w3 hO3 hg3 hat3 hlt3; have hP3 : PutX w3 (w.heap.size + 1 + 1) [.int .i64 k, .int .u64 S.a, .int .u64 S.b, .int .u64 S.c, .int .u64 S.d, .slice A2 j c2] := (hg3.block _ HB4.out.out.lt (fun e => by have := (World.ownsRow.lt HB4.out.own _ e.symm).1; omega)).trans HB4.out.out; have o5 := hP3.cells.2.2.2.2.2; have f5 := hP3.free 5)
        | (go_simp; go_at_call 285; refine (HCP.out _ (by first | exact Below.refl _ _ | exact (Below.refl _ _).drew)).mono ?_; rintro e w2 ⟨A9, c9, rfl, hl9, hC9⟩; have HB3 := Lib.hid hC9; have hP2 : PutX w2 (w.heap.size + 1 + 1) [.int .i64 k, .int .u64 S.a, .int .u64 S.b, .int .u64 S.c, .int .u64 S.d, .slice A2 j c2] := hC9.out; have o5 := hP2.cells.2.2.2.2.2; have hz2 : w.heap.size + 1 + 1 < w2.heap.size := hC9.size; have HB4 : Hid (CpSt ts k S w j l A2 c2 (w2.alloc (.cells #[.int .i64 t2.kind, .int .u64 t2.set.a, .int .u64 t2.set.b, .int .u64 t2.set.c, .int .u64 t2.set.d, .slice A9 t2.kids.length c9] 217))) := hC9.more ((Below.refl _ _).alloc (Nat.le_refl _) _)))
      all_goals
        have hN := HADD.out A9 c9 (w2.alloc (.cells #[.int .i64 t2.kind, .int .u64 t2.set.a, .int .u64 t2.set.b, .int .u64 t2.set.c, .int .u64 t2.set.d, .slice A9 t2.kids.length c9] 217)) w3 g cap
          (LX.keep (fun b hb => ⟨hb.1, by have := hb.2; rw [World.size_alloc]; omega⟩) (fun b o hb => ((Below.refl w2.heap.size w2).alloc (Nat.le_refl _) _).cell (p := ⟨b, o, none⟩) hb.2) _ _ hl9) HB4.out hO3 (by exact hg3) (by exact hat3)
        have HNN : Hid (CpRel ts k S w (.int .i64 ((j : Int) + 1)) (w3.setCell ⟨w.heap.size + 1 + 1, 5, none⟩ (.slice (some ⟨g, 0, none⟩) (j + 1) cap))) := hN
        generalize w3.setCell ⟨w.heap.size + 1 + 1, 5, none⟩ (.slice (some ⟨g, 0, none⟩) (j + 1) cap) = w4 at *
        clear hN hO3 hg3 hat3 hlt3 hP3 o5 f5
        go_wp2_with fail
        exact ⟨HNN.out, by dsimp only [intOf]; omega⟩
    · obtain rfl : j = ts.length := by omega
      have d1 : decide ((ts.length : Int) < (ts.length : Int)) = false := by simp
      have HTR := Lib.hid (hC.tree HWF.out)
      have hb6 : Below (w.heap.size + 1) wr (fill6 wr (w.heap.size + 1) (.int .i64 k) (.int .u64 S.a) (.int .u64 S.b) (.int .u64 S.c) (.int .u64 S.d) (.slice A2 ts.length c2)) := fill6_below (Below.refl _ _) (Nat.le_refl _) _ _ _ _ _ _
      have hot : ∀ i, i ≠ w.heap.size + 1 → (fill6 wr (w.heap.size + 1) (.int .i64 k) (.int .u64 S.a) (.int .u64 S.b) (.int .u64 S.c) (.int .u64 S.d) (.slice A2 ts.length c2)).heap[i]? = wr.heap[i]? := fun i hi => by
        unfold fill6
        rw [Below.heap_setCell _ _ _ _ hi, Below.heap_setCell _ _ _ _ hi, Below.heap_setCell _ _ _ _ hi, Below.heap_setCell _ _ _ _ hi, Below.heap_setCell _ _ _ _ hi, Below.heap_setCell _ _ _ _ hi]
      have HNW : Hid (NewX w (fill6 wr (w.heap.size + 1) (.int .i64 k) (.int .u64 S.a) (.int .u64 S.b) (.int .u64 S.c) (.int .u64 S.d) (.slice A2 ts.length c2)) (.node k S ts) A2 c2) :=
        LX.keep (fun b hb => ⟨by have := hb.1; omega, Nat.lt_of_lt_of_le hb.2 hb6.size⟩) (fun b o hb => by simp only [World.cell?, hot b (show b ≠ w.heap.size + 1 by have := hb.1; omega)]) _ _ HTR.out
      have HBB : Hid (Below w.heap.size w (fill6 wr (w.heap.size + 1) (.int .i64 k) (.int .u64 S.a) (.int .u64 S.b) (.int .u64 S.c) (.int .u64 S.d) (.slice A2 ts.length c2))) := hC.low.trans (hb6.mono (Nat.le_succ _))
      have HX := Lib.hid (hC.zero.fill (.int .i64 k) (.int .u64 S.a) (.int .u64 S.b) (.int .u64 S.c) (.int .u64 S.d) (.slice A2 ts.length c2))
      have ⟨z0, z1, z2, z3, z4, z5⟩ := hC.zero.cells
      have q0 := hC.zero.free 0
      have q1 := hC.zero.free 1
      have q2 := hC.zero.free 2
      have q3 := hC.zero.free 3
      have q4 := hC.zero.free 4
      have q5 := hC.zero.free 5
      clear hC hb6 hot
      go_wp2_with fail
      have ⟨s0, s1, s2, s3, s4, s5⟩ := HX.out.cells
      unfold fill6 at s0 s1 s2 s3 s4 s5
      exact bodyPost_ret (v := argX (.node k S ts) A2 c2) (by simp [results, Tryz.results285, go_sem, s0, s1, s2, s3, s4, s5, argX, Tree.kind, Tree.set, Tree.kids]) rfl ⟨A2, c2, rfl, HNW.out, HBB.out⟩
theorem copy_any (t : Tree) (h : FewT t) : CopyC t :=
  match t, h with
  | .node k S ts, h => by
    rw [FewT] at h
    exact copy_node k S ts h.1 fun i hi => copy_any ts[i] (h.2.at i hi)
termination_by SizeOf.sizeOf t
decreasing_by
  have := List.sizeOf_lt_of_mem (List.getElem_mem hi)
  simp only [Tree.node.sizeOf_spec]
  omega
end
end Go.Proofs.YthfjmlcjkbgboaaGreatDoor
