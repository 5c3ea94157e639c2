/- Part 36 of the proof: lemmas and walks that the last texts use. -/
import Derived.Test.YtdkbfljhfhjofaaGreatDoorM01
import Derived.Test.YtdkbfljhfhjofaaGreatDoorM02
import Derived.Test.YtdkbfljhfhjofaaGreatDoorM04
import Derived.Test.YtdkbfljhfhjofaaGreatDoorM05
import Derived.Test.YtdkbfljhfhjofaaGreatDoorM35
import Derived.Laws.OwnMore
import Derived.Laws.StructEq
import Derived.BigRegion
import Derived.Deep.QuietTactic
import Derived.Lib.AppendIntMem
import Derived.Lib.ItoaNum
import Derived.Deep.CutRange
import Derived.Deep.Cut
import Derived.Laws.Concat
namespace Go.Proofs.YtdkbfljhfhjofaaGreatDoor
open Go.RowKit
abbrev PairN := Int × Int
def cellsN (x : PairN) : List Value := [.int .u32 x.1, .int .i64 x.2]
theorem cellsN_len (l : List PairN) : (l.flatMap cellsN).length = l.length * 2 := by
  induction l with
  | nil => rfl
  | cons x l ih => rw [List.flatMap_cons, List.length_append, ih]; simp only [cellsN, List.length_cons, List.length_nil]; omega
theorem cellsN_one (l : List PairN) : ∀ u ∈ l.flatMap cellsN, u.oneCell' = true := fun u hu => by
  obtain ⟨x, _, h⟩ := List.mem_flatMap.1 hu
  simp only [cellsN, List.mem_cons, List.not_mem_nil, or_false] at h
  rcases h with rfl | rfl <;> rfl
/-- A row of fields of the call's own. -/
def OwnN (w : World) (base : Nat) (v : Value) (l : List PairN) : Prop := w.ownsRow base 182 2 v l.length (l.flatMap cellsN)
theorem OwnN.nil (w : World) (base : Nat) : OwnN w base (.slice none 0 0) [] := World.ownsRow_nil w base 182 2
theorem OwnN.below {w w' : World} {base : Nat} {v : Value} {l : List PairN} (h : OwnN w base v l) (hb : Below w.heap.size w w') : OwnN w' base v l := ownsRow_below h hb
theorem OwnN.keep {w w' : World} {base : Nat} {v : Value} {l : List PairN} (h : OwnN w base v l) (hk : ∀ g, v.ownBlock = some g → w'.heap[g]? = w.heap[g]?) : OwnN w' base v l := by
  refine ⟨h.1, ?_⟩
  rcases h.2 with h0 | ⟨g, cap, cur, h1, h2, h3, h4⟩
  · exact .inl h0
  · exact .inr ⟨g, cap, cur, h1, h2, (hk g (by rw [h1]; rfl)).trans h3, h4⟩
theorem OwnN.low {w : World} {base b : Nat} {v : Value} {l : List PairN} (h : OwnN w base v l) (hb : b ≤ base) : OwnN w b v l :=
  ⟨h.1, h.2.imp_right fun ⟨g, cap, cur, h1, h2, h3⟩ => ⟨g, cap, cur, h1, Nat.le_trans hb h2, h3⟩⟩
theorem OwnN.form {w : World} {base : Nat} {v : Value} {l : List PairN} (h : OwnN w base v l) : ∃ A c, v = .slice A l.length c ∧ Sl w w.heap.size 2 A l.length (l.flatMap cellsN) := by
  rcases h.2 with ⟨h1, h2⟩ | ⟨g, cap, cur, h1, hb, hg, _⟩
  · have : l = [] := List.eq_nil_of_length_eq_zero h2
    subst this
    exact ⟨none, 0, h1, Sl.nil _ _ _ _⟩
  · refine ⟨_, _, h1, cellsN_len l, fun hp => ⟨g, 0, rfl, ?_, fun j hj => ?_⟩⟩
    · exact (World.ownsRow.lt h g (by rw [h1]; simp [Value.ownBlock])).2
    · have := World.ownsRow.cells (g := g) h (by rw [h1]; simp [Value.ownBlock]) j _ (List.getElem?_eq_getElem hj)
      rw [addr_add] at this
      rw [Nat.zero_add]
      exact this
theorem info_net : (Tryz.prog.info? 182).map (fun i => (i.zero, i.size, i.bytes)) = some (some (.agg #[.int .u32 0, .int .i64 0]), 2, 16) := by kernel_rfl
section
variable {ops : Array Oper} {rest : List Oper} {o : Oper} {a : Act} {Q : Exit → Act → World → Prop} {w : World}
/-- One field appended. -/
theorem wpList_append_n (hgd : o.guard = none) (s x : Operand) (ho : o.op = .call { callee := .builtin .append, args := #[s, x], argTypes := #[163, 163] })
    (base : Nat) (v : Value) (l : List PairN) (hs : a.eval s = v) (hown : OwnN w base v l) (hbase : base ≤ w.heap.size)
    (vs : List Value) (new : PairN) (hv : vs = cellsN new) (g0 : Nat) (hg0 : w.heap.size = g0) (c : Nat) (hx : a.eval x = .slice (some ⟨g0, 0, none⟩) 1 c)
    (hbytes : l.length ≤ 4194304)
    (h : ∀ v' w', OwnN w' base v' (l ++ [new]) → Below base w w' → (∀ g, g < w.heap.size → v.ownBlock ≠ some g → w'.heap[g]? = w.heap[g]?) → w.heap.size < w'.heap.size → wpList Tryz.prog ops Q rest (a.put o.dst v') w') :
    wpList Tryz.prog ops Q (o :: rest) a (w.alloc (.cells vs.toArray 182)) := by
  subst hv; subst hg0
  obtain ⟨i0, hi, hz0, hz1, hz2⟩ := info_parts info_net
  refine wpList_plain hgd fun _ hK => wp_append_kept s x 163 ho base 182 i0 _ 2 16 Tryz.underlying163 hi hz0 hz1 hz2 rfl (by decide) v l.length (l.flatMap cellsN) hs hown hbase (cellsN new) 1 c hx rfl
    (fun u hu => cellsN_one [new] u (by simpa using hu)) (by unfold maxLen; omega) (by omega) fun v' w' h1 h2 h3 h4 => hK _ _ (h v' w' (by unfold OwnN; rw [List.length_append, List.flatMap_append]; simpa using h1) h2 h3 h4)
end
end Go.Proofs.YtdkbfljhfhjofaaGreatDoor
namespace Go.Proofs.YtdkbfljhfhjofaaGreatDoor
open Go.RowKit Go.Sort
/-- The table of powers is laid. -/
def TabOk (w : World) : Prop := ∀ w', Below w.heap.size w w' → Lib.TabIs Tryz.prog w' "internal/strconv.uint64pow10" .u64 Lib.pow10Tab
theorem TabOk.of {w : World} (h : Lib.TabIs Tryz.prog w "internal/strconv.uint64pow10" .u64 Lib.pow10Tab) : TabOk w := Lib.tabBelow_of_tabIs h
theorem TabOk.below {w w' : World} (h : TabOk w) (hb : Below w.heap.size w w') : TabOk w' := fun w2 hb2 => h w2 (hb.trans (hb2.mono hb.size))
theorem below_growI (w : World) (k : Nat) (os : Array Obj) : Below w.heap.size w (grow (w.drewN k) os) :=
  ⟨rfl, rfl, rfl, by rw [size_grow]; exact Nat.le_add_right _ _, fun j hj => heap_grow_old (w.drewN k) os hj⟩
theorem itoa_any (n : Nat) (w : World) (hn : n ≤ 9223372036854775807) (h : TabOk w) :
    Calls Tryz.prog 17 #[.int .i64 (n : Int)] w fun e w' => e = .returned (.string (bs (Lib.decDigits n))) ∧ Below w.heap.size w w' :=
  (Tryz.strconv_Itoa (n : Int) (by omega) (by omega) w (h w (Below.refl _ _))).mono fun e w' ⟨h1, k', os, h2⟩ => by
    subst h2
    refine ⟨?_, below_growI w k' os⟩
    rw [h1]
    unfold Lib.itoa
    rw [if_neg (by omega)]
    rfl
end Go.Proofs.YtdkbfljhfhjofaaGreatDoor
namespace Go.Proofs.YtdkbfljhfhjofaaGreatDoor
open Go.RowKit
def netsE : List (List UInt8) → Int
  | [] => 0
  | x :: r => match netP x with
    | .ok _ => netsE r
    | .error e => e
def netsV : List (List UInt8) → List PairN
  | [] => []
  | x :: r => match netP x with
    | .ok p => ((p.1 : Int), p.2) :: netsV r
    | .error _ => netsV r
theorem netsE_bad : ∀ (ps : List (List UInt8)) (k : Nat) (hk : k < ps.length) (e : Int), netsE (ps.take k) = 0 → netP ps[k] = .error e → netsE ps = e
  | [], _, hk, _, _, _ => absurd hk (by simp)
  | x :: r, 0, _, e, _, h => by
    have h' : netP x = .error e := h
    rw [netsE, h']
  | x :: r, k + 1, hk, e, h0, h => by
    rw [List.take_succ_cons, netsE] at h0
    rw [netsE]
    cases hx : netP x with
    | ok p => rw [hx] at h0; exact netsE_bad r k (by simpa using hk) e h0 h
    | error e' =>
      rw [hx] at h0
      dsimp only at h0; rcases netP_err hx with h1 | h1 <;> omega
theorem netsE_next : ∀ (ps : List (List UInt8)) (k : Nat) (hk : k < ps.length) (p : Nat × Int), netsE (ps.take k) = 0 → netP ps[k] = .ok p → netsE (ps.take (k + 1)) = 0 ∧ netsV (ps.take (k + 1)) = netsV (ps.take k) ++ [((p.1 : Int), p.2)]
  | [], _, hk, _, _, _ => absurd hk (by simp)
  | x :: r, 0, _, p, _, h => by
    have h' : netP x = .ok p := h
    have e : (x :: r).take 1 = [x] := rfl
    rw [e, netsE, netsV, h']
    exact ⟨rfl, rfl⟩
  | x :: r, k + 1, hk, p, h0, h => by
    rw [List.take_succ_cons, netsE] at h0
    rw [List.take_succ_cons, List.take_succ_cons, netsE, netsV, netsV]
    cases hx : netP x with
    | ok q =>
      rw [hx] at h0
      obtain ⟨h1, h2⟩ := netsE_next r k (by simpa using hk) p h0 h
      exact ⟨h1, by dsimp only; rw [h2]; rfl⟩
    | error e' =>
      rw [hx] at h0
      dsimp only at h0; rcases netP_err hx with h1 | h1 <;> omega
def netsC (s : List UInt8) : Int := if 30 < (splL 44 s).length then 2 else netsE (splL 44 s)
def NListPost (s : List UInt8) (w : World) (e : Ending) (w' : World) : Prop :=
  ∃ v, e = .returned (.tuple #[v, .int .i64 (netsC s)]) ∧ (netsC s = 0 → OwnN w' w.heap.size v (netsV (splL 44 s))) ∧ (netsC s ≠ 0 → v = .slice none 0 0) ∧ Below w.heap.size w w'
def NqRel (ps : List (List UInt8)) (w w1 : World) (v i : Value) (wr : World) : Prop :=
  ∃ k : Nat, k ≤ ps.length ∧ i = .int .i64 k ∧ Hid (netsE (ps.take k) = 0 ∧ (netsV (ps.take k)).length ≤ 30) ∧ OwnN wr (w.heap.size + 1) v (netsV (ps.take k)) ∧ Below (w.heap.size + 1) w1 wr
theorem netsV_len : ∀ ps : List (List UInt8), (netsV ps).length ≤ ps.length
  | [] => Nat.le_refl _
  | x :: r => by
    have := netsV_len r
    rw [netsV]
    split
    · simpa using this
    · rw [List.length_cons]; omega
set_option maxRecDepth 100000 in
set_option maxHeartbeats 1600000 in
theorem NList_any (s : ByteArray) (w : World) (hs : s.size ≤ 4194304) (hlib : LibOk w) :
    Calls Tryz.prog 93 #[.string s] w (NListPost s.data.toList w) := by
  have HLIB : Hid (∀ W, Below w.heap.size w W → LibOk W) := fun W hb => hlib.below hb
  obtain ⟨m0, hm0⟩ := hlib
  have hlp : 0 < w.heap.size := World.block_lt_of_cell? w _ hm0
  have hsp := Tryz.strings_Split s ⟨#[44]⟩ m0 w (by omega) hm0 (by decide)
  have hps := split_one 44 s
  have hpl := Lib.splitB_all ⟨#[44]⟩ (by decide) 0 _ s rfl
  have hsm := splL_piece 44 s.data.toList
  have hsl : s.data.toList.length = s.size := by simp
  generalize Lib.splitB ⟨#[44]⟩ 0 (Lib.countB s ⟨#[44]⟩) s = ps at hsp hps hpl
  generalize Lib.countB s ⟨#[44]⟩ = n at hsp hpl
  rw [← hpl] at hsp
  have hplen : (splL 44 s.data.toList).length = ps.length := by rw [← hps, List.length_map]
  have hpe : ∀ j (h : j < ps.length) (h2 : j < (splL 44 s.data.toList).length), (splL 44 s.data.toList)[j] = ps[j].data.toList ∧ ps[j].size ≤ 4194304 := fun j h h2 => by
    have e : (splL 44 s.data.toList)[j] = ps[j].data.toList := by simp [← hps]
    refine ⟨e, ?_⟩
    have h3 := hsm _ (List.getElem_mem h2)
    rw [e] at h3
    simp at h3
    omega
  obtain ⟨W1, hW1⟩ : ∃ W1, w.alloc (.cells (ps.map Value.string).toArray 9) = W1 := ⟨_, rfl⟩
  have hcl : ∀ W, Below (w.heap.size + 1) W1 W → ∀ j (h : j < ps.length), W.cell? ⟨w.heap.size, j, none⟩ = some (.string ps[j]) := fun W hb j h => by
    have hb' : Below (w.alloc (.cells (ps.map Value.string).toArray 9)).heap.size (w.alloc (.cells (ps.map Value.string).toArray 9)) W := by rw [← hW1] at hb; simpa using hb
    rw [new_cell hb' j]
    simp [h]
  have hz1 : w.heap.size + 1 ≤ W1.heap.size := by rw [← hW1]; simp
  have hbw1 : Below w.heap.size w W1 := by rw [← hW1]; exact (Below.refl _ _).alloc (Nat.le_refl _) _
  have hsp2 : Calls Tryz.prog 24 #[.string s, .string ⟨#[44]⟩] w fun e w' => e = .returned (.slice (some ⟨w.heap.size, 0, none⟩) ps.length ps.length) ∧ w' = W1 := by rw [← hW1]; exact hsp
  have HSP := Lib.hid hsp2
  have HCL := Lib.hid hcl
  have HBW1 := Lib.hid hbw1
  have HPE := Lib.hid hpe
  have HPOST : Hid (∀ (v : Value) (code : Int) (W : World), code = (if 30 < (splL 44 s.data.toList).length then 2 else netsE (splL 44 s.data.toList)) → (code = 0 → OwnN W w.heap.size v (netsV (splL 44 s.data.toList))) → (code ≠ 0 → v = .slice none 0 0) → Below w.heap.size w W → NListPost s.data.toList w (.returned (.tuple #[v, .int .i64 code])) W) := Lib.hid fun v code W h1 h2 h3 h4 => by
    have e : netsC s.data.toList = code := h1.symm
    unfold NListPost
    rw [e]
    exact ⟨v, rfl, h2, h3, h4⟩
  rw [hplen] at HPOST
  generalize NListPost s.data.toList w = P at *
  generalize splL 44 s.data.toList = qs at *
  clear hsp hsp2 hps hpl hcl hbw1 hpe hW1 hm0 hsm hsl
  by_cases h30 : 30 < ps.length
  · rw [if_pos h30] at HPOST
    have d1 : decide (30 < (ps.length : Int)) = true := by simp; omega
    clear HCL HPE
    go_enter Tryz.func93, Tryz.ntmps93
    go_wp2_with (go_at_call 24; refine HSP.out.mono ?_; rintro e w1 ⟨rfl, hw1⟩; rw [hw1])
    exact HPOST.out _ _ _ rfl (fun e => absurd e (by decide)) (fun _ => rfl) HBW1.out
  · rw [if_neg h30] at HPOST
    have d1 : decide (30 < (ps.length : Int)) = false := by simp; omega
    have HQ := Lib.hid hplen
    go_enter Tryz.func93, Tryz.ntmps93
    go_wp2_with (go_at_call 24; refine HSP.out.mono ?_; rintro e w1 ⟨rfl, hw1⟩; rw [hw1])
    clear hplen
    go_loopw [5, 17] (fun v i wr => NqRel qs w W1 v i wr) (fun _ i _ => ps.length - (intOf i).toNat)
    case atStart => exact ⟨0, Nat.zero_le _, rfl, ⟨rfl, Nat.zero_le _⟩, OwnN.nil _ _, Below.refl _ _⟩
    case round =>
      obtain ⟨k, hk, rfl, hE, hO, hB⟩ := hrel
      rw [HQ.out] at hk
      have hbase : w.heap.size + 1 ≤ wr.heap.size := Nat.le_trans hz1 hB.size
      have hBW : Below w.heap.size w wr := HBW1.out.trans (hB.mono (Nat.le_succ _))
      obtain ⟨Ao, co, rfl, _⟩ := hO.form
      have hkl := hE.out.2
      by_cases hlt : k < ps.length
      · have d2 : decide ((k : Int) < (ps.length : Int)) = true := by simp; omega
        have i7 : IntKind.i64.wrap ((k : Int) + 1) = (k : Int) + 1 := IntWalk.i64_in _ (by omega)
        have hc := HCL.out wr hB k hlt
        obtain ⟨hpe, hpz⟩ := HPE.out k hlt (by rw [HQ.out]; exact hlt)
        have hpa := NParse_any ps[k] wr (HLIB.out wr hBW) hpz
        unfold NParsePost at hpa
        rw [← hpe] at hpa
        cases hn : netP (qs[k]'(by rw [HQ.out]; exact hlt)) with
        | error e0 =>
          have he := netsE_bad qs k (by rw [HQ.out]; exact hlt) e0 hE.out.1 hn
          have he0 := netP_err hn
          rw [hn] at hpa
          have HPW := Lib.hid hpa
          have HE0 := Lib.hid he.symm
          have HBH := Lib.hid hBW
          have hne : (e0 == 0) = false := beq_eq_false_iff_ne.2 (by omega)
          generalize ps[k] = x at *
          clear hO hB hBW hpa hn he hpe HPE HCL hE
          go_wp2_with (first | (go_at_call 134; refine HPW.out.mono ?_; rintro e w2 ⟨rfl, hb2⟩; unfold netV))
          exact HPOST.out _ _ _ HE0.out (fun e => by omega) (fun _ => rfl) ((HBH.out.trans (hb2.mono HBH.out.size)).alloc (HBH.out.trans (hb2.mono HBH.out.size)).size _)
        | ok p =>
          obtain ⟨h1, h2⟩ := netsE_next qs k (by rw [HQ.out]; exact hlt) p hE.out.1 hn
          rw [hn] at hpa
          have HPW := Lib.hid hpa
          have hlen := netsV_len (qs.take (k + 1))
          have hlen2 : (qs.take (k + 1)).length ≤ ps.length := by rw [List.length_take, HQ.out]; omega
          have HNX : Hid (netsE (qs.take (k + 1)) = 0 ∧ (netsV (qs.take (k + 1))).length ≤ 30) := ⟨h1, by omega⟩
          have HNV := Lib.hid h2
          obtain ⟨a, b⟩ := p
          generalize netsV (qs.take k) = acc at *
          generalize ps[k] = x at *
          have HO := Lib.hid hO
          have HBH := Lib.hid hB
          clear hO hB hBW hpa hn h1 h2 hlen hlen2 hpe HPE HCL hE
          go_wp2_with (first | (go_at_call 134; refine HPW.out.mono ?_; rintro e w2 ⟨rfl, hb2⟩; unfold netV; have hO2 := fun o => HO.out.below (hb2.alloc hb2.size o); have hz2 : ∀ o, w.heap.size + 1 ≤ (w2.alloc o).heap.size := fun o => by rw [World.size_alloc]; exact Nat.le_succ_of_le (Nat.le_trans hbase hb2.size)) | (at_builtin; refine wpList_append_n rfl (.tmp 29) (.tmp 31) rfl (w.heap.size + 1) (.slice Ao acc.length co) acc rfl (by exact hO2 _) (by exact hz2 _) _ ((a : Int), b) rfl (w2.heap.size + 1) (by rw [World.size_alloc]) 1 rfl (by omega) ?_; intro v5 w5 hO5 hb5 hk5 hz5))
          have hb25 : Below (w.heap.size + 1) wr w5 := ((hb2.mono hbase).trans ((Below.refl _ _).alloc (Nat.le_trans hbase hb2.size) _)).trans hb5
          exact ⟨⟨k + 1, by rw [HQ.out]; omega, rfl, HNX, by rw [HNV.out]; exact hO5, HBH.out.trans hb25⟩, by dsimp only [intOf]; omega⟩
      · have hkk : k = ps.length := by omega
        subst hkk
        have htk : qs.take ps.length = qs := List.take_of_length_le (Nat.le_of_eq HQ.out)
        rw [htk] at hE hO
        have HO := Lib.hid (hO.low (Nat.le_succ _))
        have HBH := Lib.hid hBW
        have HE := Lib.hid hE.out.1
        rw [htk]
        have HPP : Hid (∀ W, OwnN W w.heap.size (.slice Ao (netsV qs).length co) (netsV qs) → Below w.heap.size w W → P (.returned (.tuple #[.slice Ao (netsV qs).length co, .int .i64 0])) W) := Lib.hid fun W h1 h2 => HPOST.out _ 0 W HE.out.symm (fun _ => h1) (fun e => absurd rfl e) h2
        clear HPOST
        generalize netsV qs = acc at *
        clear hO hB hBW hE HPE HCL
        go_wp2_with fail
        exact HPP.out _ HO.out HBH.out
end Go.Proofs.YtdkbfljhfhjofaaGreatDoor
namespace Go.Proofs.YtdkbfljhfhjofaaGreatDoor
open Go.RowKit
def bytesR (l : List UInt8) : Set4 × Int := if okB l = true then (setF (inB l), 0) else (.zero, 3)
def BytesPost (l : List UInt8) (w : World) (e : Ending) (w' : World) : Prop :=
  e = .returned (.tuple #[setA (bytesR l).1, .int .i64 (bytesR l).2]) ∧ Below w.heap.size w w'
/-- A row of strings that is known whole. -/
def RowsW (w : World) (g : Nat) (ps : List ByteArray) : Prop := w.heap[g]? = some (.cells (ps.map Value.string).toArray 9 (0, 0))
theorem RowsW.cell {w : World} {g : Nat} {ps : List ByteArray} (h : RowsW w g ps) (j : Nat) (hj : j < ps.length) : w.cell? ⟨g, j, none⟩ = some (.string ps[j]) := by
  have := cell_of_row w g j _ _ (0, 0) h
  rw [this]
  simp [hj]
theorem RowsW.far {w : World} {g : Nat} {ps : List ByteArray} (h : RowsW w g ps) {k : Nat} (hne : g ≠ k) (j : Nat) (u : Value) : RowsW (w.setCell ⟨k, j, none⟩ u) g ps := (Below.heap_setCell w ⟨k, j, none⟩ u g hne).trans h
theorem RowsW.below {B : Nat} {w w' : World} {g : Nat} {ps : List ByteArray} (h : RowsW w g ps) (hb : Below B w w') (hg : g < B) : RowsW w' g ps := (hb.block g hg).trans h
theorem RowsW.lt {w : World} {g : Nat} {ps : List ByteArray} (h : RowsW w g ps) : g < w.heap.size := by
  unfold RowsW at h
  rw [Array.getElem?_eq_some_iff] at h
  exact h.1
def mixW (j : Nat) (s u : Set4) : Set4 := ⟨if 0 < j then u.a else s.a, if 1 < j then u.b else s.b, if 2 < j then u.c else s.c, if 3 < j then u.d else s.d⟩
theorem mixW_four (s u : Set4) : mixW 4 s u = u := rfl
theorem mixW_put (j : Nat) (hj : j < 4) (s u : Set4) : putW (mixW j s u) j (u.word j) = mixW (j + 1) s u := by
  match j, hj with
  | 0, _ => rfl
  | 1, _ => rfl
  | 2, _ => rfl
  | 3, _ => rfl
theorem mixW_word (j : Nat) (hj : j < 4) (s u : Set4) : (mixW j s u).word j = s.word j := by
  match j, hj with
  | 0, _ => rfl
  | 1, _ => rfl
  | 2, _ => rfl
  | 3, _ => rfl
theorem or_word (f g : Nat → Bool) (j : Nat) (hj : j < 4) : bits .or .u64 ((setF f).word j) ((setF g).word j) = (setF fun k => f k || g k).word j := by
  rw [setF_word f j hj, setF_word g j hj, setF_word _ j hj, bits_or_u64_nat _ _ (wdF_lt _ _) (wdF_lt _ _), wdF_or]
theorem setA_at (s : Set4) (k : Nat) (hk : k < 4) : ([.int .u64 s.a, .int .u64 s.b, .int .u64 s.c, .int .u64 s.d] : List Value)[k]? = some (.int .u64 (s.word k)) := by
  match k, hk with
  | 0, _ => rfl
  | 1, _ => rfl
  | 2, _ => rfl
  | 3, _ => rfl
theorem info_u64W : (Tryz.prog.info? 148).map (fun i => (i.zero, i.size, i.bytes)) = some (some (.int .u64 0), 1, 8) := by kernel_rfl
theorem run_word4 (s : Set4) (k : Nat) (hk : k < 4) (w : World) : (Instr.index 150 (.agg #[.int .u64 s.a, .int .u64 s.b, .int .u64 s.c, .int .u64 s.d]) (.int .i64 (k : Int))).run Tryz.prog w = .ok (.int .u64 (s.word k)) w := by
  obtain ⟨i0, hi, hz0, hz1, hz2⟩ := info_parts info_u64W
  have hw : (#[.int .u64 s.a, .int .u64 s.b, .int .u64 s.c, .int .u64 s.d] : Array Value)[k]? = some (.int .u64 (s.word k)) := by
    have := setA_at s k hk
    simpa using this
  have hs : (Go.sizeOf 148).run Tryz.prog w = .ok 1 w := by simp [Go.sizeOf, typeInfo, hi, hz1]
  generalize (#[.int .u64 s.a, .int .u64 s.b, .int .u64 s.c, .int .u64 s.d] : Array Value) = cs at *
  unfold Instr.index
  simp [run_underlying Tryz.underlying150, asIntOf, go_sem, hk, hs, hw]
def ByRel (P : List (List UInt8)) (ps : List ByteArray) (w : World) (i : Value) (wr : World) : Prop :=
  ∃ k : Nat, k ≤ ps.length ∧ i = .int .i64 k ∧ Hid ((P.take k).all okR = true) ∧ FourW wr (w.heap.size + 1) (setF (anyR (P.take k))) ∧ FourW wr w.heap.size (setF fun _ => false) ∧ RowsW wr (w.heap.size + 2) ps ∧ Below w.heap.size w wr
def MixRel (s u : Set4) (ps : List ByteArray) (w : World) (i : Value) (wr : World) : Prop :=
  ∃ j : Nat, j ≤ 4 ∧ i = .int .i64 j ∧ FourW wr (w.heap.size + 1) (mixW j s u) ∧ FourW wr w.heap.size (setF fun _ => false) ∧ RowsW wr (w.heap.size + 2) ps ∧ Below w.heap.size w wr
set_option maxRecDepth 100000 in
set_option maxHeartbeats 3200000 in
theorem Bytes_any (s : ByteArray) (w : World) (hlib : LibOk w) (hs : s.size ≤ 4194304) : Calls Tryz.prog 94 #[.string s] w (BytesPost s.data.toList w) := by
  obtain ⟨m0, hm0⟩ := hlib
  have hlp : 0 < w.heap.size := World.block_lt_of_cell? w _ hm0
  have hlb : ∀ W, Below w.heap.size w W → W.cell? ⟨0, 0, none⟩ = some (.int .i64 m0) := fun W hb => (hb.cell (p := ⟨0, 0, none⟩) hlp).trans hm0
  have HSP : Hid (∀ W, Below w.heap.size w W → Calls Tryz.prog 24 #[.string s, .string ⟨#[44]⟩] W _) := fun W hb => Tryz.strings_Split s ⟨#[44]⟩ m0 W (by omega) (hlb W hb) (by decide)
  have hps := split_one 44 s
  have hpl := Lib.splitB_all ⟨#[44]⟩ (by decide) 0 _ s rfl
  generalize Lib.splitB ⟨#[44]⟩ 0 (Lib.countB s ⟨#[44]⟩) s = ps at HSP hps hpl
  generalize Lib.countB s ⟨#[44]⟩ = n at HSP hpl
  rw [← hpl] at HSP
  have h0 : ∀ W, W = (w.alloc (.cells #[.int .u64 0, .int .u64 0, .int .u64 0, .int .u64 0] 150)).alloc (.cells #[.int .u64 0, .int .u64 0, .int .u64 0, .int .u64 0] 150) → FourW W (w.heap.size + 1) (setF fun _ => false) ∧ FourW W w.heap.size (setF fun _ => false) ∧ Below w.heap.size w W ∧ W.heap.size = w.heap.size + 2 := fun W hW => by
    have hb : Below w.heap.size w W := by rw [hW]; exact ((Below.refl _ _).alloc (Nat.le_refl _) _).alloc (by simp) _
    refine ⟨?_, ?_, hb, by rw [hW]; simp⟩
    · have := FourW.new (w.alloc (.cells #[.int .u64 0, .int .u64 0, .int .u64 0, .int .u64 0] 150))
      rw [World.size_alloc] at this
      rw [hW]
      exact this
    · rw [hW]
      exact (Below.heap_alloc _ _ _ (by simp)).trans (FourW.new w)
  have H0 := Lib.hid h0
  have HPS := Lib.hid hps
  have HLB := Lib.hid hlb
  clear hps hpl hm0 h0 hlb
  go_enter Tryz.func94, Tryz.ntmps94
  obtain ⟨hF0, hZ0, hb0, hz0⟩ := H0.out _ rfl
  have hsp := HSP.out _ hb0
  go_wp2_with fail
  generalize (w.alloc (.cells #[.int .u64 0, .int .u64 0, .int .u64 0, .int .u64 0] 150)).alloc (.cells #[.int .u64 0, .int .u64 0, .int .u64 0, .int .u64 0] 150) = W0 at *
  have hrow : RowsW (W0.alloc (.cells (ps.map Value.string).toArray 9)) (w.heap.size + 2) ps := by rw [← hz0]; exact heap_alloc_new W0 _
  have hb1 : Below w.heap.size w (W0.alloc (.cells (ps.map Value.string).toArray 9)) := hb0.alloc hb0.size _
  have hF1 := hF0.below ((Below.refl _ _).alloc (Nat.le_refl _) (.cells (ps.map Value.string).toArray 9)) hF0.lt
  have hZ1 := hZ0.below ((Below.refl _ _).alloc (Nat.le_refl _) (.cells (ps.map Value.string).toArray 9)) hZ0.lt
  rw [hz0] at hsp
  clear hF0 hZ0 hb0 hz0 HSP H0
  refine hsp.mono ?_
  rintro e w1 ⟨rfl, hw1⟩
  rw [← hw1] at hrow hb1 hF1 hZ1
  clear hw1 hsp W0
  have hpl : (splL 44 s.data.toList).length = ps.length := by rw [← HPS.out, List.length_map]
  have hpn : ps.length ≤ 4194305 := by
    have h1 := splL_len 44 s.data.toList
    rw [show s.data.toList.length = s.size by simp] at h1
    omega
  have HPL := Lib.hid hpl
  clear hpl
  go_wp2_with fail
  go_loopw [17] (fun i wr => ByRel (splL 44 s.data.toList) ps w i wr) (fun i _ => ps.length - (intOf i).toNat)
  case atStart => exact ⟨0, Nat.zero_le _, rfl, rfl, hF1, hZ1, hrow, hb1⟩
  case round =>
    obtain ⟨k, hk, rfl, hok, hF, hZ, hR, hB⟩ := hrel
    clear hrow hb1 hF1 hZ1
    by_cases hlt : k < ps.length
    · have d2 : decide ((k : Int) < (ps.length : Int)) = true := by simp; omega
      have i7 : IntKind.i64.wrap ((k : Int) + 1) = (k : Int) + 1 := IntWalk.i64_in _ (by omega)
      have hc := hR.cell k hlt
      have hx : (splL 44 s.data.toList)[k]'(by rw [HPL.out]; exact hlt) = ps[k].data.toList := by
        have := HPS.out
        simp only [← this, List.getElem_map]
      have hxs : ps[k].size ≤ s.size := by
        have h1 := splL_piece 44 s.data.toList _ (List.getElem_mem (by rw [HPL.out]; exact hlt))
        rw [hx] at h1
        simpa using h1
      have HTK : Hid ((splL 44 s.data.toList).take (k + 1) = (splL 44 s.data.toList).take k ++ [ps[k].data.toList]) := by
        unfold Hid
        rw [List.take_succ_eq_append_getElem (by rw [HPL.out]; exact hlt), hx]
      have HMEM : Hid (ps[k].data.toList ∈ splL 44 s.data.toList) := by
        unfold Hid
        rw [← hx]
        exact List.getElem_mem _
      clear hx
      generalize ps[k] = x at hc HTK HMEM hxs
      have hcut := Tryz.strings_Cut x ⟨#[45]⟩ m0 wr (by omega) (HLB.out wr hB)
      have hcl := cut_len x.data.toList [45]
      have hxl : x.data.toList.length = x.size := by simp
      have hb1 : (bs (Lib.cut x.data.toList [45]).1).size ≤ 4194304 := by rw [bs_size]; omega
      have hb2 : (bs (Lib.cut x.data.toList [45]).2.1).size ≤ 4194304 := by rw [bs_size]; omega
      have HLO : Hid (loR x.data.toList = numB 255 (Lib.cut x.data.toList [45]).1) := rfl
      have HHI : Hid (hiR x.data.toList = numB 255 (if (Lib.cut x.data.toList [45]).2.2 = true then (Lib.cut x.data.toList [45]).2.1 else (Lib.cut x.data.toList [45]).1)) := rfl
      have HN : Hid (∀ (y : List UInt8) W, (bs y).size ≤ 4194304 → Calls Tryz.prog 135 #[.string (bs y), .int .i64 255] W fun e w' => e = .returned (.int .i64 (numB 255 y)) ∧ w' = W) := fun y W h => numB_any (bs y) 255 W (by unfold maxLen; omega)
      have HCT := Lib.hid hcut
      clear hcut hcl hxl
      go_wp2_with fail
      refine HCT.out.mono ?_
      rintro e w2 ⟨rfl, nq, rfl⟩
      have hFd : FourW (wr.drewN nq) (w.heap.size + 1) (setF (anyR ((splL 44 s.data.toList).take k))) := hF
      have hZd : FourW (wr.drewN nq) w.heap.size (setF fun _ => false) := hZ
      have hRd : RowsW (wr.drewN nq) (w.heap.size + 2) ps := hR
      have hBd := below_drewN hB nq
      clear hF hZ hR hB HCT
      generalize wr.drewN nq = wd at *
      clear hc
      generalize (Lib.cut x.data.toList [45]).1 = ca at *
      generalize (Lib.cut x.data.toList [45]).2.1 = cb at *
      generalize (Lib.cut x.data.toList [45]).2.2 = two at *
      obtain ⟨cc, hcc⟩ : ∃ cc, cc = (if two = true then cb else ca) := ⟨_, rfl⟩
      rw [← hcc] at HHI
      have hb3 : (bs cc).size ≤ 4194304 := by rw [hcc]; split <;> assumption
      have HCC := Lib.hid hcc
      have hN1 := fun W => HN.out ca W hb1
      have hN2 := fun W => HN.out cc W hb3
      rw [← HLO.out] at hN1
      rw [← HHI.out] at hN2
      have HN1 := Lib.hid hN1
      have HN2 := Lib.hid hN2
      have hlo : -1 ≤ loR x.data.toList := by rw [HLO.out]; exact numB_ge _ _
      have hhi : hiR x.data.toList ≤ 255 := by rw [HHI.out]; exact numB_le _ _ (by decide)
      have hhi2 : -1 ≤ hiR x.data.toList := by rw [HHI.out]; exact numB_ge _ _
      clear hN1 hN2 HN HLO HHI hcc hb1 hb2 hb3
      go_upto_if 28 with fail
      go_cut [8] from 29 to 29 (fun s8 wx => s8 = .string (bs cc) ∧ wx = wd)
      case first =>
        cases two with
        | true =>
          have hcc := HCC.out
          rw [if_pos rfl] at hcc
          subst hcc
          go_wp2_with fail
          go_meet
          exact ⟨rfl, rfl⟩
        | false =>
          have hcc := HCC.out
          rw [if_neg (by decide)] at hcc
          subst hcc
          go_wp2_with fail
          go_meet
          exact ⟨rfl, rfl⟩
      case rest =>
        obtain ⟨rfl, rfl⟩ := hcut
        go_wp2_with fail
        refine (HN1.out _).mono ?_
        rintro e w3 ⟨rfl, rfl⟩
        go_wp2_with fail
        refine (HN2.out _).mono ?_
        rintro e w4 ⟨rfl, rfl⟩
        by_cases hok2 : okR x.data.toList = true
        · have h12 : 0 ≤ loR x.data.toList ∧ loR x.data.toList ≤ hiR x.data.toList := by unfold okR at hok2; simpa using hok2
          obtain ⟨a, ha⟩ : ∃ a : Nat, loR x.data.toList = a := ⟨(loR x.data.toList).toNat, by omega⟩
          obtain ⟨b, hb⟩ : ∃ b : Nat, hiR x.data.toList = b := ⟨(hiR x.data.toList).toNat, by omega⟩
          have hab : a ≤ b := by omega
          have hb2 : b < 256 := by omega
          have HIN : Hid (setF (fun y => decide (a ≤ y) && decide (y ≤ b)) = setF (inR x.data.toList)) := setF_congr fun y _ => by
            unfold inR
            rw [ha, hb]
            congr 1
            · exact decide_eq_decide.2 (by omega)
            · exact decide_eq_decide.2 (by omega)
          have hrg := Range_any a b hab hb2
          rw [HIN.out] at hrg
          have HNX : Hid (setF (fun y => anyR ((splL 44 s.data.toList).take k) y || inR x.data.toList y) = setF (anyR ((splL 44 s.data.toList).take (k + 1)))) := setF_congr fun y _ => by
            rw [HTK.out]
            unfold anyR
            rw [List.any_append]
            simp
          have HOK : Hid (((splL 44 s.data.toList).take (k + 1)).all okR = true) := by
            unfold Hid
            rw [HTK.out, List.all_append, hok.out]
            simp [hok2]
          have o0 := or_word (anyR ((splL 44 s.data.toList).take k)) (inR x.data.toList) 0 (by decide)
          have o1 := or_word (anyR ((splL 44 s.data.toList).take k)) (inR x.data.toList) 1 (by decide)
          have o2 := or_word (anyR ((splL 44 s.data.toList).take k)) (inR x.data.toList) 2 (by decide)
          have o3 := or_word (anyR ((splL 44 s.data.toList).take k)) (inR x.data.toList) 3 (by decide)
          rw [HNX.out] at o0 o1 o2 o3
          rw [ha, hb]
          have HOO := Lib.hid (And.intro o0 (And.intro o1 (And.intro o2 o3)))
          obtain ⟨S, hS⟩ : ∃ S, S = setF (anyR ((splL 44 s.data.toList).take k)) := ⟨_, rfl⟩
          obtain ⟨U, hU⟩ : ∃ U, U = setF (anyR ((splL 44 s.data.toList).take (k + 1))) := ⟨_, rfl⟩
          obtain ⟨R, hR⟩ : ∃ R, R = setF (inR x.data.toList) := ⟨_, rfl⟩
          rw [← hS, ← hU, ← hR] at HOO
          rw [← hS] at hFd
          rw [← hR] at hrg
          have HU := Lib.hid hU
          have HRG := Lib.hid hrg
          have d3 : decide ((a : Int) < 0) = false := decide_eq_false (by omega)
          have d4 : decide ((b : Int) < (a : Int)) = false := decide_eq_false (by omega)
          clear hrg hS hU hR o0 o1 o2 o3 HNX HIN ha hb h12 hok2 hok HTK HN1 HN2 HCC hlo hhi hhi2
          go_wp2_with fail
          refine (HRG.out _).mono ?_
          rintro e w5 ⟨rfl, hb5⟩
          have hF5 := hFd.below hb5 hFd.lt
          have hZ5 := hZd.below hb5 hZd.lt
          have hR5 := hRd.below hb5 hRd.lt
          have hB5 := hBd.trans (hb5.mono hBd.size)
          unfold setA
          clear hb5 hFd hZd hRd hBd HRG
          go_wp2_with fail
          go_loopw [45] (fun i wr => MixRel S U ps w i wr) (fun i _ => 4 - (intOf i).toNat)
          case atStart => exact ⟨0, by decide, rfl, hF5, hZ5, hR5, hB5⟩
          case round =>
            obtain ⟨j, hj, rfl, hF, hZ, hR, hB⟩ := hrel
            clear hF5 hZ5 hR5 hB5
            by_cases hj4 : j < 4
            · have hput := hF.put j hj4 (U.word j)
              rw [mixW_put j hj4] at hput
              have hcell := hF.cell j hj4
              rw [mixW_word j hj4] at hcell
              have hfr := hF.free j
              have hZ2 := hZ.far (k := w.heap.size + 1) (by omega) j (.int .u64 (U.word j))
              have hR2 := hR.far (k := w.heap.size + 1) (by omega) j (.int .u64 (U.word j))
              have hB2 := hB.setCell (p := ⟨w.heap.size + 1, j, none⟩) (Nat.le_succ _) (.int .u64 (U.word j))
              have HN := Lib.hid (And.intro hput (And.intro hZ2 (And.intro hR2 hB2)))
              clear hF hZ hR hB hput hZ2 hR2 hB2
              have hat := fun W => run_word4 R j hj4 W
              have hor : bits .or .u64 (S.word j) (R.word j) = U.word j := by
                obtain ⟨o0, o1, o2, o3⟩ := HOO.out
                obtain rfl | rfl | rfl | rfl : j = 0 ∨ j = 1 ∨ j = 2 ∨ j = 3 := by omega
                · exact o0
                · exact o1
                · exact o2
                · exact o3
              generalize R.word j = rj at *
              generalize S.word j = sj at *
              generalize U.word j = uj at *
              go_wp2_with fail
              go_roundw
              case rel => exact ⟨j + 1, by omega, by go_num, HN.out.1, HN.out.2.1, HN.out.2.2.1, HN.out.2.2.2⟩
              case measure => simp [intOf] <;> omega
            · obtain rfl : j = 4 := by omega
              rw [mixW_four, HU.out] at hF
              go_wp2_with fail
              go_roundw
              case rel => exact ⟨k + 1, by omega, by go_num, HOK, hF, hZ, hR, hB⟩
              case measure => simp [intOf] <;> omega
        · have hnb : okB s.data.toList = false := by
            cases h : okB s.data.toList with
            | false => rfl
            | true => exact absurd (List.all_eq_true.1 h _ HMEM.out) hok2
          have HBR : Hid (bytesR s.data.toList = (.zero, 3)) := by unfold Hid bytesR; rw [hnb]; rfl
          have hor : loR x.data.toList < 0 ∨ (0 ≤ loR x.data.toList ∧ hiR x.data.toList < loR x.data.toList) := by
            unfold okR at hok2
            simp only [Bool.and_eq_true, decide_eq_true_eq] at hok2
            omega
          have ⟨z0, z1, z2, z3⟩ := hZd.cells
          have y0 := hZd.free 0
          have y1 := hZd.free 1
          have y2 := hZd.free 2
          have y3 := hZd.free 3
          have hFW := hZd.fill .zero
          have hbW := (((hBd.setCell (p := ⟨w.heap.size, 0, none⟩) (Nat.le_refl _) (.int .u64 0)).setCell (p := ⟨w.heap.size, 1, none⟩) (Nat.le_refl _) (.int .u64 0)).setCell (p := ⟨w.heap.size, 2, none⟩) (Nat.le_refl _) (.int .u64 0)).setCell (p := ⟨w.heap.size, 3, none⟩) (Nat.le_refl _) (.int .u64 0)
          have HFW := Lib.hid hFW
          have HBW := Lib.hid hbW
          generalize loR x.data.toList = lo at *
          generalize hiR x.data.toList = hi at *
          clear hFW hbW hnb hok2 hFd hZd hRd hBd HN1 HN2
          rcases hor with h1 | ⟨h1, h2⟩
          · have d3 : decide (lo < 0) = true := decide_eq_true h1
            go_wp2_with fail
            have hFW := HFW.out
            have hbW := HBW.out
            rw [show Set4.zero.a = 0 from rfl, show Set4.zero.b = 0 from rfl, show Set4.zero.c = 0 from rfl, show Set4.zero.d = 0 from rfl] at hFW
            generalize ((((w4.setCell ⟨w.heap.size, 0, none⟩ (.int .u64 0)).setCell ⟨w.heap.size, 1, none⟩ (.int .u64 0)).setCell ⟨w.heap.size, 2, none⟩ (.int .u64 0)).setCell ⟨w.heap.size, 3, none⟩ (.int .u64 0)) = WF at *
            obtain ⟨s0, s1, s2, s3⟩ := hFW.cells
            exact bodyPost_ret (v := .tuple #[setA .zero, .int .i64 3]) (by simp [results, Tryz.results94, go_sem, s0, s1, s2, s3, setA]) rfl ⟨by rw [HBR.out], hbW⟩
          · have d3 : decide (lo < 0) = false := decide_eq_false (by omega)
            have d4 : decide (hi < lo) = true := decide_eq_true h2
            go_wp2_with fail
            have hFW := HFW.out
            have hbW := HBW.out
            rw [show Set4.zero.a = 0 from rfl, show Set4.zero.b = 0 from rfl, show Set4.zero.c = 0 from rfl, show Set4.zero.d = 0 from rfl] at hFW
            generalize ((((w4.setCell ⟨w.heap.size, 0, none⟩ (.int .u64 0)).setCell ⟨w.heap.size, 1, none⟩ (.int .u64 0)).setCell ⟨w.heap.size, 2, none⟩ (.int .u64 0)).setCell ⟨w.heap.size, 3, none⟩ (.int .u64 0)) = WF at *
            obtain ⟨s0, s1, s2, s3⟩ := hFW.cells
            exact bodyPost_ret (v := .tuple #[setA .zero, .int .i64 3]) (by simp [results, Tryz.results94, go_sem, s0, s1, s2, s3, setA]) rfl ⟨by rw [HBR.out], hbW⟩
    · obtain rfl : k = ps.length := by omega
      have d2 : decide ((ps.length : Int) < (ps.length : Int)) = false := by simp
      rw [← HPL.out, List.take_length] at hok hF
      have HBR : Hid (bytesR s.data.toList = (setF (inB s.data.toList), 0)) := by unfold Hid bytesR okB; rw [if_pos hok.out]
      obtain ⟨S, hS⟩ : ∃ S, S = setF (anyR (splL 44 s.data.toList)) := ⟨_, rfl⟩
      rw [← hS] at hF
      have HS := Lib.hid hS
      clear hS
      have ⟨c0, c1, c2, c3⟩ := hF.cells
      have ⟨z0, z1, z2, z3⟩ := hZ.cells
      have y0 := hZ.free 0
      have y1 := hZ.free 1
      have y2 := hZ.free 2
      have y3 := hZ.free 3
      go_wp2_with fail
      have hFW := hZ.fill S
      have hbW := (((hB.setCell (p := ⟨w.heap.size, 0, none⟩) (Nat.le_refl _) (.int .u64 S.a)).setCell (p := ⟨w.heap.size, 1, none⟩) (Nat.le_refl _) (.int .u64 S.b)).setCell (p := ⟨w.heap.size, 2, none⟩) (Nat.le_refl _) (.int .u64 S.c)).setCell (p := ⟨w.heap.size, 3, none⟩) (Nat.le_refl _) (.int .u64 S.d)
      generalize ((((wr.setCell ⟨w.heap.size, 0, none⟩ (.int .u64 S.a)).setCell ⟨w.heap.size, 1, none⟩ (.int .u64 S.b)).setCell ⟨w.heap.size, 2, none⟩ (.int .u64 S.c)).setCell ⟨w.heap.size, 3, none⟩ (.int .u64 S.d)) = WF at *
      obtain ⟨s0, s1, s2, s3⟩ := hFW.cells
      exact bodyPost_ret (v := .tuple #[setA S, .int .i64 0]) (by simp [results, Tryz.results94, go_sem, s0, s1, s2, s3, setA]) rfl ⟨by rw [HBR.out, HS.out]; rfl, hbW⟩
end Go.Proofs.YtdkbfljhfhjofaaGreatDoor
