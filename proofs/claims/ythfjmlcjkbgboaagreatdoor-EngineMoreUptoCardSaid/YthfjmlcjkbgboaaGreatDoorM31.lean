/- Part 31 of the proof: lemmas and walks that the last texts use. -/
import Derived.Test.YthfjmlcjkbgboaaGreatDoorM03
import Derived.Test.YthfjmlcjkbgboaaGreatDoorM04
import Derived.Test.YthfjmlcjkbgboaaGreatDoorM08
import Derived.Test.YthfjmlcjkbgboaaGreatDoorM10
import Derived.Test.YthfjmlcjkbgboaaGreatDoorM26
import Derived.Test.YthfjmlcjkbgboaaGreatDoorM27
import Derived.Test.YthfjmlcjkbgboaaGreatDoorM30
import Derived.Laws.OwnMore
import Derived.Deep.RegionHeld3
import Derived.Shelf.GgClosure.Gives
namespace Go.Proofs.YthfjmlcjkbgboaaGreatDoor
open Go.RowKit
abbrev PairV := ByteArray × ByteArray
def cellsV (x : PairV) : List Value := [.string x.1, .string x.2]
theorem cellsV_len (l : List PairV) : (l.flatMap cellsV).length = l.length * 2 := by
  induction l with
  | nil => rfl
  | cons x l ih => rw [List.flatMap_cons, List.length_append, ih]; simp only [cellsV, List.length_cons, List.length_nil]; omega
theorem cellsV_at : ∀ (l : List PairV) (k : Nat) (h : k < l.length), (l.flatMap cellsV)[k * 2]? = some (.string l[k].1) ∧ (l.flatMap cellsV)[k * 2 + 1]? = some (.string l[k].2)
  | [], k, h => absurd h (by simp)
  | x :: l, 0, _ => ⟨rfl, rfl⟩
  | x :: l, k + 1, h => by
    have := cellsV_at l k (by simpa using h)
    rw [List.flatMap_cons, show (k + 1) * 2 = 2 + k * 2 by omega, List.getElem?_append_right (by simp [cellsV]), show 2 + k * 2 + 1 = 2 + (k * 2 + 1) by omega, List.getElem?_append_right (by simp [cellsV])]
    simpa [cellsV] using this
/-- A row of fields of the call's own. -/
def OwnV (w : World) (base : Nat) (v : Value) (l : List PairV) : Prop := w.ownsRow base 152 2 v l.length (l.flatMap cellsV)
theorem OwnV.nil (w : World) (base : Nat) : OwnV w base (.slice none 0 0) [] := World.ownsRow_nil w base 152 2
theorem OwnV.below {w w' : World} {base : Nat} {v : Value} {l : List PairV} (h : OwnV w base v l) (hb : Below w.heap.size w w') : OwnV w' base v l := ownsRow_below h hb
theorem OwnV.keep {w w' : World} {base : Nat} {v : Value} {l : List PairV} (h : OwnV w base v l) (hk : ∀ g, v.ownBlock = some g → w'.heap[g]? = w.heap[g]?) : OwnV w' base v l := by
  refine ⟨h.1, ?_⟩
  rcases h.2 with h0 | ⟨g, cap, cur, h1, h2, h3, h4⟩
  · exact .inl h0
  · exact .inr ⟨g, cap, cur, h1, h2, (hk g (by rw [h1]; rfl)).trans h3, h4⟩
theorem OwnV.low {w : World} {base b : Nat} {v : Value} {l : List PairV} (h : OwnV w base v l) (hb : b ≤ base) : OwnV w b v l :=
  ⟨h.1, h.2.imp_right fun ⟨g, cap, cur, h1, h2, h3⟩ => ⟨g, cap, cur, h1, Nat.le_trans hb h2, h3⟩⟩
theorem OwnV.form {w : World} {base : Nat} {v : Value} {l : List PairV} (h : OwnV w base v l) : ∃ A c, v = .slice A l.length c ∧ Sl w w.heap.size 2 A l.length (l.flatMap cellsV) := by
  rcases h.2 with ⟨h1, h2⟩ | ⟨g, cap, cur, h1, hb, hg, _⟩
  · have : l = [] := List.eq_nil_of_length_eq_zero h2
    subst this
    exact ⟨none, 0, h1, Sl.nil _ _ _ _⟩
  · refine ⟨_, _, h1, cellsV_len l, fun hp => ⟨g, 0, rfl, ?_, fun j hj => ?_⟩⟩
    · exact (World.ownsRow.lt h g (by rw [h1]; simp [Value.ownBlock])).2
    · have := World.ownsRow.cells (g := g) h (by rw [h1]; simp [Value.ownBlock]) j _ (List.getElem?_eq_getElem hj)
      rw [addr_add] at this
      rw [Nat.zero_add]
      exact this
/-- Two cells of a field. -/
theorem fld_at {w : World} {B n : Nat} {A : Option Addr} {l : List PairV} (h : Sl w B 2 A n (l.flatMap cellsV)) (k : Nat) (hk : k < l.length) :
    ∃ b off, A = some ⟨b, off, none⟩ ∧ b < B ∧ w.cell? ⟨b, off + k * 2, none⟩ = some (.string l[k].1) ∧ w.cell? ⟨b, off + k * 2 + 1, none⟩ = some (.string l[k].2) := by
  have hl := cellsV_len l
  obtain ⟨b, off, e, hb, hc⟩ := h.src (by omega)
  obtain ⟨h0, h1⟩ := cellsV_at l k hk
  refine ⟨b, off, e, hb, ?_, ?_⟩
  · rw [hc (k * 2) (by omega)]
    rw [List.getElem?_eq_getElem (by omega)] at h0
    exact h0
  · rw [Nat.add_assoc, hc (k * 2 + 1) (by omega)]
    rw [List.getElem?_eq_getElem (by omega)] at h1
    exact h1
section
variable {ops : Array Oper} {rest : List Oper} {o : Oper} {a : Act} {Q : Exit → Act → World → Prop} {w : World}
end
end Go.Proofs.YthfjmlcjkbgboaaGreatDoor
namespace Go.Proofs.YthfjmlcjkbgboaaGreatDoor
open Go.RowKit
def isN (name : ByteArray) (x : Pair) : Bool := name.toList.isEmpty || (x.1.toList == name.toList)
def onlyP (l : List Pair) (name : ByteArray) : List Pair := l.filter (isN name)
def bareP (l : List Pair) : List Pair := l.map fun x => (x.1, x.1)
def fieldP (f : PairV) : Pair := (bs (lowerL f.1.data.toList), f.2)
def fieldsP (fs : List PairV) : List Pair := fs.map fieldP
theorem onlyP_snoc (l : List Pair) (name : ByteArray) (k : Nat) (h : k < l.length) : onlyP (l.take (k + 1)) name = onlyP (l.take k) name ++ if isN name l[k] = true then [l[k]] else [] := by
  unfold onlyP
  rw [List.take_succ_eq_append_getElem h, List.filter_append]
  by_cases c : isN name l[k] = true <;> simp [c]
theorem onlyP_le (l : List Pair) (name : ByteArray) (k : Nat) : (onlyP (l.take k) name).length ≤ k := Nat.le_trans (List.length_filter_le _ _) (List.length_take_le _ _)
def RowA (l : List Pair) (w : World) (e : Ending) (w' : World) : Prop := ∃ v, e = .returned v ∧ OwnA w' w.heap.size v l ∧ Below w.heap.size w w'
def OnlyRel (w : World) (l : List Pair) (name : ByteArray) (v i : Value) (wr : World) : Prop :=
  ∃ k : Nat, k ≤ l.length ∧ i = .int .i64 k ∧ OwnA wr w.heap.size v (onlyP (l.take k) name) ∧ Below w.heap.size w wr
def MapRel (w : World) (f : List Pair) (v i : Value) (wr : World) : Prop :=
  ∃ k : Nat, k ≤ f.length ∧ i = .int .i64 k ∧ OwnA wr w.heap.size v (f.take k) ∧ Below w.heap.size w wr
section
variable {ops : Array Oper} {o : Oper} {a : Act} {Q : Exit → Act → World → Prop} {w : World}
theorem step_append_a {K : Act → World → Prop} {E : Prop} (hgd : o.guard = none) (s x : Operand) (ho : o.op = .call { callee := .builtin .append, args := #[s, x], argTypes := #[44, 44] })
    (base : Nat) (v : Value) (l : List Pair) (hs : a.eval s = v) (hown : OwnA w base v l) (hbase : base ≤ w.heap.size)
    (vs : List Value) (new : Pair) (hv : vs = cellsA new) (g0 : Nat) (hg0 : w.heap.size = g0) (c : Nat) (hx : a.eval x = .slice (some ⟨g0, 0, none⟩) 1 c)
    (hbytes : l.length ≤ 4194304)
    (h : ∀ v' w', OwnA w' base v' (l ++ [new]) → Below base w w' → (∀ g, g < w.heap.size → v.ownBlock ≠ some g → w'.heap[g]? = w.heap[g]?) → w.heap.size < w'.heap.size → K (a.put o.dst v') w') :
    if Region.wanted o (yielded ops a.tmps) = true then Oper.wp Tryz.prog o a (w.alloc (.cells vs.toArray 43)) K Q else E := by
  subst hv; subst hg0
  obtain ⟨i0, hi, hz0, hz1, hz2⟩ := info_parts info_arg
  have hw : Region.wanted o (yielded ops a.tmps) = true := by simp [Region.wanted, hgd]
  rw [if_pos hw]
  exact wp_append_kept s x 44 ho base 43 i0 _ 2 32 Tryz.underlying44 hi hz0 hz1 hz2 rfl (by decide) v l.length (l.flatMap cellsA) hs hown hbase (cellsA new) 1 c hx rfl
    (fun u hu => cellsA_one [new] u (by simpa using hu)) (by unfold maxLen; omega) (by omega) fun v' w' h1 h2 h3 h4 => h v' w' (by unfold OwnA; rw [List.length_append, List.flatMap_append]; simpa using h1) h2 h3 h4
end
theorem cell_same {w w' : World} {g : Nat} {x : Option Value} (h : w'.heap[g]? = w.heap[g]?) (i : Nat) (hc : w.cell? ⟨g, i, none⟩ = x) : w'.cell? ⟨g, i, none⟩ = x := by rw [← hc]; simp only [World.cell?, h]
theorem own_new (w : World) (x : Pair) : OwnA (w.alloc (.cells #[.string x.1, .string x.2] 43)) w.heap.size (.slice (some ⟨w.heap.size, 0, none⟩) 1 1) [x] :=
  World.ownsRow_lit w #[.string x.1, .string x.2] 1 (Nat.le_refl _) (by decide) rfl
theorem undrewA {B : Nat} {W w' : World} (hb : Below B W.drew w') : Below B W w' := ⟨hb.os, hb.tape, hb.output, hb.size, hb.block⟩
set_option maxRecDepth 100000 in
set_option maxHeartbeats 800000 in
theorem only_any (l : List Pair) (A : Option Addr) (c : Nat) (name : ByteArray) (w : World) (h : Sl w w.heap.size 2 A l.length (l.flatMap cellsA)) (hl : l.length ≤ 4194304) :
    Calls Tryz.prog 106 #[.slice A l.length c, .string name] w (RowA (onlyP l name) w) := by
  go_enter Tryz.func106, Tryz.ntmps106
  go_wp2_with fail
  go_loopw [5, 10] (fun v i wr => OnlyRel w l name v i wr) (fun _ i _ => l.length - (intOf i).toNat)
  case atStart => exact ⟨0, Nat.zero_le _, rfl, OwnA.nil _ _, Below.refl _ _⟩
  case round =>
    obtain ⟨k, hk, rfl, hO, hb⟩ := hrel
    by_cases hlt : k < l.length
    · have d1 : decide ((k : Int) < (l.length : Int)) = true := by simp; omega
      have i7 : IntKind.i64.wrap ((k : Int) + 1) = (k : Int) + 1 := IntWalk.i64_in _ (by omega)
      obtain ⟨b, off, rfl, hbB, x0, x1⟩ := arg_at (h.below hb) k hlt
      have HG := Lib.hid (onlyP_snoc l name k hlt)
      have hgl := onlyP_le l name k
      have hal : Below wr.heap.size wr (wr.alloc (.cells #[.string l[k].1, .string l[k].2] 43)) := (Below.refl _ _).alloc (Nat.le_refl _) _
      have hO2 := hO.below hal
      have hz2 : w.heap.size ≤ (wr.alloc (.cells #[.string l[k].1, .string l[k].2] 43)).heap.size := Nat.le_trans hb.size hal.size
      have hB2 := hb.trans (hal.mono hb.size)
      cases hq : isN name l[k] with
      | true =>
        have HG2 : Hid (onlyP (l.take (k + 1)) name = onlyP (l.take k) name ++ [l[k]]) := by unfold Hid; rw [HG.out, if_pos hq]
        unfold isN at hq
        generalize l[k] = X at *
        obtain ⟨n1, n2⟩ := X
        dsimp only at *
        generalize onlyP (l.take k) name = acc at *
        obtain ⟨Ao, co, rfl, _⟩ := hO.form
        have HO2 := Lib.hid hO2
        have HB2 := Lib.hid hB2
        have HZ2 := Lib.hid hz2
        clear hO hal hO2 hB2 hb HG hz2
        cases he : name.toList.isEmpty with
        | true =>
          clear hq
          go_wp2_with (at_builtin; refine wpList_append_a rfl (.tmp 22) (.tmp 24) rfl w.heap.size (.slice Ao acc.length co) acc rfl (by exact HO2.out) (by exact HZ2.out) _ (n1, n2) rfl (wr.heap.size + 1) (by rw [World.size_alloc]) 1 rfl (by omega) ?_; intro v5 w5 hO5 hb5 hk5 hz5)
          exact ⟨⟨k + 1, by omega, rfl, by rw [HG2.out]; exact hO5, HB2.out.trans hb5⟩, by dsimp only [intOf]; omega⟩
        | false =>
          rw [he, Bool.false_or] at hq
          go_wp2_with (at_builtin; refine wpList_append_a rfl (.tmp 22) (.tmp 24) rfl w.heap.size (.slice Ao acc.length co) acc rfl (by exact HO2.out) (by exact HZ2.out) _ (n1, n2) rfl (wr.heap.size + 1) (by rw [World.size_alloc]) 1 rfl (by omega) ?_; intro v5 w5 hO5 hb5 hk5 hz5)
          exact ⟨⟨k + 1, by omega, rfl, by rw [HG2.out]; exact hO5, HB2.out.trans hb5⟩, by dsimp only [intOf]; omega⟩
      | false =>
        have HG2 : Hid (onlyP (l.take (k + 1)) name = onlyP (l.take k) name) := by unfold Hid; rw [HG.out, if_neg (by rw [hq]; decide), List.append_nil]
        unfold isN at hq
        rw [Bool.or_eq_false_iff] at hq
        obtain ⟨he, hq⟩ := hq
        generalize l[k] = X at *
        obtain ⟨n1, n2⟩ := X
        dsimp only at *
        have HO2 := Lib.hid hO2
        have HB2 := Lib.hid hB2
        clear hO hal hO2 hB2 hb HG
        go_wp2_with fail
        exact ⟨⟨k + 1, by omega, rfl, by rw [HG2.out]; exact HO2.out, HB2.out⟩, by dsimp only [intOf]; omega⟩
    · obtain rfl : k = l.length := by omega
      have d1 : decide ((l.length : Int) < (l.length : Int)) = false := by simp
      rw [List.take_length] at hO
      go_wp2_with fail
      go_ret
      exact ⟨_, rfl, hO, hb⟩
set_option maxRecDepth 100000 in
set_option maxHeartbeats 800000 in
theorem bare_any (l : List Pair) (A : Option Addr) (c : Nat) (w : World) (h : Sl w w.heap.size 2 A l.length (l.flatMap cellsA)) (hl : l.length ≤ 4194304) :
    Calls Tryz.prog 107 #[.slice A l.length c] w (RowA (bareP l) w) := by
  have hbl : (bareP l).length = l.length := by unfold bareP; rw [List.length_map]
  have HBL := Lib.hid hbl
  clear hbl
  go_enter Tryz.func107, Tryz.ntmps107
  go_wp2_with fail
  go_loopw [3, 8] (fun v i wr => MapRel w (bareP l) v i wr) (fun _ i _ => l.length - (intOf i).toNat)
  case atStart => exact ⟨0, Nat.zero_le _, rfl, OwnA.nil _ _, Below.refl _ _⟩
  case round =>
    obtain ⟨k, hk, rfl, hO, hb⟩ := hrel
    rw [HBL.out] at hk
    by_cases hlt : k < l.length
    · have d1 : decide ((k : Int) < (l.length : Int)) = true := by simp; omega
      have i7 : IntKind.i64.wrap ((k : Int) + 1) = (k : Int) + 1 := IntWalk.i64_in _ (by omega)
      obtain ⟨b, off, rfl, hbB, x0, x1⟩ := arg_at (h.below hb) k hlt
      have HG : Hid ((bareP l).take (k + 1) = (bareP l).take k ++ [(l[k].1, l[k].1)]) := by
        unfold Hid
        rw [List.take_succ_eq_append_getElem (by rw [HBL.out]; exact hlt)]
        simp [bareP]
      have hgl : ((bareP l).take k).length ≤ k := List.length_take_le _ _
      have hal : Below wr.heap.size wr (wr.alloc (.cells #[.string l[k].1, .string l[k].2] 43)) := (Below.refl _ _).alloc (Nat.le_refl _) _
      have hO2 := hO.below hal
      have hz2 : w.heap.size ≤ (wr.alloc (.cells #[.string l[k].1, .string l[k].2] 43)).heap.size := Nat.le_trans hb.size hal.size
      have hB2 := hb.trans (hal.mono hb.size)
      generalize l[k] = X at *
      obtain ⟨n1, n2⟩ := X
      dsimp only at *
      generalize (bareP l).take k = acc at *
      obtain ⟨Ao, co, rfl, _⟩ := hO.form
      have HO2 := Lib.hid hO2
      have HB2 := Lib.hid hB2
      have HZ2 := Lib.hid hz2
      clear hO hal hO2 hB2 hb hz2
      go_wp2_with (at_builtin; refine wpList_append_a rfl (.tmp 12) (.tmp 18) rfl w.heap.size (.slice Ao acc.length co) acc rfl (by exact HO2.out) (by exact HZ2.out) _ (n1, n1) rfl (wr.heap.size + 1) (by rw [World.size_alloc]) 1 rfl (by omega) ?_; intro v5 w5 hO5 hb5 hk5 hz5)
      exact ⟨⟨k + 1, by rw [HBL.out]; omega, rfl, by rw [HG.out]; exact hO5, HB2.out.trans hb5⟩, by dsimp only [intOf]; omega⟩
    · obtain rfl : k = l.length := by omega
      have d1 : decide ((l.length : Int) < (l.length : Int)) = false := by simp
      rw [← HBL.out, List.take_length] at hO
      go_wp2_with fail
      go_ret
      exact ⟨_, rfl, hO, hb⟩
set_option maxRecDepth 100000 in
set_option maxHeartbeats 1600000 in
theorem fields_any (m t : ByteArray) (fs : List PairV) (A : Option Addr) (c : Nat) (w : World) (h : Sl w w.heap.size 2 A fs.length (fs.flatMap cellsV)) (hs : ∀ f ∈ fs, f.1.size ≤ maxLen) (hl : fs.length ≤ 4194304) :
    Calls Tryz.prog 108 #[.agg #[.string m, .string t, .slice A fs.length c]] w (RowA (fieldsP fs) w) := by
  have hbl : (fieldsP fs).length = fs.length := by unfold fieldsP; rw [List.length_map]
  have HBL := Lib.hid hbl
  have HSZ := Lib.hid hs
  have hb0 : Below w.heap.size w (w.alloc (.cells #[.string m, .string t, .slice A fs.length c] 36)) := (Below.refl _ _).alloc (Nat.le_refl _) _
  have HB0 := Lib.hid hb0
  clear hbl hs hb0
  go_enter Tryz.func108, Tryz.ntmps108
  go_wp2_with fail
  go_loopw [3, 9] (fun v i wr => MapRel w (fieldsP fs) v i wr) (fun _ i _ => fs.length - (intOf i).toNat)
  case atStart => exact ⟨0, Nat.zero_le _, rfl, OwnA.nil _ _, HB0.out⟩
  case round =>
    obtain ⟨k, hk, rfl, hO, hb⟩ := hrel
    rw [HBL.out] at hk
    by_cases hlt : k < fs.length
    · have d1 : decide ((k : Int) < (fs.length : Int)) = true := by simp; omega
      have i7 : IntKind.i64.wrap ((k : Int) + 1) = (k : Int) + 1 := IntWalk.i64_in _ (by omega)
      obtain ⟨b, off, rfl, hbB, x0, x1⟩ := fld_at (h.below hb) k hlt
      have hsz := HSZ.out fs[k] (List.getElem_mem hlt)
      have HG : Hid ((fieldsP fs).take (k + 1) = (fieldsP fs).take k ++ [(bs (lowerL fs[k].1.data.toList), fs[k].2)]) := by
        unfold Hid
        rw [List.take_succ_eq_append_getElem (by rw [HBL.out]; exact hlt)]
        simp [fieldsP, fieldP]
      have hgl : ((fieldsP fs).take k).length ≤ 4194304 := Nat.le_trans (List.length_take_le _ _) (by omega)
      generalize fs[k] = X at *
      obtain ⟨n1, n2⟩ := X
      dsimp only at *
      generalize (fieldsP fs).take k = acc at *
      have HLO : Hid (∀ W, Calls Tryz.prog 65 #[.string n1] W (StrPost (bs (lowerL n1.data.toList)) W)) := fun W => Lower_any n1 W hsz
      generalize bs (lowerL n1.data.toList) = L1 at *
      have hz := hb.size
      obtain ⟨Ao, co, rfl, _⟩ := hO.form
      have HO := Lib.hid hO
      have HB2 := Lib.hid hb
      clear hO hb hsz
      go_wp2_with fail
      have hN := heap_alloc_new wr (.cells #[.string n1, .string n2] 152)
      have hBW : Below wr.heap.size wr (wr.alloc (.cells #[.string n1, .string n2] 152)) := (Below.refl _ _).alloc (Nat.le_refl _) _
      have hzW : wr.heap.size < (wr.alloc (.cells #[.string n1, .string n2] 152)).heap.size := by simp
      generalize wr.alloc (.cells #[.string n1, .string n2] 152) = W0 at *
      have g0 := cell_of_row _ wr.heap.size 0 _ _ _ hN
      have g1 := cell_of_row _ wr.heap.size 1 _ _ _ hN
      simp only [List.getElem?_toArray, List.getElem?_cons_zero, List.getElem?_cons_succ] at g0 g1
      have HS : Hid (∀ W, Below W0.heap.size W0 W → W.cell? ⟨wr.heap.size, 0, none⟩ = some (.string n1) ∧ W.cell? ⟨wr.heap.size, 1, none⟩ = some (.string n2)) := fun W hb => ⟨cell_kept hb g0, cell_kept hb g1⟩
      have HBW := Lib.hid hBW
      have HFAR : Hid ((Value.slice Ao acc.length co).ownBlock ≠ some wr.heap.size) := fun e => by have := (HO.out.lt _ e).2; omega
      clear hN hBW x0 x1
      go_region_held3 (fun w' => w'.cell? ⟨wr.heap.size, 0, none⟩ = some (.string n1) ∧ w'.cell? ⟨wr.heap.size, 1, none⟩ = some (.string n2))
        (first | exact hS5 | exact HS.out _ (hbb8.alloc hbb8.size _) | exact HS.out _ hbb8 | go_keep)
        (first
          | (go_at_call 65; (with_reducible refine (HLO.out _).mono ?_); rintro e w8 ⟨rfl, hb8⟩; have hbb8 : Below W0.heap.size W0 w8 := undrewA hb8; have hbr8 : Below wr.heap.size wr w8 := HBW.out.trans (hbb8.mono (Nat.le_of_lt hzW)); have hO8 := HO.out.below hbr8; have hz8 : w.heap.size ≤ w8.heap.size := Nat.le_trans hz hbr8.size)
          | (refine step_append_a rfl (.tmp 13) (.tmp 20) rfl w.heap.size (.slice Ao acc.length co) acc rfl (by exact hO8) (by exact hz8) _ (L1, n2) rfl w8.heap.size rfl 1 rfl hgl ?_; intro v5 w5 hO5 hb5 hk5 hz5; have hh5 := hk5 wr.heap.size (Nat.lt_of_lt_of_le hzW hbb8.size) HFAR.out; have hS5 : w5.cell? ⟨wr.heap.size, 0, none⟩ = some (.string n1) ∧ w5.cell? ⟨wr.heap.size, 1, none⟩ = some (.string n2) := ⟨cell_same hh5 0 (HS.out _ hbb8).1, cell_same hh5 1 (HS.out _ hbb8).2⟩))
      have hb25 : Below w.heap.size w w5 := HB2.out.trans ((hbr8.mono hz).trans hb5)
      clear HS HLO hO8 hb8 hbb8 hS5 hh5 hk5 g0 g1 hb5 hbr8
      go_wp2_with fail
      exact ⟨⟨k + 1, by rw [HBL.out]; omega, rfl, by rw [HG.out]; exact hO5, hb25⟩, by dsimp only [intOf]; omega⟩
    · obtain rfl : k = fs.length := by omega
      have d1 : decide ((fs.length : Int) < (fs.length : Int)) = false := by simp
      rw [← HBL.out, List.take_length] at hO
      go_wp2_with fail
      go_ret
      exact ⟨_, rfl, hO, hb⟩
set_option maxRecDepth 100000 in
theorem vone_any (s : ByteArray) (w : World) : Calls Tryz.prog 61 #[.string s] w (RowA [(ByteArray.mk #[], s)] w) := by
  go_enter Tryz.func61, Tryz.ntmps61
  go_wp2_with fail
  go_ret
  exact ⟨_, rfl, own_new w (ByteArray.mk #[], s), (Below.refl _ _).alloc (Nat.le_refl _) _⟩
end Go.Proofs.YthfjmlcjkbgboaaGreatDoor
namespace Go.Proofs.YthfjmlcjkbgboaaGreatDoor
open Go.RowKit
/-- What was made from B on stands as it did. -/
structure Since (B : Nat) (w W : World) : Prop where
  size : w.heap.size ≤ W.heap.size
  keep : ∀ k, B ≤ k → k < w.heap.size → W.heap[k]? = w.heap[k]?
theorem Since.refl (B : Nat) (w : World) : Since B w w := ⟨Nat.le_refl _, fun _ _ _ => rfl⟩
theorem Since.trans {B : Nat} {w W V : World} (h : Since B w W) (g : Since B W V) : Since B w V :=
  ⟨Nat.le_trans h.size g.size, fun k h1 h2 => (g.keep k h1 (Nat.lt_of_lt_of_le h2 h.size)).trans (h.keep k h1 h2)⟩
theorem Since.low {B C : Nat} {w W : World} (h : Since B w W) (hb : B ≤ C) : Since C w W := ⟨h.size, fun k h1 h2 => h.keep k (Nat.le_trans hb h1) h2⟩
theorem Since.of {B : Nat} {w W : World} (h : Below w.heap.size w W) : Since B w W := ⟨h.size, fun k _ h2 => h.block k h2⟩
/-- What tests values, in memory from B on: as f tells. -/
def TestAt (B : Nat) (f : ByteArray → Bool) (v : Value) (w : World) : Prop :=
  ∃ fid caps, v = .func (.func fid) #[] caps ∧ (∀ args w, (callFunc fid args).run Tryz.prog w = .ok (.enter fid args) w) ∧ ∀ W, Since B w W → LibOk W → ∀ s : ByteArray, s.size ≤ 8192 → Calls Tryz.prog fid (#[.string s] ++ caps) W fun e W' => e = .returned (.bool (f s)) ∧ Below W.heap.size W W'
def MadeT (f : ByteArray → Bool) (w : World) (e : Ending) (w' : World) : Prop :=
  ∃ fid caps, e = .returned (.tuple #[.func (.func fid) #[] caps, .int .i64 0]) ∧ TestAt w.heap.size f (.func (.func fid) #[] caps) w' ∧ Below w.heap.size w w'
theorem TestAt.since {B : Nat} {f : ByteArray → Bool} {v : Value} {w W : World} (h : TestAt B f v w) (hs : Since B w W) : TestAt B f v W := by
  obtain ⟨fid, caps, e, hc⟩ := h
  exact ⟨fid, caps, e, hc.1, fun W' hb' => hc.2 W' (hs.trans hb')⟩
theorem TestAt.low {B C : Nat} {f : ByteArray → Bool} {v : Value} {w : World} (h : TestAt C f v w) (hb : B ≤ C) : TestAt B f v w := by
  obtain ⟨fid, caps, e, hc⟩ := h
  exact ⟨fid, caps, e, hc.1, fun W' hb' => hc.2 W' (hb'.low hb)⟩
theorem someM {t : Tree} {l : List Ins} (hc : Code t 0 l) (hf : Fine t) (s : List UInt8) : SomeAt (l ++ [(⟨6, 0, 0, .zero⟩ : Ins)]) s s.length ↔ ∃ i j, M s t i j := by
  have hl : (l ++ [(⟨6, 0, 0, .zero⟩ : Ins)]).length - 1 = l.length := by simp
  unfold SomeAt
  rw [hl]
  constructor
  · rintro ⟨i, j, hj, h⟩
    exact ⟨i, j, (prog_iff hc hf _ rfl i j (by have := R.le h; omega)).1 h⟩
  · rintro ⟨i, j, h⟩
    have := h.le
    exact ⟨i, j, by omega, (prog_iff hc hf _ rfl i j (by omega)).2 h⟩
set_option maxRecDepth 100000 in
set_option maxHeartbeats 800000 in
theorem Some_any (P : List Ins) (hok : OkP P) (hkm : ∀ n (h : n < P.length), P[n].kind = 6 ↔ n = P.length - 1) (hwf : ∀ n (h : n < P.length), P[n].set.Wf) (h0 : 0 < P.length) (h4 : P.length ≤ 400) (s : ByteArray) (hs : s.size ≤ 8192) (pv : Value) (w : World) (hP : OwnP w 0 pv P) :
    Calls Tryz.prog 199 #[pv, .string s] w fun e w' => ∃ is r, e = .returned (.tuple #[.bool is, .int .i64 r]) ∧ (is = true ↔ SomeAt P s.data.toList s.size) ∧ Below w.heap.size w w' := by
  obtain ⟨gp, cp, rfl, hgp⟩ := OwnP.head hP h0
  have HRDY : Hid (Calls Tryz.prog 240 #[.slice (some ⟨gp, 0, none⟩) P.length cp, .string s] w fun e w' => e = .returned (.int .i64 0) ∧ Below w.heap.size w w') := by
    have := ready_any P (some ⟨gp, 0, none⟩) cp s w hP.sl hok h0 h4
    rw [if_neg (by omega)] at this
    exact this
  have HRUN : Hid (∀ W, Below w.heap.size w W → Calls Tryz.prog 241 #[.slice (some ⟨gp, 0, none⟩) P.length cp, .string s, .bool true] W (RunPostE P s W)) := fun W hb => runE_any P hok hkm hwf h0 h4 s hs _ W (hP.below hb)
  clear hok hkm hwf
  go_enter Tryz.func199, Tryz.ntmps199
  go_wp2_with fail
  refine HRDY.out.mono ?_
  rintro e w1 ⟨rfl, hb1⟩
  go_wp2_with fail
  refine (HRUN.out _ hb1).mono ?_
  rintro e w2 ⟨found, f, tu, rfl, hF, hb2⟩
  have yf : ∀ (a b : Int) (c : Bool) W, (Instr.field 313 (.agg #[.int .i64 a, .int .i64 b, .bool c]) 1).run Tryz.prog W = .ok (.bool c) W := fun _ _ _ _ => by kernel_rfl
  have hb := hb1.trans (hb2.mono hb1.size)
  have HF := Lib.hid hF
  clear hF
  go_wp2_with fail
  exact bodyPost_ret (v := .tuple #[.bool found, .int .i64 0]) (by simp [results, Tryz.results199, go_sem]) rfl ⟨found, 0, rfl, HF.out, hb⟩
set_option maxRecDepth 100000 in
set_option maxHeartbeats 800000 in
theorem regT_any (P : List Ins) (hok : OkP P) (hkm : ∀ n (h : n < P.length), P[n].kind = 6 ↔ n = P.length - 1) (hwf : ∀ n (h : n < P.length), P[n].set.Wf) (h0 : 0 < P.length) (h4 : P.length ≤ 400) (s : ByteArray) (hs : s.size ≤ 8192) (pv : Value) (g : Nat) (w : World) (hg : w.cell? ⟨g, 0, none⟩ = some pv) (hP : OwnP w 0 pv P) :
    Calls Tryz.prog 198 #[.string s, .pointer (some ⟨g, 0, none⟩)] w fun e w' => ∃ is, e = .returned (.bool is) ∧ (is = true ↔ SomeAt P s.data.toList s.size) ∧ Below w.heap.size w w' := by
  have HS := Lib.hid (Some_any P hok hkm hwf h0 h4 s hs pv w hP)
  clear hok hkm hwf hP
  go_enter Tryz.func198, Tryz.ntmps198
  go_wp2_with fail
  refine HS.out.mono ?_
  rintro e w1 ⟨is, r, rfl, hF, hb1⟩
  have HF := Lib.hid hF
  clear hF
  go_wp2_with fail
  go_ret
  exact ⟨is, rfl, HF.out, hb1⟩
open Classical in
noncomputable def tstR (arg v : ByteArray) : Bool := decide (∃ i j, M v.data.toList (parseP arg.data.toList).1 i j)
set_option maxRecDepth 100000 in
set_option maxHeartbeats 1600000 in
theorem regular_any (s : ByteArray) (w : World) (hs : s.size ≤ 1048576) (h00 : (parseP s.data.toList).2.2 = 0) : Calls Tryz.prog 148 #[.string s] w (MadeT (tstR s) w) := by
  have hp := Parse_any s w (by unfold maxLen; omega)
  have HT : Hid (∀ v : ByteArray, tstR s v = true ↔ ∃ i j, M v.data.toList (parseP s.data.toList).1 i j) := Lib.hid fun v => by unfold tstR; simp
  have hc := @parseP_check s.data.toList h00
  generalize parseP s.data.toList = P at *
  obtain ⟨t, n, c⟩ := P
  dsimp only at *
  subst h00
  have HP := Lib.hid hp
  clear hp
  generalize tstR s = f at *
  go_enter Tryz.func148, Tryz.ntmps148
  go_wp2_with (go_at_call 140; apply Hid.out)
  unfold Hid
  refine HP.out.mono ?_
  rintro e w1 ⟨A, cc, rfl, hN, hb1⟩
  have hLT := LX.lt (fun _ hb => hb.2) _ _ hN
  have hwf := LT.wf _ _ hLT
  have HM : Hid (∀ o, Calls Tryz.prog 141 #[argX t A cc] (w1.alloc o) (TMakePost t (w1.alloc o))) := fun o => Make_any t A cc _ ((hLT.below ((Below.refl _ _).alloc (Nat.le_refl _) o)).more (by simp))
  unfold argX at HM ⊢
  clear hLT hN
  have HWF := Lib.hid hwf
  have HC := Lib.hid hc
  clear hwf hc
  dsimp only
  go_wp2_with fail
  refine (HM.out _).mono ?_
  rintro e w2 ⟨v, rfl, _, hl, hb2⟩
  obtain ⟨l, hC, h160, hO⟩ := hl HC.out
  have hf := chk_fine t 1 0 HC.out
  have hw2 : Below w.heap.size w w2 := hb1.trans ((below_new hb2 (Nat.le_refl _)).mono hb1.size)
  have hO0 : OwnP w2 0 v (l ++ [(⟨6, 0, 0, .zero⟩ : Ins)]) := ⟨hO.1, hO.2.imp_right fun ⟨g, cap, cur, h1, _, h3⟩ => ⟨g, cap, cur, h1, Nat.zero_le _, h3⟩⟩
  have HSM : Hid (∀ v : ByteArray, SomeAt (l ++ [(⟨6, 0, 0, .zero⟩ : Ins)]) v.data.toList v.size ↔ ∃ i j, M v.data.toList t i j) := fun v => someM hC hf v.data.toList
  obtain ⟨gp, cp, rfl, hgp⟩ := OwnP.head hO0 (by simp)
  have HPC : Hid (∀ W, Below w2.heap.size w2 W → Calls Tryz.prog 142 #[.slice (some ⟨gp, 0, none⟩) (l ++ [(⟨6, 0, 0, .zero⟩ : Ins)]).length cp] W fun e w' => e = .returned (.int .i64 0) ∧ Below W.heap.size W w') := fun W hb => by
    have := hO0.below hb
    exact PCheck_any _ _ _ W this.sl (code_ok hC) (by simp) (by rw [List.length_append, List.length_singleton]; omega)
  have hlow : w.heap.size ≤ gp ∧ gp < w2.heap.size := by
    have h1 := World.ownsRow.lt hO gp rfl
    have h2 := hb1.size
    rw [World.size_alloc] at h1
    omega
  have HTS : Hid (∀ W g, W.cell? ⟨g, 0, none⟩ = some (.slice (some ⟨gp, 0, none⟩) (l ++ [(⟨6, 0, 0, .zero⟩ : Ins)]).length cp) → Since w.heap.size w2 W → ∀ x : ByteArray, x.size ≤ 8192 → Calls Tryz.prog 198 #[.string x, .pointer (some ⟨g, 0, none⟩)] W fun e w' => e = .returned (.bool (f x)) ∧ Below W.heap.size W w') := fun W g hg hb x hx =>
    (regT_any _ (code_ok hC) (prog_last hC) (prog_wf hC HWF.out) (by simp) (by rw [List.length_append, List.length_singleton]; omega) x hx _ g W hg (hO0.keep fun g' hg' => hb.keep g' (by have e9 : gp = g' := Option.some.inj hg'; omega) (World.ownsRow.lt hO0 g' hg').2)).mono fun e w' ⟨is, e1, e2, hb'⟩ => ⟨by
      rw [e1]
      have h1 := (HT.out x).symm
      have h2 := e2.trans ((HSM.out x).trans h1)
      cases is <;> cases hfx : f x <;> simp_all, hb'⟩
  clear hl hC h160 hO hO0 hf hb2 HM HWF HC HSM HT
  generalize (l ++ [(⟨6, 0, 0, .zero⟩ : Ins)]).length = nl at *
  go_wp2_with fail
  refine (HPC.out _ ((Below.refl _ _).alloc (Nat.le_refl _) _)).mono ?_
  rintro e w3 ⟨rfl, hb3⟩
  have hcell : w3.cell? ⟨w2.heap.size, 0, none⟩ = some (.slice (some ⟨gp, 0, none⟩) nl cp) := cell_of_row _ _ 0 _ _ _ ((hb3.block w2.heap.size (by simp)).trans (heap_alloc_new w2 _))
  have hb4 : Below w2.heap.size w2 w3 := below_new hb3 (Nat.le_refl _)
  have hbb := hw2.trans (hb4.mono hw2.size)
  have hz : w2.heap.size < w3.heap.size := Nat.lt_of_lt_of_le (by simp) hb3.size
  go_wp2_with fail
  exact bodyPost_ret (v := .tuple #[.func (.func 198) #[] #[.pointer (some ⟨w2.heap.size, 0, none⟩)], .int .i64 0]) (by simp [results, Tryz.results148, go_sem]) rfl ⟨_, _, rfl, ⟨_, _, rfl, fun _ _ => rfl, fun W hW _ x hx => HTS.out W _ (cell_same (hW.keep _ hw2.size hz) 0 hcell) ((Since.of hb4).trans hW) x hx⟩, hbb⟩
end Go.Proofs.YthfjmlcjkbgboaaGreatDoor
namespace Go.Proofs.YthfjmlcjkbgboaaGreatDoor
open Go.RowKit
theorem srcNt {wr : World} {B n : Nat} {A : Option Addr} {xs : List Value} {a0 a1 : Nat → Value} (h : Sl wr B 2 A n xs) {j : Nat} (hj : j < n) (hx : ∀ j, j < n → xs[j * 2]? = some (a0 j) ∧ xs[j * 2 + 1]? = some (a1 j)) :
    ∃ b off, A = some ⟨b, off, none⟩ ∧ wr.cell? ⟨b, off + j * 2, none⟩ = some (a0 j) ∧ wr.cell? ⟨b, off + j * 2 + 1, none⟩ = some (a1 j) := by
  have hl := h.len
  obtain ⟨b, off, e, _, hc⟩ := h.src (by omega)
  have hq := hx j hj
  have hat : ∀ i v, xs[i]? = some v → wr.cell? ⟨b, off + i, none⟩ = some v := fun i v hv => by
    have hi : i < xs.length := (List.getElem?_eq_some_iff.1 hv).1
    rw [hc i hi, ← hv, List.getElem?_eq_getElem hi]
  exact ⟨b, off, e, by have := hat _ _ hq.1; rw [show off + j * 2 = off + j * 2 from rfl] at this; exact this, by have := hat _ _ hq.2; rw [← Nat.add_assoc] at this; exact this⟩
set_option maxRecDepth 100000 in
set_option maxHeartbeats 800000 in
theorem IdxFN_any (g : Nat) (lb : Array Value) (eg : ∀ args w, (callFunc g args).run Tryz.prog w = .ok (.enter g args) w) (A : Option Addr) (n c : Nat) (xs : List Value) (a0 a1 : Nat → Value) (p : Nat → Bool) (w : World)
    (h : Sl w w.heap.size 2 A n xs) (hbig : n ≤ 9223372036854775807) (hx : ∀ j, j < n → xs[j * 2]? = some (a0 j) ∧ xs[j * 2 + 1]? = some (a1 j))
    (hp : ∀ W j, j < n → Below w.heap.size w W → Calls Tryz.prog g (#[.agg #[a0 j, a1 j]] ++ lb) W (BoolPost (p j) W)) :
    Calls Tryz.prog 244 #[.slice A n c, .func (.func g) #[] lb] w fun e w' => e = .returned (.int .i64 (hitI p n)) ∧ Below w.heap.size w w' := by
  have HP := Lib.hid hp
  have HX := Lib.hid hx
  clear hp hx
  go_enter Tryz.func244, Tryz.ntmps244
  go_wp2_with fail
  go_loopw [5, 8] (fun _ i wr => ∃ j : Nat, j ≤ n ∧ i = .int .i64 j ∧ Below w.heap.size w wr ∧ Hid (∀ i, i < j → p i = false)) (fun _ i _ => n - (intOf i).toNat)
  case atStart => exact ⟨0, Nat.zero_le _, rfl, Below.refl _ _, fun i hi => absurd hi (by omega)⟩
  case round =>
    obtain ⟨j, hj, rfl, hb, hno⟩ := hrel
    by_cases hlt : j < n
    · obtain ⟨b, off, rfl, hc0, hc1⟩ := srcNt (h.below hb) hlt HX.out
      have hc := HP.out wr j hlt hb
      cases hq : p j with
      | true =>
        rw [hq] at hc
        have HIT := Lib.hid (hit_at p n j hlt hq hno)
        clear hq
        go_wp2_with (go_at_fn g; refine hc.mono ?_; rintro e w' ⟨rfl, hb1⟩)
        go_ret
        exact ⟨ret_int HIT.out.symm, hb.trans (hb1.mono hb.size)⟩
      | false =>
        rw [hq] at hc
        have hno2 : Hid (∀ i, i < j + 1 → p i = false) := fun i hi => by
          by_cases e : i = j
          · rw [e]; exact hq
          · exact hno i (by omega)
        clear hq hno
        go_wp2_with (go_at_fn g; refine hc.mono ?_; rintro e w' ⟨rfl, hb1⟩)
        go_roundw
        case rel => exact ⟨j + 1, by omega, by go_num, hb.trans (hb1.mono hb.size), hno2⟩
        case measure => simp [intOf] <;> omega
    · obtain rfl : j = n := by omega
      have HIT := Lib.hid (hit_none p j hno)
      go_wp2_with fail
      go_ret
      exact ⟨ret_int HIT.out.symm, hb⟩
set_option maxRecDepth 100000 in
theorem ContFN_any (g : Nat) (lb : Array Value) (eg : ∀ args w, (callFunc g args).run Tryz.prog w = .ok (.enter g args) w) (A : Option Addr) (n c : Nat) (xs : List Value) (a0 a1 : Nat → Value) (p : Nat → Bool) (w : World)
    (h : Sl w w.heap.size 2 A n xs) (hbig : n ≤ 9223372036854775807) (hx : ∀ j, j < n → xs[j * 2]? = some (a0 j) ∧ xs[j * 2 + 1]? = some (a1 j))
    (hp : ∀ W j, j < n → Below w.heap.size w W → Calls Tryz.prog g (#[.agg #[a0 j, a1 j]] ++ lb) W (BoolPost (p j) W)) :
    Calls Tryz.prog 204 #[.slice A n c, .func (.func g) #[] lb] w (BoolPost (anyN p n) w) := by
  have HC := Lib.hid (IdxFN_any g lb eg A n c xs a0 a1 p w h hbig hx hp)
  have HA := Lib.hid (hit_any p n)
  clear hp hx h
  go_enter Tryz.func204, Tryz.ntmps204
  go_wp2_with fail
  refine HC.out.mono ?_
  rintro e w1 ⟨rfl, hb⟩
  go_wp2_with fail
  go_ret
  exact ⟨ret_bool HA.out, hb⟩
end Go.Proofs.YthfjmlcjkbgboaaGreatDoor
