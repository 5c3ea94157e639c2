/- What rules look at: plainly, and the walks of vars.one, only, bare, fields. -/
import Derived.Test.YtchoenfclfafiaaDoorArgA
import Derived.Test.YtchoenfclfafiaaDoorFldA
import Derived.Test.YtchoenfclfafiaaDoorOctB
import Derived.Deep.RegionHeld3
import Derived.Laws.OwnMore
namespace Go.Proofs.YtchoenfclfafiaaDoor
open Go.RowKit

def isN (name : ByteArray) (x : Pair) : Bool := name.toList.isEmpty || (x.1.toList == name.toList)
def onlyP (l : List Pair) (name : ByteArray) : List Pair := l.filter (isN name)
def bareP (l : List Pair) : List Pair := l.map fun x => (x.1, x.1)
def fieldP (f : PairV) : Pair := (bs (lowerL f.1.data.toList), f.2)
def fieldsP (fs : List PairV) : List Pair := fs.map fieldP
theorem onlyP_snoc (l : List Pair) (name : ByteArray) (k : Nat) (h : k < l.length) : onlyP (l.take (k + 1)) name = onlyP (l.take k) name ++ if isN name l[k] = true then [l[k]] else [] := by
  unfold onlyP
  rw [List.take_succ_eq_append_getElem h, List.filter_append]
  by_cases c : isN name l[k] = true <;> simp [c]
theorem onlyP_le (l : List Pair) (name : ByteArray) (k : Nat) : (onlyP (l.take k) name).length ≤ k := Nat.le_trans (List.length_filter_le _ _) (List.length_take_le _ _)
def RowA (l : List Pair) (w : World) (e : Ending) (w' : World) : Prop := ∃ v, e = .returned v ∧ OwnA w' w.heap.size v l ∧ Below w.heap.size w w'
def OnlyRel (w : World) (l : List Pair) (name : ByteArray) (v i : Value) (wr : World) : Prop :=
  ∃ k : Nat, k ≤ l.length ∧ i = .int .i64 k ∧ OwnA wr w.heap.size v (onlyP (l.take k) name) ∧ Below w.heap.size w wr
def MapRel (w : World) (f : List Pair) (v i : Value) (wr : World) : Prop :=
  ∃ k : Nat, k ≤ f.length ∧ i = .int .i64 k ∧ OwnA wr w.heap.size v (f.take k) ∧ Below w.heap.size w wr
section
variable {ops : Array Oper} {o : Oper} {a : Act} {Q : Exit → Act → World → Prop} {w : World}
theorem step_append_a {K : Act → World → Prop} {E : Prop} (hgd : o.guard = none) (s x : Operand) (ho : o.op = .call { callee := .builtin .append, args := #[s, x], argTypes := #[23, 23] })
    (base : Nat) (v : Value) (l : List Pair) (hs : a.eval s = v) (hown : OwnA w base v l) (hbase : base ≤ w.heap.size)
    (vs : List Value) (new : Pair) (hv : vs = cellsA new) (g0 : Nat) (hg0 : w.heap.size = g0) (c : Nat) (hx : a.eval x = .slice (some ⟨g0, 0, none⟩) 1 c)
    (hbytes : l.length ≤ 4194304)
    (h : ∀ v' w', OwnA w' base v' (l ++ [new]) → Below base w w' → (∀ g, g < w.heap.size → v.ownBlock ≠ some g → w'.heap[g]? = w.heap[g]?) → w.heap.size < w'.heap.size → K (a.put o.dst v') w') :
    if Region.wanted o (yielded ops a.tmps) = true then Oper.wp Tryd.prog o a (w.alloc (.cells vs.toArray 37)) K Q else E := by
  subst hv; subst hg0
  obtain ⟨i0, hi, hz0, hz1, hz2⟩ := info_parts info_arg
  have hw : Region.wanted o (yielded ops a.tmps) = true := by simp [Region.wanted, hgd]
  rw [if_pos hw]
  exact wp_append_kept s x 23 ho base 37 i0 _ 2 32 Tryd.underlying23 hi hz0 hz1 hz2 rfl (by decide) v l.length (l.flatMap cellsA) hs hown hbase (cellsA new) 1 c hx rfl
    (fun u hu => cellsA_one [new] u (by simpa using hu)) (by unfold maxLen; omega) (by omega) fun v' w' h1 h2 h3 h4 => h v' w' (by unfold OwnA; rw [List.length_append, List.flatMap_append]; simpa using h1) h2 h3 h4
end
theorem cell_same {w w' : World} {g : Nat} {x : Option Value} (h : w'.heap[g]? = w.heap[g]?) (i : Nat) (hc : w.cell? ⟨g, i, none⟩ = x) : w'.cell? ⟨g, i, none⟩ = x := by rw [← hc]; simp only [World.cell?, h]
theorem own_new (w : World) (x : Pair) : OwnA (w.alloc (.cells #[.string x.1, .string x.2] 37)) w.heap.size (.slice (some ⟨w.heap.size, 0, none⟩) 1 1) [x] :=
  World.ownsRow_lit w #[.string x.1, .string x.2] 1 (Nat.le_refl _) (by decide) rfl
theorem undrewA {B : Nat} {W w' : World} (hb : Below B W.drew w') : Below B W w' := ⟨hb.os, hb.tape, hb.output, hb.size, hb.block⟩

set_option maxRecDepth 100000 in
set_option maxHeartbeats 800000 in
theorem only_any (l : List Pair) (A : Option Addr) (c : Nat) (name : ByteArray) (w : World) (h : Sl w w.heap.size 2 A l.length (l.flatMap cellsA)) (hl : l.length ≤ 4194304) :
    Calls Tryd.prog 35 #[.slice A l.length c, .string name] w (RowA (onlyP l name) w) := by
  go_enter Tryd.func35, Tryd.ntmps35
  go_wp2_with fail
  go_loopw [5, 10] (fun v i wr => OnlyRel w l name v i wr) (fun _ i _ => l.length - (intOf i).toNat)
  case atStart => exact ⟨0, Nat.zero_le _, rfl, OwnA.nil _ _, Below.refl _ _⟩
  case round =>
    obtain ⟨k, hk, rfl, hO, hb⟩ := hrel
    by_cases hlt : k < l.length
    · have d1 : decide ((k : Int) < (l.length : Int)) = true := by simp; omega
      have i7 : IntKind.i64.wrap ((k : Int) + 1) = (k : Int) + 1 := IntWalk.i64_in _ (by omega)
      obtain ⟨b, off, rfl, hbB, x0, x1⟩ := arg_at (h.below hb) k hlt
      have HG := Lib.hid (onlyP_snoc l name k hlt)
      have hgl := onlyP_le l name k
      have hal : Below wr.heap.size wr (wr.alloc (.cells #[.string l[k].1, .string l[k].2] 37)) := (Below.refl _ _).alloc (Nat.le_refl _) _
      have hO2 := hO.below hal
      have hz2 : w.heap.size ≤ (wr.alloc (.cells #[.string l[k].1, .string l[k].2] 37)).heap.size := Nat.le_trans hb.size hal.size
      have hB2 := hb.trans (hal.mono hb.size)
      cases hq : isN name l[k] with
      | true =>
        have HG2 : Hid (onlyP (l.take (k + 1)) name = onlyP (l.take k) name ++ [l[k]]) := by unfold Hid; rw [HG.out, if_pos hq]
        unfold isN at hq
        generalize l[k] = X at *
        obtain ⟨n1, n2⟩ := X
        dsimp only at *
        generalize onlyP (l.take k) name = acc at *
        obtain ⟨Ao, co, rfl, _⟩ := hO.form
        have HO2 := Lib.hid hO2
        have HB2 := Lib.hid hB2
        have HZ2 := Lib.hid hz2
        clear hO hal hO2 hB2 hb HG hz2
        cases he : name.toList.isEmpty with
        | true =>
          clear hq
          go_wp2_with (at_builtin; refine wpList_append_a rfl (.tmp 22) (.tmp 24) rfl w.heap.size (.slice Ao acc.length co) acc rfl (by exact HO2.out) (by exact HZ2.out) _ (n1, n2) rfl (wr.heap.size + 1) (by rw [World.size_alloc]) 1 rfl (by omega) ?_; intro v5 w5 hO5 hb5 hk5 hz5)
          exact ⟨⟨k + 1, by omega, rfl, by rw [HG2.out]; exact hO5, HB2.out.trans hb5⟩, by dsimp only [intOf]; omega⟩
        | false =>
          rw [he, Bool.false_or] at hq
          go_wp2_with (at_builtin; refine wpList_append_a rfl (.tmp 22) (.tmp 24) rfl w.heap.size (.slice Ao acc.length co) acc rfl (by exact HO2.out) (by exact HZ2.out) _ (n1, n2) rfl (wr.heap.size + 1) (by rw [World.size_alloc]) 1 rfl (by omega) ?_; intro v5 w5 hO5 hb5 hk5 hz5)
          exact ⟨⟨k + 1, by omega, rfl, by rw [HG2.out]; exact hO5, HB2.out.trans hb5⟩, by dsimp only [intOf]; omega⟩
      | false =>
        have HG2 : Hid (onlyP (l.take (k + 1)) name = onlyP (l.take k) name) := by unfold Hid; rw [HG.out, if_neg (by rw [hq]; decide), List.append_nil]
        unfold isN at hq
        rw [Bool.or_eq_false_iff] at hq
        obtain ⟨he, hq⟩ := hq
        generalize l[k] = X at *
        obtain ⟨n1, n2⟩ := X
        dsimp only at *
        have HO2 := Lib.hid hO2
        have HB2 := Lib.hid hB2
        clear hO hal hO2 hB2 hb HG
        go_wp2_with fail
        exact ⟨⟨k + 1, by omega, rfl, by rw [HG2.out]; exact HO2.out, HB2.out⟩, by dsimp only [intOf]; omega⟩
    · obtain rfl : k = l.length := by omega
      have d1 : decide ((l.length : Int) < (l.length : Int)) = false := by simp
      rw [List.take_length] at hO
      go_wp2_with fail
      go_ret
      exact ⟨_, rfl, hO, hb⟩

set_option maxRecDepth 100000 in
set_option maxHeartbeats 800000 in
theorem bare_any (l : List Pair) (A : Option Addr) (c : Nat) (w : World) (h : Sl w w.heap.size 2 A l.length (l.flatMap cellsA)) (hl : l.length ≤ 4194304) :
    Calls Tryd.prog 36 #[.slice A l.length c] w (RowA (bareP l) w) := by
  have hbl : (bareP l).length = l.length := by unfold bareP; rw [List.length_map]
  have HBL := Lib.hid hbl
  clear hbl
  go_enter Tryd.func36, Tryd.ntmps36
  go_wp2_with fail
  go_loopw [3, 8] (fun v i wr => MapRel w (bareP l) v i wr) (fun _ i _ => l.length - (intOf i).toNat)
  case atStart => exact ⟨0, Nat.zero_le _, rfl, OwnA.nil _ _, Below.refl _ _⟩
  case round =>
    obtain ⟨k, hk, rfl, hO, hb⟩ := hrel
    rw [HBL.out] at hk
    by_cases hlt : k < l.length
    · have d1 : decide ((k : Int) < (l.length : Int)) = true := by simp; omega
      have i7 : IntKind.i64.wrap ((k : Int) + 1) = (k : Int) + 1 := IntWalk.i64_in _ (by omega)
      obtain ⟨b, off, rfl, hbB, x0, x1⟩ := arg_at (h.below hb) k hlt
      have HG : Hid ((bareP l).take (k + 1) = (bareP l).take k ++ [(l[k].1, l[k].1)]) := by
        unfold Hid
        rw [List.take_succ_eq_append_getElem (by rw [HBL.out]; exact hlt)]
        simp [bareP]
      have hgl : ((bareP l).take k).length ≤ k := List.length_take_le _ _
      have hal : Below wr.heap.size wr (wr.alloc (.cells #[.string l[k].1, .string l[k].2] 37)) := (Below.refl _ _).alloc (Nat.le_refl _) _
      have hO2 := hO.below hal
      have hz2 : w.heap.size ≤ (wr.alloc (.cells #[.string l[k].1, .string l[k].2] 37)).heap.size := Nat.le_trans hb.size hal.size
      have hB2 := hb.trans (hal.mono hb.size)
      generalize l[k] = X at *
      obtain ⟨n1, n2⟩ := X
      dsimp only at *
      generalize (bareP l).take k = acc at *
      obtain ⟨Ao, co, rfl, _⟩ := hO.form
      have HO2 := Lib.hid hO2
      have HB2 := Lib.hid hB2
      have HZ2 := Lib.hid hz2
      clear hO hal hO2 hB2 hb hz2
      go_wp2_with (at_builtin; refine wpList_append_a rfl (.tmp 12) (.tmp 18) rfl w.heap.size (.slice Ao acc.length co) acc rfl (by exact HO2.out) (by exact HZ2.out) _ (n1, n1) rfl (wr.heap.size + 1) (by rw [World.size_alloc]) 1 rfl (by omega) ?_; intro v5 w5 hO5 hb5 hk5 hz5)
      exact ⟨⟨k + 1, by rw [HBL.out]; omega, rfl, by rw [HG.out]; exact hO5, HB2.out.trans hb5⟩, by dsimp only [intOf]; omega⟩
    · obtain rfl : k = l.length := by omega
      have d1 : decide ((l.length : Int) < (l.length : Int)) = false := by simp
      rw [← HBL.out, List.take_length] at hO
      go_wp2_with fail
      go_ret
      exact ⟨_, rfl, hO, hb⟩

set_option maxRecDepth 100000 in
set_option maxHeartbeats 1600000 in
theorem fields_any (m t : ByteArray) (fs : List PairV) (A : Option Addr) (c : Nat) (w : World) (h : Sl w w.heap.size 2 A fs.length (fs.flatMap cellsV)) (hs : ∀ f ∈ fs, f.1.size ≤ maxLen) (hl : fs.length ≤ 4194304) :
    Calls Tryd.prog 37 #[.agg #[.string m, .string t, .slice A fs.length c]] w (RowA (fieldsP fs) w) := by
  have hbl : (fieldsP fs).length = fs.length := by unfold fieldsP; rw [List.length_map]
  have HBL := Lib.hid hbl
  have HSZ := Lib.hid hs
  have hb0 : Below w.heap.size w (w.alloc (.cells #[.string m, .string t, .slice A fs.length c] 29)) := (Below.refl _ _).alloc (Nat.le_refl _) _
  have HB0 := Lib.hid hb0
  clear hbl hs hb0
  go_enter Tryd.func37, Tryd.ntmps37
  go_wp2_with fail
  go_loopw [3, 9] (fun v i wr => MapRel w (fieldsP fs) v i wr) (fun _ i _ => fs.length - (intOf i).toNat)
  case atStart => exact ⟨0, Nat.zero_le _, rfl, OwnA.nil _ _, HB0.out⟩
  case round =>
    obtain ⟨k, hk, rfl, hO, hb⟩ := hrel
    rw [HBL.out] at hk
    by_cases hlt : k < fs.length
    · have d1 : decide ((k : Int) < (fs.length : Int)) = true := by simp; omega
      have i7 : IntKind.i64.wrap ((k : Int) + 1) = (k : Int) + 1 := IntWalk.i64_in _ (by omega)
      obtain ⟨b, off, rfl, hbB, x0, x1⟩ := fld_at (h.below hb) k hlt
      have hsz := HSZ.out fs[k] (List.getElem_mem hlt)
      have HG : Hid ((fieldsP fs).take (k + 1) = (fieldsP fs).take k ++ [(bs (lowerL fs[k].1.data.toList), fs[k].2)]) := by
        unfold Hid
        rw [List.take_succ_eq_append_getElem (by rw [HBL.out]; exact hlt)]
        simp [fieldsP, fieldP]
      have hgl : ((fieldsP fs).take k).length ≤ 4194304 := Nat.le_trans (List.length_take_le _ _) (by omega)
      generalize fs[k] = X at *
      obtain ⟨n1, n2⟩ := X
      dsimp only at *
      generalize (fieldsP fs).take k = acc at *
      have HLO : Hid (∀ W, Calls Tryd.prog 42 #[.string n1] W (StrPost (bs (lowerL n1.data.toList)) W)) := fun W => Lower_any n1 W hsz
      generalize bs (lowerL n1.data.toList) = L1 at *
      have hz := hb.size
      obtain ⟨Ao, co, rfl, _⟩ := hO.form
      have HO := Lib.hid hO
      have HB2 := Lib.hid hb
      clear hO hb hsz
      go_wp2_with fail
      have hN := heap_alloc_new wr (.cells #[.string n1, .string n2] 65)
      have hBW : Below wr.heap.size wr (wr.alloc (.cells #[.string n1, .string n2] 65)) := (Below.refl _ _).alloc (Nat.le_refl _) _
      have hzW : wr.heap.size < (wr.alloc (.cells #[.string n1, .string n2] 65)).heap.size := by simp
      generalize wr.alloc (.cells #[.string n1, .string n2] 65) = W0 at *
      have g0 := cell_of_row _ wr.heap.size 0 _ _ _ hN
      have g1 := cell_of_row _ wr.heap.size 1 _ _ _ hN
      simp only [List.getElem?_toArray, List.getElem?_cons_zero, List.getElem?_cons_succ] at g0 g1
      have HS : Hid (∀ W, Below W0.heap.size W0 W → W.cell? ⟨wr.heap.size, 0, none⟩ = some (.string n1) ∧ W.cell? ⟨wr.heap.size, 1, none⟩ = some (.string n2)) := fun W hb => ⟨cell_kept hb g0, cell_kept hb g1⟩
      have HBW := Lib.hid hBW
      have HFAR : Hid ((Value.slice Ao acc.length co).ownBlock ≠ some wr.heap.size) := fun e => by have := (HO.out.lt _ e).2; omega
      clear hN hBW x0 x1
      go_region_held3 (fun w' => w'.cell? ⟨wr.heap.size, 0, none⟩ = some (.string n1) ∧ w'.cell? ⟨wr.heap.size, 1, none⟩ = some (.string n2))
        (first | exact hS5 | exact HS.out _ (hbb8.alloc hbb8.size _) | exact HS.out _ hbb8 | go_keep)
        (first
          | (go_at_call 42; (with_reducible refine (HLO.out _).mono ?_); rintro e w8 ⟨rfl, hb8⟩; have hbb8 : Below W0.heap.size W0 w8 := undrewA hb8; have hbr8 : Below wr.heap.size wr w8 := HBW.out.trans (hbb8.mono (Nat.le_of_lt hzW)); have hO8 := HO.out.below hbr8; have hz8 : w.heap.size ≤ w8.heap.size := Nat.le_trans hz hbr8.size)
          | (refine step_append_a rfl (.tmp 13) (.tmp 20) rfl w.heap.size (.slice Ao acc.length co) acc rfl (by exact hO8) (by exact hz8) _ (L1, n2) rfl w8.heap.size rfl 1 rfl hgl ?_; intro v5 w5 hO5 hb5 hk5 hz5; have hh5 := hk5 wr.heap.size (Nat.lt_of_lt_of_le hzW hbb8.size) HFAR.out; have hS5 : w5.cell? ⟨wr.heap.size, 0, none⟩ = some (.string n1) ∧ w5.cell? ⟨wr.heap.size, 1, none⟩ = some (.string n2) := ⟨cell_same hh5 0 (HS.out _ hbb8).1, cell_same hh5 1 (HS.out _ hbb8).2⟩))
      have hb25 : Below w.heap.size w w5 := HB2.out.trans ((hbr8.mono hz).trans hb5)
      clear HS HLO hO8 hb8 hbb8 hS5 hh5 hk5 g0 g1 hb5 hbr8
      go_wp2_with fail
      exact ⟨⟨k + 1, by rw [HBL.out]; omega, rfl, by rw [HG.out]; exact hO5, hb25⟩, by dsimp only [intOf]; omega⟩
    · obtain rfl : k = fs.length := by omega
      have d1 : decide ((fs.length : Int) < (fs.length : Int)) = false := by simp
      rw [← HBL.out, List.take_length] at hO
      go_wp2_with fail
      go_ret
      exact ⟨_, rfl, hO, hb⟩
set_option maxRecDepth 100000 in
theorem vone_any (s : ByteArray) (w : World) : Calls Tryd.prog 31 #[.string s] w (RowA [(ByteArray.mk #[], s)] w) := by
  go_enter Tryd.func31, Tryd.ntmps31
  go_wp2_with fail
  go_ret
  exact ⟨_, rfl, own_new w (ByteArray.mk #[], s), (Below.refl _ _).alloc (Nat.le_refl _) _⟩
end Go.Proofs.YtchoenfclfafiaaDoor
