/- The walk of PipeJoins. -/
import Derived.Test.YtdbipccopijgeaaDoorPipR
import Derived.Test.YtdbipccopijgeaaDoorClI
import Derived.Test.YtdbipccopijgeaaDoorOpenI
import Derived.Laws.OwnMore
namespace Go.Proofs.YtdbipccopijgeaaDoor
open Go.RowKit

theorem run_append_none_c {P : Program} {w : World} (base : Nat) (t ty e : TypeId) (i : TypeInfo) (size : Nat) (ht : P.underlying t = some (.slice e)) (hi : P.info? e = some i)
    (v : Value) (n c : Nat) (xs : List Value) (hown : w.ownsRow base e size v n xs) :
    (Builtin.append_ #[t, t] ty #[v, .slice none 0 c]).run P w = .ok v w := by
  rcases hown.2 with ⟨rfl, rfl⟩ | ⟨g, cap, cur, rfl, _, _, hnc, _⟩
  · simp [Builtin.append_, run_underlying ht, sizeOf, typeInfo, hi, Builtin.lenOf, Builtin.firstCells]
  · simp [Builtin.append_, run_underlying ht, sizeOf, typeInfo, hi, Builtin.lenOf, Builtin.firstCells, hnc, storeCells]
def OwnI (w : World) (base : Nat) (v : Value) (l : List Int) : Prop := w.ownsRow base 3 1 v l.length (l.map (Value.int .i64))
theorem OwnI.form {w : World} {base : Nat} {v : Value} {l : List Int} (h : OwnI w base v l) : ∃ A c, v = .slice A l.length c ∧ Sl w w.heap.size 1 A l.length (l.map (Value.int .i64)) := by
  rcases h.2 with ⟨h1, h2⟩ | ⟨g, cap, cur, h1, hb, hg, _⟩
  · have : l = [] := List.eq_nil_of_length_eq_zero h2
    subst this
    exact ⟨none, 0, h1, Sl.nil _ _ _ _⟩
  · refine ⟨_, _, h1, by simp, fun hp => ⟨g, 0, rfl, ?_, fun j hj => ?_⟩⟩
    · exact (World.ownsRow.lt h g (by rw [h1]; simp [Value.ownBlock])).2
    · have := World.ownsRow.cells (g := g) h (by rw [h1]; simp [Value.ownBlock]) j _ (List.getElem?_eq_getElem hj)
      rw [addr_add] at this
      rw [Nat.zero_add]
      exact this
section
variable {ops : Array Oper} {rest : List Oper} {o : Oper} {a : Act} {Q : Exit → Act → World → Prop} {w : World}
theorem wpList_append_ii (hgd : o.guard = none) (s x : Operand) (ho : o.op = .call { callee := .builtin .append, args := #[s, x], argTypes := #[24, 24] })
    (base B : Nat) (v : Value) (A : Option Addr) (c : Nat) (l m : List Int) (hs : a.eval s = v) (hx : a.eval x = .slice A m.length c) (hown : OwnI w base v l) (hsl : Sl w B 1 A m.length (m.map (Value.int .i64))) (hbase : base ≤ w.heap.size)
    (hbytes : l.length + m.length ≤ 4194304)
    (h : ∀ v' w', OwnI w' base v' (l ++ m) → Below base w w' → w.heap.size ≤ w'.heap.size → wpList Tryd.prog ops Q rest (a.put o.dst v') w') :
    wpList Tryd.prog ops Q (o :: rest) a w := by
  obtain ⟨i0, hi, hz0, hz1, hz2⟩ := info_parts info_I
  refine wpList_plain hgd fun K hK => ?_
  cases A with
  | none =>
    have hm : m = [] := by
      cases m with
      | nil => rfl
      | cons y r => obtain ⟨b, off, e, _⟩ := hsl.src (by simp); cases e
    subst hm
    have hr := run_append_none_c (P := Tryd.prog) (w := w) base 24 o.type 3 i0 1 Tryd.underlying24 hi v l.length c (l.map (Value.int .i64)) hown
    unfold Oper.wp execOp
    rw [List.length_nil] at hx
    simp only [ho, resolve, invoke, builtin, Sem.run_bind, Sem.run_pure, Result.andThen_ok, List.map_toArray, List.map_cons, List.map_nil, hs, hx, hr]
    exact hK _ _ (h v w (by rw [List.append_nil]; exact hown) (Below.refl _ _) (Nat.le_refl _))
  | some ad =>
    have hcell : ∀ j z, (m.map (Value.int .i64))[j]? = some z → w.cell? (ad.add j) = some z := fun j z hz => by
      have hj := (List.getElem?_eq_some_iff.1 hz).1
      obtain ⟨b, off, e, _, hc⟩ := hsl.src (by omega)
      have e := Option.some.inj e
      subst e
      have := hc j hj
      rw [List.getElem?_eq_getElem hj] at hz
      rw [show (⟨b, off, none⟩ : Addr).add j = ⟨b, off + j, none⟩ by unfold Addr.add; split <;> simp_all, this]
      exact hz
    refine wp_append_own (P := Tryd.prog) w s x 24 ho base 3 i0 _ 1 8 Tryd.underlying24 hi hz0 hz1 hz2 rfl (by decide) v l.length (l.map (Value.int .i64)) hs hown ad m.length c (m.map (Value.int .i64)) hx (by simp) hcell (fun u hu => by obtain ⟨b, _, rfl⟩ := List.mem_map.1 hu; rfl)
      (by unfold maxLen; omega) (by omega) hbase ?_
    intro v' w' ho' hgr _
    exact hK _ _ (h v' w' (by unfold OwnI; rw [List.length_append, List.map_append]; exact ho') ((Below.refl _ _).grown hgr hbase (fun k hk => (World.ownsRow.lt hown k hk).1)) hgr.size)
end

theorem fold_append (a b : List Int) (l : List UInt8) : foldP (a ++ b) l = foldP b (foldP a l) := by unfold foldP; rw [List.foldl_append]
theorem first_run : runE [2, 10] [37, 52, 49] = 0 ∧ runT [2, 10] [37, 52, 49] = [49] := by
  have e : runE [2, 10] [37, 52, 49] = 0 := by decide +kernel
  refine ⟨e, ?_⟩
  unfold runT
  rw [if_neg (by rw [e]; decide)]
  show oneP 10 (oneP 2 [37, 52, 49]) = _
  rw [show oneP 2 [37, 52, 49] = [65] by decide +kernel]
  show Lib.decDigits 1 = _
  rw [Lib.decDigits]; rfl
theorem run_bad {ks : List Int} {l : List UInt8} (h : runE ks l ≠ 0) : runT ks l = [] := by unfold runT; rw [if_pos h]
theorem run_good {ks : List Int} {l : List UInt8} (h : runE ks l = 0) : runT ks l = foldP ks l := by unfold runT; rw [if_neg (by rw [h]; decide)]

set_option maxRecDepth 100000 in
set_option maxHeartbeats 3200000 in
theorem pipeJoins_walk (a b : List Int) (A1 A2 : Option Addr) (c1 c2 : Nat) (s : ByteArray) (w : World) (h1 : Sl w w.heap.size 1 A1 a.length (a.map (Value.int .i64))) (h2 : Sl w w.heap.size 1 A2 b.length (b.map (Value.int .i64)))
    (l1 : a.length ≤ 1048576) (l2 : b.length ≤ 1048576) (hlib : LibOk w) (htab : TabOk w) :
    Calls Tryd.prog 8 #[.slice A1 a.length c1, .slice A2 b.length c2, .string s] w fun e w' => e = .returned (.bool true) ∧ Below w.heap.size w w' := by
  have HLB : Hid (∀ W, Below w.heap.size w W → LibOk W ∧ TabOk W) := fun W hb => ⟨hlib.below hb, htab.below hb⟩
  have H0 : Hid (∀ W g, Below w.heap.size w W → W.heap.size = g → Calls Tryd.prog 30 #[.slice (some ⟨g, 0, none⟩) 2 2, .string (ByteArray.mk #[37, 52, 49])] (W.alloc (.cells #[.int .i64 2, .int .i64 10] 3)) fun e w' => e = .returned (.tuple #[.string (ByteArray.mk #[49]), .int .i64 0]) ∧ Below (W.alloc (.cells #[.int .i64 2, .int .i64 10] 3)).heap.size (W.alloc (.cells #[.int .i64 2, .int .i64 10] 3)) w') := fun W g hb hg => by
    have hba := hb.alloc hb.size (.cells #[.int .i64 2, .int .i64 10] 3)
    have := PRun_any [2, 10] (some ⟨g, 0, none⟩) 2 (ByteArray.mk #[37, 52, 49]) (W.alloc (.cells #[.int .i64 2, .int .i64 10] 3)) (Sl.lit hg (by rw [← hg]; simp) rfl rfl) (by decide) (hlib.below hba) (htab.below hba)
    rw [show (ByteArray.mk #[37, 52, 49]).data.toList = [37, 52, 49] from rfl, first_run.1, first_run.2] at this
    exact this
  have HA : Hid (∀ W, Below w.heap.size w W → Sl W W.heap.size 1 A1 a.length (a.map (Value.int .i64))) := fun W hb => (h1.below hb).more hb.size
  have HB : Hid (∀ W, Below w.heap.size w W → Sl W W.heap.size 1 A2 b.length (b.map (Value.int .i64))) := fun W hb => (h2.below hb).more hb.size
  have HRA : Hid (∀ W, Below w.heap.size w W → _) := fun W hb => PRun_any a A1 c1 s W (HA.out W hb) (by omega) (hlib.below hb) (htab.below hb)
  have HRB : Hid (∀ (x : ByteArray) W, Below w.heap.size w W → _) := fun x W hb => PRun_any b A2 c2 x W (HB.out W hb) (by omega) (hlib.below hb) (htab.below hb)
  have HCL : Hid (∀ W, Below w.heap.size w W → _) := fun W hb => CloneI_any A1 a.length c1 (a.map (Value.int .i64)) W (HA.out W hb) (fun u hu => by obtain ⟨b, _, rfl⟩ := List.mem_map.1 hu; rfl) (by omega)
  have HRC : Hid (∀ (A : Option Addr) (c : Nat) W, Below w.heap.size w W → Sl W W.heap.size 1 A (a.length + b.length) ((a ++ b).map (Value.int .i64)) → Calls Tryd.prog 30 #[.slice A (a.length + b.length) c, .string s] W fun e w' => e = .returned (.tuple #[.string (bs (runT (a ++ b) s.data.toList)), .int .i64 (runE (a ++ b) s.data.toList)]) ∧ Below W.heap.size W w') := fun A c W hb hs => by
    have := PRun_any (a ++ b) A c s W (by rw [List.length_append]; exact hs) (by rw [List.length_append]; omega) (hlib.below hb) (htab.below hb)
    rw [List.length_append] at this
    exact this
  obtain ⟨e1, he1⟩ : ∃ e1, runE a s.data.toList = e1 := ⟨_, rfl⟩
  obtain ⟨t1, ht1⟩ : ∃ t1, bs (runT a s.data.toList) = t1 := ⟨_, rfl⟩
  rw [he1, ht1] at HRA
  obtain ⟨e2, he2⟩ : ∃ e2, runE b t1.data.toList = e2 := ⟨_, rfl⟩
  obtain ⟨t2, ht2⟩ : ∃ t2, bs (runT b t1.data.toList) = t2 := ⟨_, rfl⟩
  obtain ⟨e3, he3⟩ : ∃ e3, runE (a ++ b) s.data.toList = e3 := ⟨_, rfl⟩
  obtain ⟨t3, ht3⟩ : ∃ t3, bs (runT (a ++ b) s.data.toList) = t3 := ⟨_, rfl⟩
  have HRB1 : Hid (∀ W, Below w.heap.size w W → Calls Tryd.prog 30 #[.slice A2 b.length c2, .string t1] W fun e w' => e = .returned (.tuple #[.string t2, .int .i64 e2]) ∧ Below W.heap.size W w') := fun W hb => by
    have := HRB.out t1 W hb
    rw [he2, ht2] at this
    exact this
  rw [he3, ht3] at HRC
  have hz1 : e1 ≠ 0 → t1.toList.isEmpty = true := fun h => by rw [Lib.toList_data, ← ht1, bs_toList, run_bad (by rw [he1]; exact h)]; rfl
  have hz3 : e3 ≠ 0 → t3.toList.isEmpty = true := fun h => by rw [Lib.toList_data, ← ht3, bs_toList, run_bad (by rw [he3]; exact h)]; rfl
  have heq : e1 = 0 → e2 = 0 → e3 = 0 → (t2.toList == t3.toList) = true := fun h1 h2 h3 => by
    rw [beq_iff_eq, Lib.toList_data, Lib.toList_data, ← ht2, ← ht3, bs_toList, bs_toList, run_good (by rw [he2]; exact h2), run_good (by rw [he3]; exact h3), fold_append, ← ht1, bs_toList, run_good (by rw [he1]; exact h1)]
  have HZ1 := Lib.hid hz1
  have HZ3 := Lib.hid hz3
  have HEQ := Lib.hid heq
  clear h1 h2 hlib htab HRB he1 he2 he3 ht1 ht2 ht3 hz1 hz3 heq
  go_enter Tryd.func8, Tryd.ntmps8
  go_wp2_with fail
  refine (H0.out w w.heap.size (Below.refl _ _) rfl).mono ?_
  rintro e w1 ⟨rfl, hb1⟩
  have hb1 := below_new hb1 (Nat.le_refl _)
  have HX1 := Lib.hid (HRA.out w1 hb1)
  go_wp2_with fail
  refine HX1.out.mono ?_
  rintro e w2 ⟨rfl, hb2⟩
  have hb2 := hb1.trans (hb2.mono hb1.size)
  have HX2 := Lib.hid (HRB1.out w2 hb2)
  go_wp2_with fail
  refine HX2.out.mono ?_
  rintro e w3 ⟨rfl, hb3⟩
  have hb3 := hb2.trans (hb3.mono hb2.size)
  have HX3 := Lib.hid (HCL.out w3 hb3)
  go_wp2_with fail
  refine HX3.out.mono ?_
  rintro e w4 ⟨v4, rfl, hO4, hb4⟩
  have hO4' : OwnI w4 w3.heap.size v4 a := hO4
  have hb4' := hb3.trans (hb4.mono hb3.size)
  have hsl4 := HB.out w4 hb4'
  have hz4 : w3.heap.size ≤ w4.heap.size := hb4.size
  clear hb1 hb2 hO4
  go_wp2_with (at_builtin; refine wpList_append_ii rfl _ _ rfl w3.heap.size w4.heap.size v4 A2 c2 a b rfl rfl (by exact hO4') (by exact hsl4) hz4 (by omega) ?_; intro v5 w5 hO5 hb5 hz5; obtain ⟨A5, c5, rfl, hs5⟩ := hO5.form; rw [List.length_append] at hs5; have hb5' := hb4'.trans (hb5.mono hb3.size); have HX5 := Lib.hid (HRC.out A5 c5 w5 hb5' hs5))
  refine HX5.out.mono ?_
  rintro e w6 ⟨rfl, hb6⟩
  have hb6 := hb5'.trans (hb6.mono hb5'.size)
  clear hb3 hb4 hb4' hsl4 hO4' hb5 hb5' hO5 hs5
  by_cases c1 : e1 = 0
  · by_cases c2' : e2 = 0
    · by_cases c3 : e3 = 0
      · have q := HEQ.out c1 c2' c3
        subst c1; subst c2'; subst c3
        go_wp2_with fail
        go_ret
        exact ⟨by first | rfl | (rw [q]), hb6⟩
      · have q := HZ3.out c3
        have d3 : (e3 != 0) = true := bne_iff_ne.2 c3
        have d3' : (e3 == 0) = false := beq_eq_false_iff_ne.2 c3
        subst c1; subst c2'
        go_wp2_with fail
        go_ret
        exact ⟨by first | rfl | (rw [q]), hb6⟩
    · have d2 : (e2 != 0) = true := bne_iff_ne.2 c2'
      subst c1
      by_cases c3 : e3 = 0
      · subst c3
        go_wp2_with fail
        go_ret
        exact ⟨rfl, hb6⟩
      · have q := HZ3.out c3
        have d3 : (e3 != 0) = true := bne_iff_ne.2 c3
        have d3' : (e3 == 0) = false := beq_eq_false_iff_ne.2 c3
        go_wp2_with fail
        go_ret
        exact ⟨by first | rfl | (rw [q]), hb6⟩
  · have q1 := HZ1.out c1
    have d1 : (e1 != 0) = true := bne_iff_ne.2 c1
    have d1' : (e1 == 0) = false := beq_eq_false_iff_ne.2 c1
    by_cases c3 : e3 = 0
    · subst c3
      go_wp2_with fail
      go_ret
      exact ⟨by first | rfl | (rw [q1]), hb6⟩
    · have q := HZ3.out c3
      have d3 : (e3 != 0) = true := bne_iff_ne.2 c3
      have d3' : (e3 == 0) = false := beq_eq_false_iff_ne.2 c3
      go_wp2_with fail
      go_ret
      exact ⟨by first | rfl | (rw [q, q1]), hb6⟩
theorem pipeJoins_any (a b : IArg) (s : ByteArray) (w : World) {v v' : Value} (x : IntsArg w v a) (hx : a.l.length ≤ 1048576) (y : IntsArg w v' b) (hy : b.l.length ≤ 1048576) (_ : s.size ≤ 1048576) (hlib : LibOk w) (htab : Lib.TabIs Tryd.prog w "internal/strconv.uint64pow10" .u64 Lib.pow10Tab) :
    Calls Tryd.prog 8 #[.slice a.A a.l.length a.c, .slice b.A b.l.length b.c, .string s] w fun e w' => e = .returned (.bool true) ∧ Below w.heap.size w w' :=
  pipeJoins_walk a.l b.l a.A b.A a.c b.c s w x.sl y.sl hx hy hlib (TabOk.of htab)
end Go.Proofs.YtdbipccopijgeaaDoor
