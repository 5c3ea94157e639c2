/- Part 11 of the proof: lemmas and walks that the last texts use. -/
import Derived.Test.YtdkbfljhfhjofaaGreatDoorM02
import Derived.Test.YtdkbfljhfhjofaaGreatDoorM07
import Derived.Test.YtdkbfljhfhjofaaGreatDoorM10
import Derived.Lib.OwnKind
import Derived.Laws.OwnMore
namespace Go.Proofs.YtdkbfljhfhjofaaGreatDoor
open Go.RowKit
theorem own_apart {w : World} {base : Nat} {e t : TypeId} {size n g : Nat} {v : Value} {xs : List Value} {cs : Array Value} {fz : Nat × Nat} (h : w.ownsRow base e size v n xs) (hg : w.heap[g]? = some (.cells cs t fz)) (hne : e ≠ t) : v.ownBlock ≠ some g := by
  intro he
  obtain ⟨c, f, hc⟩ := Lib.ownsRow_kind h g he
  rw [hg] at hc
  injection hc with hc
  injection hc with _ ht
  exact hne ht.symm
theorem only_drewN {a w : World} {row : Option Nat} (h : a.grownBy w row) (n : Nat) : a.grownBy (w.drewN n) row := ⟨h.os, h.tape, h.output, h.size, h.block⟩
theorem only_setCell {a w : World} {g : Nat} (h : a.grownBy w (some g)) (j : Nat) (u : Value) : a.grownBy (w.setCell ⟨g, j, none⟩ u) (some g) :=
  ⟨h.os, h.tape, h.output, by simpa [World.setCell] using h.size, fun i hi hne => (Below.heap_setCell w ⟨g, j, none⟩ u i (fun e => hne (by rw [e]))).trans (h.block i hi hne)⟩
theorem only_below {a w w' : World} {row : Option Nat} (h : a.grownBy w row) (hb : Below w.heap.size w w') : a.grownBy w' row :=
  ⟨hb.os.trans h.os, hb.tape.trans h.tape, hb.output.trans h.output, Nat.le_trans h.size hb.size, fun i hi hne => (hb.block i (Nat.lt_of_lt_of_le hi h.size)).trans (h.block i hi hne)⟩
theorem only_trans {a b c : World} {row : Option Nat} (h : a.grownBy b row) (k : b.grownBy c row) : a.grownBy c row :=
  ⟨k.os.trans h.os, k.tape.trans h.tape, k.output.trans h.output, Nat.le_trans h.size k.size, fun i hi hne => (k.block i (Nat.lt_of_lt_of_le hi h.size) hne).trans (h.block i hi hne)⟩
section
variable {ops : Array Oper} {rest : List Oper} {o : Oper} {a : Act} {Q : Exit → Act → World → Prop} {w : World}
end
end Go.Proofs.YtdkbfljhfhjofaaGreatDoor
namespace Go.Proofs.YtdkbfljhfhjofaaGreatDoor
open Go.RowKit
/-- How an element lies in a row. -/
structure RowT (α : Type) where
  e : TypeId
  t : TypeId
  size : Nat
  bytes : Nat
  z : Value
  cells : α → List Value
  hsz : ∀ a, (cells a).length = size
  hpos : 0 < size
  under : Tryz.prog.underlying t = some (.slice e)
  info : (Tryz.prog.info? e).map (fun i => (i.zero, i.size, i.bytes)) = some (some z, size, bytes)
  hz : z.cells.size = size
  one : ∀ a, ∀ u ∈ cells a, u.oneCell' = true
  hbytes : bytes ≤ 64
def OwnG {α : Type} (R : RowT α) (w : World) (base : Nat) (v : Value) (l : List α) : Prop := w.ownsRow base R.e R.size v l.length (l.flatMap R.cells)
theorem OwnG.nil {α : Type} (R : RowT α) (w : World) (base : Nat) : OwnG R w base (.slice none 0 0) [] := World.ownsRow_nil w base R.e R.size
theorem OwnG.below {α : Type} {R : RowT α} {w w' : World} {base : Nat} {v : Value} {l : List α} (h : OwnG R w base v l) (hb : Below w.heap.size w w') : OwnG R w' base v l := ownsRow_below h hb
theorem OwnG.keep {α : Type} {R : RowT α} {w w' : World} {base : Nat} {v : Value} {l : List α} (h : OwnG R w base v l) (hk : ∀ g, v.ownBlock = some g → w'.heap[g]? = w.heap[g]?) : OwnG R w' base v l := by
  refine ⟨h.1, ?_⟩
  rcases h.2 with h0 | ⟨g, cap, cur, h1, h2, h3, h4⟩
  · exact .inl h0
  · exact .inr ⟨g, cap, cur, h1, h2, (hk g (by rw [h1]; rfl)).trans h3, h4⟩
theorem OwnG.low {α : Type} {R : RowT α} {w : World} {base b : Nat} {v : Value} {l : List α} (h : OwnG R w base v l) (hb : b ≤ base) : OwnG R w b v l :=
  ⟨h.1, h.2.imp_right fun ⟨g, cap, cur, h1, h2, h3⟩ => ⟨g, cap, cur, h1, Nat.le_trans hb h2, h3⟩⟩
theorem OwnG.lt {α : Type} {R : RowT α} {w : World} {base : Nat} {v : Value} {l : List α} (h : OwnG R w base v l) : ∀ k, v.ownBlock = some k → base ≤ k ∧ k < w.heap.size := World.ownsRow.lt h
theorem OwnG.head {α : Type} {R : RowT α} {w : World} {base : Nat} {v : Value} {l : List α} (h : OwnG R w base v l) (hl : 0 < l.length) : ∃ g c, v = .slice (some ⟨g, 0, none⟩) l.length c ∧ base ≤ g ∧ g < w.heap.size := by
  rcases h.2 with ⟨h1, h2⟩ | ⟨g, cap, cur, h1, hb, hg, _⟩
  · omega
  · exact ⟨g, cap, h1, hb, (World.ownsRow.lt h g (by rw [h1]; simp [Value.ownBlock])).2⟩
theorem OwnG.cases {α : Type} {R : RowT α} {w : World} {base : Nat} {v : Value} {l : List α} (h : OwnG R w base v l) : (v = .slice none 0 0 ∧ l = []) ∨ ∃ g c, v = .slice (some ⟨g, 0, none⟩) l.length c ∧ base ≤ g ∧ g < w.heap.size := by
  rcases h.2 with ⟨h1, h2⟩ | ⟨g, cap, cur, h1, hb, hg, _⟩
  · exact .inl ⟨h1, List.eq_nil_of_length_eq_zero h2⟩
  · exact .inr ⟨g, cap, h1, hb, (World.ownsRow.lt h g (by rw [h1]; simp [Value.ownBlock])).2⟩
theorem OwnG.at {α : Type} {R : RowT α} {w : World} {base g c : Nat} {l : List α} (h : OwnG R w base (.slice (some ⟨g, 0, none⟩) l.length c) l) (k : Nat) (hk : k < l.length) (j : Nat) (hj : j < R.size) :
    w.cell? ⟨g, k * R.size + j, none⟩ = (R.cells l[k])[j]? ∧ w.frozen? ⟨g, k * R.size + j, none⟩ = false := by
  have h1 := flat_at R.cells R.size R.hsz l k j hk hj
  have hl := flat_len R.cells R.size R.hsz l
  have h2 : k * R.size + j < (l.flatMap R.cells).length := by
    rw [hl]
    have : (k + 1) * R.size ≤ l.length * R.size := Nat.mul_le_mul_right _ hk
    rw [Nat.succ_mul] at this
    omega
  have hc := World.ownsRow.cells (g := g) h (by simp [Value.ownBlock]) (k * R.size + j) _ (List.getElem?_eq_getElem h2)
  rw [addr_add] at hc
  rw [List.getElem?_eq_getElem h2] at h1
  exact ⟨hc.trans h1, World.ownsRow.frozenAt h _⟩
theorem OwnG.form {α : Type} {R : RowT α} {w : World} {base : Nat} {v : Value} {l : List α} (h : OwnG R w base v l) : ∃ A c, v = .slice A l.length c ∧ Sl w w.heap.size R.size A l.length (l.flatMap R.cells) := by
  rcases h.cases with ⟨h1, h2⟩ | ⟨g, cap, h1, hb, hg⟩
  · subst h2
    exact ⟨none, 0, h1, Sl.nil _ _ _ _⟩
  · refine ⟨_, _, h1, flat_len R.cells R.size R.hsz l, fun hp => ⟨g, 0, rfl, hg, fun j hj => ?_⟩⟩
    have := World.ownsRow.cells (g := g) h (by rw [h1]; simp [Value.ownBlock]) j _ (List.getElem?_eq_getElem hj)
    rw [addr_add] at this
    rw [Nat.zero_add]
    exact this
theorem OwnG.stored {α : Type} {R : RowT α} {w : World} {base g c : Nat} {l : List α} (h : OwnG R w base (.slice (some ⟨g, 0, none⟩) l.length c) l) (k : Nat) (hk : k < l.length) (j : Nat) (hj : j < R.size) (u : Value) (y : α) (hy : R.cells y = (R.cells l[k]).set j u) :
    OwnG R (w.setCell ⟨g, k * R.size + j, none⟩ u) base (.slice (some ⟨g, 0, none⟩) l.length c) (l.set k y) ∧ w.grownBy (w.setCell ⟨g, k * R.size + j, none⟩ u) (some g) := by
  have hs := World.ownsRow.stored h (k * R.size + j) u
  refine ⟨?_, hs.2⟩
  have he : ∀ (l : List α) (k : Nat) (h : k < l.length), R.cells y = (R.cells l[k]).set j u → (l.flatMap R.cells).set (k * R.size + j) u = (l.set k y).flatMap R.cells := by
    intro l
    induction l with
    | nil => intro k h; exact absurd h (by simp)
    | cons a r ih =>
      intro k h he
      cases k with
      | zero =>
        have he' : R.cells y = (R.cells a).set j u := he
        simp only [List.flatMap_cons, List.set_cons_zero, Nat.zero_mul, Nat.zero_add]
        rw [List.set_append_left _ _ (by rw [R.hsz]; exact hj), he']
      | succ k =>
        simp only [List.flatMap_cons, List.set_cons_succ]
        rw [List.set_append_right _ _ (by rw [R.hsz, Nat.succ_mul]; omega), R.hsz, show (k + 1) * R.size + j - R.size = k * R.size + j by rw [Nat.succ_mul]; omega]
        rw [ih k (by simpa using h) he]
  unfold OwnG
  rw [List.length_set, ← he l k hk hy]
  exact hs.1
section
variable {ops : Array Oper} {rest : List Oper} {o : Oper} {a : Act} {Q : Exit → Act → World → Prop} {w : World}
theorem wp_append_g {α : Type} (R : RowT α) {K : Act → World → Prop} (s x : Operand) (ho : o.op = .call { callee := .builtin .append, args := #[s, x], argTypes := #[R.t, R.t] })
    (base : Nat) (v : Value) (l : List α) (hs : a.eval s = v) (hown : OwnG R w base v l) (hbase : base ≤ w.heap.size)
    (vs : List Value) (new : α) (hv : vs = R.cells new) (g0 : Nat) (hg0 : w.heap.size = g0) (c : Nat) (hx : a.eval x = .slice (some ⟨g0, 0, none⟩) 1 c)
    (hbytes : l.length ≤ 1048576)
    (h : ∀ v' w', OwnG R w' base v' (l ++ [new]) → Below base w w' → (∀ g, g < w.heap.size → v.ownBlock ≠ some g → w'.heap[g]? = w.heap[g]?) → w.heap.size < w'.heap.size → K (a.put o.dst v') w') :
    o.wp Tryz.prog a (w.alloc (.cells vs.toArray R.e)) K Q := by
  subst hv; subst hg0
  obtain ⟨i0, hi, hz0, hz1, hz2⟩ := info_parts R.info
  have hb := R.hbytes
  exact wp_append_kept s x R.t ho base R.e i0 _ R.size R.bytes R.under hi hz0 hz1 hz2 R.hz R.hpos v l.length (l.flatMap R.cells) hs hown hbase (R.cells new) 1 c hx (by rw [R.hsz, Nat.one_mul])
    (R.one new) (by unfold maxLen; omega) (Nat.le_trans (Nat.mul_le_mul (Nat.add_le_add_right hbytes 1) hb) (by omega)) fun v' w' h1 h2 h3 h4 => h v' w' (by unfold OwnG; rw [List.length_append, List.flatMap_append]; simpa using h1) h2 h3 h4
theorem wpList_append_g {α : Type} (R : RowT α) (hgd : o.guard = none) (s x : Operand) (ho : o.op = .call { callee := .builtin .append, args := #[s, x], argTypes := #[R.t, R.t] })
    (base : Nat) (v : Value) (l : List α) (hs : a.eval s = v) (hown : OwnG R w base v l) (hbase : base ≤ w.heap.size)
    (vs : List Value) (new : α) (hv : vs = R.cells new) (g0 : Nat) (hg0 : w.heap.size = g0) (c : Nat) (hx : a.eval x = .slice (some ⟨g0, 0, none⟩) 1 c)
    (hbytes : l.length ≤ 1048576)
    (h : ∀ v' w', OwnG R w' base v' (l ++ [new]) → Below base w w' → (∀ g, g < w.heap.size → v.ownBlock ≠ some g → w'.heap[g]? = w.heap[g]?) → w.heap.size < w'.heap.size → wpList Tryz.prog ops Q rest (a.put o.dst v') w') :
    wpList Tryz.prog ops Q (o :: rest) a (w.alloc (.cells vs.toArray R.e)) :=
  wpList_plain hgd fun _ hK => wp_append_g R s x ho base v l hs hown hbase vs new hv g0 hg0 c hx hbytes fun v' w' h1 h2 h3 h4 => hK _ _ (h v' w' h1 h2 h3 h4)
end
end Go.Proofs.YtdkbfljhfhjofaaGreatDoor
namespace Go.Proofs.YtdkbfljhfhjofaaGreatDoor
open Go.RowKit
theorem ruSpl_small (c : UInt8) : ∀ (l : List UInt8), ∀ x ∈ splL c l, x.length ≤ l.length
  | [], x, hx => by
    unfold splL at hx
    rw [List.mem_singleton] at hx
    rw [hx]; exact Nat.le_refl _
  | b :: l, x, hx => by
    have ih := ruSpl_small c l
    unfold splL at hx
    rw [List.length_cons]
    split at hx
    · rcases List.mem_cons.1 hx with rfl | hx
      · exact Nat.zero_le _
      · exact Nat.le_succ_of_le (ih x hx)
    · split at hx
      · rw [List.mem_singleton] at hx
        rw [hx]; simp
      · rename_i y r hy
        rcases List.mem_cons.1 hx with rfl | hx
        · rw [List.length_cons]
          have := ih y (by rw [hy]; simp)
          omega
        · exact Nat.le_succ_of_le (ih x (by rw [hy]; simp [hx]))
theorem allO_snoc {α β : Type} (f : α → Option β) : ∀ (l : List α) (x : α) (r : List β) (y : β), allO f l = some r → f x = some y → allO f (l ++ [x]) = some (r ++ [y])
  | [], x, r, y, h, hy => by
    have e : [] = r := Option.some.inj h
    subst e
    simp [allO, hy]
  | a :: l, x, r, y, h, hy => by
    unfold allO at h
    split at h
    · rename_i b q hb hq
      have e := Option.some.inj h
      subst e
      have ih := allO_snoc f l x q y hq hy
      simp [allO, hb, ih]
    · cases h
theorem allO_none {α β : Type} (f : α → Option β) : ∀ (l : List α) (x : α), x ∈ l → f x = none → allO f l = none
  | a :: l, x, hx, h => by
    rcases List.mem_cons.1 hx with rfl | hx
    · simp [allO, h]
    · have ih := allO_none f l x hx h
      unfold allO
      rw [ih]
      cases f a <;> rfl
def rowRuV : RowT RuVar where
  e := 49
  t := 35
  size := 3
  bytes := 32
  z := .agg #[.int .i64 0, .int .i64 0, .string ByteArray.empty]
  cells := cellsRuV
  hsz _ := rfl
  hpos := by decide
  under := Tryz.underlying35
  info := by kernel_rfl
  hz := rfl
  one x u hu := by
    simp only [cellsRuV, List.mem_cons, List.not_mem_nil, or_false] at hu
    rcases hu with rfl | rfl | rfl <;> rfl
  hbytes := by decide
def RlVPost (s : List UInt8) (w : World) (e : Ending) (w' : World) : Prop :=
  ((∃ l v, allO varR (splL 44 s) = some l ∧ e = .returned (.tuple #[v, .bool true]) ∧ OwnG rowRuV w' w.heap.size v l ∧ l.length ≤ 8193) ∨ (allO varR (splL 44 s) = none ∧ e = .returned (.tuple #[.slice none 0 0, .bool false]))) ∧ Below w.heap.size w w'
def RlVRel (S : List (List UInt8)) (w w1 : World) (v i : Value) (wr : World) : Prop :=
  ∃ (k : Nat) (l : List RuVar), k ≤ S.length ∧ i = .int .i64 k ∧ OwnG rowRuV wr (w.heap.size + 1) v l ∧ l.length ≤ k ∧ Hid (allO varR (S.take k) = some l) ∧ Below (w.heap.size + 1) w1 wr
set_option maxRecDepth 100000 in
set_option maxHeartbeats 1600000 in
theorem listV_any (g : Nat) (eg : ∀ args w, (callFunc g args).run Tryz.prog w = .ok (.enter g args) w) (hp : ∀ (x : ByteArray) W, LibOk W → x.size ≤ 4194304 → Calls Tryz.prog g #[.string x] W (RvPost x.data.toList W)) (s : ByteArray) (w : World) (hlib : LibOk w) (hs : s.size ≤ 8192) :
    Calls Tryz.prog 55 #[.string s, .func (.func g) #[] #[]] w (RlVPost s.data.toList w) := by
  obtain ⟨m0, hm0⟩ := hlib
  have hlp : 0 < w.heap.size := World.block_lt_of_cell? w _ hm0
  have hsp := Tryz.strings_Split s ⟨#[44]⟩ m0 w (by omega) hm0 (by decide)
  have hps := split_one 44 s
  have hpl := Lib.splitB_all ⟨#[44]⟩ (by decide) 0 _ s rfl
  have hcb := Lib.countB_le ⟨#[44]⟩ (by decide) s.size s (Nat.le_refl _)
  generalize Lib.splitB ⟨#[44]⟩ 0 (Lib.countB s ⟨#[44]⟩) s = ps at hsp hps hpl
  generalize Lib.countB s ⟨#[44]⟩ = n at hsp hpl hcb
  rw [← hpl] at hsp
  have hsmall : ∀ (k : Nat) (hk : k < ps.length), ps[k].size ≤ 8192 := fun k hk => by
    have hm : ps[k].data.toList ∈ splL 44 s.data.toList := by rw [← hps]; exact List.mem_map.2 ⟨ps[k], List.getElem_mem hk, rfl⟩
    have := ruSpl_small 44 _ _ hm
    simp at this
    omega
  have HPS := Lib.hid hps
  have HSP := Lib.hid hsp
  have HSM := Lib.hid hsmall
  have hpl8 : ps.length ≤ 8193 := by omega
  have HLB : Hid (∀ W, Below w.heap.size w W → LibOk W) := fun W hb => ⟨m0, (hb.cell (p := ⟨0, 0, none⟩) hlp).trans hm0⟩
  have HP := Lib.hid hp
  clear hps hsp hpl hm0 hp hsmall hcb
  go_enter Tryz.func55, Tryz.ntmps55
  go_wp2_with fail
  refine HSP.out.mono ?_
  rintro e w1 ⟨rfl, hw1⟩
  have hcl : ∀ W, Below (w.heap.size + 1) w1 W → ∀ j (h : j < ps.length), W.cell? ⟨w.heap.size, j, none⟩ = some (.string ps[j]) := fun W hb j h => by
    have hb' : Below (w.alloc (.cells (ps.map Value.string).toArray 9)).heap.size (w.alloc (.cells (ps.map Value.string).toArray 9)) W := by rw [hw1] at hb; simpa using hb
    rw [new_cell hb' j]
    simp [h]
  have hz1 : w1.heap.size = w.heap.size + 1 := by rw [hw1]; simp
  have hbw1 : Below w.heap.size w w1 := by rw [hw1]; exact (Below.refl _ _).alloc (Nat.le_refl _) _
  have hSl : (splL 44 s.data.toList).length = ps.length := by rw [← HPS.out, List.length_map]
  have HCL := Lib.hid hcl
  have HBW1 := Lib.hid hbw1
  have HSL := Lib.hid hSl
  have hge1 : w.heap.size + 1 ≤ w1.heap.size := Nat.le_of_eq hz1.symm
  clear hcl hbw1 hSl hw1 hz1 HSP
  go_wp2_with fail
  go_loopw [6, 14] (fun v i wr => RlVRel (splL 44 s.data.toList) w w1 v i wr) (fun _ i _ => ps.length - (intOf i).toNat)
  case atStart => exact ⟨0, [], Nat.zero_le _, rfl, OwnG.nil _ _ _, Nat.le_refl _, rfl, Below.refl _ _⟩
  case round =>
    obtain ⟨k, l, hk, rfl, hO, hlk, HA, hB⟩ := hrel
    rw [HSL.out] at hk
    obtain ⟨Ao, co, rfl, _⟩ := hO.form
    have hbase : w.heap.size + 1 ≤ wr.heap.size := Nat.le_trans hge1 hB.size
    have HO := Lib.hid hO
    have HB := Lib.hid hB
    have hbw : Below w.heap.size w wr := HBW1.out.trans (hB.mono (Nat.le_succ _))
    by_cases hlt : k < ps.length
    · have d2 : decide ((k : Int) < (ps.length : Int)) = true := by simp; omega
      have i7 : IntKind.i64.wrap ((k : Int) + 1) = (k : Int) + 1 := IntWalk.i64_in _ (by omega)
      have hc := HCL.out wr hB k hlt
      have hsk := HSM.out k hlt
      have HX : Hid ((splL 44 s.data.toList)[k]'(by rw [HSL.out]; exact hlt) = ps[k].data.toList) := by
        unfold Hid
        have := HPS.out
        simp only [← this, List.getElem_map]
      have HTK : Hid ((splL 44 s.data.toList).take (k + 1) = (splL 44 s.data.toList).take k ++ [ps[k].data.toList]) := by
        unfold Hid
        rw [List.take_succ_eq_append_getElem (by rw [HSL.out]; exact hlt), HX.out]
      have HMEM : Hid (ps[k].data.toList ∈ splL 44 s.data.toList) := by
        unfold Hid
        rw [← HX.out]
        exact List.getElem_mem _
      clear HX
      generalize ps[k] = x at hc HTK HMEM hsk
      have HC := Lib.hid (HP.out x wr (HLB.out wr hbw) (by omega))
      have hbw2 := hbw
      clear hO hB
      go_wp2_with (go_at_fn g; apply Hid.out)
      unfold Hid
      refine HC.out.mono ?_
      rintro e w2 ⟨v, b, rfl, ht, hf, hb2⟩
      have HT := Lib.hid ht
      have HF := Lib.hid hf
      have hbw3 := hbw.trans (hb2.mono hbw.size)
      have hO2 := HO.out.below hb2
      have hB2 := HB.out.trans (hb2.mono hbase)
      have hbase2 : w.heap.size + 1 ≤ w2.heap.size := Nat.le_trans hbase hb2.size
      obtain ⟨p, q, r⟩ := v
      dsimp only at *
      have hO3 := hO2.below ((Below.refl w2.heap.size w2).alloc (Nat.le_refl _) (.cells #[.int .i64 p, .int .i64 q, .string r] 49))
      have hB3 := hB2.alloc hbase2 (.cells #[.int .i64 p, .int .i64 q, .string r] 49)
      have HEND : Hid (Below w.heap.size w (w2.alloc (.cells #[.int .i64 p, .int .i64 q, .string r] 49))) := hbw3.alloc hbw3.size _
      have hbase3 : w.heap.size + 1 ≤ (w2.alloc (.cells #[.int .i64 p, .int .i64 q, .string r] 49)).heap.size := by simp; omega
      clear ht hf hb2 hc
      cases b with
      | true =>
        have HA2 : Hid (allO varR ((splL 44 s.data.toList).take (k + 1)) = some (l ++ [⟨p, q, r⟩])) := Lib.hid (by rw [HTK.out]; exact allO_snoc _ _ _ _ _ HA.out (HT.out rfl))
        go_wp2_with (at_builtin; refine wpList_append_g rowRuV rfl (.tmp 26) (.tmp 28) rfl (w.heap.size + 1) (.slice Ao l.length co) l rfl hO3 hbase3 _ ⟨p, q, r⟩ rfl (w2.heap.size + 1) (by simp) 1 rfl (by omega) ?_; intro v5 w5 hO5 hb5 hk5 hz5)
        have HBF : Hid (RlVRel (splL 44 s.data.toList) w w1 v5 (.int .i64 ((k : Int) + 1)) w5) := ⟨k + 1, l ++ [⟨p, q, r⟩], by rw [HSL.out]; omega, rfl, hO5, by rw [List.length_append, List.length_singleton]; omega, HA2, hB3.trans hb5⟩
        exact ⟨HBF.out, by dsimp only [intOf]; omega⟩
      | false =>
        have HN : Hid (allO varR (splL 44 s.data.toList) = none) := Lib.hid (allO_none _ _ _ HMEM.out (HF.out rfl))
        go_wp2_with fail
        exact bodyPost_ret (v := .tuple #[.slice none 0 0, .bool false]) (by simp [results, Tryz.results55, go_sem]) rfl ⟨.inr ⟨HN.out, rfl⟩, HEND.out⟩
    · obtain rfl : k = ps.length := by omega
      have d2 : decide ((ps.length : Int) < (ps.length : Int)) = false := by simp
      have HN : Hid (allO varR (splL 44 s.data.toList) = some l) := Lib.hid (by have := HA.out; rw [← HSL.out, List.take_length] at this; exact this)
      have HE : Hid (OwnG rowRuV wr w.heap.size (.slice Ao l.length co) l) := hO.low (Nat.le_succ _)
      clear hO hB
      go_wp2_with fail
      exact bodyPost_ret (v := .tuple #[.slice Ao l.length co, .bool true]) (by simp [results, Tryz.results55, go_sem]) rfl ⟨.inl ⟨l, _, HN.out, rfl, HE.out, by omega⟩, hbw⟩
def rowRuA : RowT RuAct where
  e := 70
  t := 37
  size := 2
  bytes := 16
  z := .agg #[.int .i64 0, .int .i64 0]
  cells := cellsRuA
  hsz _ := rfl
  hpos := by decide
  under := Tryz.underlying37
  info := by kernel_rfl
  hz := rfl
  one x u hu := by
    simp only [cellsRuA, List.mem_cons, List.not_mem_nil, or_false] at hu
    rcases hu with rfl | rfl <;> rfl
  hbytes := by decide
def RlAPost (s : List UInt8) (w : World) (e : Ending) (w' : World) : Prop :=
  ((∃ l v, allO actR (splL 44 s) = some l ∧ e = .returned (.tuple #[v, .bool true]) ∧ OwnG rowRuA w' w.heap.size v l ∧ l.length ≤ 8193) ∨ (allO actR (splL 44 s) = none ∧ e = .returned (.tuple #[.slice none 0 0, .bool false]))) ∧ Below w.heap.size w w'
def RlARel (S : List (List UInt8)) (w w1 : World) (v i : Value) (wr : World) : Prop :=
  ∃ (k : Nat) (l : List RuAct), k ≤ S.length ∧ i = .int .i64 k ∧ OwnG rowRuA wr (w.heap.size + 1) v l ∧ l.length ≤ k ∧ Hid (allO actR (S.take k) = some l) ∧ Below (w.heap.size + 1) w1 wr
set_option maxRecDepth 100000 in
set_option maxHeartbeats 1600000 in
theorem listA_any (g : Nat) (eg : ∀ args w, (callFunc g args).run Tryz.prog w = .ok (.enter g args) w) (hp : ∀ (x : ByteArray) W, LibOk W → x.size ≤ 4194304 → Calls Tryz.prog g #[.string x] W (RaPost x.data.toList W)) (s : ByteArray) (w : World) (hlib : LibOk w) (hs : s.size ≤ 8192) :
    Calls Tryz.prog 57 #[.string s, .func (.func g) #[] #[]] w (RlAPost s.data.toList w) := by
  obtain ⟨m0, hm0⟩ := hlib
  have hlp : 0 < w.heap.size := World.block_lt_of_cell? w _ hm0
  have hsp := Tryz.strings_Split s ⟨#[44]⟩ m0 w (by omega) hm0 (by decide)
  have hps := split_one 44 s
  have hpl := Lib.splitB_all ⟨#[44]⟩ (by decide) 0 _ s rfl
  have hcb := Lib.countB_le ⟨#[44]⟩ (by decide) s.size s (Nat.le_refl _)
  generalize Lib.splitB ⟨#[44]⟩ 0 (Lib.countB s ⟨#[44]⟩) s = ps at hsp hps hpl
  generalize Lib.countB s ⟨#[44]⟩ = n at hsp hpl hcb
  rw [← hpl] at hsp
  have hsmall : ∀ (k : Nat) (hk : k < ps.length), ps[k].size ≤ 8192 := fun k hk => by
    have hm : ps[k].data.toList ∈ splL 44 s.data.toList := by rw [← hps]; exact List.mem_map.2 ⟨ps[k], List.getElem_mem hk, rfl⟩
    have := ruSpl_small 44 _ _ hm
    simp at this
    omega
  have HPS := Lib.hid hps
  have HSP := Lib.hid hsp
  have HSM := Lib.hid hsmall
  have hpl8 : ps.length ≤ 8193 := by omega
  have HLB : Hid (∀ W, Below w.heap.size w W → LibOk W) := fun W hb => ⟨m0, (hb.cell (p := ⟨0, 0, none⟩) hlp).trans hm0⟩
  have HP := Lib.hid hp
  clear hps hsp hpl hm0 hp hsmall hcb
  go_enter Tryz.func57, Tryz.ntmps57
  go_wp2_with fail
  refine HSP.out.mono ?_
  rintro e w1 ⟨rfl, hw1⟩
  have hcl : ∀ W, Below (w.heap.size + 1) w1 W → ∀ j (h : j < ps.length), W.cell? ⟨w.heap.size, j, none⟩ = some (.string ps[j]) := fun W hb j h => by
    have hb' : Below (w.alloc (.cells (ps.map Value.string).toArray 9)).heap.size (w.alloc (.cells (ps.map Value.string).toArray 9)) W := by rw [hw1] at hb; simpa using hb
    rw [new_cell hb' j]
    simp [h]
  have hz1 : w1.heap.size = w.heap.size + 1 := by rw [hw1]; simp
  have hbw1 : Below w.heap.size w w1 := by rw [hw1]; exact (Below.refl _ _).alloc (Nat.le_refl _) _
  have hSl : (splL 44 s.data.toList).length = ps.length := by rw [← HPS.out, List.length_map]
  have HCL := Lib.hid hcl
  have HBW1 := Lib.hid hbw1
  have HSL := Lib.hid hSl
  have hge1 : w.heap.size + 1 ≤ w1.heap.size := Nat.le_of_eq hz1.symm
  clear hcl hbw1 hSl hw1 hz1 HSP
  go_wp2_with fail
  go_loopw [6, 14] (fun v i wr => RlARel (splL 44 s.data.toList) w w1 v i wr) (fun _ i _ => ps.length - (intOf i).toNat)
  case atStart => exact ⟨0, [], Nat.zero_le _, rfl, OwnG.nil _ _ _, Nat.le_refl _, rfl, Below.refl _ _⟩
  case round =>
    obtain ⟨k, l, hk, rfl, hO, hlk, HA, hB⟩ := hrel
    rw [HSL.out] at hk
    obtain ⟨Ao, co, rfl, _⟩ := hO.form
    have hbase : w.heap.size + 1 ≤ wr.heap.size := Nat.le_trans hge1 hB.size
    have HO := Lib.hid hO
    have HB := Lib.hid hB
    have hbw : Below w.heap.size w wr := HBW1.out.trans (hB.mono (Nat.le_succ _))
    by_cases hlt : k < ps.length
    · have d2 : decide ((k : Int) < (ps.length : Int)) = true := by simp; omega
      have i7 : IntKind.i64.wrap ((k : Int) + 1) = (k : Int) + 1 := IntWalk.i64_in _ (by omega)
      have hc := HCL.out wr hB k hlt
      have hsk := HSM.out k hlt
      have HX : Hid ((splL 44 s.data.toList)[k]'(by rw [HSL.out]; exact hlt) = ps[k].data.toList) := by
        unfold Hid
        have := HPS.out
        simp only [← this, List.getElem_map]
      have HTK : Hid ((splL 44 s.data.toList).take (k + 1) = (splL 44 s.data.toList).take k ++ [ps[k].data.toList]) := by
        unfold Hid
        rw [List.take_succ_eq_append_getElem (by rw [HSL.out]; exact hlt), HX.out]
      have HMEM : Hid (ps[k].data.toList ∈ splL 44 s.data.toList) := by
        unfold Hid
        rw [← HX.out]
        exact List.getElem_mem _
      clear HX
      generalize ps[k] = x at hc HTK HMEM hsk
      have HC := Lib.hid (HP.out x wr (HLB.out wr hbw) (by omega))
      have hbw2 := hbw
      clear hO hB
      go_wp2_with (go_at_fn g; apply Hid.out)
      unfold Hid
      refine HC.out.mono ?_
      rintro e w2 ⟨v, b, rfl, ht, hf, hb2⟩
      have HT := Lib.hid ht
      have HF := Lib.hid hf
      have hbw3 := hbw.trans (hb2.mono hbw.size)
      have hO2 := HO.out.below hb2
      have hB2 := HB.out.trans (hb2.mono hbase)
      have hbase2 : w.heap.size + 1 ≤ w2.heap.size := Nat.le_trans hbase hb2.size
      obtain ⟨p, q⟩ := v
      dsimp only at *
      have hO3 := hO2.below ((Below.refl w2.heap.size w2).alloc (Nat.le_refl _) (.cells #[.int .i64 p, .int .i64 q] 70))
      have hB3 := hB2.alloc hbase2 (.cells #[.int .i64 p, .int .i64 q] 70)
      have HEND : Hid (Below w.heap.size w (w2.alloc (.cells #[.int .i64 p, .int .i64 q] 70))) := hbw3.alloc hbw3.size _
      have hbase3 : w.heap.size + 1 ≤ (w2.alloc (.cells #[.int .i64 p, .int .i64 q] 70)).heap.size := by simp; omega
      clear ht hf hb2 hc
      cases b with
      | true =>
        have HA2 : Hid (allO actR ((splL 44 s.data.toList).take (k + 1)) = some (l ++ [⟨p, q⟩])) := Lib.hid (by rw [HTK.out]; exact allO_snoc _ _ _ _ _ HA.out (HT.out rfl))
        go_wp2_with (at_builtin; refine wpList_append_g rowRuA rfl (.tmp 26) (.tmp 28) rfl (w.heap.size + 1) (.slice Ao l.length co) l rfl hO3 hbase3 _ ⟨p, q⟩ rfl (w2.heap.size + 1) (by simp) 1 rfl (by omega) ?_; intro v5 w5 hO5 hb5 hk5 hz5)
        have HBF : Hid (RlARel (splL 44 s.data.toList) w w1 v5 (.int .i64 ((k : Int) + 1)) w5) := ⟨k + 1, l ++ [⟨p, q⟩], by rw [HSL.out]; omega, rfl, hO5, by rw [List.length_append, List.length_singleton]; omega, HA2, hB3.trans hb5⟩
        exact ⟨HBF.out, by dsimp only [intOf]; omega⟩
      | false =>
        have HN : Hid (allO actR (splL 44 s.data.toList) = none) := Lib.hid (allO_none _ _ _ HMEM.out (HF.out rfl))
        go_wp2_with fail
        exact bodyPost_ret (v := .tuple #[.slice none 0 0, .bool false]) (by simp [results, Tryz.results57, go_sem]) rfl ⟨.inr ⟨HN.out, rfl⟩, HEND.out⟩
    · obtain rfl : k = ps.length := by omega
      have d2 : decide ((ps.length : Int) < (ps.length : Int)) = false := by simp
      have HN : Hid (allO actR (splL 44 s.data.toList) = some l) := Lib.hid (by have := HA.out; rw [← HSL.out, List.take_length] at this; exact this)
      have HE : Hid (OwnG rowRuA wr w.heap.size (.slice Ao l.length co) l) := hO.low (Nat.le_succ _)
      clear hO hB
      go_wp2_with fail
      exact bodyPost_ret (v := .tuple #[.slice Ao l.length co, .bool true]) (by simp [results, Tryz.results57, go_sem]) rfl ⟨.inl ⟨l, _, HN.out, rfl, HE.out, by omega⟩, hbw⟩
end Go.Proofs.YtdkbfljhfhjofaaGreatDoor
