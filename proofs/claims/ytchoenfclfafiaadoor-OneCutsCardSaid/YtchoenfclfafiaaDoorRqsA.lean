/- Rows of requests; slices.EqualFunc at them. -/
import Derived.Test.YtchoenfclfafiaaDoorOneM
import Derived.Test.YtchoenfclfafiaaDoorMem2
namespace Go.Proofs.YtchoenfclfafiaaDoor
open Go.RowKit

structure RqC where
  q : ReqV
  A : Option Addr
  c : Nat
def cellsRq (x : RqC) : List Value := [.string x.q.h.m, .string x.q.h.t, .slice x.A x.q.h.fs.length x.c, .string (bs x.q.b)]
theorem cellsRq_len (l : List RqC) : (l.flatMap cellsRq).length = l.length * 4 := by
  induction l with
  | nil => rfl
  | cons a r ih => rw [List.flatMap_cons, List.length_append, ih, List.length_cons]; show 4 + _ = _; omega
theorem cellsRq_one (l : List RqC) : ∀ u ∈ l.flatMap cellsRq, u.oneCell' = true := fun u hu => by
  obtain ⟨x, _, hx⟩ := List.mem_flatMap.1 hu
  simp only [cellsRq, List.mem_cons, List.not_mem_nil, or_false] at hx
  rcases hx with rfl | rfl | rfl | rfl <;> rfl
theorem cellsRq_at : ∀ (l : List RqC) (k j : Nat) (h : k < l.length), j < 4 → (l.flatMap cellsRq)[k * 4 + j]? = (cellsRq l[k])[j]?
  | [], _, _, h, _ => absurd h (by simp)
  | a :: r, 0, j, _, hj => by
    rw [List.flatMap_cons, Nat.zero_mul, Nat.zero_add, List.getElem?_append_left (by show j < 4; exact hj)]
    rfl
  | a :: r, k + 1, j, h, hj => by
    have h4 : (cellsRq a).length = 4 := rfl
    rw [List.flatMap_cons, List.getElem?_append_right (by rw [h4]; omega), h4, show (k + 1) * 4 + j - 4 = k * 4 + j by omega]
    exact cellsRq_at r k j (by simpa using h) hj
def RowQ (w : World) (base : Nat) (v : Value) (l : List RqC) : Prop := w.ownsRow base 31 4 v l.length (l.flatMap cellsRq)
structure InQ (w : World) (x : RqC) : Prop where
  own : OwnV w 0 (.slice x.A x.q.h.fs.length x.c) x.q.h.fs
  few : x.q.h.fs.length ≤ 4398046511104
structure OwnQ (w : World) (base : Nat) (v : Value) (l : List RqC) : Prop where
  row : RowQ w base v l
  all : ∀ x ∈ l, InQ w x
theorem OwnQ.nil (w : World) (base : Nat) : OwnQ w base (.slice none 0 0) [] := ⟨World.ownsRow_nil w base 31 4, fun x hx => by cases hx⟩
theorem OwnQ.below {w w' : World} {base : Nat} {v : Value} {l : List RqC} (h : OwnQ w base v l) (hb : Below w.heap.size w w') : OwnQ w' base v l := ⟨ownsRow_below h.row hb, fun x hx => ⟨(h.all x hx).own.below hb, (h.all x hx).few⟩⟩
theorem OwnQ.low {w : World} {base b : Nat} {v : Value} {l : List RqC} (h : OwnQ w base v l) (hb : b ≤ base) : OwnQ w b v l := by
  refine ⟨⟨h.row.1, ?_⟩, h.all⟩
  rcases h.row.2 with h1 | ⟨g, cap, cur, h1, h2, h3⟩
  · exact .inl h1
  · exact .inr ⟨g, cap, cur, h1, Nat.le_trans hb h2, h3⟩
theorem OwnQ.form {w : World} {base : Nat} {v : Value} {l : List RqC} (h : OwnQ w base v l) : ∃ A c, v = .slice A l.length c ∧ Sl w w.heap.size 4 A l.length (l.flatMap cellsRq) := by
  have h0 := h.row
  rcases h0.2 with ⟨h1, h2⟩ | ⟨g, cap, cur, h1, hb, hg, _⟩
  · have : l = [] := List.eq_nil_of_length_eq_zero h2
    subst this
    exact ⟨none, 0, h1, Sl.nil _ _ _ _⟩
  · refine ⟨_, _, h1, by rw [cellsRq_len], fun hp => ⟨g, 0, rfl, ?_, fun j hj => ?_⟩⟩
    · exact (World.ownsRow.lt h0 g (by rw [h1]; simp [Value.ownBlock])).2
    · have := World.ownsRow.cells (g := g) h0 (by rw [h1]; simp [Value.ownBlock]) j _ (List.getElem?_eq_getElem hj)
      rw [addr_add] at this
      rw [Nat.zero_add]
      exact this
/-- What stands beside a row of requests that was appended to. -/
theorem InQ.keep {w w' : World} {base : Nat} {v : Value} {l : List RqC} {x : RqC} (h : InQ w x) (hr : RowQ w base v l) (hk : ∀ g, g < w.heap.size → v.ownBlock ≠ some g → w'.heap[g]? = w.heap[g]?) : InQ w' x := by
  refine ⟨h.own.keep fun g hg => ?_, h.few⟩
  obtain ⟨cs, fz, hc⟩ := Lib.ownsRow_kind h.own g hg
  exact hk g (World.ownsRow.lt h.own g hg).2 (own_apart hr hc (by decide))
theorem info_req : (Tryd.prog.info? 31).map (fun i => (i.zero, i.size, i.bytes)) = some (some (.agg #[.string ByteArray.empty, .string ByteArray.empty, .slice none 0 0, .string ByteArray.empty]), 4, 72) := by kernel_rfl
section
variable {ops : Array Oper} {rest : List Oper} {o : Oper} {a : Act} {Q : Exit → Act → World → Prop} {w : World}
theorem wpList_append_q (hgd : o.guard = none) (s x : Operand) (ho : o.op = .call { callee := .builtin .append, args := #[s, x], argTypes := #[52, 52] })
    (base : Nat) (v : Value) (l : List RqC) (hs : a.eval s = v) (hown : OwnQ w base v l) (hbase : base ≤ w.heap.size)
    (vs : List Value) (new : RqC) (hv : vs = cellsRq new) (hnew : InQ w new) (g0 : Nat) (hg0 : w.heap.size = g0) (c : Nat) (hx : a.eval x = .slice (some ⟨g0, 0, none⟩) 1 c)
    (hbytes : l.length ≤ 4194304)
    (h : ∀ v' w', OwnQ w' base v' (l ++ [new]) → Below base w w' → w.heap.size < w'.heap.size → wpList Tryd.prog ops Q rest (a.put o.dst v') w') :
    wpList Tryd.prog ops Q (o :: rest) a (w.alloc (.cells vs.toArray 31)) := by
  subst hv; subst hg0
  obtain ⟨i0, hi, hz0, hz1, hz2⟩ := info_parts info_req
  refine wpList_plain hgd fun _ hK => wp_append_kept s x 52 ho base 31 i0 _ 4 72 Tryd.underlying52 hi hz0 hz1 hz2 rfl (by decide) v l.length (l.flatMap cellsRq) hs hown.row hbase (cellsRq new) 1 c hx rfl
    (fun u hu => cellsRq_one [new] u (by simpa using hu)) (by unfold maxLen; omega) (by omega) fun v' w' h1 h2 h3 h4 => hK _ _ (h v' w' ⟨by unfold RowQ; rw [List.length_append, List.flatMap_append]; simpa using h1, fun y hy => ?_⟩ h2 h4)
  rcases List.mem_append.1 hy with h5 | h5
  · exact (hown.all y h5).keep hown.row h3
  · rw [List.mem_singleton.1 h5]
    exact hnew.keep hown.row h3
theorem wpList_append_qq (hgd : o.guard = none) (s x : Operand) (ho : o.op = .call { callee := .builtin .append, args := #[s, x], argTypes := #[52, 52] })
    (base base2 : Nat) (v u : Value) (l m : List RqC) (hs : a.eval s = v) (hx : a.eval x = u) (hown : OwnQ w base v l) (hown2 : OwnQ w base2 u m) (hbase : base ≤ w.heap.size)
    (hbytes : l.length + m.length ≤ 4194304)
    (h : ∀ v' w', OwnQ w' base v' (l ++ m) → Below base w w' → (∀ y, InQ w y → InQ w' y) → (∀ g, g < w.heap.size → v.ownBlock ≠ some g → w'.heap[g]? = w.heap[g]?) → w.heap.size ≤ w'.heap.size → wpList Tryd.prog ops Q rest (a.put o.dst v') w') :
    wpList Tryd.prog ops Q (o :: rest) a w := by
  obtain ⟨i0, hi, hz0, hz1, hz2⟩ := info_parts info_req
  refine wpList_plain hgd fun K hK => ?_
  rcases hown2.row.2 with ⟨e1, e2⟩ | ⟨g, cap, cur, e1, hbg, hg, _⟩
  · have hm : m = [] := List.eq_nil_of_length_eq_zero e2
    subst hm; subst e1
    have hr := run_append_owned_none (P := Tryd.prog) (w := w) base 52 o.type 31 i0 4 Tryd.underlying52 hi v l.length (l.flatMap cellsRq) hown.row
    unfold Oper.wp execOp
    simp only [ho, resolve, invoke, builtin, Sem.run_bind, Sem.run_pure, Result.andThen_ok, List.map_toArray, List.map_cons, List.map_nil, hs, hx, hr]
    exact hK _ _ (h v w (by rw [List.append_nil]; exact hown) (Below.refl _ _) (fun _ hy => hy) (fun _ _ _ => rfl) (Nat.le_refl _))
  · have hcell : ∀ j z, (m.flatMap cellsRq)[j]? = some z → w.cell? (Addr.add ⟨g, 0, none⟩ j) = some z := fun j z hz => World.ownsRow.cells (g := g) hown2.row (by rw [e1]; simp [Value.ownBlock]) j z hz
    refine wp_append_own (P := Tryd.prog) w s x 52 ho base 31 i0 _ 4 72 Tryd.underlying52 hi hz0 hz1 hz2 rfl (by decide) v l.length (l.flatMap cellsRq) hs hown.row ⟨g, 0, none⟩ m.length cap (m.flatMap cellsRq) (hx.trans e1) (cellsRq_len m) hcell (cellsRq_one m)
      (by unfold maxLen; omega) (by omega) hbase ?_
    intro v' w' ho' hgr _
    have hk : ∀ g, g < w.heap.size → v.ownBlock ≠ some g → w'.heap[g]? = w.heap[g]? := fun k hk hne => hgr.block k hk (fun e => hne e.symm)
    exact hK _ _ (h v' w' ⟨by unfold RowQ; rw [List.length_append, List.flatMap_append]; exact ho', fun y hy => (List.mem_append.1 hy).elim (fun h5 => (hown.all y h5).keep hown.row hk) (fun h5 => (hown2.all y h5).keep hown.row hk)⟩
      ((Below.refl _ _).grown hgr hbase (fun k hk => (World.ownsRow.lt hown.row k hk).1)) (fun y hy => hy.keep hown.row hk) hk hgr.size)
end
theorem rq_at {w : World} {B n : Nat} {A : Option Addr} {l : List RqC} (h : Sl w B 4 A n (l.flatMap cellsRq)) (k : Nat) (hk : k < l.length) :
    ∃ b off, A = some ⟨b, off, none⟩ ∧ b < B ∧ w.cell? ⟨b, off + k * 4, none⟩ = some (.string l[k].q.h.m) ∧ w.cell? ⟨b, off + k * 4 + 1, none⟩ = some (.string l[k].q.h.t) ∧ w.cell? ⟨b, off + k * 4 + 2, none⟩ = some (.slice l[k].A l[k].q.h.fs.length l[k].c) ∧ w.cell? ⟨b, off + k * 4 + 3, none⟩ = some (.string (bs l[k].q.b)) := by
  have hl := cellsRq_len l
  obtain ⟨b, off, e, hb, hc⟩ := h.src (by omega)
  have hat : ∀ j, j < 4 → w.cell? ⟨b, off + (k * 4 + j), none⟩ = (cellsRq l[k])[j]? := fun j hj => by
    rw [hc (k * 4 + j) (by omega), ← cellsRq_at l k j hk hj, List.getElem?_eq_getElem]
  refine ⟨b, off, e, hb, hat 0 (by decide), ?_, ?_, ?_⟩
  · rw [Nat.add_assoc]; exact hat 1 (by decide)
  · rw [Nat.add_assoc]; exact hat 2 (by decide)
  · rw [Nat.add_assoc]; exact hat 3 (by decide)

set_option maxRecDepth 100000 in
set_option maxHeartbeats 1600000 in
theorem EqualQ_yes (l k : List RqC) (A1 A2 : Option Addr) (c1 c2 : Nat) (w : World) (h1 : Sl w w.heap.size 4 A1 l.length (l.flatMap cellsRq)) (h2 : Sl w w.heap.size 4 A2 k.length (k.flatMap cellsRq)) (hl : ∀ x ∈ l, InQ w x) (hk : ∀ x ∈ k, InQ w x) (hq : l.map RqC.q = k.map RqC.q) (hn : l.length ≤ 4194304) :
    Calls Tryd.prog 20 #[.slice A1 l.length c1, .slice A2 k.length c2, .func (.func 21) #[] #[]] w fun e w' => e = .returned (.bool true) ∧ Below w.heap.size w w' := by
  have hlen : k.length = l.length := by have := congrArg List.length hq; rw [List.length_map, List.length_map] at this; omega
  have HQ : Hid (∀ j (h1 : j < l.length) (h2 : j < k.length), l[j].q = k[j].q) := fun j h1 h2 => by
    have := congrArg (fun z => z[j]?) hq
    simp only [List.getElem?_map, List.getElem?_eq_getElem h1, List.getElem?_eq_getElem h2, Option.map_some, Option.some.injEq] at this
    exact this
  have HL := Lib.hid hl
  have HK := Lib.hid hk
  have HLN := Lib.hid hlen
  rw [hlen]
  clear hl hk hq hlen
  go_enter Tryd.func20, Tryd.ntmps20
  go_wp2_with fail
  go_loopw [17] (fun i wr => ∃ j : Nat, j ≤ l.length ∧ i = .int .i64 j ∧ Below w.heap.size w wr) (fun i _ => l.length - (intOf i).toNat)
  case atStart => exact ⟨0, Nat.zero_le _, rfl, Below.refl _ _⟩
  case round =>
    obtain ⟨j, hj, rfl, hb⟩ := hrel
    by_cases hlt : j < l.length
    · have d1 : decide ((j : Int) < (l.length : Int)) = true := by simp; omega
      have i7 : IntKind.i64.wrap ((j : Int) + 1) = (j : Int) + 1 := IntWalk.i64_in _ (by omega)
      have i8 : (0 : Int) ≤ (j : Int) := by omega
      have i9 : (j : Int) < (l.length : Int) := by omega
      have hltk : j < k.length := by rw [HLN.out]; exact hlt
      obtain ⟨b, off, rfl, hbB, x0, x1, x2, x3⟩ := rq_at (h1.below hb) j hlt
      obtain ⟨b', off', rfl, hbB', y0, y1, y2, y3⟩ := rq_at (h2.below hb) j hltk
      have hx := HL.out l[j] (List.getElem_mem hlt)
      have hy := HK.out k[j] (List.getElem_mem hltk)
      have hxy := HQ.out j hlt hltk
      generalize l[j] = X at *
      generalize k[j] = Y at *
      obtain ⟨q, A, c⟩ := X
      obtain ⟨q', A', c'⟩ := Y
      dsimp only at *
      subst hxy
      obtain ⟨⟨m, t, fs⟩, bd⟩ := q
      dsimp only at *
      generalize bs bd = bb at *
      have ho1 := (hx.own.below hb)
      have ho2 := (hy.own.below hb)
      have hal := ((Below.refl wr.heap.size wr).alloc (Nat.le_refl _) (.cells #[.string m, .string t, .slice A fs.length c, .string bb] 31)).alloc (by simp) (.cells #[.string m, .string t, .slice A' fs.length c', .string bb] 31)
      have HS := Lib.hid (SameReq_yes m t bb fs A A' c c' ((wr.alloc (.cells #[.string m, .string t, .slice A fs.length c, .string bb] 31)).alloc (.cells #[.string m, .string t, .slice A' fs.length c', .string bb] 31)) (((OwnV.sl ho1).below hal).more hal.size) (((OwnV.sl ho2).below hal).more hal.size) hx.few)
      have HB := Lib.hid (hb.trans (hal.mono hb.size))
      have hz : b' < wr.heap.size := Nat.lt_of_lt_of_le hbB' hb.size
      clear hb hx hy ho1 ho2 hal
      go_wp2_with fail
      refine HS.out.mono ?_
      rintro e w2 ⟨rfl, hb2⟩
      go_wp2_with fail
      exact ⟨⟨j + 1, by omega, rfl, HB.out.trans (hb2.mono HB.out.size)⟩, by dsimp only [intOf]; omega⟩
    · obtain rfl : j = l.length := by omega
      have d1 : decide ((l.length : Int) < (l.length : Int)) = false := by simp
      go_wp2_with fail
      go_ret
      exact ⟨rfl, hb⟩
end Go.Proofs.YtchoenfclfafiaaDoor
