/- Part 39 of the proof: lemmas and walks that the last texts use. -/
import Derived.Test.YtdkbfljhfhjofaaGreatDoorM13
import Derived.Test.YtdkbfljhfhjofaaGreatDoorM14
import Derived.Test.YtdkbfljhfhjofaaGreatDoorM38
namespace Go.Proofs.YtdkbfljhfhjofaaGreatDoor
open Go.RowKit
def OwnRu (w : World) (base : Nat) (v : Value) (l : List RuM) : Prop := w.ownsRow base 39 9 v l.length (l.flatMap cellsRu)
theorem OwnRu.nil (w : World) (base : Nat) : OwnRu w base (.slice none 0 0) [] := World.ownsRow_nil w base 39 9
theorem OwnRu.form {w : World} {base : Nat} {v : Value} {l : List RuM} (h : OwnRu w base v l) : ∃ A c, v = .slice A l.length c ∧ l.length ≤ c ∧ Sl w w.heap.size 9 A l.length (l.flatMap cellsRu) := by
  rcases h.2 with ⟨h1, h2⟩ | ⟨g, cap, cur, h1, hb, hg, hnc, _⟩
  · have : l = [] := List.eq_nil_of_length_eq_zero h2
    subst this
    exact ⟨none, 0, h1, Nat.le_refl _, Sl.nil _ _ _ _⟩
  · refine ⟨_, _, h1, hnc, flat_len cellsRu 9 cellsRu_len l, fun hp => ⟨g, 0, rfl, ?_, fun j hj => ?_⟩⟩
    · exact ((World.ownsRow.lt h g (by rw [h1]; simp [Value.ownBlock])).2)
    · have := World.ownsRow.cells (g := g) h (by rw [h1]; simp [Value.ownBlock]) j _ (List.getElem?_eq_getElem hj)
      rw [addr_add] at this
      rw [Nat.zero_add]
      exact this
theorem OwnRu.below {w w' : World} {base : Nat} {v : Value} {l : List RuM} (h : OwnRu w base v l) (hb : Below w.heap.size w w') : OwnRu w' base v l := ownsRow_below h hb
def zero9 : Array Value := #[.int .i64 0, .int .i64 0, .slice none 0 0, .slice none 0 0, .bool false, .int .i64 0, .string ByteArray.empty, .slice none 0 0, .bool false]
theorem info_rule : (Tryz.prog.info? 39).map (fun i => (i.zero, i.size, i.bytes)) = some (some (.agg zero9), 9, 128) := by kernel_rfl
section
variable {ops : Array Oper} {rest : List Oper} {o : Oper} {a : Act} {Q : Exit → Act → World → Prop} {w : World}
theorem wpList_append_ru (hgd : o.guard = none) (s x : Operand) (ho : o.op = .call { callee := .builtin .append, args := #[s, x], argTypes := #[22, 22] })
    (base : Nat) (v : Value) (l : List RuM) (hs : a.eval s = v) (hown : OwnRu w base v l) (hbase : base ≤ w.heap.size)
    (vs : List Value) (new : RuM) (hv : vs = cellsRu new) (g0 : Nat) (hg0 : w.heap.size = g0) (c : Nat) (hx : a.eval x = .slice (some ⟨g0, 0, none⟩) 1 c)
    (hbytes : l.length ≤ 1048576)
    (h : ∀ v' w', OwnRu w' base v' (l ++ [new]) → Below base w w' → (∀ g, g < w.heap.size → v.ownBlock ≠ some g → w'.heap[g]? = w.heap[g]?) → w.heap.size < w'.heap.size → wpList Tryz.prog ops Q rest (a.put o.dst v') w') :
    wpList Tryz.prog ops Q (o :: rest) a (w.alloc (.cells vs.toArray 39)) := by
  subst hv; subst hg0
  obtain ⟨i0, hi, hz0, hz1, hz2⟩ := info_parts info_rule
  exact wpList_plain hgd fun _ hK => wp_append_kept s x 22 ho base 39 i0 (.agg zero9) 9 128 Tryz.underlying22 hi hz0 hz1 hz2 rfl (by decide) v l.length (l.flatMap cellsRu) hs hown hbase (cellsRu new) 1 c hx rfl
    (fun u hu => by simp only [cellsRu, List.mem_cons, List.not_mem_nil, or_false] at hu; rcases hu with rfl | rfl | rfl | rfl | rfl | rfl | rfl | rfl | rfl <;> rfl) (by unfold maxLen; omega) (by omega) fun v' w' h1 h2 h3 h4 => hK _ _ (h v' w' (by unfold OwnRu; rw [List.length_append, List.flatMap_append]; simpa using h1) h2 h3 h4)
end
theorem ruRow_past {w w' : World} {v v' : Value} {b b' n n' size size' : Nat} {e e' : TypeId} {xs xs' : List Value} (h : w.ownsRow b e size v n xs) (ho : w.ownsRow b' e' size' v' n' xs') (hne : e' ≠ e) (hk : ∀ g, g < w.heap.size → v'.ownBlock ≠ some g → w'.heap[g]? = w.heap[g]?) : w'.ownsRow b e size v n xs := by
  refine ⟨h.1, ?_⟩
  rcases h.2 with h0 | ⟨g, cap, cur, h1, h2, h3, h4⟩
  · exact .inl h0
  · have hlt := (World.ownsRow.lt h g (by rw [h1]; rfl)).2
    exact .inr ⟨g, cap, cur, h1, h2, (hk g hlt (own_apart ho h3 hne)).trans h3, h4⟩
theorem RuOwn.past {w w' : World} {base b' : Nat} {x : RuM} {v : Value} {l : List RuM} (h : RuOwn w base x) (ho : OwnRu w b' v l) (hk : ∀ g, g < w.heap.size → v.ownBlock ≠ some g → w'.heap[g]? = w.heap[g]?) : RuOwn w' base x :=
  ⟨ruRow_past h.vars ho (by decide) hk, ruRow_past h.pipe ho (by decide) hk, ruRow_past h.acts ho (by decide) hk⟩
theorem RuOwn.farS {w : World} {base g : Nat} {x : RuM} (h : RuOwn w base x) (hg : g < base) (j : Nat) (u : Value) : RuOwn (w.setCell ⟨g, j, none⟩ u) base x := ⟨ruOwn_farS h.vars hg j u, ruOwn_farS h.pipe hg j u, ruOwn_farS h.acts hg j u⟩
theorem RuOwn.low {w : World} {base b : Nat} {x : RuM} (h : RuOwn w base x) (hb : b ≤ base) : RuOwn w b x := ⟨h.vars.low hb, h.pipe.low hb, h.acts.low hb⟩
/-- Three cells of rules, known whole. -/
def R3 (w : World) (g : Nat) (m st : Int) (v : Value) : Prop := w.heap[g]? = some (.cells #[.int .i64 m, .int .i64 st, v] 24 (0, 0))
section
variable {w w' : World} {g : Nat} {m st : Int} {v : Value}
theorem R3.cell (h : R3 w g m st v) : w.cell? ⟨g, 0, none⟩ = some (.int .i64 m) ∧ w.cell? ⟨g, 1, none⟩ = some (.int .i64 st) ∧ w.cell? ⟨g, 2, none⟩ = some v := ⟨cell_of_row w g 0 _ _ (0, 0) h, cell_of_row w g 1 _ _ (0, 0) h, cell_of_row w g 2 _ _ (0, 0) h⟩
theorem R3.free (h : R3 w g m st v) (j : Nat) : w.frozen? ⟨g, j, none⟩ = false := by unfold R3 at h; simp [World.frozen?, h]
theorem R3.lt (h : R3 w g m st v) : g < w.heap.size := by
  unfold R3 at h
  rw [Array.getElem?_eq_some_iff] at h
  exact h.1
theorem R3.far (h : R3 w g m st v) {q : Nat} (hne : g ≠ q) (j : Nat) (u : Value) : R3 (w.setCell ⟨q, j, none⟩ u) g m st v := (Below.heap_setCell w ⟨q, j, none⟩ u g hne).trans h
theorem R3.below (h : R3 w g m st v) (hb : Below w.heap.size w w') : R3 w' g m st v := (hb.block g h.lt).trans h
theorem R3.put0 (h : R3 w g m st v) (x : Int) : R3 (w.setCell ⟨g, 0, none⟩ (.int .i64 x)) g x st v := by unfold R3 at h ⊢; simp [World.setCell, Array.getElem?_modify, h]
theorem R3.put1 (h : R3 w g m st v) (x : Int) : R3 (w.setCell ⟨g, 1, none⟩ (.int .i64 x)) g m x v := by unfold R3 at h ⊢; simp [World.setCell, Array.getElem?_modify, h]
theorem R3.put2 (h : R3 w g m st v) (x : Value) : R3 (w.setCell ⟨g, 2, none⟩ x) g m st x := by unfold R3 at h ⊢; simp [World.setCell, Array.getElem?_modify, h]
theorem R3.new (w : World) : R3 (w.alloc (.cells #[.int .i64 0, .int .i64 0, .slice none 0 0] 24)) w.heap.size 0 0 (.slice none 0 0) := heap_alloc_new w _
end
/-- What Parse tells. -/
def RuParsePost (s : ByteArray) (w : World) (e : Ending) (w' : World) : Prop :=
  ∃ (a : RuArg) (at_ code : Int), e = .returned (.tuple #[a.value, .int .i64 at_, .int .i64 code]) ∧ 0 ≤ at_ ∧ (code = 0 → at_ = 0 ∧ ReadsSet argC s.data.toList a.set ∧ RuLies w' w'.heap.size a ∧ RuBulk a) ∧
    (code ≠ 0 → a = ⟨0, 0, none, 0, []⟩ ∧ (s.size ≤ 8192 → ∀ r, ¬ ReadsSet argC s.data.toList r)) ∧ (8192 < s.size → code = 2) ∧ Below w.heap.size w w'
def ruLen : Value → Nat
  | .string s => s.size
  | _ => 0
/-- Rules so far, in memory. -/
structure PyAt (w wr : World) (m st : Int) (v : Value) (l : List RuM) : Prop where
  out : R3 wr (w.heap.size + 1) m st v
  res : R3 wr w.heap.size 0 0 (.slice none 0 0)
  rows : OwnRu wr (w.heap.size + 1 + 1) v l
  own : ∀ x ∈ l, RuOwn wr (w.heap.size + 1 + 1) x
  small : ∀ x ∈ l, RuSmall x.r
  bel : Below w.heap.size w wr
theorem PyAt.below {w wr w' : World} {m st : Int} {v : Value} {l : List RuM} (h : PyAt w wr m st v l) (hb : Below wr.heap.size wr w') : PyAt w w' m st v l :=
  ⟨h.out.below hb, h.res.below hb, h.rows.below hb, fun x hx => (h.own x hx).below hb, h.small, h.bel.trans (hb.mono h.bel.size)⟩
def PyRel (S : ByteArray) (w : World) (vs va : Value) (wr : World) : Prop :=
  ∃ (n : Nat) (rest : ByteArray) (m st : Int) (v : Value) (l : List RuM), vs = .string rest ∧ va = .int .i64 ((n : Int) + 1) ∧ Pg S.data.toList n rest.data.toList m st (l.map RuM.r) ∧ PyAt w wr m st v l ∧ (n = 0 → m = 0 ∧ st = 0) ∧ l.length + rest.size ≤ S.size ∧ n + rest.size ≤ S.size
end Go.Proofs.YtdkbfljhfhjofaaGreatDoor
namespace Go.Proofs.YtdkbfljhfhjofaaGreatDoor
open Go.RowKit
theorem cells3 {α : Type} {l : List α} (h : l.length = 3) : ∃ a b c, l = [a, b, c] := by
  match l, h with
  | [a, b, c], _ => exact ⟨a, b, c, rfl⟩
theorem RuOwn.drew {w : World} {base : Nat} {x : RuM} (h : RuOwn w base x) : RuOwn w.drew base x := ⟨h.vars, h.pipe, h.acts⟩
theorem PyAt.push {w W w5 : World} {m st : Int} {v v5 : Value} {l : List RuM} {x : RuM} (h : PyAt w W m st v l) (hx : RuOwn W (w.heap.size + 1 + 1) x) (hsx : RuSmall x.r) (hO : OwnRu w5 (w.heap.size + 1 + 1) v5 (l ++ [x])) (hb : Below (w.heap.size + 1 + 1) W w5)
    (hk : ∀ g, g < W.heap.size → v.ownBlock ≠ some g → w5.heap[g]? = W.heap[g]?) : PyAt w (w5.setCell ⟨w.heap.size + 1, 2, none⟩ v5) m st v5 (l ++ [x]) := by
  have h1 : R3 w5 (w.heap.size + 1) m st v := (hb.block _ (by omega)).trans h.out
  have h2 : R3 w5 w.heap.size 0 0 (.slice none 0 0) := (hb.block _ (by omega)).trans h.res
  refine ⟨h1.put2 v5, h2.far (by omega) 2 v5, ruOwn_farS hO (Nat.lt_succ_self _) 2 v5, fun y hy => ?_, fun y hy => ?_, (h.bel.trans (hb.mono (by omega))).setCell (p := ⟨w.heap.size + 1, 2, none⟩) (by show w.heap.size ≤ w.heap.size + 1; omega) v5⟩
  · rcases List.mem_append.1 hy with hy | hy
    · exact ((h.own y hy).past h.rows hk).farS (Nat.lt_succ_self _) 2 v5
    · rw [List.mem_singleton.1 hy]; exact (hx.past h.rows hk).farS (Nat.lt_succ_self _) 2 v5
  · rcases List.mem_append.1 hy with hy | hy
    · exact h.small y hy
    · rw [List.mem_singleton.1 hy]; exact hsx
theorem PyAt.head {w W : World} {m st m' st' : Int} {v : Value} {l : List RuM} (h : PyAt w W m st v l) : PyAt w ((W.setCell ⟨w.heap.size + 1, 0, none⟩ (.int .i64 m')).setCell ⟨w.heap.size + 1, 1, none⟩ (.int .i64 st')).drew m' st' v l := by
  refine ⟨(h.out.put0 m').put1 st', (h.res.far (by omega) 0 _).far (by omega) 1 _, ruOwn_farS (ruOwn_farS h.rows (Nat.lt_succ_self _) 0 _) (Nat.lt_succ_self _) 1 _, fun y hy => (((h.own y hy).farS (Nat.lt_succ_self _) 0 (.int .i64 m')).farS (Nat.lt_succ_self _) 1 (.int .i64 st')).drew, h.small, ?_⟩
  exact ((h.bel.setCell (p := ⟨w.heap.size + 1, 0, none⟩) (by show w.heap.size ≤ w.heap.size + 1; omega) _).setCell (p := ⟨w.heap.size + 1, 1, none⟩) (by show w.heap.size ≤ w.heap.size + 1; omega) _).drew
set_option maxRecDepth 100000 in
set_option maxHeartbeats 6400000 in
theorem RuParse_any (S : ByteArray) (w : World) (hlib : LibOk w) (hs : S.size ≤ 140737488351232) : Calls Tryz.prog 10 #[.string S] w (RuParsePost S w) := by
  by_cases hbig : 8192 < S.size
  · have d : decide ((8192 : Int) < (S.size : Int)) = true := by simp; omega
    have HP : Hid (∀ W, Below w.heap.size w W → RuParsePost S w (.returned (.tuple #[.agg #[.int .i64 0, .int .i64 0, .slice none 0 0], .int .i64 0, .int .i64 2])) W) := fun W hb => ⟨⟨0, 0, none, 0, []⟩, 0, 2, rfl, Int.le_refl _, fun e => absurd e (by decide), fun _ => ⟨rfl, fun h => by omega⟩, fun _ => rfl, hb⟩
    have HB0 : Hid (∀ o, Below w.heap.size w (w.alloc o)) := fun o => (Below.refl _ _).alloc (Nat.le_refl _) _
    have hnew := Lib.hid (R3.new w)
    clear hlib
    go_enter Tryz.func10, Tryz.ntmps10
    go_wp2_with fail
    exact bodyPost_ret (v := .tuple #[.agg #[.int .i64 0, .int .i64 0, .slice none 0 0], .int .i64 0, .int .i64 2]) (by simp [results, Tryz.results10, go_sem, hnew.out.cell.1, hnew.out.cell.2.1, hnew.out.cell.2.2]) rfl (HP.out _ (HB0.out _))
  have d : decide ((8192 : Int) < (S.size : Int)) = false := by simp; omega
  have hS : S.size ≤ 8192 := by omega
  obtain ⟨m0, hm0⟩ := hlib
  have hpos : 0 < w.heap.size := World.block_lt_of_cell? w _ hm0
  have HLM : Hid (∀ W, Below w.heap.size w W → W.cell? ⟨0, 0, none⟩ = some (.int .i64 m0)) := fun W hb => (hb.cell (p := ⟨0, 0, none⟩) hpos).trans hm0
  have HLB : Hid (∀ W, Below w.heap.size w W → LibOk W) := fun W hb => ⟨m0, (hb.cell (p := ⟨0, 0, none⟩) hpos).trans hm0⟩
  have HBAD : Hid (∀ (W : World) (at_ code : Int), 0 ≤ at_ → code ≠ 0 → (∀ r, ¬ ReadsSet argC S.data.toList r) → Below w.heap.size w W → RuParsePost S w (.returned (.tuple #[.agg #[.int .i64 0, .int .i64 0, .slice none 0 0], .int .i64 at_, .int .i64 code])) W) := fun W at_ code ha hc hn hb => ⟨⟨0, 0, none, 0, []⟩, at_, code, rfl, ha, fun e => absurd e hc, fun _ => ⟨rfl, fun _ => hn⟩, fun h => absurd h hbig, hb⟩
  obtain ⟨W0, hW0⟩ : ∃ W0, W0 = (w.alloc (.cells #[.int .i64 0, .int .i64 0, .slice none 0 0] 24)).alloc (.cells #[.int .i64 0, .int .i64 0, .slice none 0 0] 24) := ⟨_, rfl⟩
  have hat0 : PyAt w W0 0 0 (.slice none 0 0) [] := by
    refine ⟨?_, ?_, OwnRu.nil _ _, fun x hx => (by cases hx), fun x hx => (by cases hx), ?_⟩
    · have := R3.new (w.alloc (.cells #[.int .i64 0, .int .i64 0, .slice none 0 0] 24))
      rw [World.size_alloc] at this
      rw [hW0]; exact this
    · rw [hW0]; exact (Below.heap_alloc _ _ _ (by simp)).trans (R3.new w)
    · rw [hW0]; exact ((Below.refl _ _).alloc (Nat.le_refl _) _).alloc (by simp) _
  have hne1 : ¬ w.heap.size = w.heap.size + 1 := by omega
  have hne2 : ¬ w.heap.size + 1 = w.heap.size := by omega
  clear hm0 hs hbig
  go_enter Tryz.func10, Tryz.ntmps10
  go_wp2_with fail
  rw [← hW0]
  clear hW0
  go_loopw [0, 6] (fun vs va wr => PyRel S w vs va wr) (fun vs _ _ => ruLen vs)
  case atStart => exact ⟨0, S, 0, 0, _, [], rfl, rfl, pg_start _ _ _, hat0, fun _ => ⟨rfl, rfl⟩, by simp, by omega⟩
  case round =>
    obtain ⟨n, rest, m, st, v, l, rfl, rfl, hpg, hat, hzz, hln, hns⟩ := hrel
    clear hat0
    have hrl : rest.data.toList.length = rest.size := by simp
    by_cases hin : n = 0 ∨ rest.data.toList ≠ []
    · have hcase : n = 0 ∨ (1 ≤ n ∧ rest.data.toList ≠ []) := by
        rcases hin with h | h
        · exact .inl h
        · rcases Nat.eq_zero_or_pos n with h0 | h0
          · exact .inl h0
          · exact .inr ⟨h0, h⟩
      have HPG := Lib.hid hpg
      have HIN := Lib.hid hin
      have HZZ := Lib.hid hzz
      have hcut := Tryz.strings_Cut rest ⟨#[10]⟩ m0 wr (by omega) (HLM.out wr hat.bel)
      change Calls _ _ _ _ fun e w' => e = .returned (.tuple #[.string (bs (Lib.cut rest.data.toList [10]).1), .string (bs (Lib.cut rest.data.toList [10]).2.1), .bool (Lib.cut rest.data.toList [10]).2.2]) ∧ ∃ n, w' = wr.drewN n at hcut
      have HCUT := Lib.hid hcut
      clear hpg hin hzz hcut
      rcases hcase with hn0 | ⟨hn1, hre⟩
      focus
        have q1 : ((n : Int) + 1 == 1) = true := by rw [hn0]; rfl
        have HN0 : Hid (n = 0 ∨ 1 ≤ n) := Lib.hid (.inl hn0)
        have HNA := Lib.hid hn0
        clear hn0
        go_upto_region 7 with fail
      rotate_left
      focus
        have q1 : ((n : Int) + 1 == 1) = false := beq_eq_false_iff_ne.2 (by omega)
        have q2 : (rest.toList == []) = false := by rw [Lib.toList_data]; exact beq_eq_false_iff_ne.2 hre
        have q3 : rest.toList.isEmpty = false := by rw [Lib.toList_data]; cases hh : rest.data.toList with | nil => exact absurd hh hre | cons a r => rfl
        have HN0 : Hid (n = 0 ∨ 1 ≤ n) := Lib.hid (.inr hn1)
        clear hre
        go_upto_region 7 with fail
        clear q2 q3
      all_goals
        rcases ru_cut 10 rest.data.toList with ⟨hno, hct⟩ | ⟨a, b, hab, hna, hct⟩
        · rw [hct] at HCUT
          have HN := Lib.hid (pg_nonl (argC := argC) HPG.out HIN.out hno)
          clear hno hct
          go_wp2_with fail
          refine HCUT.out.mono ?_
          rintro e w1 ⟨rfl, nq, rfl⟩
          have hat1 := hat.below (below_drewN (Below.refl _ _) nq)
          generalize wr.drewN nq = W1 at *
          clear hat
          obtain ⟨F, hF, hFR, hFB⟩ : ∃ F, (((W1.setCell ⟨w.heap.size, 0, none⟩ (.int .i64 0)).setCell ⟨w.heap.size, 1, none⟩ (.int .i64 0)).setCell ⟨w.heap.size, 2, none⟩ (.slice none 0 0)) = F ∧ R3 F w.heap.size 0 0 (.slice none 0 0) ∧ Below w.heap.size w F := ⟨_, rfl, (((hat1.res.put0 (0)).put1 (0)).put2 (.slice none 0 0)), (((hat1.bel.setCell (p := ⟨w.heap.size, 0, none⟩) (Nat.le_refl _) (.int .i64 0)).setCell (p := ⟨w.heap.size, 1, none⟩) (Nat.le_refl _) (.int .i64 0)).setCell (p := ⟨w.heap.size, 2, none⟩) (Nat.le_refl _) (.slice none 0 0))⟩
          have HF := Lib.hid hF
          have HFR := Lib.hid hFR
          have HFB := Lib.hid hFB
          clear hF hFR hFB
          have z0 := hat1.res.cell.1
          have z1 := hat1.res.cell.2.1
          have z2 := hat1.res.cell.2.2
          have g0 := hat1.res.free 0
          have g1 := hat1.res.free 1
          have g2 := hat1.res.free 2
          clear hat1
          go_wp2_with fail
          rw [HF.out]
          exact bodyPost_ret (v := .tuple #[.agg #[.int .i64 0, .int .i64 0, .slice none 0 0], .int .i64 ((n : Int) + 1), .int .i64 3]) (by simp [results, Tryz.results10, go_sem, HFR.out.cell.1, HFR.out.cell.2.1, HFR.out.cell.2.2]) rfl (HBAD.out F ((n : Int) + 1) 3 (by omega) (by decide) HN.out HFB.out)
        rw [hct] at HCUT
        dsimp only at HCUT
        have hlab : a.length + b.length + 1 = rest.size := by rw [← hrl, hab]; simp; omega
        have HAB := Lib.hid hab
        have HNA' := Lib.hid hna
        clear hab hna hct
        go_wp2_with fail
        refine HCUT.out.mono ?_
        rintro e w1 ⟨rfl, nq, rfl⟩
        have hat1 := hat.below (below_drewN (Below.refl _ _) nq)
        generalize wr.drewN nq = W1 at *
        clear hat HCUT
        have hsp := Tryz.strings_Split (bs a) ⟨#[32]⟩ m0 W1 (by rw [bs_size]; omega) (HLM.out W1 hat1.bel) (by decide)
        have hps := split_one 32 (bs a)
        have hpl := Lib.splitB_all ⟨#[32]⟩ (by decide) 0 _ (bs a) rfl
        have hcb := Lib.countB_le ⟨#[32]⟩ (by decide) (bs a).size (bs a) (Nat.le_refl _)
        generalize Lib.splitB ⟨#[32]⟩ 0 (Lib.countB (bs a) ⟨#[32]⟩) (bs a) = ps at hsp hps hpl
        generalize Lib.countB (bs a) ⟨#[32]⟩ = cn at hsp hpl hcb
        rw [← hpl] at hsp
        rw [bs_size] at hcb
        rw [bs_toList] at hps
        have hpl8 : ps.length ≤ 8193 := by omega
        have hsm : ∀ p ∈ ps, p.size ≤ 8192 := fun p hp => by
          have hm : p.data.toList ∈ splL 32 a := by rw [← hps]; exact List.mem_map.2 ⟨p, hp, rfl⟩
          have := ruSpl_small 32 _ _ hm
          simp at this
          omega
        have HPS := Lib.hid hps
        have HSP := Lib.hid hsp
        have HSM := Lib.hid hsm
        clear hps hsp hpl hcb hsm
        go_wp2_with fail
        refine HSP.out.mono ?_
        rintro e w2 ⟨rfl, hw2⟩
        have hat2 : PyAt w w2 m st v l := by rw [hw2]; exact hat1.below ((Below.refl _ _).alloc (Nat.le_refl _) _)
        have hsl2 : Sl w2 w2.heap.size 1 (some ⟨W1.heap.size, 0, none⟩) ps.length (ps.map Value.string) := by
          rw [hw2]
          exact Sl.lit rfl (by simp) (by simp) (by simp)
        have hq : ¬ W1.heap.size = w.heap.size ∧ ¬ W1.heap.size = w.heap.size + 1 := by
          have h1 := hat1.out.lt
          constructor <;> omega
        obtain ⟨hq0, hq1⟩ := hq
        clear hw2 HSP hat1
        generalize W1.heap.size = q at *
        go_upto_region 11 with fail
      · have hread := read_any ps _ ps.length w2 hsl2 HSM.out hpl8 (HLB.out w2 hat2.bel)
        rw [HPS.out] at hread
        have HRE := Lib.hid hread
        clear hread
        go_wp2_with fail
        refine HRE.out.mono ?_
        rintro e w3 ⟨x, code, rfl, hr0, hr1, hb3⟩
        have hat3 := hat2.below hb3
        have hxo : Hid (code = 0 → RuOwn w3 (w.heap.size + 1 + 1) x) := Lib.hid fun e => (hr0 e).2.1.low hat2.out.lt
        have HR0 := Lib.hid hr0
        have HR1 := Lib.hid hr1
        obtain ⟨⟨id, ph, vars, pipe, no, op, arg, acts, chain⟩, vA, vc, pA, pc, aA, ac⟩ := x
        unfold cellsRu
        have hat4 := hat3.below ((Below.refl w3.heap.size w3).alloc (Nat.le_refl _) (.cells #[.int .i64 id, .int .i64 ph, .slice vA vars.length vc, .slice pA pipe.length pc, .bool no, .int .i64 op, .string arg, .slice aA acts.length ac, .bool chain] 39))
        have hxo4 : Hid (code = 0 → RuOwn (w3.alloc (.cells #[.int .i64 id, .int .i64 ph, .slice vA vars.length vc, .slice pA pipe.length pc, .bool no, .int .i64 op, .string arg, .slice aA acts.length ac, .bool chain] 39)) (w.heap.size + 1 + 1) ⟨⟨id, ph, vars, pipe, no, op, arg, acts, chain⟩, vA, vc, pA, pc, aA, ac⟩) := Lib.hid fun e => (hxo.out e).below ((Below.refl _ _).alloc (Nat.le_refl _) _)
        have hcel : ∀ j, (w3.alloc (.cells #[.int .i64 id, .int .i64 ph, .slice vA vars.length vc, .slice pA pipe.length pc, .bool no, .int .i64 op, .string arg, .slice aA acts.length ac, .bool chain] 39)).cell? ⟨w3.heap.size, j, none⟩ = (#[Value.int .i64 id, .int .i64 ph, .slice vA vars.length vc, .slice pA pipe.length pc, .bool no, .int .i64 op, .string arg, .slice aA acts.length ac, .bool chain] : Array Value)[j]? := fun j => cell_of_row _ _ j _ _ (0, 0) (heap_alloc_new w3 _)
        clear hr0 hr1 hb3 hsl2 hat2
        by_cases hcz : code = 0
        · have hcz2 : (code == 0) = true := beq_iff_eq.2 hcz
          have HX := Lib.hid (HR0.out hcz)
          have HXO := Lib.hid (hxo4.out hcz)
          subst hcz
          clear hxo hxo4 HR1 HR0
          obtain ⟨A, c, rfl, hcap, _⟩ := hat4.rows.form
          have o2 := hat4.out.cell.2.2
          have hrows := hat4.rows
          have hzb : w.heap.size + 1 + 1 ≤ (w3.alloc (.cells #[.int .i64 id, .int .i64 ph, .slice vA vars.length vc, .slice pA pipe.length pc, .bool no, .int .i64 op, .string arg, .slice aA acts.length ac, .bool chain] 39)).heap.size := hat4.out.lt
          have y0 := hcel 0
          have y1 := hcel 1
          have y2 := hcel 2
          have y3 := hcel 3
          have y4 := hcel 4
          have y5 := hcel 5
          have y6 := hcel 6
          have y7 := hcel 7
          have y8 := hcel 8
          simp only [List.getElem?_toArray, List.getElem?_cons_succ, List.getElem?_cons_zero] at y0 y1 y2 y3 y4 y5 y6 y7 y8
          go_upto_region 18 with fail
          have HAT4 := Lib.hid hat4
          have HRW := Lib.hid hrows
          clear hat4 hat3 hcel hrows
          generalize hW4 : w3.alloc (.cells #[.int .i64 id, .int .i64 ph, .slice vA vars.length vc, .slice pA pipe.length pc, .bool no, .int .i64 op, .string arg, .slice aA acts.length ac, .bool chain] 39) = W4 at *
          clear hW4
          generalize w3.heap.size = qb at *
          have hrows := HRW.out
          have HEND : Hid (∀ (v5 : Value) (w5 : World), OwnRu w5 (w.heap.size + 1 + 1) v5 (l ++ [⟨⟨id, ph, vars, pipe, no, op, arg, acts, chain⟩, vA, vc, pA, pc, aA, ac⟩]) → Below (w.heap.size + 1 + 1) W4 w5 → (∀ g, g < W4.heap.size → (Value.slice A l.length c).ownBlock ≠ some g → w5.heap[g]? = W4.heap[g]?) →
              PyRel S w (.string (bs b)) (.int .i64 ((n : Int) + 1 + 1)) (w5.setCell ⟨w.heap.size + 1, 2, none⟩ v5)) := Lib.hid fun v5 w5 hO hb hk => by
            refine ⟨n + 1, bs b, m, st, v5, _, rfl, rfl, ?_, HAT4.out.push HXO.out HX.out.2.2 hO hb hk, fun h => by omega, ?_, ?_⟩
            · rw [List.map_append]
              exact pg_rule HPG.out hn1 HAB.out HNA'.out HX.out.1
            · rw [List.length_append, List.length_singleton, bs_size]; omega
            · rw [bs_size]; omega
          have HB1 : Hid (∀ w5, Below (w.heap.size + 1 + 1) W4 w5 → R3 w5 (w.heap.size + 1) m st (.slice A l.length c)) := Lib.hid fun w5 hb => (hb.block _ (by omega)).trans HAT4.out.out
          have hl1 : l.length ≤ 1048576 := by omega
          clear hln hpl8
          go_wp2_with (at_builtin; refine wpList_append_ru rfl (.tmp 86) (.tmp 88) rfl (w.heap.size + 1 + 1) (.slice A l.length c) l rfl hrows hzb _ ⟨⟨id, ph, vars, pipe, no, op, arg, acts, chain⟩, vA, vc, pA, pc, aA, ac⟩ rfl _ rfl 1 rfl hl1 ?_; intro v5 w5 hO5 hb5 hk5 hz5; have HE5 := Lib.hid (HEND.out v5 w5 hO5 hb5 hk5); obtain ⟨A5, c5, hv5, _, _⟩ := hO5.form; rw [List.length_append, List.length_singleton] at hv5; subst hv5; have o5 := (HB1.out w5 hb5).cell.2.2; have f5 := (HB1.out w5 hb5).free 2; clear hO5 hb5 hk5)
          exact ⟨HE5.out, by show (bs b).size < rest.size; rw [bs_size]; omega⟩
        · have hcz2 : (code == 0) = false := beq_eq_false_iff_ne.2 hcz
          have HN := Lib.hid (pg_norule (argC := argC) HPG.out hn1 HAB.out HNA'.out (HR1.out hcz))
          have HCZ := Lib.hid hcz
          clear hcz hxo hxo4 HR1 HR0 hcel
          obtain ⟨F, hF, hFR, hFB⟩ : ∃ F, ((((w3.alloc (.cells #[.int .i64 id, .int .i64 ph, .slice vA vars.length vc, .slice pA pipe.length pc, .bool no, .int .i64 op, .string arg, .slice aA acts.length ac, .bool chain] 39)).setCell ⟨w.heap.size, 0, none⟩ (.int .i64 0)).setCell ⟨w.heap.size, 1, none⟩ (.int .i64 0)).setCell ⟨w.heap.size, 2, none⟩ (.slice none 0 0)) = F ∧ R3 F w.heap.size 0 0 (.slice none 0 0) ∧ Below w.heap.size w F := ⟨_, rfl, (((hat4.res.put0 (0)).put1 (0)).put2 (.slice none 0 0)), (((hat4.bel.setCell (p := ⟨w.heap.size, 0, none⟩) (Nat.le_refl _) (.int .i64 0)).setCell (p := ⟨w.heap.size, 1, none⟩) (Nat.le_refl _) (.int .i64 0)).setCell (p := ⟨w.heap.size, 2, none⟩) (Nat.le_refl _) (.slice none 0 0))⟩
          have HF := Lib.hid hF
          have HFR := Lib.hid hFR
          have HFB := Lib.hid hFB
          clear hF hFR hFB
          have z0 := hat4.res.cell.1
          have z1 := hat4.res.cell.2.1
          have z2 := hat4.res.cell.2.2
          have g0 := hat4.res.free 0
          have g1 := hat4.res.free 1
          have g2 := hat4.res.free 2
          clear hat4 hat3
          go_wp2_with fail
          rw [HF.out]
          exact bodyPost_ret (v := .tuple #[.agg #[.int .i64 0, .int .i64 0, .slice none 0 0], .int .i64 ((n : Int) + 1), .int .i64 code]) (by simp [results, Tryz.results10, go_sem, HFR.out.cell.1, HFR.out.cell.2.1, HFR.out.cell.2.2]) rfl (HBAD.out F ((n : Int) + 1) code (by omega) HCZ.out HN.out HFB.out)
      · have hzz := HZZ.out HNA.out
        obtain ⟨rfl, rfl⟩ := hzz
        have h1n : Hid (∀ m' st' : Int, HeadIs (splL 32 a) ⟨m', st', []⟩ → Pg S.data.toList (n + 1) b m' st' (l.map RuM.r)) := Lib.hid fun m' st' hh => by
          have e := HNA.out
          subst e
          have h2 := pg_head HPG.out HAB.out HNA'.out hh
          rcases HPG.out with ⟨_, _, h3⟩ | ⟨h3, _⟩
          · rw [h3]; exact h2
          · omega
        have HNH : Hid ((∀ r, ¬ HeadIs (splL 32 a) r) → ∀ r, ¬ ReadsSet argC S.data.toList r) := Lib.hid fun hh => by
          have e := HNA.out
          subst e
          exact pg_nohead HPG.out HAB.out HNA'.out hh
        have hpsl : (splL 32 a).length = ps.length := by rw [← HPS.out, List.length_map]
        by_cases h3 : ps.length = 3
        · obtain ⟨p0, p1, p2, rfl⟩ := cells3 h3
          have HSP3 : Hid (splL 32 a = [p0.data.toList, p1.data.toList, p2.data.toList]) := Lib.hid HPS.out.symm
          have hcl : ∀ W, Below w2.heap.size w2 W → W.cell? ⟨q, 0, none⟩ = some (.string p0) ∧ W.cell? ⟨q, 1, none⟩ = some (.string p1) ∧ W.cell? ⟨q, 2, none⟩ = some (.string p2) := fun W hb => by
            obtain ⟨b', o', e', _, hc⟩ := (hsl2.below hb).src (by simp)
            injection e' with e'
            injection e' with e1 e2
            subst e1; subst e2
            have k := hc
            exact ⟨by have := k 0 (by simp); rw [Nat.zero_add] at this; exact this, by have := k 1 (by simp); rw [Nat.zero_add] at this; exact this, by have := k 2 (by simp); rw [Nat.zero_add] at this; exact this⟩
          obtain ⟨c0, c1, c2⟩ := hcl w2 (Below.refl _ _)
          have HN1 := Lib.hid fun W => rnumber_any p1 W (by have := HSM.out p1 (by simp); unfold maxLen; omega)
          have HN2 := Lib.hid fun W => rnumber_any p2 W (by have := HSM.out p2 (by simp); unfold maxLen; omega)
          obtain ⟨N1, hN1⟩ : ∃ N1, numB 999999999 p1.data.toList = N1 := ⟨_, rfl⟩
          obtain ⟨N2, hN2⟩ : ∃ N2, numB 999999999 p2.data.toList = N2 := ⟨_, rfl⟩
          rw [hN1] at HN1
          rw [hN2] at HN2
          have HE1 := Lib.hid hN1
          have HE2 := Lib.hid hN2
          have HNO : Hid (p0.data.toList ≠ scoreW ∨ N1 < 0 ∨ N2 < 0 → ∀ r, ¬ HeadIs (splL 32 a) r) := Lib.hid fun hd r hh => by
            rw [HSP3.out] at hh
            rcases hd with hd | hd | hd
            · exact hd hh.word
            · have h1 := hh.most; have h2 := hh.most0
              have h3 : numB 999999999 p1.data.toList = r.most := h1
              rw [HE1.out] at h3; omega
            · have h1 := hh.status; have h2 := hh.status0
              have h3 : numB 999999999 p2.data.toList = r.status := h1
              rw [HE2.out] at h3; omega
          clear hN1 hN2 hcl hpsl hsl2
          by_cases hw : p0.data.toList = scoreW
          · have k1 : (p0.toList == [115, 99, 111, 114, 101]) = true := by rw [Lib.toList_data, hw]; rfl
            have HWD := Lib.hid hw
            clear hw
            by_cases hm1 : N1 < 0
            · have HN := Lib.hid (HNH.out (HNO.out (.inr (.inl hm1))))
              obtain ⟨F, hF, hFR, hFB⟩ : ∃ F, (((w2.setCell ⟨w.heap.size, 0, none⟩ (.int .i64 0)).setCell ⟨w.heap.size, 1, none⟩ (.int .i64 0)).setCell ⟨w.heap.size, 2, none⟩ (.slice none 0 0)) = F ∧ R3 F w.heap.size 0 0 (.slice none 0 0) ∧ Below w.heap.size w F := ⟨_, rfl, (((hat2.res.put0 (0)).put1 (0)).put2 (.slice none 0 0)), (((hat2.bel.setCell (p := ⟨w.heap.size, 0, none⟩) (Nat.le_refl _) (.int .i64 0)).setCell (p := ⟨w.heap.size, 1, none⟩) (Nat.le_refl _) (.int .i64 0)).setCell (p := ⟨w.heap.size, 2, none⟩) (Nat.le_refl _) (.slice none 0 0))⟩
              have HF := Lib.hid hF
              have HFR := Lib.hid hFR
              have HFB := Lib.hid hFB
              clear hF hFR hFB
              have z0 := hat2.res.cell.1
              have z1 := hat2.res.cell.2.1
              have z2 := hat2.res.cell.2.2
              have g0 := hat2.res.free 0
              have g1 := hat2.res.free 1
              have g2 := hat2.res.free 2
              clear hat2
              go_wp2_with (go_at_call 25; (first | (with_reducible refine (HN1.out _).mono ?_) | (with_reducible refine (HN2.out _).mono ?_)); rintro e w3 ⟨rfl, hw3⟩; rw [hw3]; clear hw3 w3)
              rw [HF.out]
              exact bodyPost_ret (v := .tuple #[.agg #[.int .i64 0, .int .i64 0, .slice none 0 0], .int .i64 ((n : Int) + 1), .int .i64 3]) (by simp [results, Tryz.results10, go_sem, HFR.out.cell.1, HFR.out.cell.2.1, HFR.out.cell.2.2]) rfl (HBAD.out F ((n : Int) + 1) 3 (by omega) (by decide) HN.out HFB.out)
            by_cases hm2 : N2 < 0
            · have HN := Lib.hid (HNH.out (HNO.out (.inr (.inr hm2))))
              obtain ⟨F, hF, hFR, hFB⟩ : ∃ F, (((w2.setCell ⟨w.heap.size, 0, none⟩ (.int .i64 0)).setCell ⟨w.heap.size, 1, none⟩ (.int .i64 0)).setCell ⟨w.heap.size, 2, none⟩ (.slice none 0 0)) = F ∧ R3 F w.heap.size 0 0 (.slice none 0 0) ∧ Below w.heap.size w F := ⟨_, rfl, (((hat2.res.put0 (0)).put1 (0)).put2 (.slice none 0 0)), (((hat2.bel.setCell (p := ⟨w.heap.size, 0, none⟩) (Nat.le_refl _) (.int .i64 0)).setCell (p := ⟨w.heap.size, 1, none⟩) (Nat.le_refl _) (.int .i64 0)).setCell (p := ⟨w.heap.size, 2, none⟩) (Nat.le_refl _) (.slice none 0 0))⟩
              have HF := Lib.hid hF
              have HFR := Lib.hid hFR
              have HFB := Lib.hid hFB
              clear hF hFR hFB
              have z0 := hat2.res.cell.1
              have z1 := hat2.res.cell.2.1
              have z2 := hat2.res.cell.2.2
              have g0 := hat2.res.free 0
              have g1 := hat2.res.free 1
              have g2 := hat2.res.free 2
              clear hat2
              go_wp2_with (go_at_call 25; (first | (with_reducible refine (HN1.out _).mono ?_) | (with_reducible refine (HN2.out _).mono ?_)); rintro e w3 ⟨rfl, hw3⟩; rw [hw3]; clear hw3 w3)
              rw [HF.out]
              exact bodyPost_ret (v := .tuple #[.agg #[.int .i64 0, .int .i64 0, .slice none 0 0], .int .i64 ((n : Int) + 1), .int .i64 3]) (by simp [results, Tryz.results10, go_sem, HFR.out.cell.1, HFR.out.cell.2.1, HFR.out.cell.2.2]) rfl (HBAD.out F ((n : Int) + 1) 3 (by omega) (by decide) HN.out HFB.out)
            have HPGN : Hid (Pg S.data.toList (n + 1) b N1 N2 (l.map RuM.r)) := Lib.hid (h1n.out N1 N2 (by rw [HSP3.out]; exact ⟨rfl, HWD.out, HE1.out, by show 0 ≤ N1; omega, HE2.out, by show 0 ≤ N2; omega⟩))
            have HEND : Hid (PyRel S w (.string (bs b)) (.int .i64 ((n : Int) + 1 + 1)) ((w2.setCell ⟨w.heap.size + 1, 0, none⟩ (.int .i64 N1)).setCell ⟨w.heap.size + 1, 1, none⟩ (.int .i64 N2)).drew) := Lib.hid ⟨n + 1, bs b, N1, N2, v, l, rfl, rfl, HPGN.out, hat2.head, fun h => by omega, by rw [bs_size]; omega, by rw [bs_size]; omega⟩
            have o0 := hat2.out.cell.1
            have o1 := hat2.out.cell.2.1
            have f0 := hat2.out.free 0
            have f1 := hat2.out.free 1
            have hbe := hat2.bel
            have hk1 : ∀ j u, (w2.setCell ⟨w.heap.size + 1, j, none⟩ u).cell? ⟨q, 1, none⟩ = some (.string p1) ∧ (w2.setCell ⟨w.heap.size + 1, j, none⟩ u).cell? ⟨q, 2, none⟩ = some (.string p2) := fun j u => ⟨(World.cell?_setCell_far _ _ _ _ (by show w.heap.size + 1 ≠ q; omega)).trans c1, (World.cell?_setCell_far _ _ _ _ (by show w.heap.size + 1 ≠ q; omega)).trans c2⟩
            have hk2 : ∀ j u j' u', ((w2.setCell ⟨w.heap.size + 1, j, none⟩ u).setCell ⟨w.heap.size + 1, j', none⟩ u').cell? ⟨q, 1, none⟩ = some (.string p1) ∧ ((w2.setCell ⟨w.heap.size + 1, j, none⟩ u).setCell ⟨w.heap.size + 1, j', none⟩ u').cell? ⟨q, 2, none⟩ = some (.string p2) := fun j u j' u' => ⟨(World.cell?_setCell_far _ _ _ _ (by show w.heap.size + 1 ≠ q; omega)).trans (hk1 j u).1, (World.cell?_setCell_far _ _ _ _ (by show w.heap.size + 1 ≠ q; omega)).trans (hk1 j u).2⟩
            have HK1 := Lib.hid hk1
            have HK2 := Lib.hid hk2
            clear hat2 hk1 hk2
            go_upto_region 14 with (go_at_call 25; (first | (with_reducible refine (HN1.out _).mono ?_) | (with_reducible refine (HN2.out _).mono ?_)); rintro e w3 ⟨rfl, hw3⟩; rw [hw3]; clear hw3 w3)
            go_wp2_with fail
            go_region_held3 (fun w' => w'.cell? ⟨q, 1, none⟩ = some (.string p1) ∧ w'.cell? ⟨q, 2, none⟩ = some (.string p2))
              (first | exact ⟨c1, c2⟩ | exact HK1.out _ _ | exact HK2.out _ _ _ _ | go_keep | fail "keep")
              (first
                | (go_at_call 25; (first | (with_reducible refine (HN1.out _).mono ?_) | (with_reducible refine (HN2.out _).mono ?_)); rintro e w3 ⟨rfl, hw3⟩; rw [hw3]; clear hw3 w3)
                | fail "arm")
            go_wp2_with fail
            exact ⟨HEND.out, by show (bs b).size < rest.size; rw [bs_size]; omega⟩
          · have k1 : (p0.toList == [115, 99, 111, 114, 101]) = false := by rw [Lib.toList_data]; exact beq_eq_false_iff_ne.2 hw
            have HN := Lib.hid (HNH.out (HNO.out (.inl hw)))
            clear hw
            obtain ⟨F, hF, hFR, hFB⟩ : ∃ F, (((w2.setCell ⟨w.heap.size, 0, none⟩ (.int .i64 0)).setCell ⟨w.heap.size, 1, none⟩ (.int .i64 0)).setCell ⟨w.heap.size, 2, none⟩ (.slice none 0 0)) = F ∧ R3 F w.heap.size 0 0 (.slice none 0 0) ∧ Below w.heap.size w F := ⟨_, rfl, (((hat2.res.put0 (0)).put1 (0)).put2 (.slice none 0 0)), (((hat2.bel.setCell (p := ⟨w.heap.size, 0, none⟩) (Nat.le_refl _) (.int .i64 0)).setCell (p := ⟨w.heap.size, 1, none⟩) (Nat.le_refl _) (.int .i64 0)).setCell (p := ⟨w.heap.size, 2, none⟩) (Nat.le_refl _) (.slice none 0 0))⟩
            have HF := Lib.hid hF
            have HFR := Lib.hid hFR
            have HFB := Lib.hid hFB
            clear hF hFR hFB
            have z0 := hat2.res.cell.1
            have z1 := hat2.res.cell.2.1
            have z2 := hat2.res.cell.2.2
            have g0 := hat2.res.free 0
            have g1 := hat2.res.free 1
            have g2 := hat2.res.free 2
            clear hat2
            go_wp2_with fail
            rw [HF.out]
            exact bodyPost_ret (v := .tuple #[.agg #[.int .i64 0, .int .i64 0, .slice none 0 0], .int .i64 ((n : Int) + 1), .int .i64 3]) (by simp [results, Tryz.results10, go_sem, HFR.out.cell.1, HFR.out.cell.2.1, HFR.out.cell.2.2]) rfl (HBAD.out F ((n : Int) + 1) 3 (by omega) (by decide) HN.out HFB.out)
        · have k3 : ((ps.length : Int) == 3) = false := beq_eq_false_iff_ne.2 (by omega)
          have HN := Lib.hid (HNH.out fun r hh => h3 (by have := hh.len; omega))
          obtain ⟨F, hF, hFR, hFB⟩ : ∃ F, (((w2.setCell ⟨w.heap.size, 0, none⟩ (.int .i64 0)).setCell ⟨w.heap.size, 1, none⟩ (.int .i64 0)).setCell ⟨w.heap.size, 2, none⟩ (.slice none 0 0)) = F ∧ R3 F w.heap.size 0 0 (.slice none 0 0) ∧ Below w.heap.size w F := ⟨_, rfl, (((hat2.res.put0 (0)).put1 (0)).put2 (.slice none 0 0)), (((hat2.bel.setCell (p := ⟨w.heap.size, 0, none⟩) (Nat.le_refl _) (.int .i64 0)).setCell (p := ⟨w.heap.size, 1, none⟩) (Nat.le_refl _) (.int .i64 0)).setCell (p := ⟨w.heap.size, 2, none⟩) (Nat.le_refl _) (.slice none 0 0))⟩
          have HF := Lib.hid hF
          have HFR := Lib.hid hFR
          have HFB := Lib.hid hFB
          clear hF hFR hFB
          have z0 := hat2.res.cell.1
          have z1 := hat2.res.cell.2.1
          have z2 := hat2.res.cell.2.2
          have g0 := hat2.res.free 0
          have g1 := hat2.res.free 1
          have g2 := hat2.res.free 2
          clear hat2
          go_wp2_with fail
          rw [HF.out]
          exact bodyPost_ret (v := .tuple #[.agg #[.int .i64 0, .int .i64 0, .slice none 0 0], .int .i64 ((n : Int) + 1), .int .i64 3]) (by simp [results, Tryz.results10, go_sem, HFR.out.cell.1, HFR.out.cell.2.1, HFR.out.cell.2.2]) rfl (HBAD.out F ((n : Int) + 1) 3 (by omega) (by decide) HN.out HFB.out)
    · have hn1 : 1 ≤ n := by omega
      have hr0 : rest.data.toList = [] := by
        by_cases h : rest.data.toList = []
        · exact h
        · exact absurd (.inr h) hin
      have q1 : ((n : Int) + 1 == 1) = false := beq_eq_false_iff_ne.2 (by omega)
      have q2 : (rest.toList == []) = true := by rw [Lib.toList_data, hr0]; rfl
      have q3 : rest.toList.isEmpty = true := by rw [Lib.toList_data, hr0]; rfl
      rw [hr0] at hpg
      obtain ⟨A, c, rfl, hcap, hsl⟩ := hat.rows.form
      have hlies : RuLies wr wr.heap.size ⟨m, st, A, c, l⟩ := ⟨hsl, fun x hx => (hat.own x hx).ruIn, hcap⟩
      have hbulk : RuBulk ⟨m, st, A, c, l⟩ := ⟨by show l.length ≤ _; omega, hat.small⟩
      have hck := Check_any ⟨m, st, A, c, l⟩ wr hlies hbulk (HLB.out wr hat.bel)
      unfold RuArg.value at hck
      dsimp only at hck
      have HCK := Lib.hid hck
      have HPG := Lib.hid hpg
      have HLI := Lib.hid hlies
      have HBU := Lib.hid hbulk
      have HAT := Lib.hid hat
      have hset : RuArg.set ⟨m, st, A, c, l⟩ = ⟨m, st, l.map RuM.r⟩ := rfl
      rw [hset] at HCK
      have o0 := hat.out.cell.1
      have o1 := hat.out.cell.2.1
      have o2 := hat.out.cell.2.2
      clear hsl hlies hbulk hck hpg hr0 hin hset
      by_cases hc : checkR argC ⟨m, st, l.map RuM.r⟩ = 0
      · rw [hc] at HCK
        have HRD := Lib.hid (pg_done HPG.out hn1 (by simpa using hS) hc)
        clear hc
        go_wp2_with fail
        refine HCK.out.mono ?_
        rintro e w2 ⟨rfl, hb2⟩
        have hat2 := HAT.out.below hb2
        have HLI2 := Lib.hid (HLI.out.keep hb2 hb2.size)
        clear o0 o1 o2 hat
        obtain ⟨F, hF, hFR, hFB⟩ : ∃ F, (((w2.setCell ⟨w.heap.size, 0, none⟩ (.int .i64 m)).setCell ⟨w.heap.size, 1, none⟩ (.int .i64 st)).setCell ⟨w.heap.size, 2, none⟩ (.slice A l.length c)) = F ∧ R3 F w.heap.size m st (.slice A l.length c) ∧ Below w.heap.size w F := ⟨_, rfl, (((hat2.res.put0 (m)).put1 (st)).put2 (.slice A l.length c)), (((hat2.bel.setCell (p := ⟨w.heap.size, 0, none⟩) (Nat.le_refl _) (.int .i64 m)).setCell (p := ⟨w.heap.size, 1, none⟩) (Nat.le_refl _) (.int .i64 st)).setCell (p := ⟨w.heap.size, 2, none⟩) (Nat.le_refl _) (.slice A l.length c))⟩
        have HF := Lib.hid hF
        have HFR := Lib.hid hFR
        have HFB := Lib.hid hFB
        have z0 := hat2.res.cell.1
        have z1 := hat2.res.cell.2.1
        have z2 := hat2.res.cell.2.2
        have g0 := hat2.res.free 0
        have g1 := hat2.res.free 1
        have g2 := hat2.res.free 2
        have HLF : Hid (RuLies F F.heap.size ⟨m, st, A, c, l⟩) := Lib.hid (by
          rw [← hF]
          have rows : OwnRu ((((w2.setCell ⟨w.heap.size, 0, none⟩ (.int .i64 m)).setCell ⟨w.heap.size, 1, none⟩ (.int .i64 st)).setCell ⟨w.heap.size, 2, none⟩ (.slice A l.length c))) (w.heap.size + 1 + 1) (.slice A l.length c) l := ruOwn_farS (ruOwn_farS (ruOwn_farS hat2.rows (by omega) 0 (.int .i64 m)) (by omega) 1 (.int .i64 st)) (by omega) 2 (.slice A l.length c)
          have own : ∀ x ∈ l, RuOwn ((((w2.setCell ⟨w.heap.size, 0, none⟩ (.int .i64 m)).setCell ⟨w.heap.size, 1, none⟩ (.int .i64 st)).setCell ⟨w.heap.size, 2, none⟩ (.slice A l.length c))) (w.heap.size + 1 + 1) x := fun x hx => (((hat2.own x hx).farS (by omega) 0 (.int .i64 m)).farS (by omega) 1 (.int .i64 st)).farS (by omega) 2 (.slice A l.length c)
          obtain ⟨A', c', e', hcap', hsl'⟩ := rows.form
          injection e' with e1 e2 e3
          subst e1; subst e3
          exact ⟨hsl', fun x hx => (own x hx).ruIn, hcap'⟩)
        have HOK : Hid (RuParsePost S w (.returned (.tuple #[.agg #[.int .i64 m, .int .i64 st, .slice A l.length c], .int .i64 0, .int .i64 0])) F) := Lib.hid ⟨⟨m, st, A, c, l⟩, 0, 0, rfl, Int.le_refl _, fun _ => ⟨rfl, HRD.out, HLF.out, HBU.out⟩, fun e => absurd rfl e, fun h => by omega, HFB.out⟩
        clear hF hFR hFB
        have o0 := hat2.out.cell.1
        have o1 := hat2.out.cell.2.1
        have o2 := hat2.out.cell.2.2
        clear hat2
        go_wp2_with fail
        rw [HF.out]
        exact bodyPost_ret (v := .tuple #[.agg #[.int .i64 m, .int .i64 st, .slice A l.length c], .int .i64 0, .int .i64 0]) (by simp [results, Tryz.results10, go_sem, HFR.out.cell.1, HFR.out.cell.2.1, HFR.out.cell.2.2]) rfl (HOK.out)
      · have qc : (checkR argC ⟨m, st, l.map RuM.r⟩ == 0) = false := beq_eq_false_iff_ne.2 hc
        have HN := Lib.hid (pg_wrong HPG.out hn1 hc)
        have HC0 := Lib.hid hc
        generalize checkR argC ⟨m, st, l.map RuM.r⟩ = code at *
        clear hc
        go_wp2_with fail
        refine HCK.out.mono ?_
        rintro e w2 ⟨rfl, hb2⟩
        have hat2 := HAT.out.below hb2
        clear o0 o1 o2 hat
        obtain ⟨F, hF, hFR, hFB⟩ : ∃ F, (((w2.setCell ⟨w.heap.size, 0, none⟩ (.int .i64 0)).setCell ⟨w.heap.size, 1, none⟩ (.int .i64 0)).setCell ⟨w.heap.size, 2, none⟩ (.slice none 0 0)) = F ∧ R3 F w.heap.size 0 0 (.slice none 0 0) ∧ Below w.heap.size w F := ⟨_, rfl, (((hat2.res.put0 (0)).put1 (0)).put2 (.slice none 0 0)), (((hat2.bel.setCell (p := ⟨w.heap.size, 0, none⟩) (Nat.le_refl _) (.int .i64 0)).setCell (p := ⟨w.heap.size, 1, none⟩) (Nat.le_refl _) (.int .i64 0)).setCell (p := ⟨w.heap.size, 2, none⟩) (Nat.le_refl _) (.slice none 0 0))⟩
        have HF := Lib.hid hF
        have HFR := Lib.hid hFR
        have HFB := Lib.hid hFB
        clear hF hFR hFB
        have z0 := hat2.res.cell.1
        have z1 := hat2.res.cell.2.1
        have z2 := hat2.res.cell.2.2
        have g0 := hat2.res.free 0
        have g1 := hat2.res.free 1
        have g2 := hat2.res.free 2
        clear hat2
        go_wp2_with fail
        rw [HF.out]
        exact bodyPost_ret (v := .tuple #[.agg #[.int .i64 0, .int .i64 0, .slice none 0 0], .int .i64 0, .int .i64 code]) (by simp [results, Tryz.results10, go_sem, HFR.out.cell.1, HFR.out.cell.2.1, HFR.out.cell.2.2]) rfl (HBAD.out F 0 code (Int.le_refl _) HC0.out HN.out HFB.out)
end Go.Proofs.YtdkbfljhfhjofaaGreatDoor
