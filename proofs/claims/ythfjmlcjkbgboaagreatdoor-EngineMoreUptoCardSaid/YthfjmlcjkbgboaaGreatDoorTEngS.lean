/- EngineMore. -/
import Derived.Test.YthfjmlcjkbgboaaGreatDoorTEngQ
import Derived.Test.YthfjmlcjkbgboaaGreatDoorM43
namespace Go.Proofs.YthfjmlcjkbgboaaGreatDoor
open Go.RowKit

theorem drop_is : isR dropR (ByteArray.mk #[71, 69, 84]) (ByteArray.mk #[47, 97, 63, 98, 61, 99]) (ByteArray.mk #[]) [] 0 0 [(ByteArray.mk #[97], ByteArray.mk #[97, 32, 83, 69, 76, 69, 67, 84])] [] = true := by
 have h : tstO 2 dropB = tstP (phrW dropB) := by funext v; unfold tstO; rfl
 have h2 : phrW dropB = [⟨#[100, 114, 111, 112]⟩, ⟨#[115, 101, 108, 101, 99, 116]⟩] := by unfold phrW; rw [drop_pieces]; rfl
 unfold isR
 show (allP _ _ _).any (hitX [1] false (tstO 2 dropB)) = true
 rw [h, h2]
 decide +kernel
theorem drop_first (x : RuM) (hx : x.r = dropR) (g : Nat) (W : World) (hin : RuIn W W.heap.size x) (hs : RuSmall x.r) (hlib : LibOk W) (htab : TabOk W) (hA : W.heap[g]? = some (.cells #[.string (ByteArray.mk #[97]), .string (ByteArray.mk #[97, 32, 83, 69, 76, 69, 67, 84])] 43 (0, 0))) :
  Calls Tryz.prog 9 #[.agg #[.int .i64 x.r.id, .int .i64 x.r.phase, .slice x.vA x.r.vars.length x.vc, .slice x.pA x.r.pipe.length x.pc, .bool x.r.no, .int .i64 x.r.op, .string x.r.arg, .slice x.aA x.r.acts.length x.ac, .bool x.r.chain], .agg #[.string (ByteArray.mk #[71, 69, 84]), .string (ByteArray.mk #[47, 97, 63, 98, 61, 99]), .slice none 0 0, .string (ByteArray.mk #[])], .int .u32 0, .int .i64 0, .slice (some ⟨g, 0, none⟩) 1 1, .slice none 0 0] W (MatP 0 true W) := by
 have := Matches_any x (ByteArray.mk #[71, 69, 84]) (ByteArray.mk #[47, 97, 63, 98, 61, 99]) (ByteArray.mk #[]) [] none 0 0 0 [(ByteArray.mk #[97], ByteArray.mk #[97, 32, 83, 69, 76, 69, 67, 84])] (some ⟨g, 0, none⟩) 1 [] none 0 W hin hs ⟨Sl.nil _ _ _ _, sl_block hA (heap_lt hA) rfl, Sl.nil _ _ _ _, hlib, htab⟩ ⟨by decide, by decide, fun f hf => (by cases hf), by decide, by decide, by decide, by decide⟩
 have e : isM x (ByteArray.mk #[71, 69, 84]) (ByteArray.mk #[47, 97, 63, 98, 61, 99]) (ByteArray.mk #[]) [] 0 0 [(ByteArray.mk #[97], ByteArray.mk #[97, 32, 83, 69, 76, 69, 67, 84])] [] = true := by rw [isM_isR, hx]; exact drop_is
 rw [drop_code x hx, if_pos rfl, e] at this
 exact this
theorem list_first (x : RuM) (V : Nat) (m t b : ByteArray) (fs : List PairV) (A : Option Addr) (c : Nat) (list : List Pair) (Al : Option Addr) (c1 : Nat) (W : World) (hin : RuIn W W.heap.size x) (hs : RuSmall x.r)
  (hV : W.heap[V]? = some (.cells #[.int .i64 6, .int .i64 0, .string (ByteArray.mk #[])] 41 (0, 0))) (hv : ValIn m t b fs A list Al [] none W) (hz : ValSz t fs list [] 0 0) :
  Calls Tryz.prog 9 #[.agg #[.int .i64 x.r.id, .int .i64 x.r.phase, .slice (some ⟨V, 0, none⟩) 1 1, .slice x.pA x.r.pipe.length x.pc, .bool x.r.no, .int .i64 x.r.op, .string x.r.arg, .slice x.aA x.r.acts.length x.ac, .bool x.r.chain], .agg #[.string m, .string t, .slice A fs.length c, .string b], .int .u32 0, .int .i64 0, .slice Al list.length c1, .slice none 0 0] W
   (MatP (codeM (oneR' x ⟨V, 0, none⟩ x.r.no)) (if codeM (oneR' x ⟨V, 0, none⟩ x.r.no) = 0 then list.any (hitX x.r.pipe x.r.no (tstO x.r.op x.r.arg)) else false) W) := by
 have := Matches_any (oneR' x ⟨V, 0, none⟩ x.r.no) m t b fs A c 0 0 list Al c1 [] none 0 W ⟨sl_block hV (heap_lt hV) rfl, hin.pipe, hin.acts⟩ ⟨by show 1 ≤ 1048576; decide, fun y hy => by rw [List.mem_singleton.1 hy]; show 0 ≤ 1048576; decide, hs.pipe, hs.arg, hs.acts⟩ hv hz
 rw [is_one] at this
 exact this
section
variable {ops : Array Oper} {o : Oper} {a : Act} {Q : Exit → Act → World → Prop} {w : World}
theorem run_append_nilA (base : Nat) (ty : TypeId) (v : Value) (l : List Pair) (c : Nat) (hown : OwnA w base v l) : (Builtin.append_ #[44, 44] ty #[v, .slice none 0 c]).run Tryz.prog w = .ok v w := by
 obtain ⟨i0, hi, hz0, hz1, hz2⟩ := info_parts info_arg
 rcases hown.2 with ⟨rfl, _⟩ | ⟨g, cap, cur, rfl, _, _, hnc, _⟩
 · simp [Builtin.append_, run_underlying Tryz.underlying44, sizeOf, typeInfo, hi, Builtin.lenOf, Builtin.firstCells]
 · simp [Builtin.append_, run_underlying Tryz.underlying44, sizeOf, typeInfo, hi, Builtin.lenOf, Builtin.firstCells, hnc, storeCells]
theorem step_append_sl {K : Act → World → Prop} {E : Prop} (hgd : o.guard = none) (s x : Operand) (ho : o.op = .call { callee := .builtin .append, args := #[s, x], argTypes := #[44, 44] })
  (base : Nat) (v : Value) (l : List Pair) (hs : a.eval s = v) (hown : OwnA w base v l) (hbase : base ≤ w.heap.size)
  (A : Option Addr) (c : Nat) (more : List Pair) (hx : a.eval x = .slice A more.length c) (hsl : Sl w w.heap.size 2 A more.length (more.flatMap cellsA))
  (hbytes : l.length + more.length ≤ 4194304)
  (h : ∀ v' w', OwnA w' base v' (l ++ more) → Below base w w' → (∀ g, g < w.heap.size → v.ownBlock ≠ some g → w'.heap[g]? = w.heap[g]?) → w.heap.size ≤ w'.heap.size → K (a.put o.dst v') w') :
  if Region.wanted o (yielded ops a.tmps) = true then Oper.wp Tryz.prog o a w K Q else E := by
 have hw : Region.wanted o (yielded ops a.tmps) = true := by simp [Region.wanted, hgd]
 rw [if_pos hw]
 obtain ⟨i0, hi, hz0, hz1, hz2⟩ := info_parts info_arg
 cases A with
 | none =>
  have hm : more = [] := by
   cases more with
   | nil => rfl
   | cons y r =>
    obtain ⟨b, off, e, _⟩ := hsl.src (by rw [cellsA_len]; simp)
    cases e
  subst hm
  have hr := run_append_nilA (w := w) base o.type v l c hown
  unfold Oper.wp execOp
  simp only [ho, resolve, invoke, builtin, Sem.run_bind, Sem.run_pure, Result.andThen_ok, List.map_toArray, List.map_cons, List.map_nil, hs, hx, List.length_nil, hr]
  exact h v w (by rw [List.append_nil]; exact hown) (Below.refl _ _) (fun _ _ _ => rfl) (Nat.le_refl _)
 | some ad =>
  have hcell : ∀ j z, (more.flatMap cellsA)[j]? = some z → w.cell? (Addr.add ad j) = some z := fun j z hz => by
   have hj : j < (more.flatMap cellsA).length := by
    rw [List.getElem?_eq_some_iff] at hz; exact hz.1
   obtain ⟨b, off, e, _, hc⟩ := hsl.src (by omega)
   have e := Option.some.inj e
   subst e
   have := hc j hj
   rw [List.getElem?_eq_getElem hj] at hz
   have hz := Option.some.inj hz
   have e9 : (⟨b, off, none⟩ : Addr).add j = ⟨b, off + j, none⟩ := by unfold Addr.add; split <;> simp_all
   rw [e9, this, hz]
  refine wp_append_own (P := Tryz.prog) w s x 44 ho base 43 i0 _ 2 32 Tryz.underlying44 hi hz0 hz1 hz2 rfl (by decide) v l.length (l.flatMap cellsA) hs hown ad more.length c (more.flatMap cellsA) hx (cellsA_len more) hcell (cellsA_one more)
   (by unfold maxLen; omega) (by omega) hbase ?_
  intro v' w' ho' hgr _
  exact h v' w' (by unfold OwnA; rw [List.length_append, List.flatMap_append]; exact ho') ((Below.refl _ _).grown hgr hbase (fun k hk => (World.ownsRow.lt hown k hk).1)) (fun k hk hne => hgr.block k hk (fun e => hne e.symm)) hgr.size
end
end Go.Proofs.YthfjmlcjkbgboaaGreatDoor
