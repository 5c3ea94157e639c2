/- A rule asked of one argument; the simple rules. -/
import Derived.Test.YthfjmlcjkbgboaaGreatDoorM43
import Derived.Deep.RegionHeld3
namespace Go.Proofs.YthfjmlcjkbgboaaGreatDoor
open Go.RowKit

noncomputable def isR (r : RuOne) (m t b : ByteArray) (fs : List PairV) (cl : Nat) (sc : Int) (list cook : List Pair) : Bool :=
 (allP (vfP m t b fs cl sc list cook) (r.vars.map varQ) (r.vars.map varQ)).any (hitX r.pipe r.no (tstO r.op r.arg))
theorem isM_isR (x : RuM) (m t b : ByteArray) (fs : List PairV) (cl : Nat) (sc : Int) (list cook : List Pair) : isM x m t b fs cl sc list cook = isR x.r m t b fs cl sc list cook := rfl
def evilR : RuOne := ⟨1, 1, [⟨3, 0, ByteArray.mk #[]⟩], [], false, 4, evilB, [⟨2, 404⟩], false⟩
def dropR : RuOne := ⟨2, 2, [⟨6, 0, ByteArray.mk #[]⟩], [1], false, 2, dropB, [⟨3, 10⟩], false⟩
theorem simple_list : simpleSet.list = [evilR, dropR] := rfl
theorem evil_code' (f : Int → ByteArray → Int) (h1 : f 4 evilB = 0) : checkR f ⟨1, 400, [evilR]⟩ = 0 := by
 have v1 : firstC varC [⟨3, 0, ByteArray.mk #[]⟩] = 0 := by decide
 have a1 : firstC actC [⟨2, 404⟩] = 0 := by decide
 have p1 : checkP [] = 0 := by decide
 simp [checkR, evilR, goC, oneC, chainC, v1, a1, p1, h1]
theorem drop_code' (f : Int → ByteArray → Int) (h2 : f 2 dropB = 0) : checkR f ⟨1, 400, [dropR]⟩ = 0 := by
 have v2 : firstC varC [⟨6, 0, ByteArray.mk #[]⟩] = 0 := by decide
 have a2 : firstC actC [⟨3, 10⟩] = 0 := by decide
 have p2 : checkP [1] = 0 := by decide
 simp [checkR, dropR, goC, oneC, chainC, v2, a2, p2, h2]
theorem evil_code (x : RuM) (h : x.r = evilR) : codeM x = 0 := by
 unfold codeM RuM.solo
 dsimp only
 rw [h]
 exact evil_code' argC evil_arg
theorem drop_code (x : RuM) (h : x.r = dropR) : codeM x = 0 := by
 unfold codeM RuM.solo
 dsimp only
 rw [h]
 exact drop_code' argC drop_arg
def evilT : ByteArray := ByteArray.mk #[47, 101, 118, 105, 108]
theorem evil_is : isR evilR (ByteArray.mk #[]) evilT (ByteArray.mk #[]) [] 0 0 [] [] = true := by
 have h : tstO 4 evilB = tstT 4 evilB := by funext v; unfold tstO; rfl
 unfold isR
 show (allP _ _ _).any (hitX [] false (tstO 4 evilB)) = true
 rw [h]
 decide +kernel
theorem ruTwo {l : List RuM} {a b : RuOne} (h : l.map RuM.r = [a, b]) : ∃ x y, l = [x, y] ∧ x.r = a ∧ y.r = b := by
 match l, h with
 | [x, y], h =>
  injection h with h1 h2
  injection h2 with h2 _
  exact ⟨x, y, rfl, h1, h2⟩
theorem simple_two {a : RuArg} {W : World} (h1 : a.set = simpleSet) (h2 : RuLies W W.heap.size a) (h3 : RuBulk a) : ∃ g off c x y, a.value = .agg #[.int .i64 10, .int .i64 403, .slice (some ⟨g, off, none⟩) 2 c] ∧ x.r = evilR ∧ y.r = dropR ∧ RuIn W W.heap.size x ∧ RuIn W W.heap.size y ∧ RuSmall x.r ∧ RuSmall y.r ∧
  (∀ j, j < 9 → ∀ v, (cellsRu x)[j]? = some v → W.cell? ⟨g, off + j, none⟩ = some v) ∧ (∀ j, j < 9 → ∀ v, (cellsRu y)[j]? = some v → W.cell? ⟨g, off + 9 + j, none⟩ = some v) := by
 obtain ⟨most, status, A, c, l⟩ := a
 have e1 : most = 10 := congrArg RuSet.most h1
 have e2 : status = 403 := congrArg RuSet.status h1
 have e3 : l.map RuM.r = [evilR, dropR] := congrArg RuSet.list h1
 obtain ⟨x, y, rfl, hx, hy⟩ := ruTwo e3
 subst e1; subst e2
 obtain ⟨g, off, e, _, hc0⟩ := ruR_at (l := [x, y]) h2.sl 0 (by simp)
 obtain ⟨g', off', e', _, hc1⟩ := ruR_at (l := [x, y]) h2.sl 1 (by simp)
 dsimp only at e e'
 subst e
 injection e' with e'
 injection e' with e4 e5
 subst e4; subst e5
 refine ⟨g, off, c, x, y, rfl, hx, hy, h2.all x (by simp), h2.all y (by simp), h3.all x (by simp), h3.all y (by simp), fun j hj v hv => ?_, fun j hj v hv => ?_⟩
 · have := hc0 j hj v hv
   simpa using this
 · have := hc1 j hj v hv
   simpa using this
theorem R9.cells9 {w : World} {g : Nat} {a0 a1 a2 a3 a4 a5 a6 a7 a8 : Value} (h : R9 w g a0 a1 a2 a3 a4 a5 a6 a7 a8) :
  w.cell? ⟨g, 0, none⟩ = some a0 ∧ w.cell? ⟨g, 1, none⟩ = some a1 ∧ w.cell? ⟨g, 2, none⟩ = some a2 ∧ w.cell? ⟨g, 3, none⟩ = some a3 ∧ w.cell? ⟨g, 4, none⟩ = some a4 ∧ w.cell? ⟨g, 5, none⟩ = some a5 ∧ w.cell? ⟨g, 6, none⟩ = some a6 ∧ w.cell? ⟨g, 7, none⟩ = some a7 ∧ w.cell? ⟨g, 8, none⟩ = some a8 :=
 ⟨h.cell 0, h.cell 1, h.cell 2, h.cell 3, h.cell 4, h.cell 5, h.cell 6, h.cell 7, h.cell 8⟩
def MatP (C : Int) (a : Bool) (w : World) (e : Ending) (w' : World) : Prop := e = .returned (.tuple #[.bool a, .int .i64 C]) ∧ Below w.heap.size w w'
theorem exP_one (v : VarV) (x : Pair) : exP [⟨v.k, 0, v.n⟩] ⟨v.k, 0, v.n⟩ x = false := rfl
theorem all_one (vf : VarV → List Pair) (v : VarV) : allP vf [⟨v.k, 0, v.n⟩] [⟨v.k, 0, v.n⟩] = vf ⟨v.k, 0, v.n⟩ := by
 unfold allP
 rw [List.flatMap_cons, List.flatMap_nil, List.append_nil]
 unfold stepQ leftQ
 rw [if_neg (by show ¬ (0 : Int) = 2; decide), if_neg (by show ¬ (0 : Int) = 1; decide)]
 exact List.filter_eq_self.2 fun x _ => by rw [exP_one]; rfl
def oneR' (x : RuM) (V : Addr) (no : Bool) : RuM := { x with r := { x.r with vars := [⟨6, 0, ByteArray.mk #[]⟩], no := no }, vA := some V, vc := 1 }
theorem code_not (x : RuM) (V : Addr) (a b : Bool) : codeM (oneR' x V a) = codeM (oneR' x V b) := rfl
theorem is_one (x : RuM) (V : Addr) (no : Bool) (m t b : ByteArray) (fs : List PairV) (cl : Nat) (sc : Int) (list cook : List Pair) :
  isM (oneR' x V no) m t b fs cl sc list cook = list.any (hitX x.r.pipe no (tstO x.r.op x.r.arg)) := by
 show (allP (vfP m t b fs cl sc list cook) [⟨6, 0, ByteArray.mk #[]⟩] [⟨6, 0, ByteArray.mk #[]⟩]).any _ = _
 rw [all_one (vfP m t b fs cl sc list cook) ⟨6, 0, ByteArray.mk #[]⟩]
 have : vfP m t b fs cl sc list cook ⟨6, 0, ByteArray.mk #[]⟩ = list := only_all list
 rw [this]
 rfl
theorem evil_first (x : RuM) (hx : x.r = evilR) (W : World) (hin : RuIn W W.heap.size x) (hs : RuSmall x.r) (hlib : LibOk W) (htab : TabOk W) :
  Calls Tryz.prog 9 #[.agg #[.int .i64 x.r.id, .int .i64 x.r.phase, .slice x.vA x.r.vars.length x.vc, .slice x.pA x.r.pipe.length x.pc, .bool x.r.no, .int .i64 x.r.op, .string x.r.arg, .slice x.aA x.r.acts.length x.ac, .bool x.r.chain], .agg #[.string (ByteArray.mk #[]), .string (ByteArray.mk #[47, 101, 118, 105, 108]), .slice none 0 0, .string (ByteArray.mk #[])], .int .u32 0, .int .i64 0, .slice none 0 0, .slice none 0 0] W (MatP 0 true W) := by
 have := Matches_any x (ByteArray.mk #[]) evilT (ByteArray.mk #[]) [] none 0 0 0 [] none 0 [] none 0 W hin hs ⟨Sl.nil _ _ _ _, Sl.nil _ _ _ _, Sl.nil _ _ _ _, hlib, htab⟩ ⟨by decide, by decide, fun f hf => (by cases hf), by decide, by decide, by decide, by decide⟩
 have e : isM x (ByteArray.mk #[]) evilT (ByteArray.mk #[]) [] 0 0 [] [] = true := by rw [isM_isR, hx]; exact evil_is
 rw [evil_code x hx, if_pos rfl, e] at this
 exact this
theorem one_first (x : RuM) (V g : Nat) (no : Bool) (v : ByteArray) (_ : v.size ≤ 4194304) (W : World) (hin : RuIn W W.heap.size x) (hs : RuSmall x.r) (hlib : LibOk W) (htab : TabOk W)
  (hV : W.heap[V]? = some (.cells #[.int .i64 6, .int .i64 0, .string (ByteArray.mk #[])] 41 (0, 0))) (hA : W.heap[g]? = some (.cells #[.string (ByteArray.mk #[97]), .string v] 43 (0, 0))) :
  Calls Tryz.prog 9 #[.agg #[.int .i64 x.r.id, .int .i64 x.r.phase, .slice (some ⟨V, 0, none⟩) 1 1, .slice x.pA x.r.pipe.length x.pc, .bool no, .int .i64 x.r.op, .string x.r.arg, .slice x.aA x.r.acts.length x.ac, .bool x.r.chain], .agg #[.string (ByteArray.mk #[71, 69, 84]), .string (ByteArray.mk #[47, 97, 63, 98, 61, 99]), .slice none 0 0, .string (ByteArray.mk #[])], .int .u32 0, .int .i64 0, .slice (some ⟨g, 0, none⟩) 1 1, .slice none 0 0] W
   (MatP (codeM (oneR' x ⟨V, 0, none⟩ true)) (if codeM (oneR' x ⟨V, 0, none⟩ true) = 0 then hitX x.r.pipe no (tstO x.r.op x.r.arg) (ByteArray.mk #[97], v) else false) W) := by
 have := Matches_any (oneR' x ⟨V, 0, none⟩ no) (ByteArray.mk #[71, 69, 84]) (ByteArray.mk #[47, 97, 63, 98, 61, 99]) (ByteArray.mk #[]) [] none 0 0 0 [(ByteArray.mk #[97], v)] (some ⟨g, 0, none⟩) 1 [] none 0 W ⟨sl_block hV (heap_lt hV) rfl, hin.pipe, hin.acts⟩ ⟨by show 1 ≤ 1048576; decide, fun y hy => by rw [List.mem_singleton.1 hy]; show 0 ≤ 1048576; decide, hs.pipe, hs.arg, hs.acts⟩ ⟨Sl.nil _ _ _ _, sl_block hA (heap_lt hA) rfl, Sl.nil _ _ _ _, hlib, htab⟩ ⟨by decide, by decide, fun f hf => (by cases hf), by show 1 ≤ 4194304; decide, by decide, by decide, by decide⟩
 rw [code_not x ⟨V, 0, none⟩ no true, is_one] at this
 have e : [(ByteArray.mk #[97], v)].any (hitX x.r.pipe no (tstO x.r.op x.r.arg)) = hitX x.r.pipe no (tstO x.r.op x.r.arg) (ByteArray.mk #[97], v) := by rw [List.any_cons, List.any_nil, Bool.or_false]
 rw [e] at this
 exact this
end Go.Proofs.YthfjmlcjkbgboaaGreatDoor
