/- The walk of vars.All. -/
import Derived.Test.YtchoenfclfafiaaDoorVarV
import Derived.Test.YtchoenfclfafiaaDoorCFV
namespace Go.Proofs.YtchoenfclfafiaaDoor
open Go.RowKit

structure VarV where
  k : Int
  m : Int
  n : ByteArray
def cellsQ (v : VarV) : List Value := [.int .i64 v.k, .int .i64 v.m, .string v.n]
def exB (v : VarV) (x : Pair) (no : VarV) : Bool := (no.m == 2) && (no.k == v.k) && (no.n.toList.isEmpty || (no.n.toList == x.1.toList))
def exP (l : List VarV) (v : VarV) (x : Pair) : Bool := l.any (exB v x)
def leftP (l : List VarV) (v : VarV) (vals : List Pair) : List Pair := vals.filter fun x => !exP l v x
def stepP (l : List VarV) (v : VarV) (vals : List Pair) : List Pair :=
  if v.m = 2 then [] else if v.m = 1 then oneV (bs (Lib.itoa (leftP l v vals).length)) else leftP l v vals
def allP (vf : VarV → List Pair) (l s : List VarV) : List Pair := s.flatMap fun v => stepP l v (vf v)
theorem leftP_snoc (l : List VarV) (v : VarV) (vals : List Pair) (k : Nat) (h : k < vals.length) : leftP l v (vals.take (k + 1)) = leftP l v (vals.take k) ++ if exP l v vals[k] = true then [] else [vals[k]] := by
  unfold leftP
  rw [List.take_succ_eq_append_getElem h, List.filter_append]
  by_cases c : exP l v vals[k] = true <;> simp [c]
theorem leftP_le (l : List VarV) (v : VarV) (vals : List Pair) (k : Nat) : (leftP l v (vals.take k)).length ≤ k := Nat.le_trans (List.length_filter_le _ _) (List.length_take_le _ _)
theorem allP_snoc (vf : VarV → List Pair) (l s : List VarV) (k : Nat) (h : k < s.length) : allP vf l (s.take (k + 1)) = allP vf l (s.take k) ++ stepP l s[k] (vf s[k]) := by
  unfold allP
  rw [List.take_succ_eq_append_getElem h, List.flatMap_append]
  simp
theorem allP_le (vf : VarV → List Pair) (l s : List VarV) (k : Nat) : (allP vf l (s.take k)).length ≤ (allP vf l s).length := by
  have : allP vf l s = allP vf l (s.take k) ++ allP vf l (s.drop k) := by
    unfold allP
    rw [← List.flatMap_append, List.take_append_drop]
  rw [this, List.length_append]
  omega
theorem cellsQ_len (l : List VarV) : (l.flatMap cellsQ).length = l.length * 3 := by
  induction l with
  | nil => rfl
  | cons a r ih => rw [List.flatMap_cons, List.length_append, ih, List.length_cons]; show 3 + _ = _; omega
theorem cellsQ_at : ∀ (l : List VarV) (k : Nat) (h : k < l.length), (l.flatMap cellsQ)[k * 3]? = some (.int .i64 l[k].k) ∧ (l.flatMap cellsQ)[k * 3 + 1]? = some (.int .i64 l[k].m) ∧ (l.flatMap cellsQ)[k * 3 + 2]? = some (.string l[k].n)
  | [], _, h => absurd h (by simp)
  | a :: r, 0, _ => ⟨rfl, rfl, rfl⟩
  | a :: r, k + 1, h => by
    have := cellsQ_at r k (by simpa using h)
    rw [List.flatMap_cons]
    have h3 : (cellsQ a).length = 3 := rfl
    refine ⟨?_, ?_, ?_⟩
    · rw [List.getElem?_append_right (by rw [h3]; omega), h3, show (k + 1) * 3 - 3 = k * 3 by omega]; exact this.1
    · rw [List.getElem?_append_right (by rw [h3]; omega), h3, show (k + 1) * 3 + 1 - 3 = k * 3 + 1 by omega]; exact this.2.1
    · rw [List.getElem?_append_right (by rw [h3]; omega), h3, show (k + 1) * 3 + 2 - 3 = k * 3 + 2 by omega]; exact this.2.2
theorem var_at {w : World} {B n : Nat} {A : Option Addr} {l : List VarV} (h : Sl w B 3 A n (l.flatMap cellsQ)) (k : Nat) (hk : k < l.length) :
    ∃ b off, A = some ⟨b, off, none⟩ ∧ b < B ∧ w.cell? ⟨b, off + k * 3, none⟩ = some (.int .i64 l[k].k) ∧ w.cell? ⟨b, off + k * 3 + 1, none⟩ = some (.int .i64 l[k].m) ∧ w.cell? ⟨b, off + k * 3 + 2, none⟩ = some (.string l[k].n) := by
  have hl := cellsQ_len l
  obtain ⟨b, off, e, hb, hc⟩ := h.src (by omega)
  obtain ⟨h0, h1, h2⟩ := cellsQ_at l k hk
  refine ⟨b, off, e, hb, ?_, ?_, ?_⟩
  · rw [hc (k * 3) (by omega), ← h0, List.getElem?_eq_getElem]
  · rw [Nat.add_assoc, hc (k * 3 + 1) (by omega), ← h1, List.getElem?_eq_getElem]
  · rw [Nat.add_assoc, hc (k * 3 + 2) (by omega), ← h2, List.getElem?_eq_getElem]

set_option maxRecDepth 100000 in
set_option maxHeartbeats 800000 in
theorem AllCl_any (no v : VarV) (x : Pair) (gv ga : Nat) (w : World) (h0 : w.cell? ⟨gv, 0, none⟩ = some (.int .i64 v.k)) (ha : w.cell? ⟨ga, 0, none⟩ = some (.string x.1)) :
    Calls Tryd.prog 30 #[.agg #[.int .i64 no.k, .int .i64 no.m, .string no.n], .pointer (some ⟨gv, 0, none⟩), .pointer (some ⟨ga, 0, none⟩)] w (BoolPost (exB v x no) w) := by
  have hv : gv < w.heap.size := World.block_lt_of_cell? w _ h0
  have hga : ga < w.heap.size := World.block_lt_of_cell? w _ ha
  have hb : Below w.heap.size w (w.alloc (.cells #[.int .i64 no.k, .int .i64 no.m, .string no.n] 26)) := (Below.refl _ _).alloc (Nat.le_refl _) _
  have HE : Hid (exB v x no = ((no.m == 2) && (no.k == v.k) && (no.n.toList.isEmpty || (no.n.toList == x.1.toList)))) := rfl
  obtain ⟨k1, m1, n1⟩ := no
  obtain ⟨k2, m2, n2⟩ := v
  obtain ⟨x1, x2⟩ := x
  dsimp only at *
  cases q1 : (m1 == 2) with
  | false =>
    rw [q1] at HE
    go_enter Tryd.func30, Tryd.ntmps30
    go_wp2_with fail
    go_ret
    exact ⟨by rw [HE.out]; rfl, hb⟩
  | true =>
    cases q2 : (k1 == k2) with
    | false =>
      rw [q1, q2] at HE
      go_enter Tryd.func30, Tryd.ntmps30
      go_wp2_with fail
      go_ret
      exact ⟨by rw [HE.out]; rfl, hb⟩
    | true =>
      cases q3 : n1.toList.isEmpty with
      | true =>
        rw [q1, q2, q3] at HE
        go_enter Tryd.func30, Tryd.ntmps30
        go_wp2_with fail
        go_ret
        exact ⟨by rw [HE.out]; rfl, hb⟩
      | false =>
        cases q4 : (n1.toList == x1.toList) with
        | true =>
          rw [q1, q2, q3, q4] at HE
          go_enter Tryd.func30, Tryd.ntmps30
          go_wp2_with fail
          go_ret
          exact ⟨by rw [HE.out]; rfl, hb⟩
        | false =>
          rw [q1, q2, q3, q4] at HE
          go_enter Tryd.func30, Tryd.ntmps30
          go_wp2_with fail
          go_ret
          exact ⟨by rw [HE.out]; rfl, hb⟩
def dVar : VarV := ⟨0, 0, ByteArray.mk #[]⟩
set_option maxRecDepth 100000 in
theorem exP_any (l : List VarV) (v : VarV) (x : Pair) (A : Option Addr) (c gv ga : Nat) (w : World) (h : Sl w w.heap.size 3 A l.length (l.flatMap cellsQ)) (hl : l.length ≤ 9223372036854775807) (h0 : w.cell? ⟨gv, 0, none⟩ = some (.int .i64 v.k)) (ha : w.cell? ⟨ga, 0, none⟩ = some (.string x.1)) :
    Calls Tryd.prog 29 #[.slice A l.length c, .func (.func 30) #[] #[.pointer (some ⟨gv, 0, none⟩), .pointer (some ⟨ga, 0, none⟩)]] w (BoolPost (exP l v x) w) := by
  have e := anyN_list (exB v x) l dVar
  unfold exP
  rw [← e]
  refine ContFV_any 30 #[.pointer (some ⟨gv, 0, none⟩), .pointer (some ⟨ga, 0, none⟩)] (fun _ _ => rfl) A l.length c (l.flatMap cellsQ) (fun j => .int .i64 (l.getD j dVar).k) (fun j => .int .i64 (l.getD j dVar).m) (fun j => .string (l.getD j dVar).n) (fun j => exB v x (l.getD j dVar)) w h hl (fun j hj => ?_) fun W j hj hb => ?_
  · have := cellsQ_at l j hj
    rw [List.getD_eq_getElem?_getD, List.getElem?_eq_getElem hj]
    exact this
  · exact AllCl_any _ v x gv ga W (cell_kept hb h0) (cell_kept hb ha)
end Go.Proofs.YtchoenfclfafiaaDoor
