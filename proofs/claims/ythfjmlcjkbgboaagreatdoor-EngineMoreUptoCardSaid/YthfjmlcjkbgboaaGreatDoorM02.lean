/- Part 2 of the proof: lemmas and walks that the last texts use. -/
import Derived.Test.YthfjmlcjkbgboaaGreatDoorProg
import Derived.WalkKit
import Derived.WalkSpells
import Derived.WalkLawsBesides
import Derived.Lib.Hide
import Derived.StillTailTactics
import Derived.Deep.RegionLaw
namespace Go.Proofs.YthfjmlcjkbgboaaGreatDoor
open Go.RowKit
theorem ret_int {k : IntKind} {a b : Int} (h : a = b) : Ending.returned (.int k a) = .returned (.int k b) := by rw [h]
theorem ret_str {a b : ByteArray} (h : a = b) : Ending.returned (.string a) = .returned (.string b) := by rw [h]
theorem ret_bool {a b : Bool} (h : a = b) : Ending.returned (.bool a) = .returned (.bool b) := by rw [h]
def bs (l : List UInt8) : ByteArray := ⟨l.toArray⟩
theorem bs_toList (l : List UInt8) : (bs l).data.toList = l := rfl
theorem bs_eta (s : ByteArray) : bs s.data.toList = s := rfl
theorem bs_size (l : List UInt8) : (bs l).size = l.length := rfl
theorem bs_list (l : List UInt8) : (bs l).toList = l := by rw [ByteArray.toList_eq]; rfl
theorem bs_append (a b : List UInt8) : bs a ++ bs b = bs (a ++ b) := by
  show (bs a).append (bs b) = _
  apply ByteArray.ext
  have h : ((bs a) ++ (bs b)).data = (bs a).data ++ (bs b).data := by simp
  exact h.trans (by simp [bs])
attribute [go_sem] bs_size bs_list bs_toList bs_append
theorem all_bytes {p : UInt8 → Bool} (h : (List.range 256).all (fun n => p (UInt8.ofNat n)) = true) (b : UInt8) : p b = true := by
  have := List.all_eq_true.1 h b.toNat (List.mem_range.2 b.toNat_lt)
  simpa using this
def byteV (b : UInt8) : Value := .int .u8 b.toNat
theorem drop_cons (s : ByteArray) (k : Nat) (h : k < s.size) : s.data.toList.drop k = s[k] :: s.data.toList.drop (k + 1) := by
  rw [List.drop_eq_getElem_cons (by simpa using h)]; rfl
theorem take_snoc (s : ByteArray) (k : Nat) (h : k < s.size) : s.data.toList.take (k + 1) = s.data.toList.take k ++ [s[k]] := by
  rw [List.take_succ_eq_append_getElem (by simpa using h)]; rfl
/-- A block of the call's own whose first cells are these bytes, none of them frozen. -/
def BytesAt (w : World) (g : Nat) (l : List UInt8) : Prop :=
  g < w.heap.size ∧ ∀ j (hj : j < l.length), w.cell? ⟨g, j, none⟩ = some (.int .u8 (l[j].toNat : Int)) ∧ w.frozen? ⟨g, j, none⟩ = false
theorem BytesAt.cell {w : World} {g : Nat} {l : List UInt8} (h : BytesAt w g l) {j : Nat} (hj : j < l.length) : w.cell? ⟨g, j, none⟩ = some (.int .u8 (l[j].toNat : Int)) := (h.2 j hj).1
theorem BytesAt.free {w : World} {g : Nat} {l : List UInt8} (h : BytesAt w g l) {j : Nat} (hj : j < l.length) : w.frozen? ⟨g, j, none⟩ = false := (h.2 j hj).2
theorem BytesAt.below {w w' : World} {B g : Nat} {l : List UInt8} (h : BytesAt w g l) (hb : Below B w w') (hg : g < B) : BytesAt w' g l :=
  ⟨Nat.lt_of_lt_of_le h.1 hb.size, fun j hj => ⟨(hb.cell (p := ⟨g, j, none⟩) hg).trans (h.cell hj), (hb.frozen (p := ⟨g, j, none⟩) hg).trans (h.free hj)⟩⟩
theorem bytes_new (w : World) (s : ByteArray) (c : Nat) (hc : s.size ≤ c) (e : TypeId) :
    BytesAt (w.drew.alloc (.cells (bytesRow s c) e ((bytesRow s c).size, (bytesRow s c).size + 1))) w.heap.size s.data.toList := by
  have hz : (bytesRow s c).size = c := by
    have : s.data.size = s.size := rfl
    simp [bytesRow]; omega
  refine ⟨by simp, fun j hj => ⟨?_, ?_⟩⟩
  · have hj' : j < s.data.size := by simpa using hj
    have := World.cell?_alloc_mark w.drew (bytesRow s c) e ((bytesRow s c).size, (bytesRow s c).size + 1) j
    rw [show w.drew.heap.size = w.heap.size from rfl] at this
    rw [this, bytesRow_at s c j hj']
    simp
  · have := World.frozen?_alloc_mark w.drew (bytesRow s c) e (bytesRow s c).size ((bytesRow s c).size + 1) j
    rw [show w.drew.heap.size = w.heap.size from rfl] at this
    have hj' : j < s.size := by simpa using hj
    rw [this, hz]
    simp; omega
theorem BytesAt.set {w : World} {g : Nat} {l : List UInt8} (h : BytesAt w g l) {k : Nat} (hk : k < l.length) (x : UInt8) : BytesAt (w.setCell ⟨g, k, none⟩ (.int .u8 x.toNat)) g (l.set k x) := by
  refine ⟨by simpa [World.setCell] using h.1, fun j hj => ?_⟩
  have hj' : j < l.length := by simpa using hj
  by_cases e : k = j
  · subst e
    refine ⟨?_, by rw [World.frozen?_setCell]; exact h.free hk⟩
    rw [World.cell?_setCell_same _ _ _ (h.cell hk)]
    simp
  · refine ⟨?_, by rw [World.frozen?_setCell]; exact h.free hj'⟩
    rw [World.cell?_setCell_other _ _ _ _ (by intro q; cases q; exact e rfl), h.cell hj']
    simp [e]
theorem addr_add (g j : Nat) : (⟨g, 0, none⟩ : Addr).add j = ⟨g, j, none⟩ := by unfold Addr.add; split <;> simp_all
theorem run_string_of_bytes {P : Program} {w : World} {g : Nat} {l : List UInt8} (h : BytesAt w g l) (src dst e : TypeId) (n c : Nat) (hn : n = l.length)
    (hs : P.underlying src = some (.slice e)) (he : P.underlying e = some (.int .u8)) (hd : P.underlying dst = some .string) :
    (convert src dst (.slice (some ⟨g, 0, none⟩) n c)).run P w = .ok (.string (bs l)) w := by
  subst hn
  exact run_convert_bytes_back w src dst e ⟨g, 0, none⟩ c l hs he hd (fun j hj => by rw [addr_add]; exact h.cell hj)
/-- The string of a row of the call's own. -/
theorem run_string_of_own {P : Program} {w : World} {base n : Nat} {v : Value} {l : List UInt8} (src dst e : TypeId) (h : w.ownsRow base e 1 v n (l.map byteV))
    (hs : P.underlying src = some (.slice e)) (he : P.underlying e = some (.int .u8)) (hd : P.underlying dst = some .string) :
    (convert src dst v).run P w = .ok (.string (bs l)) w := by
  have hlen : n = l.length := by have := h.1; simp at this; omega
  rcases h.2 with ⟨rfl, h0⟩ | ⟨g, cap, cur, rfl, hb, hg, hnc, hcm, hcs, htake⟩
  · have : l = [] := List.eq_nil_of_length_eq_zero (by omega)
    subst this
    exact run_convert_bytes_nil w src e hs he 0 0 dst hd
  · subst hlen
    refine run_convert_bytes_back w src dst e ⟨g, 0, none⟩ cap l hs he hd (fun j hj => ?_)
    exact h.cells (g := g) rfl j _ (by simp [List.getElem?_eq_getElem hj, byteV])
theorem ext_bs {x : ByteArray} {l : List UInt8} (h : x.data.toList = l) : x = bs l := by subst h; rfl
theorem cells_new (w : World) (vs : List Value) (t : TypeId) : ∀ j u, vs[j]? = some u → (w.alloc (.cells vs.toArray t)).cell? ((⟨w.heap.size, 0, none⟩ : Addr).add j) = some u := fun j u h => by
  rw [addr_add, cell_of_row (w.alloc (.cells vs.toArray t)) w.heap.size j vs.toArray t (0, 0) (heap_alloc_new w _)]
  simpa using h
/-- A row of bytes of the call's own. -/
def OwnB (w : World) (base : Nat) (v : Value) (l : List UInt8) : Prop := w.ownsRow base 5 1 v l.length (l.map byteV)
theorem OwnB.nil (w : World) (base : Nat) : OwnB w base (.slice none 0 0) [] := World.ownsRow_nil w base 5 1
theorem OwnB.string {w : World} {base : Nat} {v : Value} {l : List UInt8} (h : OwnB w base v l) : (convert 159 9 v).run Tryz.prog w = .ok (.string (bs l)) w :=
  run_string_of_own 159 9 5 h Tryz.underlying159 Tryz.underlying5 Tryz.underlying9
theorem OwnB.drew {w : World} {base : Nat} {v : Value} {l : List UInt8} (h : OwnB w base v l) : OwnB w.drew base v l := h
theorem info_u8 : (Tryz.prog.info? 5).map (fun i => (i.zero, i.size, i.bytes)) = some (some (.int .u8 0), 1, 1) := by kernel_rfl
section
variable {P : Program} {ops : Array Oper} {rest : List Oper} {o : Oper} {a : Act} {Q : Exit → Act → World → Prop} {w : World}
/-- The conversion of a string to bytes: a new block that reads as the string. -/
theorem wpList_to_bytes (hgd : o.guard = none) (x : Operand) (src dst e : TypeId) (ho : o.op = .convert src dst x)
    (hs : P.underlying src = some .string) (hd : P.underlying dst = some (.slice e)) (he : P.underlying e = some (.int .u8)) (s : ByteArray) (hx : a.eval x = .string s)
    (h : ∀ (c : Nat) (w' : World), s.size ≤ c → BytesAt w' w.heap.size s.data.toList → Below w.heap.size w w' → w'.heap.size = w.heap.size + 1 →
      wpList P ops Q rest (a.put o.dst (.slice (some ⟨w.heap.size, 0, none⟩) s.size c)) w') : wpList P ops Q (o :: rest) a w := by
  refine wpList_plain hgd fun K hK => ?_
  have hr := run_bytes_of_string (P := P) w src dst e s hs hd he
  unfold Oper.wp execOp
  simp only [ho, Sem.run_bind, Sem.run_pure, Result.andThen_ok, hx, hr]
  have hge := grownCap_ge w s.size 0 e
  exact hK _ _ (h _ _ hge (bytes_new w s _ hge e) (((Below.refl _ w).drew).alloc (Nat.le_refl _) _) (by simp))
/-- append of a list that was just built, onto a row of the call's own. -/
theorem wp_append_new {K : Act → World → Prop} (s x : Operand) (t : TypeId) (ho : o.op = .call { callee := .builtin .append, args := #[s, x], argTypes := #[t, t] })
    (base : Nat) (e : TypeId) (i : TypeInfo) (z : Value) (size bytes : Nat) (ht : P.underlying t = some (.slice e)) (hi : P.info? e = some i) (hz : i.zero = some z)
    (hsize : i.size = size) (hby : i.bytes = bytes) (hzs : z.cells.size = size) (hsz : 0 < size)
    (v : Value) (n : Nat) (xs : List Value) (hs : a.eval s = v) (hown : w.ownsRow base e size v n xs) (hbase : base ≤ w.heap.size)
    (vs : List Value) (m c : Nat) (hx : a.eval x = .slice (some ⟨w.heap.size, 0, none⟩) m c) (hl : vs.length = m * size) (h1 : ∀ u ∈ vs, u.oneCell' = true)
    (h63 : n + m ≤ maxLen) (hbytes : (n + m) * bytes ≤ 140737488355328)
    (h : ∀ v' w', w'.ownsRow base e size v' (n + m) (xs ++ vs) → Below base w w' → base ≤ w'.heap.size → K (a.put o.dst v') w') :
    o.wp P a (w.alloc (.cells vs.toArray e)) K Q := by
  have hown2 := hown.alloc (.cells vs.toArray e)
  refine wp_append_own (P := P) (w.alloc (.cells vs.toArray e)) s x t ho base e i z size bytes ht hi hz hsize hby hzs hsz v n xs hs hown2 ⟨w.heap.size, 0, none⟩ m c vs hx hl (cells_new w vs e) h1 h63 hbytes (by simp; omega) ?_
  intro v' w' ho' hg _
  have hb1 : Below base w (w.alloc (.cells vs.toArray e)) := (Below.refl _ _).alloc hbase _
  have hb2 := hb1.grown hg (by simp; omega) (fun k hk => (hown.lt k hk).1)
  exact h v' w' ho' hb2 (Nat.le_trans hbase hb2.size)
end
section
variable {ops : Array Oper} {rest : List Oper} {o : Oper} {a : Act} {Q : Exit → Act → World → Prop} {w : World}
theorem wp_append_b {K : Act → World → Prop} (s x : Operand) (ho : o.op = .call { callee := .builtin .append, args := #[s, x], argTypes := #[159, 159] })
    (base : Nat) (v : Value) (l : List UInt8) (hs : a.eval s = v) (hown : OwnB w base v l) (hbase : base ≤ w.heap.size)
    (vs : List Value) (news : List UInt8) (hv : vs = news.map byteV) (m c : Nat) (hx : a.eval x = .slice (some ⟨w.heap.size, 0, none⟩) m c) (hl : news.length = m)
    (hbytes : l.length + m ≤ 140737488355328)
    (h : ∀ v' w', OwnB w' base v' (l ++ news) → Below base w w' → base ≤ w'.heap.size → K (a.put o.dst v') w') :
    o.wp Tryz.prog a (w.alloc (.cells vs.toArray 5)) K Q := by
  subst hv; subst hl
  obtain ⟨i0, hi, hz0, hz1, hz2⟩ := info_parts info_u8
  refine wp_append_new s x 159 ho base 5 i0 (.int .u8 0) 1 1 Tryz.underlying159 hi hz0 hz1 hz2 rfl (by decide) v l.length (l.map byteV) hs hown hbase (news.map byteV) news.length c hx (by simp)
    (fun u hu => by obtain ⟨b, _, rfl⟩ := List.mem_map.1 hu; rfl) (by unfold maxLen; omega) (by omega) ?_
  intro v' w' ho' hb hbs
  exact h v' w' (by unfold OwnB; rw [List.length_append, List.map_append]; exact ho') hb hbs
theorem wpList_append_b (hgd : o.guard = none) (s x : Operand) (ho : o.op = .call { callee := .builtin .append, args := #[s, x], argTypes := #[159, 159] })
    (base : Nat) (v : Value) (l : List UInt8) (hs : a.eval s = v) (hown : OwnB w base v l) (hbase : base ≤ w.heap.size)
    (vs : List Value) (news : List UInt8) (hv : vs = news.map byteV) (m c : Nat) (hx : a.eval x = .slice (some ⟨w.heap.size, 0, none⟩) m c) (hl : news.length = m)
    (hbytes : l.length + m ≤ 140737488355328)
    (h : ∀ v' w', OwnB w' base v' (l ++ news) → Below base w w' → base ≤ w'.heap.size → wpList Tryz.prog ops Q rest (a.put o.dst v') w') :
    wpList Tryz.prog ops Q (o :: rest) a (w.alloc (.cells vs.toArray 5)) :=
  wpList_plain hgd fun _ hK => wp_append_b s x ho base v l hs hown hbase vs news hv m c hx hl hbytes fun v' w' h1 h2 h3 => hK _ _ (h v' w' h1 h2 h3)
end
end Go.Proofs.YthfjmlcjkbgboaaGreatDoor
namespace Go.Proofs.YthfjmlcjkbgboaaGreatDoor
open Go.RowKit
structure Set4 where
  a : Int
  b : Int
  c : Int
  d : Int
deriving DecidableEq
def Set4.zero : Set4 := ⟨0, 0, 0, 0⟩
def Set4.word (s : Set4) (k : Nat) : Int := if k = 0 then s.a else if k = 1 then s.b else if k = 2 then s.c else s.d
def hasB (s : Set4) (x : UInt8) : Bool := s.word (x.toNat / 64) / 2 ^ (x.toNat % 64) % 2 == 1
inductive Tree where
  | node (kind : Int) (set : Set4) (kids : List Tree)
def kidsI (k : Int) : Int := if k = 4 ∨ k = 5 then 2 else if k = 6 then 1 else if k = 1 ∨ k = 2 ∨ k = 3 ∨ k = 7 ∨ k = 8 then 0 else -1
def badT (k : Int) (s : Set4) (n : Nat) : Bool := kidsI k != n || (k == 3) == (decide (s = Set4.zero))
mutual
/-- How many nodes were counted, what went wrong. -/
def chk : Tree → Int → Int → Int × Int
  | .node k s ts, deep, n =>
    if 80 < n + 1 then (n + 1, 2) else if 20 < deep then (n + 1, 11) else if badT k s ts.length = true then (n + 1, 1) else chkL ts (deep + 1) (n + 1)
def chkL : List Tree → Int → Int → Int × Int
  | [], _, n => (n, 0)
  | t :: ts, deep, n => if (chk t deep n).2 ≠ 0 then chk t deep n else chkL ts deep (chk t deep n).1
end
mutual
def Fine : Tree → Prop
  | .node k s ts => badT k s ts.length = false ∧ FineL ts
def FineL : List Tree → Prop
  | [] => True
  | t :: ts => Fine t ∧ FineL ts
end
mutual
theorem chk_fine : ∀ (t : Tree) (deep n : Int), (chk t deep n).2 = 0 → Fine t
  | .node k s ts, deep, n, h => by
    rw [chk] at h
    by_cases c1 : 80 < n + 1
    · rw [if_pos c1] at h; exact absurd (show (2 : Int) = 0 from h) (by decide)
    · rw [if_neg c1] at h
      by_cases c2 : 20 < deep
      · rw [if_pos c2] at h; exact absurd (show (11 : Int) = 0 from h) (by decide)
      · rw [if_neg c2] at h
        cases c3 : badT k s ts.length with
        | true => rw [c3, if_pos rfl] at h; exact absurd (show (1 : Int) = 0 from h) (by decide)
        | false =>
          rw [c3, if_neg (by decide)] at h
          rw [Fine]
          exact ⟨c3, chkL_fine ts _ _ h⟩
theorem chkL_fine : ∀ (ts : List Tree) (deep n : Int), (chkL ts deep n).2 = 0 → FineL ts
  | [], _, _, _ => by rw [FineL]; trivial
  | t :: ts, deep, n, h => by
    rw [chkL] at h
    by_cases c : (chk t deep n).2 ≠ 0
    · rw [if_pos c] at h; exact absurd h c
    · rw [if_neg c] at h
      rw [FineL]
      exact ⟨chk_fine t deep n (Classical.not_not.1 c), chkL_fine ts _ _ h⟩
end
/-- A fine tree by its kind. -/
inductive Shape : Int → List Tree → Prop
  | none : Shape 1 []
  | empty : Shape 2 []
  | byte : Shape 3 []
  | cat (a b : Tree) : Fine a → Fine b → Shape 4 [a, b]
  | alt (a b : Tree) : Fine a → Fine b → Shape 5 [a, b]
  | star (a : Tree) : Fine a → Shape 6 [a]
  | begin : Shape 7 []
  | finish : Shape 8 []
theorem fine_shape {k : Int} {s : Set4} {ts : List Tree} (h : Fine (.node k s ts)) : Shape k ts := by
  rw [Fine] at h
  obtain ⟨h1, h2⟩ := h
  unfold badT at h1
  have h3 : kidsI k = ts.length := by
    cases hq : (kidsI k != (ts.length : Int)) with
    | true => rw [hq] at h1; simp at h1
    | false => simpa using hq
  unfold kidsI at h3
  by_cases c1 : k = 4 ∨ k = 5
  · rw [if_pos c1] at h3
    match ts, h3, h2 with
    | [a, b], _, h2 =>
      rw [FineL, FineL] at h2
      rcases c1 with rfl | rfl
      · exact .cat a b h2.1 h2.2.1
      · exact .alt a b h2.1 h2.2.1
    | [], h3, _ => exact absurd h3 (by decide)
    | [a], h3, _ => exact absurd h3 (by simp)
    | a :: b :: c :: r, h3, _ => simp only [List.length_cons] at h3; omega
  · rw [if_neg c1] at h3
    by_cases c2 : k = 6
    · rw [if_pos c2] at h3
      subst c2
      match ts, h3, h2 with
      | [a], _, h2 => rw [FineL] at h2; exact .star a h2.1
      | [], h3, _ => exact absurd h3 (by decide)
      | a :: b :: r, h3, _ => simp only [List.length_cons] at h3; omega
    · rw [if_neg c2] at h3
      by_cases c3 : k = 1 ∨ k = 2 ∨ k = 3 ∨ k = 7 ∨ k = 8
      · rw [if_pos c3] at h3
        have : ts = [] := List.eq_nil_of_length_eq_zero (by omega)
        subst this
        rcases c3 with rfl | rfl | rfl | rfl | rfl
        · exact .none
        · exact .empty
        · exact .byte
        · exact .begin
        · exact .finish
      · rw [if_neg c3] at h3; omega
/-- A span of a text that an expression matches. -/
inductive M (l : List UInt8) : Tree → Nat → Nat → Prop
  | empty (s : Set4) (i : Nat) : i ≤ l.length → M l (.node 2 s []) i i
  | byte (s : Set4) (i : Nat) (x : UInt8) : l[i]? = some x → hasB s x = true → M l (.node 3 s []) i (i + 1)
  | cat (s : Set4) (a b : Tree) (i j k : Nat) : M l a i j → M l b j k → M l (.node 4 s [a, b]) i k
  | altl (s : Set4) (a b : Tree) (i j : Nat) : M l a i j → M l (.node 5 s [a, b]) i j
  | altr (s : Set4) (a b : Tree) (i j : Nat) : M l b i j → M l (.node 5 s [a, b]) i j
  | nil (s : Set4) (a : Tree) (i : Nat) : i ≤ l.length → M l (.node 6 s [a]) i i
  | more (s : Set4) (a : Tree) (i j k : Nat) : M l (.node 6 s [a]) i j → M l a j k → M l (.node 6 s [a]) i k
  | begin (s : Set4) : M l (.node 7 s []) 0 0
  | finish (s : Set4) : M l (.node 8 s []) l.length l.length
theorem M.le {l : List UInt8} {t : Tree} {i j : Nat} (h : M l t i j) : i ≤ j ∧ j ≤ l.length := by
  induction h with
  | empty s i h => exact ⟨Nat.le_refl _, h⟩
  | byte s i x h _ => have := (List.getElem?_eq_some_iff.1 h).1; omega
  | cat s a b i j k _ _ h1 h2 => omega
  | altl s a b i j _ h => exact h
  | altr s a b i j _ h => exact h
  | nil s a i h => exact ⟨Nat.le_refl _, h⟩
  | more s a i j k _ _ h1 h2 => omega
  | begin s => omega
  | finish s => omega
mutual
def asksT (q : Int) : Tree → Bool
  | .node k _ ts => k == q || asksL q ts
def asksL (q : Int) : List Tree → Bool
  | [] => false
  | t :: ts => asksT q t || asksL q ts
end
theorem asks_kids {q k : Int} {s : Set4} {ts : List Tree} (h : asksT q (.node k s ts) = false) : k ≠ q ∧ asksL q ts = false := by
  rw [asksT] at h
  simpa using h
theorem asks_two {q : Int} {a b : Tree} (h : asksL q [a, b] = false) : asksT q a = false ∧ asksT q b = false := by
  rw [asksL, asksL, asksL] at h; simpa using h
theorem asks_one {q : Int} {a : Tree} (h : asksL q [a] = false) : asksT q a = false := by
  rw [asksL, asksL] at h; simpa using h
/-- More text behind takes nothing away, unless the end is asked for. -/
theorem M.behind {l : List UInt8} {t : Tree} {i j : Nat} (h : M l t i j) (m : List UInt8) (hq : asksT 8 t = false) : M (l ++ m) t i j := by
  induction h with
  | empty s i h => exact .empty s i (by rw [List.length_append]; omega)
  | byte s i x h hx => exact .byte s i x (by rw [List.getElem?_append_left (List.getElem?_eq_some_iff.1 h).1]; exact h) hx
  | cat s a b i j k _ _ h1 h2 => have := asks_two (asks_kids hq).2; exact .cat s a b i j k (h1 this.1) (h2 this.2)
  | altl s a b i j _ h => have := asks_two (asks_kids hq).2; exact .altl s a b i j (h this.1)
  | altr s a b i j _ h => have := asks_two (asks_kids hq).2; exact .altr s a b i j (h this.2)
  | nil s a i h => exact .nil s a i (by rw [List.length_append]; omega)
  | more s a i j k _ _ h1 h2 => exact .more s a i j k (h1 hq) (h2 (asks_one (asks_kids hq).2))
  | begin s => exact .begin s
  | finish s => exact absurd rfl (asks_kids hq).1
/-- The span that is told: the first, and there the longest. -/
def Best (l : List UInt8) (t : Tree) (i j : Nat) : Prop := M l t i j ∧ ∀ a b, M l t a b → i < a ∨ (i = a ∧ b ≤ j)
def Found (l : List UInt8) (t : Tree) (is : Bool) (i j : Nat) : Prop := if is = true then Best l t i j else i = 0 ∧ j = 0 ∧ ∀ a b, ¬ M l t a b
theorem Found.best {l : List UInt8} {t : Tree} {i j : Nat} (h : Found l t true i j) : Best l t i j := h
theorem Found.uniq {l : List UInt8} {t : Tree} {i j a b : Nat} (h : Found l t true i j) (m : M l t a b) (hm : ∀ a' b', M l t a' b' → a < a' ∨ (a = a' ∧ b' ≤ b)) : i = a ∧ j = b := by
  have h1 := h.best.2 a b m
  have h2 := hm i j h.best.1
  omega
end Go.Proofs.YthfjmlcjkbgboaaGreatDoor
namespace Go.Proofs.YthfjmlcjkbgboaaGreatDoor
open Go.RowKit
structure Ins where
  kind : Int
  a : Int
  b : Int
  set : Set4
deriving DecidableEq
/-- The code of an expression at a place. -/
inductive Code : Tree → Nat → List Ins → Prop
  | none (S : Set4) (at_ : Nat) : Code (.node 1 S []) at_ [⟨1, 0, 0, S⟩]
  | empty (S : Set4) (at_ : Nat) : Code (.node 2 S []) at_ []
  | byte (S : Set4) (at_ : Nat) : Code (.node 3 S []) at_ [⟨1, 0, 0, S⟩]
  | begin (S : Set4) (at_ : Nat) : Code (.node 7 S []) at_ [⟨4, 0, 0, .zero⟩]
  | finish (S : Set4) (at_ : Nat) : Code (.node 8 S []) at_ [⟨5, 0, 0, .zero⟩]
  | cat (S : Set4) (a b : Tree) (at_ : Nat) (la lb : List Ins) : Code a at_ la → Code b (at_ + la.length) lb → Code (.node 4 S [a, b]) at_ (la ++ lb)
  | alt (S : Set4) (a b : Tree) (at_ : Nat) (la lb : List Ins) : Code a (at_ + 1) la → Code b (at_ + 1 + la.length + 1) lb →
      Code (.node 5 S [a, b]) at_ (⟨2, at_ + 1, (at_ + 1 + la.length + 1 : Nat), .zero⟩ :: (la ++ ⟨3, (at_ + 1 + la.length + 1 + lb.length : Nat), 0, .zero⟩ :: lb))
  | star (S : Set4) (a : Tree) (at_ : Nat) (la : List Ins) : Code a (at_ + 1) la →
      Code (.node 6 S [a]) at_ (⟨2, at_ + 1, (at_ + 1 + la.length + 1 : Nat), .zero⟩ :: (la ++ [⟨3, at_, 0, .zero⟩]))
/-- One step without a byte. -/
inductive Eps (P : List Ins) (s : List UInt8) (i : Nat) : Nat → Nat → Prop
  | one (n : Nat) (x : Ins) : P[n]? = some x → x.kind = 2 → Eps P s i n x.a.toNat
  | two (n : Nat) (x : Ins) : P[n]? = some x → x.kind = 2 → Eps P s i n x.b.toNat
  | jump (n : Nat) (x : Ins) : P[n]? = some x → x.kind = 3 → Eps P s i n x.a.toNat
  | begin (n : Nat) (x : Ins) : P[n]? = some x → x.kind = 4 → i = 0 → Eps P s i n (n + 1)
  | finish (n : Nat) (x : Ins) : P[n]? = some x → x.kind = 5 → i = s.length → Eps P s i n (n + 1)
def ByteAt (P : List Ins) (s : List UInt8) (i n : Nat) : Prop := ∃ x c, P[n]? = some x ∧ x.kind = 1 ∧ s[i]? = some c ∧ hasB x.set c = true
/-- A path of so many steps. -/
inductive Path (P : List Ins) (s : List UInt8) (N j : Nat) : Nat → Nat → Nat → Prop
  | here : Path P s N j 0 N j
  | eps (L n m i : Nat) : Eps P s i n m → Path P s N j L m i → Path P s N j (L + 1) n i
  | byte (L n i : Nat) : ByteAt P s i n → Path P s N j L (n + 1) (i + 1) → Path P s N j (L + 1) n i
theorem Path.trans {P : List Ins} {s : List UInt8} {N j N' j' L : Nat} {n i : Nat} (h : Path P s N j L n i) : ∀ {L'}, Path P s N' j' L' N j → Path P s N' j' (L + L') n i := by
  induction h with
  | here => intro L' h2; rw [Nat.zero_add]; exact h2
  | eps L n m i h1 _ ih => intro L' h2; rw [show L + 1 + L' = (L + L') + 1 by omega]; exact .eps _ _ _ _ h1 (ih h2)
  | byte L n i h1 _ ih => intro L' h2; rw [show L + 1 + L' = (L + L') + 1 by omega]; exact .byte _ _ _ h1 (ih h2)
/-- The fragment lies in the program. -/
def Lies (P : List Ins) (at_ : Nat) (l : List Ins) : Prop := ∀ k, k < l.length → P[at_ + k]? = l[k]?
theorem Lies.left {P : List Ins} {at_ : Nat} {l m : List Ins} (h : Lies P at_ (l ++ m)) : Lies P at_ l := fun k hk => by
  rw [h k (by rw [List.length_append]; omega), List.getElem?_append_left hk]
theorem Lies.right {P : List Ins} {at_ : Nat} {l m : List Ins} (h : Lies P at_ (l ++ m)) : Lies P (at_ + l.length) m := fun k hk => by
  rw [Nat.add_assoc, h (l.length + k) (by rw [List.length_append]; omega), List.getElem?_append_right (by omega), Nat.add_sub_cancel_left]
theorem Lies.tail {P : List Ins} {at_ : Nat} {x : Ins} {l : List Ins} (h : Lies P at_ (x :: l)) : P[at_]? = some x ∧ Lies P (at_ + 1) l :=
  ⟨h 0 (by simp), fun k hk => by rw [show at_ + 1 + k = at_ + (k + 1) by omega, h (k + 1) (by simpa using hk)]; rfl⟩
theorem M.front {s : List UInt8} {S : Set4} {a : Tree} {i k j : Nat} (h1 : M s a i k) (h2 : M s (.node 6 S [a]) k j) : M s (.node 6 S [a]) i j := by
  have : ∀ t k j, M s t k j → t = .node 6 S [a] → ∀ i, M s a i k → M s (.node 6 S [a]) i j := by
    intro t k j h
    induction h with
    | nil S' a' q hq => intro e i hi; exact .more S a i i q (.nil S a i (by have := hi.le; omega)) hi
    | more S' a' q r u m1 m2 ih1 _ =>
      intro e i hi
      have h3 := ih1 e i hi
      injection e with _ _ e
      injection e with e _
      subst e
      exact .more S a' i r u h3 m2
    | empty S' q _ => intro e; exact absurd e (by intro e; injection e with e; exact absurd e (by decide))
    | byte S' q x _ _ => intro e; exact absurd e (by intro e; injection e with e; exact absurd e (by decide))
    | cat S' a' b q r u _ _ _ _ => intro e; exact absurd e (by intro e; injection e with e; exact absurd e (by decide))
    | altl S' a' b q r _ _ => intro e; exact absurd e (by intro e; injection e with e; exact absurd e (by decide))
    | altr S' a' b q r _ _ => intro e; exact absurd e (by intro e; injection e with e; exact absurd e (by decide))
    | begin S' => intro e; exact absurd e (by intro e; injection e with e; exact absurd e (by decide))
    | finish S' => intro e; exact absurd e (by intro e; injection e with e; exact absurd e (by decide))
  exact this _ k j h2 rfl i h1
/-- What an instruction at a place lets through. -/
theorem path_split {P : List Ins} {s : List UInt8} {N j L n i : Nat} {x : Ins} (h : Path P s N j L n i) (hx : P[n]? = some x) (hN : N ≠ n) :
    ∃ L', L = L' + 1 ∧ ((x.kind = 2 ∧ (Path P s N j L' x.a.toNat i ∨ Path P s N j L' x.b.toNat i)) ∨ (x.kind = 3 ∧ Path P s N j L' x.a.toNat i) ∨ (x.kind = 4 ∧ i = 0 ∧ Path P s N j L' (n + 1) i) ∨
      (x.kind = 5 ∧ i = s.length ∧ Path P s N j L' (n + 1) i) ∨ (x.kind = 1 ∧ ∃ c, s[i]? = some c ∧ hasB x.set c = true ∧ Path P s N j L' (n + 1) (i + 1))) := by
  cases h with
  | here => exact absurd rfl hN
  | eps L' _ m _ he hp =>
    refine ⟨L', rfl, ?_⟩
    cases he with
    | one y hy hk => rw [hx] at hy; injection hy with hy; subst hy; exact .inl ⟨hk, .inl hp⟩
    | two y hy hk => rw [hx] at hy; injection hy with hy; subst hy; exact .inl ⟨hk, .inr hp⟩
    | jump y hy hk => rw [hx] at hy; injection hy with hy; subst hy; exact .inr (.inl ⟨hk, hp⟩)
    | begin y hy hk h0 => rw [hx] at hy; injection hy with hy; subst hy; exact .inr (.inr (.inl ⟨hk, h0, hp⟩))
    | finish y hy hk h0 => rw [hx] at hy; injection hy with hy; subst hy; exact .inr (.inr (.inr (.inl ⟨hk, h0, hp⟩)))
  | byte L' _ _ hb hp =>
    obtain ⟨y, c, hy, hk, hc, hh⟩ := hb
    rw [hx] at hy; injection hy with hy; subst hy
    exact ⟨L', rfl, .inr (.inr (.inr (.inr ⟨hk, c, hc, hh, hp⟩)))⟩
theorem fine_none {S : Set4} (h : Fine (.node 1 S [])) (c : UInt8) : hasB S c = false := by
  rw [Fine] at h
  have h1 := h.1
  unfold badT at h1
  have h2 : S = Set4.zero := by
    cases hq : decide (S = Set4.zero) with
    | true => exact of_decide_eq_true hq
    | false => rw [hq] at h1; simp at h1
  subst h2
  unfold hasB Set4.word Set4.zero
  simp
theorem fine_kids {k : Int} {S : Set4} {ts : List Tree} (h : Fine (.node k S ts)) : FineL ts := by rw [Fine] at h; exact h.2
theorem fine_two {a b : Tree} (h : FineL [a, b]) : Fine a ∧ Fine b := by rw [FineL, FineL] at h; exact ⟨h.1, h.2.1⟩
theorem fine_one {a : Tree} (h : FineL [a]) : Fine a := by rw [FineL] at h; exact h.1
/-- A path out of a fragment passes its end, behind a span. -/
theorem code_out {P : List Ins} {s : List UInt8} {N j : Nat} {t : Tree} {at_ : Nat} {l : List Ins} (hc : Code t at_ l) : Lies P at_ l → (N < at_ ∨ at_ + l.length ≤ N) → Fine t →
    ∀ L i, i ≤ s.length → Path P s N j L at_ i → ∃ k L', L' ≤ L ∧ M s t i k ∧ Path P s N j L' (at_ + l.length) k := by
  induction hc with
  | none S at_ =>
    intro hl hN hf L i hi hp
    obtain ⟨L', _, h⟩ := path_split hp hl.tail.1 (by simp at hN; omega)
    rcases h with ⟨h, _⟩ | ⟨h, _⟩ | ⟨h, _⟩ | ⟨h, _⟩ | ⟨_, c, _, h, _⟩
    · cases h
    · cases h
    · cases h
    · cases h
    · rw [fine_none hf] at h; cases h
  | empty S at_ =>
    intro _ _ _ L i hi hp
    exact ⟨i, L, Nat.le_refl _, .empty S i hi, hp⟩
  | byte S at_ =>
    intro hl hN hf L i hi hp
    obtain ⟨L', hL, h⟩ := path_split hp hl.tail.1 (by simp at hN; omega)
    rcases h with ⟨h, _⟩ | ⟨h, _⟩ | ⟨h, _⟩ | ⟨h, _⟩ | ⟨_, c, hc, h, hp'⟩
    · cases h
    · cases h
    · cases h
    · cases h
    · exact ⟨i + 1, L', by omega, .byte S i c hc h, hp'⟩
  | begin S at_ =>
    intro hl hN hf L i hi hp
    obtain ⟨L', hL, h⟩ := path_split hp hl.tail.1 (by simp at hN; omega)
    rcases h with ⟨h, _⟩ | ⟨h, _⟩ | ⟨_, h0, hp'⟩ | ⟨h, _⟩ | ⟨h, _⟩
    · cases h
    · cases h
    · subst h0; exact ⟨0, L', by omega, .begin S, hp'⟩
    · cases h
    · cases h
  | finish S at_ =>
    intro hl hN hf L i hi hp
    obtain ⟨L', hL, h⟩ := path_split hp hl.tail.1 (by simp at hN; omega)
    rcases h with ⟨h, _⟩ | ⟨h, _⟩ | ⟨h, _⟩ | ⟨_, h0, hp'⟩ | ⟨h, _⟩
    · cases h
    · cases h
    · cases h
    · subst h0; exact ⟨_, L', by omega, .finish S, hp'⟩
    · cases h
  | cat S a b at_ la lb _ _ iha ihb =>
    intro hl hN hf L i hi hp
    rw [List.length_append] at hN
    have hfk := fine_two (fine_kids hf)
    obtain ⟨k, L1, h1, m1, p1⟩ := iha hl.left (by omega) hfk.1 L i hi hp
    obtain ⟨k2, L2, h2, m2, p2⟩ := ihb hl.right (by omega) hfk.2 L1 k m1.le.2 p1
    exact ⟨k2, L2, by omega, .cat S a b i k k2 m1 m2, by rw [List.length_append, ← Nat.add_assoc]; exact p2⟩
  | alt S a b at_ la lb _ _ iha ihb =>
    intro hl hN hf L i hi hp
    have hfk := fine_two (fine_kids hf)
    have hlen : (⟨2, at_ + 1, (at_ + 1 + la.length + 1 : Nat), .zero⟩ :: (la ++ ⟨3, (at_ + 1 + la.length + 1 + lb.length : Nat), 0, .zero⟩ :: lb) : List Ins).length = 1 + la.length + 1 + lb.length := by
      simp only [List.length_cons, List.length_append]; omega
    rw [hlen] at hN ⊢
    obtain ⟨hx, hl1⟩ := hl.tail
    have hl2 := hl1.left
    obtain ⟨hj, hl3⟩ := hl1.right.tail
    obtain ⟨L', hL, h⟩ := path_split hp hx (by omega)
    rcases h with ⟨_, hp' | hp'⟩ | ⟨h, _⟩ | ⟨h, _⟩ | ⟨h, _⟩ | ⟨h, _⟩
    · have e : ((at_ : Int) + 1).toNat = at_ + 1 := by omega
      rw [e] at hp'
      obtain ⟨k, L1, h1, m1, p1⟩ := iha hl2 (by omega) hfk.1 L' i hi hp'
      obtain ⟨L2, hL2, h2⟩ := path_split p1 hj (by omega)
      rcases h2 with ⟨h, _⟩ | ⟨_, p2⟩ | ⟨h, _⟩ | ⟨h, _⟩ | ⟨h, _⟩
      · cases h
      · rw [Int.toNat_natCast] at p2
        exact ⟨k, L2, by omega, .altl S a b i k m1, by rw [show at_ + (1 + la.length + 1 + lb.length) = at_ + 1 + la.length + 1 + lb.length by omega]; exact p2⟩
      · cases h
      · cases h
      · cases h
    · rw [Int.toNat_natCast] at hp'
      obtain ⟨k, L1, h1, m1, p1⟩ := ihb hl3 (by omega) hfk.2 L' i hi hp'
      exact ⟨k, L1, by omega, .altr S a b i k m1, by rw [show at_ + (1 + la.length + 1 + lb.length) = at_ + 1 + la.length + 1 + lb.length by omega]; exact p1⟩
    · cases h
    · cases h
    · cases h
    · cases h
  | star S a at_ la _ iha =>
    intro hl hN hf L
    have hfk := fine_one (fine_kids hf)
    have hlen : (⟨2, at_ + 1, (at_ + 1 + la.length + 1 : Nat), .zero⟩ :: (la ++ [⟨3, at_, 0, .zero⟩]) : List Ins).length = 1 + la.length + 1 := by
      simp only [List.length_cons, List.length_append, List.length_nil]; omega
    rw [hlen] at hN ⊢
    obtain ⟨hx, hl1⟩ := hl.tail
    have hl2 := hl1.left
    obtain ⟨hj, _⟩ := hl1.right.tail
    induction L using Nat.strongRecOn with
    | ind L ihL =>
      intro i hi hp
      obtain ⟨L', hL, h⟩ := path_split hp hx (by omega)
      rcases h with ⟨_, hp' | hp'⟩ | ⟨h, _⟩ | ⟨h, _⟩ | ⟨h, _⟩ | ⟨h, _⟩
      · have e : ((at_ : Int) + 1).toNat = at_ + 1 := by omega
        rw [e] at hp'
        obtain ⟨k, L1, h1, m1, p1⟩ := iha hl2 (by omega) hfk L' i hi hp'
        obtain ⟨L2, hL2, h2⟩ := path_split p1 hj (by omega)
        rcases h2 with ⟨h, _⟩ | ⟨_, p2⟩ | ⟨h, _⟩ | ⟨h, _⟩ | ⟨h, _⟩
        · cases h
        · rw [Int.toNat_natCast] at p2
          obtain ⟨k3, L3, h3, m3, p3⟩ := ihL L2 (by omega) k m1.le.2 p2
          exact ⟨k3, L3, by omega, m1.front m3, p3⟩
        · cases h
        · cases h
        · cases h
      · rw [Int.toNat_natCast] at hp'
        exact ⟨i, L', by omega, .nil S a i hi, by rw [show at_ + (1 + la.length + 1) = at_ + 1 + la.length + 1 by omega]; exact hp'⟩
      · cases h
      · cases h
      · cases h
      · cases h
/-- A span is a path. -/
theorem code_in {P : List Ins} {s : List UInt8} {t : Tree} {at_ : Nat} {l : List Ins} (hc : Code t at_ l) : Lies P at_ l → ∀ i j, M s t i j → ∃ L, Path P s (at_ + l.length) j L at_ i := by
  induction hc with
  | none S at_ => intro _ i j m; cases m
  | empty S at_ => intro _ i j m; cases m; exact ⟨0, .here⟩
  | byte S at_ =>
    intro hl i j m
    cases m with
    | byte _ _ x h1 h2 => exact ⟨1, .byte _ _ _ ⟨_, x, hl.tail.1, rfl, h1, h2⟩ .here⟩
  | begin S at_ => intro hl i j m; cases m; exact ⟨1, .eps _ _ _ _ (.begin _ _ hl.tail.1 rfl rfl) .here⟩
  | finish S at_ => intro hl i j m; cases m; exact ⟨1, .eps _ _ _ _ (.finish _ _ hl.tail.1 rfl rfl) .here⟩
  | cat S a b at_ la lb _ _ iha ihb =>
    intro hl i j m
    cases m with
    | cat _ _ _ _ k _ m1 m2 =>
      obtain ⟨L1, p1⟩ := iha hl.left i k m1
      obtain ⟨L2, p2⟩ := ihb hl.right k j m2
      exact ⟨L1 + L2, p1.trans (by rw [List.length_append, ← Nat.add_assoc]; exact p2)⟩
  | alt S a b at_ la lb _ _ iha ihb =>
    intro hl i j m
    have hlen : (⟨2, at_ + 1, (at_ + 1 + la.length + 1 : Nat), .zero⟩ :: (la ++ ⟨3, (at_ + 1 + la.length + 1 + lb.length : Nat), 0, .zero⟩ :: lb) : List Ins).length = 1 + la.length + 1 + lb.length := by
      simp only [List.length_cons, List.length_append]; omega
    rw [hlen, show at_ + (1 + la.length + 1 + lb.length) = at_ + 1 + la.length + 1 + lb.length by omega]
    obtain ⟨hx, hl1⟩ := hl.tail
    obtain ⟨hj, hl3⟩ := hl1.right.tail
    cases m with
    | altl _ _ _ _ _ m1 =>
      obtain ⟨L1, p1⟩ := iha hl1.left i j m1
      have e1 := Eps.one (s := s) (i := i) at_ _ hx rfl
      have e : ((at_ : Int) + 1).toNat = at_ + 1 := by omega
      dsimp only at e1
      rw [e] at e1
      have e2 := Eps.jump (s := s) (i := j) _ _ hj rfl
      dsimp only at e2
      rw [Int.toNat_natCast] at e2
      exact ⟨_, .eps _ _ _ _ e1 (p1.trans (.eps _ _ _ _ e2 .here))⟩
    | altr _ _ _ _ _ m1 =>
      obtain ⟨L1, p1⟩ := ihb hl3 i j m1
      have e1 := Eps.two (s := s) (i := i) at_ _ hx rfl
      dsimp only at e1
      rw [Int.toNat_natCast] at e1
      exact ⟨_, .eps _ _ _ _ e1 p1⟩
  | star S a at_ la _ iha =>
    intro hl i j m
    have hlen : (⟨2, at_ + 1, (at_ + 1 + la.length + 1 : Nat), .zero⟩ :: (la ++ [⟨3, at_, 0, .zero⟩]) : List Ins).length = 1 + la.length + 1 := by
      simp only [List.length_cons, List.length_append, List.length_nil]; omega
    rw [hlen, show at_ + (1 + la.length + 1) = at_ + 1 + la.length + 1 by omega]
    obtain ⟨hx, hl1⟩ := hl.tail
    obtain ⟨hj, _⟩ := hl1.right.tail
    have hrun : ∀ t i j, M s t i j → t = .node 6 S [a] → ∃ L, Path P s at_ j L at_ i := by
      intro t i j h
      induction h with
      | nil S' a' q _ => intro _; exact ⟨0, .here⟩
      | more S' a' q r u m1 m2 ih1 _ =>
        intro e
        obtain ⟨L1, p1⟩ := ih1 e
        injection e with _ _ e
        injection e with e _
        subst e
        obtain ⟨L2, p2⟩ := iha hl1.left r u m2
        have e1 := Eps.one (s := s) (i := r) at_ _ hx rfl
        have e : ((at_ : Int) + 1).toNat = at_ + 1 := by omega
        dsimp only at e1
        rw [e] at e1
        have e2 := Eps.jump (s := s) (i := u) _ _ hj rfl
        dsimp only at e2
        rw [Int.toNat_natCast] at e2
        exact ⟨_, p1.trans (.eps _ _ _ _ e1 (p2.trans (.eps _ _ _ _ e2 .here)))⟩
      | empty S' q _ => intro e; exact absurd e (by intro e; injection e with e; exact absurd e (by decide))
      | byte S' q x _ _ => intro e; exact absurd e (by intro e; injection e with e; exact absurd e (by decide))
      | cat S' a' b q r u _ _ _ _ => intro e; exact absurd e (by intro e; injection e with e; exact absurd e (by decide))
      | altl S' a' b q r _ _ => intro e; exact absurd e (by intro e; injection e with e; exact absurd e (by decide))
      | altr S' a' b q r _ _ => intro e; exact absurd e (by intro e; injection e with e; exact absurd e (by decide))
      | begin S' => intro e; exact absurd e (by intro e; injection e with e; exact absurd e (by decide))
      | finish S' => intro e; exact absurd e (by intro e; injection e with e; exact absurd e (by decide))
    obtain ⟨L1, p1⟩ := hrun _ i j m rfl
    have e1 := Eps.two (s := s) (i := j) at_ _ hx rfl
    dsimp only at e1
    rw [Int.toNat_natCast] at e1
    exact ⟨_, p1.trans (.eps _ _ _ _ e1 .here)⟩
/-- The whole program: its code, then the match. -/
theorem prog_iff {s : List UInt8} {t : Tree} {l : List Ins} (hc : Code t 0 l) (hf : Fine t) (x : Ins) (hx : x.kind = 6) (i j : Nat) (hi : i ≤ s.length) : (∃ L, Path (l ++ [x]) s l.length j L 0 i) ↔ M s t i j := by
  have hl : Lies (l ++ [x]) 0 l := fun k hk => by rw [Nat.zero_add, List.getElem?_append_left hk]
  constructor
  · rintro ⟨L, p⟩
    obtain ⟨k, L', _, m, p'⟩ := code_out hc hl (.inr (by omega)) hf L i hi p
    rw [Nat.zero_add] at p'
    have hM : (l ++ [x])[l.length]? = some x := by rw [List.getElem?_append_right (Nat.le_refl _)]; simp
    have : k = j := by
      cases p' with
      | here => rfl
      | eps _ _ m' _ he _ =>
        cases he with
        | one y hy hk => rw [hM] at hy; injection hy with hy; rw [← hy, hx] at hk; cases hk
        | two y hy hk => rw [hM] at hy; injection hy with hy; rw [← hy, hx] at hk; cases hk
        | jump y hy hk => rw [hM] at hy; injection hy with hy; rw [← hy, hx] at hk; cases hk
        | begin y hy hk _ => rw [hM] at hy; injection hy with hy; rw [← hy, hx] at hk; cases hk
        | finish y hy hk _ => rw [hM] at hy; injection hy with hy; rw [← hy, hx] at hk; cases hk
      | byte _ _ _ hb _ =>
        obtain ⟨y, c, hy, hk, _⟩ := hb
        rw [hM] at hy; injection hy with hy; rw [← hy, hx] at hk; cases hk
    subst this
    exact m
  · intro m
    obtain ⟨L, p⟩ := code_in hc hl i j m
    rw [Nat.zero_add] at p
    exact ⟨L, p⟩
end Go.Proofs.YthfjmlcjkbgboaaGreatDoor
