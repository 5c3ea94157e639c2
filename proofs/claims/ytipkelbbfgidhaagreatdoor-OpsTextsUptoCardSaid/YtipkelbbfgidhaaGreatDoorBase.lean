/- Small lemmas on bytes, words, endings and rows of memory that the walks of this seat share. -/
import Derived.Test.YtipkelbbfgidhaaGreatDoorProg
import Derived.WalkKit
import Derived.WalkSpells
import Derived.WalkLawsBesides
import Derived.Lib.Hide
import Derived.StillTailTactics
import Derived.Deep.RegionLaw
namespace Go.Proofs.YtipkelbbfgidhaaGreatDoor
open Go.RowKit

theorem ret_int {k : IntKind} {a b : Int} (h : a = b) : Ending.returned (.int k a) = .returned (.int k b) := by rw [h]
theorem ret_str {a b : ByteArray} (h : a = b) : Ending.returned (.string a) = .returned (.string b) := by rw [h]
theorem ret_bool {a b : Bool} (h : a = b) : Ending.returned (.bool a) = .returned (.bool b) := by rw [h]

def bs (l : List UInt8) : ByteArray := ⟨l.toArray⟩
theorem bs_toList (l : List UInt8) : (bs l).data.toList = l := rfl
theorem bs_eta (s : ByteArray) : bs s.data.toList = s := rfl
theorem bs_size (l : List UInt8) : (bs l).size = l.length := rfl
theorem bs_list (l : List UInt8) : (bs l).toList = l := by rw [ByteArray.toList_eq]; rfl
theorem bs_append (a b : List UInt8) : bs a ++ bs b = bs (a ++ b) := by
  show (bs a).append (bs b) = _
  apply ByteArray.ext
  have h : ((bs a) ++ (bs b)).data = (bs a).data ++ (bs b).data := by simp
  exact h.trans (by simp [bs])
attribute [go_sem] bs_size bs_list bs_toList bs_append

theorem all_bytes {p : UInt8 → Bool} (h : (List.range 256).all (fun n => p (UInt8.ofNat n)) = true) (b : UInt8) : p b = true := by
  have := List.all_eq_true.1 h b.toNat (List.mem_range.2 b.toNat_lt)
  simpa using this

def byteV (b : UInt8) : Value := .int .u8 b.toNat

theorem drop_cons (s : ByteArray) (k : Nat) (h : k < s.size) : s.data.toList.drop k = s[k] :: s.data.toList.drop (k + 1) := by
  rw [List.drop_eq_getElem_cons (by simpa using h)]; rfl
theorem take_snoc (s : ByteArray) (k : Nat) (h : k < s.size) : s.data.toList.take (k + 1) = s.data.toList.take k ++ [s[k]] := by
  rw [List.take_succ_eq_append_getElem (by simpa using h)]; rfl

theorem bcell {W w1 : World} (hb : Below W.heap.size W w1) : (∀ b o, b < W.heap.size → w1.cell? ⟨b, o, none⟩ = W.cell? ⟨b, o, none⟩) ∧ (∀ b o, b < W.heap.size → w1.frozen? ⟨b, o, none⟩ = W.frozen? ⟨b, o, none⟩) :=
  ⟨fun b o h => hb.cell (p := ⟨b, o, none⟩) h, fun b o h => hb.frozen (p := ⟨b, o, none⟩) h⟩

/-- A block of the call's own whose first cells are these bytes, none of them frozen. -/
def BytesAt (w : World) (g : Nat) (l : List UInt8) : Prop :=
  g < w.heap.size ∧ ∀ j (hj : j < l.length), w.cell? ⟨g, j, none⟩ = some (.int .u8 (l[j].toNat : Int)) ∧ w.frozen? ⟨g, j, none⟩ = false

theorem BytesAt.cell {w : World} {g : Nat} {l : List UInt8} (h : BytesAt w g l) {j : Nat} (hj : j < l.length) : w.cell? ⟨g, j, none⟩ = some (.int .u8 (l[j].toNat : Int)) := (h.2 j hj).1
theorem BytesAt.free {w : World} {g : Nat} {l : List UInt8} (h : BytesAt w g l) {j : Nat} (hj : j < l.length) : w.frozen? ⟨g, j, none⟩ = false := (h.2 j hj).2
theorem BytesAt.below {w w' : World} {B g : Nat} {l : List UInt8} (h : BytesAt w g l) (hb : Below B w w') (hg : g < B) : BytesAt w' g l :=
  ⟨Nat.lt_of_lt_of_le h.1 hb.size, fun j hj => ⟨(hb.cell (p := ⟨g, j, none⟩) hg).trans (h.cell hj), (hb.frozen (p := ⟨g, j, none⟩) hg).trans (h.free hj)⟩⟩

theorem bytes_new (w : World) (s : ByteArray) (c : Nat) (hc : s.size ≤ c) (e : TypeId) :
    BytesAt (w.drew.alloc (.cells (bytesRow s c) e ((bytesRow s c).size, (bytesRow s c).size + 1))) w.heap.size s.data.toList := by
  have hz : (bytesRow s c).size = c := by
    have : s.data.size = s.size := rfl
    simp [bytesRow]; omega
  refine ⟨by simp, fun j hj => ⟨?_, ?_⟩⟩
  · have hj' : j < s.data.size := by simpa using hj
    have := World.cell?_alloc_mark w.drew (bytesRow s c) e ((bytesRow s c).size, (bytesRow s c).size + 1) j
    rw [show w.drew.heap.size = w.heap.size from rfl] at this
    rw [this, bytesRow_at s c j hj']
    simp
  · have := World.frozen?_alloc_mark w.drew (bytesRow s c) e (bytesRow s c).size ((bytesRow s c).size + 1) j
    rw [show w.drew.heap.size = w.heap.size from rfl] at this
    have hj' : j < s.size := by simpa using hj
    rw [this, hz]
    simp; omega

theorem BytesAt.set {w : World} {g : Nat} {l : List UInt8} (h : BytesAt w g l) {k : Nat} (hk : k < l.length) (x : UInt8) : BytesAt (w.setCell ⟨g, k, none⟩ (.int .u8 x.toNat)) g (l.set k x) := by
  refine ⟨by simpa [World.setCell] using h.1, fun j hj => ?_⟩
  have hj' : j < l.length := by simpa using hj
  by_cases e : k = j
  · subst e
    refine ⟨?_, by rw [World.frozen?_setCell]; exact h.free hk⟩
    rw [World.cell?_setCell_same _ _ _ (h.cell hk)]
    simp
  · refine ⟨?_, by rw [World.frozen?_setCell]; exact h.free hj'⟩
    rw [World.cell?_setCell_other _ _ _ _ (by intro q; cases q; exact e rfl), h.cell hj']
    simp [e]

theorem addr_add (g j : Nat) : (⟨g, 0, none⟩ : Addr).add j = ⟨g, j, none⟩ := by unfold Addr.add; split <;> simp_all

theorem run_string_of_bytes {P : Program} {w : World} {g : Nat} {l : List UInt8} (h : BytesAt w g l) (src dst e : TypeId) (n c : Nat) (hn : n = l.length)
    (hs : P.underlying src = some (.slice e)) (he : P.underlying e = some (.int .u8)) (hd : P.underlying dst = some .string) :
    (convert src dst (.slice (some ⟨g, 0, none⟩) n c)).run P w = .ok (.string (bs l)) w := by
  subst hn
  exact run_convert_bytes_back w src dst e ⟨g, 0, none⟩ c l hs he hd (fun j hj => by rw [addr_add]; exact h.cell hj)

/-- The string of a row of the call's own. -/
theorem run_string_of_own {P : Program} {w : World} {base n : Nat} {v : Value} {l : List UInt8} (src dst e : TypeId) (h : w.ownsRow base e 1 v n (l.map byteV))
    (hs : P.underlying src = some (.slice e)) (he : P.underlying e = some (.int .u8)) (hd : P.underlying dst = some .string) :
    (convert src dst v).run P w = .ok (.string (bs l)) w := by
  have hlen : n = l.length := by have := h.1; simp at this; omega
  rcases h.2 with ⟨rfl, h0⟩ | ⟨g, cap, cur, rfl, hb, hg, hnc, hcm, hcs, htake⟩
  · have : l = [] := List.eq_nil_of_length_eq_zero (by omega)
    subst this
    exact run_convert_bytes_nil w src e hs he 0 0 dst hd
  · subst hlen
    refine run_convert_bytes_back w src dst e ⟨g, 0, none⟩ cap l hs he hd (fun j hj => ?_)
    exact h.cells (g := g) rfl j _ (by simp [List.getElem?_eq_getElem hj, byteV])

theorem ext_bs {x : ByteArray} {l : List UInt8} (h : x.data.toList = l) : x = bs l := by subst h; rfl

theorem cells_new (w : World) (vs : List Value) (t : TypeId) : ∀ j u, vs[j]? = some u → (w.alloc (.cells vs.toArray t)).cell? ((⟨w.heap.size, 0, none⟩ : Addr).add j) = some u := fun j u h => by
  rw [addr_add, cell_of_row (w.alloc (.cells vs.toArray t)) w.heap.size j vs.toArray t (0, 0) (heap_alloc_new w _)]
  simpa using h

/-- A row of bytes of the call's own. -/
def OwnB (w : World) (base : Nat) (v : Value) (l : List UInt8) : Prop := w.ownsRow base 5 1 v l.length (l.map byteV)
theorem OwnB.nil (w : World) (base : Nat) : OwnB w base (.slice none 0 0) [] := World.ownsRow_nil w base 5 1
theorem OwnB.string {w : World} {base : Nat} {v : Value} {l : List UInt8} (h : OwnB w base v l) : (convert 29 9 v).run Tryz.prog w = .ok (.string (bs l)) w :=
  run_string_of_own 29 9 5 h Tryz.underlying29 Tryz.underlying5 Tryz.underlying9
theorem OwnB.drew {w : World} {base : Nat} {v : Value} {l : List UInt8} (h : OwnB w base v l) : OwnB w.drew base v l := h

theorem info_u8 : (Tryz.prog.info? 5).map (fun i => (i.zero, i.size, i.bytes)) = some (some (.int .u8 0), 1, 1) := by kernel_rfl

section
variable {P : Program} {ops : Array Oper} {rest : List Oper} {o : Oper} {a : Act} {Q : Exit → Act → World → Prop} {w : World}

/-- The conversion of a string to bytes: a new block that reads as the string. -/
theorem wpList_to_bytes (hgd : o.guard = none) (x : Operand) (src dst e : TypeId) (ho : o.op = .convert src dst x)
    (hs : P.underlying src = some .string) (hd : P.underlying dst = some (.slice e)) (he : P.underlying e = some (.int .u8)) (s : ByteArray) (hx : a.eval x = .string s)
    (h : ∀ (c : Nat) (w' : World), s.size ≤ c → BytesAt w' w.heap.size s.data.toList → Below w.heap.size w w' → w'.heap.size = w.heap.size + 1 →
      wpList P ops Q rest (a.put o.dst (.slice (some ⟨w.heap.size, 0, none⟩) s.size c)) w') : wpList P ops Q (o :: rest) a w := by
  refine wpList_plain hgd fun K hK => ?_
  have hr := run_bytes_of_string (P := P) w src dst e s hs hd he
  unfold Oper.wp execOp
  simp only [ho, Sem.run_bind, Sem.run_pure, Result.andThen_ok, hx, hr]
  have hge := grownCap_ge w s.size 0 e
  exact hK _ _ (h _ _ hge (bytes_new w s _ hge e) (((Below.refl _ w).drew).alloc (Nat.le_refl _) _) (by simp))

/-- append of a list that was just built, onto a row of the call's own. -/
theorem wp_append_new {K : Act → World → Prop} (s x : Operand) (t : TypeId) (ho : o.op = .call { callee := .builtin .append, args := #[s, x], argTypes := #[t, t] })
    (base : Nat) (e : TypeId) (i : TypeInfo) (z : Value) (size bytes : Nat) (ht : P.underlying t = some (.slice e)) (hi : P.info? e = some i) (hz : i.zero = some z)
    (hsize : i.size = size) (hby : i.bytes = bytes) (hzs : z.cells.size = size) (hsz : 0 < size)
    (v : Value) (n : Nat) (xs : List Value) (hs : a.eval s = v) (hown : w.ownsRow base e size v n xs) (hbase : base ≤ w.heap.size)
    (vs : List Value) (m c : Nat) (hx : a.eval x = .slice (some ⟨w.heap.size, 0, none⟩) m c) (hl : vs.length = m * size) (h1 : ∀ u ∈ vs, u.oneCell' = true)
    (h63 : n + m ≤ maxLen) (hbytes : (n + m) * bytes ≤ 140737488355328)
    (h : ∀ v' w', w'.ownsRow base e size v' (n + m) (xs ++ vs) → Below base w w' → base ≤ w'.heap.size → K (a.put o.dst v') w') :
    o.wp P a (w.alloc (.cells vs.toArray e)) K Q := by
  have hown2 := hown.alloc (.cells vs.toArray e)
  refine wp_append_own (P := P) (w.alloc (.cells vs.toArray e)) s x t ho base e i z size bytes ht hi hz hsize hby hzs hsz v n xs hs hown2 ⟨w.heap.size, 0, none⟩ m c vs hx hl (cells_new w vs e) h1 h63 hbytes (by simp; omega) ?_
  intro v' w' ho' hg _
  have hb1 : Below base w (w.alloc (.cells vs.toArray e)) := (Below.refl _ _).alloc hbase _
  have hb2 := hb1.grown hg (by simp; omega) (fun k hk => (hown.lt k hk).1)
  exact h v' w' ho' hb2 (Nat.le_trans hbase hb2.size)
end

section
variable {ops : Array Oper} {rest : List Oper} {o : Oper} {a : Act} {Q : Exit → Act → World → Prop} {w : World}
theorem wp_append_b {K : Act → World → Prop} (s x : Operand) (ho : o.op = .call { callee := .builtin .append, args := #[s, x], argTypes := #[29, 29] })
    (base : Nat) (v : Value) (l : List UInt8) (hs : a.eval s = v) (hown : OwnB w base v l) (hbase : base ≤ w.heap.size)
    (vs : List Value) (news : List UInt8) (hv : vs = news.map byteV) (m c : Nat) (hx : a.eval x = .slice (some ⟨w.heap.size, 0, none⟩) m c) (hl : news.length = m)
    (hbytes : l.length + m ≤ 140737488355328)
    (h : ∀ v' w', OwnB w' base v' (l ++ news) → Below base w w' → base ≤ w'.heap.size → K (a.put o.dst v') w') :
    o.wp Tryz.prog a (w.alloc (.cells vs.toArray 5)) K Q := by
  subst hv; subst hl
  obtain ⟨i0, hi, hz0, hz1, hz2⟩ := info_parts info_u8
  refine wp_append_new s x 29 ho base 5 i0 (.int .u8 0) 1 1 Tryz.underlying29 hi hz0 hz1 hz2 rfl (by decide) v l.length (l.map byteV) hs hown hbase (news.map byteV) news.length c hx (by simp)
    (fun u hu => by obtain ⟨b, _, rfl⟩ := List.mem_map.1 hu; rfl) (by unfold maxLen; omega) (by omega) ?_
  intro v' w' ho' hb hbs
  exact h v' w' (by unfold OwnB; rw [List.length_append, List.map_append]; exact ho') hb hbs
theorem wpList_append_b (hgd : o.guard = none) (s x : Operand) (ho : o.op = .call { callee := .builtin .append, args := #[s, x], argTypes := #[29, 29] })
    (base : Nat) (v : Value) (l : List UInt8) (hs : a.eval s = v) (hown : OwnB w base v l) (hbase : base ≤ w.heap.size)
    (vs : List Value) (news : List UInt8) (hv : vs = news.map byteV) (m c : Nat) (hx : a.eval x = .slice (some ⟨w.heap.size, 0, none⟩) m c) (hl : news.length = m)
    (hbytes : l.length + m ≤ 140737488355328)
    (h : ∀ v' w', OwnB w' base v' (l ++ news) → Below base w w' → base ≤ w'.heap.size → wpList Tryz.prog ops Q rest (a.put o.dst v') w') :
    wpList Tryz.prog ops Q (o :: rest) a (w.alloc (.cells vs.toArray 5)) :=
  wpList_plain hgd fun _ hK => wp_append_b s x ho base v l hs hown hbase vs news hv m c hx hl hbytes fun v' w' h1 h2 h3 => hK _ _ (h v' w' h1 h2 h3)
theorem step_append_b {K : Act → World → Prop} {E : Prop} (hgd : o.guard = none) (s x : Operand) (ho : o.op = .call { callee := .builtin .append, args := #[s, x], argTypes := #[29, 29] })
    (base : Nat) (v : Value) (l : List UInt8) (hs : a.eval s = v) (hown : OwnB w base v l) (hbase : base ≤ w.heap.size)
    (vs : List Value) (news : List UInt8) (hv : vs = news.map byteV) (m c : Nat) (hx : a.eval x = .slice (some ⟨w.heap.size, 0, none⟩) m c) (hl : news.length = m)
    (hbytes : l.length + m ≤ 140737488355328)
    (h : ∀ v' w', OwnB w' base v' (l ++ news) → Below base w w' → base ≤ w'.heap.size → K (a.put o.dst v') w') :
    if Region.wanted o (yielded ops a.tmps) = true then Oper.wp Tryz.prog o a (w.alloc (.cells vs.toArray 5)) K Q else E := by
  have hw : Region.wanted o (yielded ops a.tmps) = true := by simp [Region.wanted, hgd]
  rw [if_pos hw]
  exact wp_append_b s x ho base v l hs hown hbase vs news hv m c hx hl hbytes h
end

end Go.Proofs.YtipkelbbfgidhaaGreatDoor
