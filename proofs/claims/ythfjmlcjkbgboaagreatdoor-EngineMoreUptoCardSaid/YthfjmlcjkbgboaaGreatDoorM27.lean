/- Part 27 of the proof: lemmas and walks that the last texts use. -/
import Derived.Test.YthfjmlcjkbgboaaGreatDoorM01
import Derived.Test.YthfjmlcjkbgboaaGreatDoorM02
import Derived.Test.YthfjmlcjkbgboaaGreatDoorM03
import Derived.Test.YthfjmlcjkbgboaaGreatDoorM10
import Derived.Test.YthfjmlcjkbgboaaGreatDoorM26
import Derived.Lib.ItoaNum
import Derived.Laws.OwnMore
import Derived.Lib.Bytealg
import Derived.Lib.Strings
import Derived.Lib.IndexBytes
import Derived.Deep.QuietTactic
import Derived.BigQuiet
import Derived.Laws.BitsAllLaws
import Derived.Laws.BitsLemmas
import Derived.Lib.Join
namespace Go.Proofs.YthfjmlcjkbgboaaGreatDoor
open Go.RowKit
theorem dec_len : ∀ (k u : Nat), u < 10 ^ (k + 1) → 1 ≤ (Lib.decDigits u).length ∧ (Lib.decDigits u).length ≤ k + 1
  | 0, u, h => by rw [Lib.decDigits, dif_pos (by simpa using h)]; simp
  | k + 1, u, h => by
    rw [Lib.decDigits]
    split
    · simp
    · have h2 : u / 10 < 10 ^ (k + 1) := by
        rw [Nat.div_lt_iff_lt_mul (by decide)]
        rw [Nat.pow_succ] at h
        omega
      have := dec_len k (u / 10) h2
      rw [List.length_append, List.length_singleton]
      omega
end Go.Proofs.YthfjmlcjkbgboaaGreatDoor
namespace Go.Proofs.YthfjmlcjkbgboaaGreatDoor
open Go.RowKit
abbrev Pair := ByteArray × ByteArray
def cellsA (x : Pair) : List Value := [.string x.1, .string x.2]
theorem cellsA_len (l : List Pair) : (l.flatMap cellsA).length = l.length * 2 := by
  induction l with
  | nil => rfl
  | cons x l ih => rw [List.flatMap_cons, List.length_append, ih]; simp only [cellsA, List.length_cons, List.length_nil]; omega
theorem cellsA_one (l : List Pair) : ∀ u ∈ l.flatMap cellsA, u.oneCell' = true := fun u hu => by
  obtain ⟨x, _, h⟩ := List.mem_flatMap.1 hu
  simp only [cellsA, List.mem_cons, List.not_mem_nil, or_false] at h
  rcases h with rfl | rfl <;> rfl
theorem cellsA_at : ∀ (l : List Pair) (k : Nat) (h : k < l.length), (l.flatMap cellsA)[k * 2]? = some (.string l[k].1) ∧ (l.flatMap cellsA)[k * 2 + 1]? = some (.string l[k].2)
  | [], k, h => absurd h (by simp)
  | x :: l, 0, _ => ⟨rfl, rfl⟩
  | x :: l, k + 1, h => by
    have := cellsA_at l k (by simpa using h)
    rw [List.flatMap_cons, show (k + 1) * 2 = 2 + k * 2 by omega, List.getElem?_append_right (by simp [cellsA]), show 2 + k * 2 + 1 = 2 + (k * 2 + 1) by omega, List.getElem?_append_right (by simp [cellsA])]
    simpa [cellsA] using this
/-- A row of arguments of the call's own. -/
def OwnA (w : World) (base : Nat) (v : Value) (l : List Pair) : Prop := w.ownsRow base 43 2 v l.length (l.flatMap cellsA)
theorem OwnA.nil (w : World) (base : Nat) : OwnA w base (.slice none 0 0) [] := World.ownsRow_nil w base 43 2
theorem OwnA.below {w w' : World} {base : Nat} {v : Value} {l : List Pair} (h : OwnA w base v l) (hb : Below w.heap.size w w') : OwnA w' base v l := ownsRow_below h hb
theorem OwnA.keep {w w' : World} {base : Nat} {v : Value} {l : List Pair} (h : OwnA w base v l) (hk : ∀ g, v.ownBlock = some g → w'.heap[g]? = w.heap[g]?) : OwnA w' base v l := by
  refine ⟨h.1, ?_⟩
  rcases h.2 with h0 | ⟨g, cap, cur, h1, h2, h3, h4⟩
  · exact .inl h0
  · exact .inr ⟨g, cap, cur, h1, h2, (hk g (by rw [h1]; rfl)).trans h3, h4⟩
theorem OwnA.low {w : World} {base b : Nat} {v : Value} {l : List Pair} (h : OwnA w base v l) (hb : b ≤ base) : OwnA w b v l :=
  ⟨h.1, h.2.imp_right fun ⟨g, cap, cur, h1, h2, h3⟩ => ⟨g, cap, cur, h1, Nat.le_trans hb h2, h3⟩⟩
theorem OwnA.form {w : World} {base : Nat} {v : Value} {l : List Pair} (h : OwnA w base v l) : ∃ A c, v = .slice A l.length c ∧ Sl w w.heap.size 2 A l.length (l.flatMap cellsA) := by
  rcases h.2 with ⟨h1, h2⟩ | ⟨g, cap, cur, h1, hb, hg, _⟩
  · have : l = [] := List.eq_nil_of_length_eq_zero h2
    subst this
    exact ⟨none, 0, h1, Sl.nil _ _ _ _⟩
  · refine ⟨_, _, h1, cellsA_len l, fun hp => ⟨g, 0, rfl, ?_, fun j hj => ?_⟩⟩
    · exact (World.ownsRow.lt h g (by rw [h1]; simp [Value.ownBlock])).2
    · have := World.ownsRow.cells (g := g) h (by rw [h1]; simp [Value.ownBlock]) j _ (List.getElem?_eq_getElem hj)
      rw [addr_add] at this
      rw [Nat.zero_add]
      exact this
/-- Two cells of an argument. -/
theorem arg_at {w : World} {B n : Nat} {A : Option Addr} {l : List Pair} (h : Sl w B 2 A n (l.flatMap cellsA)) (k : Nat) (hk : k < l.length) :
    ∃ b off, A = some ⟨b, off, none⟩ ∧ b < B ∧ w.cell? ⟨b, off + k * 2, none⟩ = some (.string l[k].1) ∧ w.cell? ⟨b, off + k * 2 + 1, none⟩ = some (.string l[k].2) := by
  have hl := cellsA_len l
  obtain ⟨b, off, e, hb, hc⟩ := h.src (by omega)
  obtain ⟨h0, h1⟩ := cellsA_at l k hk
  refine ⟨b, off, e, hb, ?_, ?_⟩
  · rw [hc (k * 2) (by omega)]
    rw [List.getElem?_eq_getElem (by omega)] at h0
    exact h0
  · rw [Nat.add_assoc, hc (k * 2 + 1) (by omega)]
    rw [List.getElem?_eq_getElem (by omega)] at h1
    exact h1
theorem info_arg : (Tryz.prog.info? 43).map (fun i => (i.zero, i.size, i.bytes)) = some (some (.agg #[.string ByteArray.empty, .string ByteArray.empty]), 2, 32) := by kernel_rfl
section
variable {ops : Array Oper} {rest : List Oper} {o : Oper} {a : Act} {Q : Exit → Act → World → Prop} {w : World}
/-- One argument appended. -/
theorem wpList_append_a (hgd : o.guard = none) (s x : Operand) (ho : o.op = .call { callee := .builtin .append, args := #[s, x], argTypes := #[44, 44] })
    (base : Nat) (v : Value) (l : List Pair) (hs : a.eval s = v) (hown : OwnA w base v l) (hbase : base ≤ w.heap.size)
    (vs : List Value) (new : Pair) (hv : vs = cellsA new) (g0 : Nat) (hg0 : w.heap.size = g0) (c : Nat) (hx : a.eval x = .slice (some ⟨g0, 0, none⟩) 1 c)
    (hbytes : l.length ≤ 4194304)
    (h : ∀ v' w', OwnA w' base v' (l ++ [new]) → Below base w w' → (∀ g, g < w.heap.size → v.ownBlock ≠ some g → w'.heap[g]? = w.heap[g]?) → w.heap.size < w'.heap.size → wpList Tryz.prog ops Q rest (a.put o.dst v') w') :
    wpList Tryz.prog ops Q (o :: rest) a (w.alloc (.cells vs.toArray 43)) := by
  subst hv; subst hg0
  obtain ⟨i0, hi, hz0, hz1, hz2⟩ := info_parts info_arg
  refine wpList_plain hgd fun _ hK => wp_append_kept s x 44 ho base 43 i0 _ 2 32 Tryz.underlying44 hi hz0 hz1 hz2 rfl (by decide) v l.length (l.flatMap cellsA) hs hown hbase (cellsA new) 1 c hx rfl
    (fun u hu => cellsA_one [new] u (by simpa using hu)) (by unfold maxLen; omega) (by omega) fun v' w' h1 h2 h3 h4 => hK _ _ (h v' w' (by unfold OwnA; rw [List.length_append, List.flatMap_append]; simpa using h1) h2 h3 h4)
/-- A whole row appended. -/
theorem wpList_append_aa (hgd : o.guard = none) (s x : Operand) (ho : o.op = .call { callee := .builtin .append, args := #[s, x], argTypes := #[44, 44] })
    (base base2 : Nat) (v u : Value) (l m : List Pair) (hs : a.eval s = v) (hx : a.eval x = u) (hown : OwnA w base v l) (hown2 : OwnA w base2 u m) (hbase : base ≤ w.heap.size)
    (hbytes : l.length + m.length ≤ 4398046511104)
    (h : ∀ v' w', OwnA w' base v' (l ++ m) → Below base w w' → (∀ g, g < w.heap.size → v.ownBlock ≠ some g → w'.heap[g]? = w.heap[g]?) → w.heap.size ≤ w'.heap.size → wpList Tryz.prog ops Q rest (a.put o.dst v') w') :
    wpList Tryz.prog ops Q (o :: rest) a w := by
  obtain ⟨i0, hi, hz0, hz1, hz2⟩ := info_parts info_arg
  refine wpList_plain hgd fun K hK => ?_
  rcases hown2.2 with ⟨e1, e2⟩ | ⟨g, cap, cur, e1, hbg, hg, _⟩
  · have hm : m = [] := List.eq_nil_of_length_eq_zero e2
    subst hm; subst e1
    have hr := run_append_owned_none (P := Tryz.prog) (w := w) base 44 o.type 43 i0 2 Tryz.underlying44 hi v l.length (l.flatMap cellsA) hown
    unfold Oper.wp execOp
    simp only [ho, resolve, invoke, builtin, Sem.run_bind, Sem.run_pure, Result.andThen_ok, List.map_toArray, List.map_cons, List.map_nil, hs, hx, hr]
    exact hK _ _ (h v w (by rw [List.append_nil]; exact hown) (Below.refl _ _) (fun _ _ _ => rfl) (Nat.le_refl _))
  · have hcell : ∀ j z, (m.flatMap cellsA)[j]? = some z → w.cell? (Addr.add ⟨g, 0, none⟩ j) = some z := fun j z hz => World.ownsRow.cells (g := g) hown2 (by rw [e1]; simp [Value.ownBlock]) j z hz
    refine wp_append_own (P := Tryz.prog) w s x 44 ho base 43 i0 _ 2 32 Tryz.underlying44 hi hz0 hz1 hz2 rfl (by decide) v l.length (l.flatMap cellsA) hs hown ⟨g, 0, none⟩ m.length cap (m.flatMap cellsA) (hx.trans e1) (cellsA_len m) hcell (cellsA_one m)
      (by unfold maxLen; omega) (by omega) hbase ?_
    intro v' w' ho' hgr _
    exact hK _ _ (h v' w' (by unfold OwnA; rw [List.length_append, List.flatMap_append]; exact ho') ((Below.refl _ _).grown hgr hbase (fun k hk => (World.ownsRow.lt hown k hk).1)) (fun k hk hne => hgr.block k hk (fun e => hne e.symm)) hgr.size)
end
end Go.Proofs.YthfjmlcjkbgboaaGreatDoor
namespace Go.Proofs.YthfjmlcjkbgboaaGreatDoor
def qs : List UInt8 := [10, 13, 9, 32, 92]
end Go.Proofs.YthfjmlcjkbgboaaGreatDoor
namespace Go.Proofs.YthfjmlcjkbgboaaGreatDoor
def es : List UInt8 := [110, 114, 116, 115, 92, 45]
def hexT : List UInt8 := [48, 49, 50, 51, 52, 53, 54, 55, 56, 57, 97, 98, 99, 100, 101, 102]
def isHex (b : UInt8) : Bool := decide (0 ≤ Lib.indexByte hexT b)
def escL (l : List UInt8) : UInt8 × Nat :=
  match l with
  | [] => (0, 0)
  | b :: r =>
    if b = 110 then (10, 1) else if b = 114 then (13, 1) else if b = 116 then (9, 1) else if b = 115 then (32, 1) else if b = 92 then (92, 1) else if b = 45 then (45, 1)
    else if b = 120 ∧ 2 ≤ r.length ∧ isHex (r.getD 0 0) = true ∧ isHex (r.getD 1 0) = true then (UInt8.ofNat ((digitI (r.getD 0 0)).toNat * 16 + (digitI (r.getD 1 0)).toNat), 3) else (0, 0)
end Go.Proofs.YthfjmlcjkbgboaaGreatDoor
namespace Go.Proofs.YthfjmlcjkbgboaaGreatDoor
open Go.RowKit
theorem IndexByte_any (t : ByteArray) (b : UInt8) (W : World) : Calls Tryz.prog 115 #[.string t, .int .u8 b.toNat] W fun e w' => e = .returned (.int .i64 (Lib.indexByte t.data.toList b)) ∧ w' = W := by
  have := Tryz.strings_IndexByte t b.toNat W
  rw [toUInt8_back] at this; exact this
theorem or_hex (a b : Int) (ha : 0 ≤ a) (ha' : a ≤ 15) (hb : 0 ≤ b) (hb' : b ≤ 15) : bits .or .i64 (a * 16) b = a * 16 + b := by
  obtain ⟨a, rfl⟩ := Int.eq_ofNat_of_zero_le ha
  obtain ⟨b, rfl⟩ := Int.eq_ofNat_of_zero_le hb
  have key : ((List.range 16).all fun x => (List.range 16).all fun y => decide (bits .or .i64 ((x : Int) * 16) (y : Int) = (x : Int) * 16 + (y : Int))) = true := by decide +kernel
  have h1 := List.all_eq_true.1 key a (List.mem_range.2 (by omega))
  exact of_decide_eq_true (List.all_eq_true.1 h1 b (List.mem_range.2 (by omega)))
end Go.Proofs.YthfjmlcjkbgboaaGreatDoor
namespace Go.Proofs.YthfjmlcjkbgboaaGreatDoor
def unqGo : Nat → List UInt8 → Option (List UInt8)
  | 0, _ => some []
  | _ + 1, [] => some []
  | f + 1, b :: r => if b = 92 then (if (escL r).2 = 0 then none else (unqGo f (r.drop (escL r).2)).map ((escL r).1 :: ·)) else if b < 33 ∨ 126 < b then none else (unqGo f r).map (b :: ·)
def unqAt (l : List UInt8) : Option (List UInt8) := unqGo l.length l
def unquoteL (l : List UInt8) : Option (List UInt8) := if l = [45] then some [] else if l = [] then none else unqAt l
end Go.Proofs.YthfjmlcjkbgboaaGreatDoor
namespace Go.Proofs.YthfjmlcjkbgboaaGreatDoor
open Go.RowKit
def strRes (c : Int) (o : Option (List UInt8)) : Value := match o with
  | some l => .tuple #[.string (bs l), .int .i64 0]
  | none => .tuple #[.string (bs []), .int .i64 c]
def ResPost (v : Value) (w : World) (e : Ending) (w' : World) : Prop := e = .returned v ∧ Below w.heap.size w w'
theorem below_drewN {B : Nat} {a w : World} (h : Below B a w) (n : Nat) : Below B a (w.drewN n) := ⟨h.os, h.tape, h.output, h.size, h.block⟩
theorem OwnB.drewN {w : World} {base : Nat} {v : Value} {l : List UInt8} (h : OwnB w base v l) (n : Nat) : OwnB (w.drewN n) base v l := h
end Go.Proofs.YthfjmlcjkbgboaaGreatDoor
namespace Go.Proofs.YthfjmlcjkbgboaaGreatDoor
def scanGo (step : UInt8 → List UInt8 → List UInt8 × Nat) : Nat → List UInt8 → List UInt8
  | 0, _ => []
  | _ + 1, [] => []
  | f + 1, b :: r => (step b r).1 ++ scanGo step f (r.drop (step b r).2)
def scan (step : UInt8 → List UInt8 → List UInt8 × Nat) (l : List UInt8) : List UInt8 := scanGo step l.length l
theorem scanGo_fuel (step : UInt8 → List UInt8 → List UInt8 × Nat) : ∀ (f g : Nat) (l : List UInt8), l.length ≤ f → l.length ≤ g → scanGo step f l = scanGo step g l := by
  intro f
  induction f with
  | zero =>
    intro g l hf _
    have : l = [] := List.eq_nil_of_length_eq_zero (by omega)
    subst this
    cases g <;> rfl
  | succ f ih =>
    intro g l hf hg
    cases l with
    | nil => cases g <;> rfl
    | cons b r =>
      cases g with
      | zero => simp at hg
      | succ g =>
        simp only [List.length_cons] at hf hg
        unfold scanGo
        rw [ih g (r.drop (step b r).2) (by rw [List.length_drop]; omega) (by rw [List.length_drop]; omega)]
theorem scan_nil (step : UInt8 → List UInt8 → List UInt8 × Nat) : scan step [] = [] := rfl
theorem scan_cons (step : UInt8 → List UInt8 → List UInt8 × Nat) (b : UInt8) (r : List UInt8) : scan step (b :: r) = (step b r).1 ++ scan step (r.drop (step b r).2) := by
  unfold scan
  rw [List.length_cons, scanGo]
  rw [scanGo_fuel step r.length (r.drop (step b r).2).length (r.drop (step b r).2) (by rw [List.length_drop]; omega) (Nat.le_refl _)]
def pairI (l : List UInt8) : Int :=
  match l with
  | a :: b :: _ => if digitI a < 0 ∨ digitI b < 0 then -1 else digitI a * 16 + digitI b
  | _ => -1
theorem pairI_cons (a b : UInt8) (r : List UInt8) : pairI (a :: b :: r) = if digitI a < 0 ∨ digitI b < 0 then -1 else digitI a * 16 + digitI b := rfl
theorem digitI_ge (b : UInt8) : -1 ≤ digitI b ∧ digitI b ≤ 15 :=
  of_decide_eq_true (all_bytes (p := fun b => decide (-1 ≤ digitI b ∧ digitI b ≤ 15)) (by decide +kernel) b)
theorem pairI_range (l : List UInt8) : -1 ≤ pairI l ∧ pairI l ≤ 255 ∧ (0 ≤ pairI l → 2 ≤ l.length) := by
  match l with
  | [] => exact ⟨by decide, by decide, fun h => absurd h (by decide)⟩
  | [a] => exact ⟨by simp [pairI], by simp [pairI], fun h => absurd h (by simp [pairI])⟩
  | a :: b :: r =>
    have h1 := digitI_ge a
    have h2 := digitI_ge b
    rw [pairI_cons]
    simp only [List.length_cons]
    split <;> exact ⟨by omega, by omega, fun _ => by omega⟩
def urlStep (b : UInt8) (r : List UInt8) : List UInt8 × Nat :=
  if b = 43 then ([32], 0) else if b = 37 ∧ 0 ≤ pairI r then ([UInt8.ofNat (pairI r).toNat], 2) else ([b], 0)
def urlDecL (l : List UInt8) : List UInt8 := scan urlStep l
theorem urlStep_le (b : UInt8) (r : List UInt8) : (urlStep b r).2 ≤ r.length ∧ (urlStep b r).1.length = 1 := by
  unfold urlStep
  have h := (pairI_range r).2.2
  split
  · exact ⟨Nat.zero_le _, rfl⟩
  · split
    · rename_i h2; exact ⟨h h2.2, rfl⟩
    · exact ⟨Nat.zero_le _, rfl⟩
def hexGo : Nat → List UInt8 → Option (List UInt8)
  | 0, _ => some []
  | f + 1, l => if l.length = 0 then some [] else if pairI l < 0 then none else (hexGo f (l.drop 2)).map (UInt8.ofNat (pairI l).toNat :: ·)
def hexDecL (l : List UInt8) : Option (List UInt8) := hexGo l.length l
theorem hexGo_fuel : ∀ (f g : Nat) (l : List UInt8), l.length ≤ f → l.length ≤ g → hexGo f l = hexGo g l := by
  intro f
  induction f with
  | zero =>
    intro g l hf _
    cases g with
    | zero => rfl
    | succ g => unfold hexGo; rw [if_pos (by omega)]
  | succ f ih =>
    intro g l hf hg
    cases g with
    | zero => unfold hexGo; rw [if_pos (by omega)]
    | succ g =>
      unfold hexGo
      by_cases h0 : l.length = 0
      · rw [if_pos h0, if_pos h0]
      · rw [if_neg h0, if_neg h0, ih g _ (by rw [List.length_drop]; omega) (by rw [List.length_drop]; omega)]
theorem hexDec_nil : hexDecL [] = some [] := rfl
theorem hexDec_bad (l : List UInt8) (h : 0 < l.length) (hp : pairI l < 0) : hexDecL l = none := by
  unfold hexDecL
  rw [show l.length = l.length - 1 + 1 by omega, hexGo, if_neg (by omega), if_pos hp]
theorem hexDec_step (l : List UInt8) (h : 0 < l.length) (hp : ¬ pairI l < 0) : hexDecL l = (hexDecL (l.drop 2)).map (UInt8.ofNat (pairI l).toNat :: ·) := by
  unfold hexDecL
  rw [show hexGo l.length l = hexGo (l.length - 1 + 1) l by rw [show l.length - 1 + 1 = l.length by omega], hexGo, if_neg (by omega), if_neg hp]
  rw [hexGo_fuel (l.length - 1) (l.drop 2).length _ (by rw [List.length_drop]; omega) (Nat.le_refl _)]
theorem hexDec_len : ∀ (n : Nat) (l r : List UInt8), l.length ≤ n → hexDecL l = some r → r.length * 2 = l.length := by
  intro n
  induction n with
  | zero =>
    intro l r hl h
    have : l = [] := List.eq_nil_of_length_eq_zero (by omega)
    subst this; rw [hexDec_nil] at h; cases h; rfl
  | succ n ih =>
    intro l r hl h
    by_cases h0 : l.length = 0
    · have : l = [] := List.eq_nil_of_length_eq_zero h0
      subst this; rw [hexDec_nil] at h; cases h; rfl
    · by_cases hp : pairI l < 0
      · rw [hexDec_bad l (by omega) hp] at h; cases h
      · rw [hexDec_step l (by omega) hp] at h
        obtain ⟨x, hx, rfl⟩ := Option.map_eq_some_iff.1 h
        have h2 := (pairI_range l).2.2 (by omega)
        have := ih _ _ (by rw [List.length_drop]; omega) hx
        rw [List.length_drop] at this
        simp only [List.length_cons]; omega
end Go.Proofs.YthfjmlcjkbgboaaGreatDoor
namespace Go.Proofs.YthfjmlcjkbgboaaGreatDoor
open Go.RowKit
set_option maxRecDepth 100000 in
set_option maxHeartbeats 800000 in
theorem pair_any (s : ByteArray) (i : Int) (h0 : 0 ≤ i) (h1 : i ≤ 4611686018427387904) (w : World) :
    Calls Tryz.prog 113 #[.string s, .int .i64 i] w fun e w' => e = .returned (.int .i64 (pairI (s.data.toList.drop i.toNat))) ∧ ∃ n, w' = w.drewN n := by
  obtain ⟨n, rfl⟩ := Int.eq_ofNat_of_zero_le h0
  rw [Int.toNat_natCast]
  have hL : s.data.toList.length = s.size := by simp
  by_cases h2 : n + 2 ≤ s.size
  · have HD : Hid (s.data.toList.drop n = s[n] :: s[n + 1] :: s.data.toList.drop (n + 2)) := by
      unfold Hid; rw [drop_cons s n (by omega), drop_cons s (n + 1) (by omega)]
    have HP := Lib.hid (pairI_cons s[n] s[n + 1] (s.data.toList.drop (n + 2)))
    have a1 := digitI_ge s[n]
    have a2 := digitI_ge s[n + 1]
    obtain ⟨a11, a12⟩ := a1
    obtain ⟨a21, a22⟩ := a2
    have i1 : (n : Int) < (s.size : Int) := by omega
    have i2 : (n : Int) + 1 < (s.size : Int) := by omega
    have i3 : 0 ≤ (n : Int) + 1 := by omega
    have i4 : IntKind.i64.wrap ((n : Int) + 1) = (n : Int) + 1 := IntWalk.i64_in _ (by omega)
    have i5 : ((n : Int) + 1).toNat = n + 1 := by omega
    by_cases q1 : digitI s[n] < 0
    · go_enter Tryz.func113, Tryz.ntmps113
      go_wp2_with fail
      go_quiet ((go_at_call 158; exact Calls.quiet_of_same (Digit_any _ _)))
      go_wp2_with fail
      go_ret
      exact ⟨by rw [HD.out, HP.out, if_pos (Or.inl q1)]; rfl, _, rfl⟩
    · by_cases q2 : digitI s[n + 1] < 0
      · go_enter Tryz.func113, Tryz.ntmps113
        go_wp2_with fail
        go_quiet ((go_at_call 158; exact Calls.quiet_of_same (Digit_any _ _)))
        go_wp2_with fail
        go_ret
        exact ⟨by rw [HD.out, HP.out, if_pos (Or.inr q2)]; rfl, _, rfl⟩
      · have q3 : 0 ≤ digitI s[n] := by omega
        have q4 : 0 ≤ digitI s[n + 1] := by omega
        have hor := or_hex (digitI s[n]) (digitI s[n + 1]) q3 a12 q4 a22
        have HF := Lib.hid (HP.out.trans (if_neg (by omega)))
        go_enter Tryz.func113, Tryz.ntmps113
        go_wp2_with fail
        go_quiet ((go_at_call 158; exact Calls.quiet_of_same (Digit_any _ _)))
        go_wp2_with fail
        go_ret
        exact ⟨by rw [HD.out, HF.out]; rfl, _, rfl⟩
  · have HF : Hid (pairI (s.data.toList.drop n) = -1) := by
      have hlen : (s.data.toList.drop n).length < 2 := by rw [List.length_drop]; omega
      have := (pairI_range (s.data.toList.drop n))
      unfold Hid; omega
    go_enter Tryz.func113, Tryz.ntmps113
    go_wp2_with fail
    go_ret
    exact ⟨by rw [HF.out]; rfl, 0, rfl⟩
def UrlRel (s : ByteArray) (w : World) (v i : Value) (wr : World) : Prop :=
  ∃ (k : Nat) (acc : List UInt8), k ≤ s.size ∧ i = .int .i64 k ∧ acc.length ≤ k ∧ OwnB wr w.heap.size v acc ∧ urlDecL s.data.toList = acc ++ urlDecL (s.data.toList.drop k) ∧ Below w.heap.size w wr
theorem wrap_u8 (n : Int) (h0 : 0 ≤ n) (h1 : n ≤ 255) : ((UInt8.ofNat n.toNat).toNat : Int) = n := by
  rw [UInt8.toNat_ofNat', Nat.mod_eq_of_lt (by omega)]; omega
set_option maxRecDepth 100000 in
set_option maxHeartbeats 1600000 in
theorem UrlDecode_any (s : ByteArray) (w : World) (hs : s.size ≤ 140737488351232) :
    Calls Tryz.prog 66 #[.string s] w (StrPost (bs (urlDecL s.data.toList)) w) := by
  have hL : Hid (s.data.toList.length = s.size) := by unfold Hid; simp
  go_enter Tryz.func66, Tryz.ntmps66
  go_wp2_with fail
  go_loopw [3, 4] (fun v i wr => UrlRel s w v i wr) (fun _ i _ => s.size - (intOf i).toNat)
  case atStart => exact ⟨0, [], Nat.zero_le _, rfl, Nat.le_refl _, OwnB.nil _ _, rfl, Below.refl _ _⟩
  case round =>
    obtain ⟨k, acc, hk, rfl, hacc, hown, hr, hbl⟩ := hrel
    have hbase := hbl.size
    have HR := Lib.hid hr
    clear hr
    by_cases hlt : k < s.size
    · have HD := Lib.hid (drop_cons s k hlt)
      have HU := Lib.hid (scan_cons urlStep s[k] (s.data.toList.drop (k + 1)))
      have hcb := s[k].toNat_lt
      by_cases hb1 : s[k] = 43
      · have q1 : ((s[k].toNat : Int) == 43) = true := by rw [hb1]; decide
        have HS : Hid (urlStep s[k] (s.data.toList.drop (k + 1)) = ([32], 0)) := by unfold Hid urlStep; rw [if_pos hb1]
        clear hb1
        go_wp2_with (at_builtin; refine wpList_append_b rfl _ _ rfl w.heap.size _ acc rfl (by exact hown) (by exact hbase) _ [32] rfl 1 1 rfl rfl (by omega) ?_; intro v' w1 hown1 hb1 hbs1)
        exact ⟨⟨k + 1, acc ++ [32], by omega, by go_num, by simp; omega, hown1, by rw [HR.out, HD.out]; unfold urlDecL; rw [HU.out, HS.out]; simp, hbl.trans hb1⟩, by simp [intOf]; omega⟩
      · have q1 : ((s[k].toNat : Int) == 43) = false := beq_eq_false_iff_ne.2 (fun h => hb1 (UInt8.toNat_inj.1 (by show s[k].toNat = 43; omega)))
        by_cases hb2 : s[k] = 37
        · have q2 : ((s[k].toNat : Int) == 37) = true := by rw [hb2]; decide
          have hrg := pairI_range (s.data.toList.drop (k + 1))
          have HSa : Hid (0 ≤ pairI (s.data.toList.drop (k + 1)) → urlStep s[k] (s.data.toList.drop (k + 1)) = ([UInt8.ofNat (pairI (s.data.toList.drop (k + 1))).toNat], 2)) := fun h => by unfold urlStep; rw [if_neg hb1, if_pos ⟨hb2, h⟩]
          have HSb : Hid (¬ 0 ≤ pairI (s.data.toList.drop (k + 1)) → urlStep s[k] (s.data.toList.drop (k + 1)) = ([s[k]], 0)) := fun h => by unfold urlStep; rw [if_neg hb1, if_neg (fun g => h g.2)]
          have hrl := hrg.2.2
          rw [List.length_drop, hL.out] at hrl
          obtain ⟨r1, r2, _⟩ := hrg
          obtain ⟨n, hn⟩ : ∃ n, pairI (s.data.toList.drop (k + 1)) = n := ⟨_, rfl⟩
          rw [hn] at HSa HSb hrl r1 r2
          have HN := Lib.hid hn
          have HB2 := Lib.hid hb2
          clear hn hb1 hb2
          have hkk : ((k : Int) + 1).toNat = k + 1 := by omega
          have HKK := Lib.hid hkk
          clear hkk
          by_cases h3 : 0 ≤ n
          · have hrl2 := hrl h3
            have HSS := Lib.hid (HSa.out h3)
            have HW := Lib.hid (wrap_u8 n h3 r2)
            have hvs : Hid ([Value.int .u8 n] = [UInt8.ofNat n.toNat].map byteV) := by unfold Hid byteV; simp only [List.map_cons, List.map_nil]; rw [HW.out]
            clear hrl
            go_wp2_with (first | (go_at_call 113; refine (pair_any _ _ (by omega) (by omega) _).mono ?_; rintro e w1 ⟨rfl, nq, rfl⟩; rw [HKK.out, HN.out]) | (at_builtin; refine wpList_append_b rfl _ _ rfl w.heap.size _ acc rfl (by exact hown.drewN _) (by exact hbase) _ [UInt8.ofNat n.toNat] hvs.out 1 1 rfl rfl (by omega) ?_; intro v' w1 hown1 hb1 hbs1))
            exact ⟨⟨k + 3, acc ++ [UInt8.ofNat n.toNat], by omega, by first | go_num | (congr 1; omega), by simp; omega, hown1, by rw [HR.out, HD.out]; unfold urlDecL; rw [HU.out, HSS.out, List.drop_drop]; simp, (below_drewN hbl _).trans hb1⟩, by simp [intOf]; omega⟩
          · have HSS := Lib.hid (HSb.out h3)
            clear hrl
            go_wp2_with (first | (go_at_call 113; refine (pair_any _ _ (by omega) (by omega) _).mono ?_; rintro e w1 ⟨rfl, nq, rfl⟩; rw [HKK.out, HN.out]) | (at_builtin; refine wpList_append_b rfl _ _ rfl w.heap.size _ acc rfl (by exact hown.drewN _) (by exact hbase) _ [s[k]] rfl 1 1 rfl rfl (by omega) ?_; intro v' w1 hown1 hb1 hbs1))
            exact ⟨⟨k + 1, acc ++ [s[k]], by omega, by go_num, by simp; omega, hown1, by rw [HR.out, HD.out]; unfold urlDecL; rw [HU.out, HSS.out]; simp, (below_drewN hbl _).trans hb1⟩, by simp [intOf]; omega⟩
        · have q2 : ((s[k].toNat : Int) == 37) = false := beq_eq_false_iff_ne.2 (fun h => hb2 (UInt8.toNat_inj.1 (by show s[k].toNat = 37; omega)))
          have HS : Hid (urlStep s[k] (s.data.toList.drop (k + 1)) = ([s[k]], 0)) := by unfold Hid urlStep; rw [if_neg hb1, if_neg (fun g => hb2 g.1)]
          clear hb1 hb2
          go_wp2_with (at_builtin; refine wpList_append_b rfl _ _ rfl w.heap.size _ acc rfl (by exact hown) (by exact hbase) _ [s[k]] rfl 1 1 rfl rfl (by omega) ?_; intro v' w1 hown1 hb1 hbs1)
          exact ⟨⟨k + 1, acc ++ [s[k]], by omega, by go_num, by simp; omega, hown1, by rw [HR.out, HD.out]; unfold urlDecL; rw [HU.out, HS.out]; simp, hbl.trans hb1⟩, by simp [intOf]; omega⟩
    · have hcv := hown.string
      have HF : Hid (urlDecL s.data.toList = acc) := by unfold Hid; rw [HR.out, List.drop_eq_nil_of_le (by rw [hL.out]; omega)]; unfold urlDecL; rw [scan_nil, List.append_nil]
      clear hown
      go_wp2_with fail
      go_ret
      exact ⟨by rw [HF.out]; rfl, hbl⟩
end Go.Proofs.YthfjmlcjkbgboaaGreatDoor
namespace Go.Proofs.YthfjmlcjkbgboaaGreatDoor
open Go.RowKit
/-- How long the text is. -/
def bulkA (l : List Pair) : Nat := (l.map fun x => x.1.size + x.2.size + 2).sum
end Go.Proofs.YthfjmlcjkbgboaaGreatDoor
namespace Go.Proofs.YthfjmlcjkbgboaaGreatDoor
open Go.RowKit
def topN (b : Int) : Nat := 32 - (min (max b 0) 32).toNat
def maskN (b : Int) : Nat := 4294967296 - 2 ^ topN b
theorem topN_le (b : Int) : topN b ≤ 32 := by unfold topN; omega
theorem pow_le (s : Nat) (h : s ≤ 32) : 1 ≤ 2 ^ s ∧ 2 ^ s ≤ 4294967296 := ⟨Nat.one_le_two_pow, Nat.pow_le_pow_right (by decide) h⟩
theorem maskN_lt (b : Int) : maskN b < 4294967296 := by have := pow_le _ (topN_le b); unfold maskN; omega
theorem mask_test : ∀ s, s ≤ 32 → ∀ i, i < 32 → (4294967296 - 2 ^ s).testBit i = decide (s ≤ i) := by
  have h : ((List.range 33).all fun s => (List.range 32).all fun i => (4294967296 - 2 ^ s).testBit i == decide (s ≤ i)) = true := by decide +kernel
  intro s hs i hi
  have h1 := List.all_eq_true.1 h s (List.mem_range.2 (by omega))
  have h2 := List.all_eq_true.1 h1 i (List.mem_range.2 hi)
  exact beq_iff_eq.1 h2
theorem and_mask (x s : Nat) (hx : x < 4294967296) (hs : s ≤ 32) : x &&& (4294967296 - 2 ^ s) = 0 ↔ x < 2 ^ s := by
  constructor
  · intro h
    refine Nat.lt_pow_two_of_testBit _ fun i hi => ?_
    by_cases h32 : i < 32
    · have := congrArg (fun y => Nat.testBit y i) h
      simp only [Nat.testBit_and, Nat.zero_testBit, mask_test s hs i h32, decide_eq_true hi, Bool.and_true] at this
      exact this
    · exact Nat.testBit_lt_two_pow (Nat.lt_of_lt_of_le hx (Nat.pow_le_pow_right (n := 2) (by decide) (by omega : 32 ≤ i)))
  · intro h
    refine Nat.eq_of_testBit_eq fun i => ?_
    rw [Nat.testBit_and, Nat.zero_testBit]
    by_cases hi : i < s
    · rw [mask_test s hs i (by omega), decide_eq_false (by omega), Bool.and_false]
    · rw [Nat.testBit_lt_two_pow (Nat.lt_of_lt_of_le h (Nat.pow_le_pow_right (by decide) (by omega))), Bool.false_and]
theorem andNot_mask (x s : Nat) (hs : s ≤ 32) : x &&& (4294967295 - (4294967296 - 2 ^ s)) = x % 2 ^ s := by
  have := pow_le s hs
  rw [show 4294967295 - (4294967296 - 2 ^ s) = 2 ^ s - 1 by omega, Nat.and_two_pow_sub_one_eq_mod]
def inN32 (a : Nat) (b : Int) (x : Nat) : Bool := decide ((a ^^^ x) < 2 ^ topN b)
def octN (a : Nat) (k : Nat) : Nat := a / 2 ^ k % 256
def decS (n : Nat) : List UInt8 := Lib.decDigits n
def addrT (a : Nat) : List UInt8 := Lib.join [decS (octN a 24), decS (octN a 16), decS (octN a 8), decS (octN a 0)] [46]
def netT (a : Nat) (b : Int) : List UInt8 := if b < 32 then addrT a ++ 47 :: decS b.toNat else addrT a
def netOk (a : Nat) (b : Int) : Bool := decide (0 ≤ b) && decide (b ≤ 32) && (a % 2 ^ topN b == 0)
def numsR : List (List UInt8) → Nat → Option Nat
  | [], a => some a
  | x :: r, a => if numB 255 x < 0 then none else numsR r ((a * 256 + (numB 255 x).toNat) % 4294967296)
def bitsR (l : List UInt8) : Int := if (Lib.cut l [47]).2.2 = true then numB 32 (Lib.cut l [47]).2.1 else 32
def netP (l : List UInt8) : Except Int (Nat × Int) :=
  if bitsR l < 0 then .error 3 else if (splL 46 (Lib.cut l [47]).1).length ≠ 4 then .error 3
  else match numsR (splL 46 (Lib.cut l [47]).1) 0 with
  | none => .error 3
  | some a => if a % 2 ^ topN (bitsR l) ≠ 0 then .error 4 else .ok (a, bitsR l)
theorem netP_err {l : List UInt8} {e : Int} (h : netP l = .error e) : e = 3 ∨ e = 4 := by
  unfold netP at h
  split at h
  · cases h; exact .inl rfl
  · split at h
    · cases h; exact .inl rfl
    · split at h
      · cases h; exact .inl rfl
      · split at h
        · cases h; exact .inr rfl
        · cases h
/-- What is read as a number without noughts ahead is that number's digits. -/
theorem digit_back (b : UInt8) (h0 : 0 ≤ digitI b) (h1 : digitI b < 10) : UInt8.ofNat (48 + (digitI b).toNat) = b := by
  have := all_bytes (p := fun b => !(decide (0 ≤ digitI b) && decide (digitI b < 10)) || decide (UInt8.ofNat (48 + (digitI b).toNat) = b)) (by decide +kernel) b
  simp only [decide_eq_true h0, decide_eq_true h1, Bool.and_self, Bool.not_true, Bool.false_or] at this
  exact of_decide_eq_true this
theorem canon_go : ∀ (l : List UInt8) (a : Nat) (n : Int), 1 ≤ a → numGo 10 l (a : Int) = some n → Lib.decDigits n.toNat = Lib.decDigits a ++ l
  | [], a, n, _, h => by
    unfold numGo at h
    have e : (a : Int) = n := Option.some.inj h
    rw [← e, Int.toNat_natCast, List.append_nil]
  | b :: l, a, n, ha, h => by
    unfold numGo at h
    split at h
    · cases h
    · rename_i hd
      obtain ⟨d, hdd⟩ : ∃ d : Nat, digitI b = (d : Int) := ⟨(digitI b).toNat, by omega⟩
      have hd10 : d < 10 := by omega
      have e : (a : Int) * 10 + digitI b = ((a * 10 + d : Nat) : Int) := by rw [hdd]; omega
      rw [e] at h
      have ih := canon_go l (a * 10 + d) n (by omega) h
      rw [ih, Lib.decDigits, dif_neg (by omega), show (a * 10 + d) / 10 = a by omega, show (a * 10 + d) % 10 = d by omega, List.append_assoc]
      congr 1
      have hb := digit_back b (by omega) (by omega)
      rw [hdd, Int.toNat_natCast] at hb
      rw [hb]
      rfl
theorem numB_canon {most : Int} {l : List UInt8} (h : 0 ≤ numB most l) : decS (numB most l).toNat = l ∧ numB most l ≤ most := by
  unfold numB at h ⊢
  cases hn : numL 10 9 l with
  | none => rw [hn] at h; dsimp only at h; omega
  | some n =>
    rw [hn] at h
    dsimp only at h ⊢
    split at h
    · exact absurd h (by decide)
    · rename_i hc
      rw [if_neg hc]
      refine ⟨?_, by omega⟩
      unfold numL at hn
      split at hn
      · cases hn
      · rename_i hlen
        match l, hn, hlen, hc with
        | [], _, hlen, _ => exact (hlen (.inl rfl)).elim
        | [b], hn, _, _ =>
          unfold numGo at hn
          split at hn
          · cases hn
          · rename_i hd
            unfold numGo at hn
            have e := Option.some.inj hn
            have h3 : n = digitI b := by omega
            unfold decS
            rw [h3, Lib.decDigits, dif_pos (by omega), digit_back b (by omega) (by omega)]
        | b :: c :: r, hn, _, hc =>
          have hb : b ≠ 48 := fun e => hc (.inr ⟨by rw [e]; rfl, by simp⟩)
          unfold numGo at hn
          split at hn
          · cases hn
          · rename_i hd
            obtain ⟨d, hdd⟩ : ∃ d : Nat, digitI b = (d : Int) := ⟨(digitI b).toNat, by omega⟩
            have hback := digit_back b (by omega) (by omega)
            have hd0 : d ≠ 0 := fun e => by
              rw [hdd, e] at hback
              exact hb hback.symm
            rw [show (0 : Int) * 10 + digitI b = (d : Int) by omega] at hn
            have := canon_go (c :: r) d n (by omega) hn
            unfold decS
            rw [this, Lib.decDigits, dif_pos (by omega)]
            rw [hdd, Int.toNat_natCast] at hback
            rw [hback]
            rfl
theorem join_four (a b c d : List UInt8) : Lib.join [a, b, c, d] [46] = a ++ 46 :: (b ++ 46 :: (c ++ 46 :: d)) := by
  rw [Lib.join_cons]
  simp [Lib.joinTail]
theorem octN_lt (a k : Nat) : octN a k < 256 := Nat.mod_lt _ (by decide)
theorem numsR_lt : ∀ (l : List (List UInt8)) (a n : Nat), a < 4294967296 → numsR l a = some n → n < 4294967296
  | [], a, n, ha, h => by unfold numsR at h; cases h; exact ha
  | x :: r, a, n, _, h => by
    unfold numsR at h
    split at h
    · cases h
    · exact numsR_lt r _ n (Nat.mod_lt _ (by decide)) h
theorem numB_255 {x : List UInt8} (h : ¬ numB 255 x < 0) : ∃ k : Nat, numB 255 x = (k : Int) ∧ k < 256 ∧ decS k = x := by
  obtain ⟨h1, h2⟩ := numB_canon (most := 255) (l := x) (by omega)
  exact ⟨(numB 255 x).toNat, by omega, by omega, h1⟩
end Go.Proofs.YthfjmlcjkbgboaaGreatDoor
