/- Part 4 of the proof: lemmas and walks that the last texts use. -/
import Derived.Test.YtdkbfljhfhjofaaGreatDoorM01
import Derived.Test.YtdkbfljhfhjofaaGreatDoorM02
import Derived.Test.YtdkbfljhfhjofaaGreatDoorM03
import Derived.Laws.Bits64b
import Derived.Lib.ItoaNum
import Derived.Laws.OwnMore
import Derived.Lib.Strings
import Derived.Lib.IndexBytes
import Derived.Lib.Bytealg
namespace Go.Proofs.YtdkbfljhfhjofaaGreatDoor
open Go.RowKit
/-- The number whose low bits are these. -/
def bitsN (f : Nat → Bool) : Nat → Nat
  | 0 => 0
  | i + 1 => bitsN f i ||| if f i then 2 ^ i else 0
theorem bitsN_lt (f : Nat → Bool) : ∀ n, bitsN f n < 2 ^ n
  | 0 => Nat.one_pos
  | n + 1 => by
    have h := bitsN_lt f n
    rw [bitsN]
    refine Nat.or_lt_two_pow (Nat.lt_of_lt_of_le h (Nat.pow_le_pow_right (by decide) (by omega))) ?_
    split
    · exact Nat.pow_lt_pow_right (by decide) (by omega)
    · exact Nat.two_pow_pos _
theorem bitsN_test (f : Nat → Bool) : ∀ n i, (bitsN f n).testBit i = (decide (i < n) && f i)
  | 0, i => by simp [bitsN]
  | n + 1, i => by
    have ih := bitsN_test f n i
    rw [bitsN, Nat.testBit_or, ih]
    have hp : (if f n then 2 ^ n else 0).testBit i = (decide (n = i) && f n) := by
      split
      · rename_i h; rw [Nat.testBit_two_pow, h, Bool.and_true]
      · rename_i h; simp [h]
    rw [hp]
    by_cases e : i = n
    · subst e; simp
    · have e2 : ¬ n = i := fun h => e h.symm
      by_cases h2 : i < n
      · simp [h2, Nat.lt_succ_of_lt h2, e2]
      · have : ¬ i < n + 1 := by omega
        simp [h2, this, e2]
/-- The word j of the set of a test. -/
def wdF (f : Nat → Bool) (j : Nat) : Nat := bitsN (fun i => f (64 * j + i)) 64
theorem wdF_lt (f : Nat → Bool) (j : Nat) : wdF f j < 18446744073709551616 := bitsN_lt _ 64
theorem wdF_test (f : Nat → Bool) (j i : Nat) : (wdF f j).testBit i = (decide (i < 64) && f (64 * j + i)) := bitsN_test _ 64 i
theorem wdF_or (f g : Nat → Bool) (j : Nat) : wdF f j ||| wdF g j = wdF (fun k => f k || g k) j := by
  refine Nat.eq_of_testBit_eq fun i => ?_
  rw [Nat.testBit_or, wdF_test, wdF_test, wdF_test]
  cases decide (i < 64) <;> simp
theorem wdF_one (f : Nat → Bool) (k : Nat) : wdF f (k / 64) ||| 2 ^ (k % 64) = wdF (fun x => f x || decide (x = k)) (k / 64) := by
  refine Nat.eq_of_testBit_eq fun i => ?_
  rw [Nat.testBit_or, wdF_test, wdF_test, Nat.testBit_two_pow]
  by_cases h : i < 64
  · by_cases e : k % 64 = i
    · have : 64 * (k / 64) + i = k := by omega
      simp [h, e, this]
    · have : ¬ 64 * (k / 64) + i = k := by omega
      simp [h, e, this]
  · have : ¬ k % 64 = i := by omega
    simp [h, this]
theorem wdF_other (f : Nat → Bool) (k j : Nat) (h : j ≠ k / 64) : wdF (fun x => f x || decide (x = k)) j = wdF f j := by
  refine Nat.eq_of_testBit_eq fun i => ?_
  rw [wdF_test, wdF_test]
  by_cases h2 : i < 64
  · have : ¬ 64 * j + i = k := by omega
    simp [h2, this]
  · simp [h2]
theorem wdF_congr {f g : Nat → Bool} {j : Nat} (hj : j < 4) (h : ∀ k, k < 256 → f k = g k) : wdF f j = wdF g j := by
  refine Nat.eq_of_testBit_eq fun i => ?_
  rw [wdF_test, wdF_test]
  by_cases h2 : i < 64
  · rw [h _ (by omega)]
  · simp [h2]
def setF (f : Nat → Bool) : Set4 := ⟨wdF f 0, wdF f 1, wdF f 2, wdF f 3⟩
theorem setF_word (f : Nat → Bool) (j : Nat) (hj : j < 4) : (setF f).word j = (wdF f j : Nat) := by
  match j, hj with
  | 0, _ => rfl
  | 1, _ => rfl
  | 2, _ => rfl
  | 3, _ => rfl
theorem setF_congr {f g : Nat → Bool} (h : ∀ k, k < 256 → f k = g k) : setF f = setF g := by
  unfold setF
  rw [wdF_congr (by decide) h, wdF_congr (by decide) h, wdF_congr (by decide) h, wdF_congr (by decide) h]
theorem wdF_none (j : Nat) : wdF (fun _ => false) j = 0 := Nat.eq_of_testBit_eq fun i => by rw [wdF_test]; simp
theorem setF_none : setF (fun _ => false) = .zero := by
  unfold setF Set4.zero
  simp only [wdF_none]
  rfl
def numB (most : Int) (l : List UInt8) : Int := match numL 10 9 l with
  | some n => if most < n ∨ (l.head? = some 48 ∧ 1 < l.length) then -1 else n
  | none => -1
def loR (x : List UInt8) : Int := numB 255 (Lib.cut x [45]).1
def hiR (x : List UInt8) : Int := numB 255 (if (Lib.cut x [45]).2.2 = true then (Lib.cut x [45]).2.1 else (Lib.cut x [45]).1)
def okR (x : List UInt8) : Bool := decide (0 ≤ loR x) && decide (loR x ≤ hiR x)
def inR (x : List UInt8) (k : Nat) : Bool := decide (loR x ≤ k) && decide ((k : Int) ≤ hiR x)
def anyR (ps : List (List UInt8)) (k : Nat) : Bool := ps.any fun x => inR x k
def okB (l : List UInt8) : Bool := (splL 44 l).all okR
def inB (l : List UInt8) : Nat → Bool := anyR (splL 44 l)
theorem numGo_nonneg : ∀ (l : List UInt8) (n v : Int), 0 ≤ n → numGo 10 l n = some v → 0 ≤ v
  | [], n, v, h, e => by cases e; exact h
  | b :: l, n, v, h, e => by
    rw [numGo] at e
    split at e
    · cases e
    · exact numGo_nonneg l _ v (by omega) e
theorem numB_le (most : Int) (l : List UInt8) (h : 0 ≤ most) : numB most l ≤ most := by
  unfold numB
  split
  · split <;> omega
  · omega
theorem numB_ge (most : Int) (l : List UInt8) : -1 ≤ numB most l := by
  unfold numB
  split
  · rename_i n hn
    have : 0 ≤ n := by
      unfold numL at hn
      split at hn
      · cases hn
      · exact numGo_nonneg l 0 n (by decide) hn
    split <;> omega
  · omega
end Go.Proofs.YtdkbfljhfhjofaaGreatDoor
namespace Go.Proofs.YtdkbfljhfhjofaaGreatDoor
open Go.RowKit
theorem numGo_snoc (base : Int) (b : UInt8) : ∀ (l : List UInt8) (a v : Int), numGo base l a = some v → ¬ (digitI b < 0 ∨ base ≤ digitI b) → numGo base (l ++ [b]) a = some (v * base + digitI b)
  | [], a, v, h, hb => by
    cases h
    rw [List.nil_append, numGo, if_neg hb]; rfl
  | c :: l, a, v, h, hb => by
    rw [numGo] at h
    split at h
    · cases h
    · rename_i hc
      rw [List.cons_append, numGo, if_neg hc]
      exact numGo_snoc base b l _ v h hb
theorem digitI_dec (d : Nat) (h : d < 10) : digitI (UInt8.ofNat (48 + d)) = (d : Int) := by
  have h : ∀ d : Fin 10, digitI (UInt8.ofNat (48 + d.val)) = (d.val : Int) := by decide
  exact h ⟨d, by omega⟩
theorem dec_read (u : Nat) : numGo 10 (Lib.decDigits u) 0 = some (u : Int) := by
  induction u using Nat.strongRecOn with
  | ind u ih =>
    rw [Lib.decDigits]
    split
    · rename_i h
      rw [numGo, digitI_dec u h, if_neg (by omega), numGo]
      congr 1; omega
    · rename_i h
      have e := ih (u / 10) (by omega)
      rw [numGo_snoc 10 _ _ _ _ e (by rw [digitI_dec _ (Nat.mod_lt _ (by decide))]; omega), digitI_dec _ (Nat.mod_lt _ (by decide))]
      congr 1; omega
theorem dec_len : ∀ (k u : Nat), u < 10 ^ (k + 1) → 1 ≤ (Lib.decDigits u).length ∧ (Lib.decDigits u).length ≤ k + 1
  | 0, u, h => by rw [Lib.decDigits, dif_pos (by simpa using h)]; simp
  | k + 1, u, h => by
    rw [Lib.decDigits]
    split
    · simp
    · have h2 : u / 10 < 10 ^ (k + 1) := by
        rw [Nat.div_lt_iff_lt_mul (by decide)]
        rw [Nat.pow_succ] at h
        omega
      have := dec_len k (u / 10) h2
      rw [List.length_append, List.length_singleton]
      omega
theorem dec_num (u : Nat) (h : u < 1000000000) : numL 10 9 (Lib.decDigits u) = some (u : Int) := by
  have := dec_len 8 u (by simpa using h)
  unfold numL
  rw [if_neg (by omega), dec_read]
end Go.Proofs.YtdkbfljhfhjofaaGreatDoor
namespace Go.Proofs.YtdkbfljhfhjofaaGreatDoor
open Go.RowKit
abbrev Pair := ByteArray × ByteArray
def cellsA (x : Pair) : List Value := [.string x.1, .string x.2]
theorem cellsA_len (l : List Pair) : (l.flatMap cellsA).length = l.length * 2 := by
  induction l with
  | nil => rfl
  | cons x l ih => rw [List.flatMap_cons, List.length_append, ih]; simp only [cellsA, List.length_cons, List.length_nil]; omega
/-- A row of arguments of the call's own. -/
def OwnA (w : World) (base : Nat) (v : Value) (l : List Pair) : Prop := w.ownsRow base 51 2 v l.length (l.flatMap cellsA)
theorem OwnA.nil (w : World) (base : Nat) : OwnA w base (.slice none 0 0) [] := World.ownsRow_nil w base 51 2
theorem OwnA.below {w w' : World} {base : Nat} {v : Value} {l : List Pair} (h : OwnA w base v l) (hb : Below w.heap.size w w') : OwnA w' base v l := ownsRow_below h hb
theorem OwnA.keep {w w' : World} {base : Nat} {v : Value} {l : List Pair} (h : OwnA w base v l) (hk : ∀ g, v.ownBlock = some g → w'.heap[g]? = w.heap[g]?) : OwnA w' base v l := by
  refine ⟨h.1, ?_⟩
  rcases h.2 with h0 | ⟨g, cap, cur, h1, h2, h3, h4⟩
  · exact .inl h0
  · exact .inr ⟨g, cap, cur, h1, h2, (hk g (by rw [h1]; rfl)).trans h3, h4⟩
theorem OwnA.low {w : World} {base b : Nat} {v : Value} {l : List Pair} (h : OwnA w base v l) (hb : b ≤ base) : OwnA w b v l :=
  ⟨h.1, h.2.imp_right fun ⟨g, cap, cur, h1, h2, h3⟩ => ⟨g, cap, cur, h1, Nat.le_trans hb h2, h3⟩⟩
theorem OwnA.form {w : World} {base : Nat} {v : Value} {l : List Pair} (h : OwnA w base v l) : ∃ A c, v = .slice A l.length c ∧ Sl w w.heap.size 2 A l.length (l.flatMap cellsA) := by
  rcases h.2 with ⟨h1, h2⟩ | ⟨g, cap, cur, h1, hb, hg, _⟩
  · have : l = [] := List.eq_nil_of_length_eq_zero h2
    subst this
    exact ⟨none, 0, h1, Sl.nil _ _ _ _⟩
  · refine ⟨_, _, h1, cellsA_len l, fun hp => ⟨g, 0, rfl, ?_, fun j hj => ?_⟩⟩
    · exact (World.ownsRow.lt h g (by rw [h1]; simp [Value.ownBlock])).2
    · have := World.ownsRow.cells (g := g) h (by rw [h1]; simp [Value.ownBlock]) j _ (List.getElem?_eq_getElem hj)
      rw [addr_add] at this
      rw [Nat.zero_add]
      exact this
section
variable {ops : Array Oper} {rest : List Oper} {o : Oper} {a : Act} {Q : Exit → Act → World → Prop} {w : World}
end
end Go.Proofs.YtdkbfljhfhjofaaGreatDoor
namespace Go.Proofs.YtdkbfljhfhjofaaGreatDoor
open Go.RowKit
def StrPost (r : ByteArray) (w : World) (e : Ending) (w' : World) : Prop := e = .returned (.string r) ∧ Below w.heap.size w w'
end Go.Proofs.YtdkbfljhfhjofaaGreatDoor
namespace Go.Proofs.YtdkbfljhfhjofaaGreatDoor
open Go.RowKit
/-- The library's own variable holds some number. -/
def LibOk (w : World) : Prop := ∃ m : Int, w.cell? ⟨0, 0, none⟩ = some (.int .i64 m)
theorem LibOk.pos {w : World} (h : LibOk w) : 0 < w.heap.size := by
  obtain ⟨m, hm⟩ := h
  exact World.block_lt_of_cell? w ⟨0, 0, none⟩ hm
theorem LibOk.below {w w' : World} (h : LibOk w) (hb : Below w.heap.size w w') : LibOk w' := by
  have hp := h.pos
  obtain ⟨m, hm⟩ := h
  exact ⟨m, (hb.cell (p := ⟨0, 0, none⟩) hp).trans hm⟩
theorem toUInt8_back (b : UInt8) : ((b.toNat : Int)).toNat.toUInt8 = b := by simp
end Go.Proofs.YtdkbfljhfhjofaaGreatDoor
namespace Go.Proofs.YtdkbfljhfhjofaaGreatDoor
def qs : List UInt8 := [10, 13, 9, 32, 92]
def hexD (n : UInt8) : UInt8 := if n < 10 then n + 48 else n + 87
def quoteB (b : UInt8) : List UInt8 :=
  if b = 10 then [92, 110] else if b = 13 then [92, 114] else if b = 9 then [92, 116] else if b = 32 then [92, 115] else if b = 92 then [92, 92]
  else if b < 33 ∨ 126 < b then [92, 120, hexD (b >>> 4), hexD (b &&& 15)] else [b]
def quoteL (l : List UInt8) : List UInt8 := if l = [] then [45] else if l = [45] then [92, 45] else l.flatMap quoteB
theorem quoteB_special (b : UInt8) : (Lib.indexByte qs b = 0 ∧ quoteB b = [92, 110]) ∨ (Lib.indexByte qs b = 1 ∧ quoteB b = [92, 114]) ∨ (Lib.indexByte qs b = 2 ∧ quoteB b = [92, 116]) ∨
    (Lib.indexByte qs b = 3 ∧ quoteB b = [92, 115]) ∨ (Lib.indexByte qs b = 4 ∧ quoteB b = [92, 92]) ∨
    (Lib.indexByte qs b = -1 ∧ ((b.toNat < 33 ∨ 126 < b.toNat) ∧ quoteB b = [92, 120, hexD (b >>> 4), hexD (b &&& 15)] ∨ 33 ≤ b.toNat ∧ b.toNat ≤ 126 ∧ quoteB b = [b])) :=
  of_decide_eq_true (all_bytes (p := fun b => decide ((Lib.indexByte qs b = 0 ∧ quoteB b = [92, 110]) ∨ (Lib.indexByte qs b = 1 ∧ quoteB b = [92, 114]) ∨ (Lib.indexByte qs b = 2 ∧ quoteB b = [92, 116]) ∨
    (Lib.indexByte qs b = 3 ∧ quoteB b = [92, 115]) ∨ (Lib.indexByte qs b = 4 ∧ quoteB b = [92, 92]) ∨
    (Lib.indexByte qs b = -1 ∧ ((b.toNat < 33 ∨ 126 < b.toNat) ∧ quoteB b = [92, 120, hexD (b >>> 4), hexD (b &&& 15)] ∨ 33 ≤ b.toNat ∧ b.toNat ≤ 126 ∧ quoteB b = [b])))) (by decide +kernel) b)
theorem quoteB_len (b : UInt8) : (quoteB b).length ≤ 4 :=
  of_decide_eq_true (all_bytes (p := fun b => decide ((quoteB b).length ≤ 4)) (by decide +kernel) b)
theorem quote_len (l : List UInt8) : (l.flatMap quoteB).length ≤ 4 * l.length := by
  induction l with
  | nil => simp
  | cons b l ih => have := quoteB_len b; simp only [List.flatMap_cons, List.length_append, List.length_cons]; omega
theorem hexTab_all : ((List.range 16).all fun n => (ByteArray.mk #[48, 49, 50, 51, 52, 53, 54, 55, 56, 57, 97, 98, 99, 100, 101, 102]).data.toList[n]? == some (hexD (UInt8.ofNat n))) = true := by decide
theorem hexTab_at (n : Nat) (h : n < (ByteArray.mk #[48, 49, 50, 51, 52, 53, 54, 55, 56, 57, 97, 98, 99, 100, 101, 102]).size) :
    (ByteArray.mk #[48, 49, 50, 51, 52, 53, 54, 55, 56, 57, 97, 98, 99, 100, 101, 102])[n] = hexD (UInt8.ofNat n) := by
  have h1 := List.all_eq_true.1 hexTab_all n (List.mem_range.2 h)
  have h2 := Lib.data_getElem? (ByteArray.mk #[48, 49, 50, 51, 52, 53, 54, 55, 56, 57, 97, 98, 99, 100, 101, 102]) n h
  rw [h2] at h1
  simpa using h1
theorem hex_hi (b : UInt8) : UInt8.ofNat (((b.toNat : Int) / 16).toNat) = b >>> 4 :=
  beq_iff_eq.1 (all_bytes (p := fun b => UInt8.ofNat (((b.toNat : Int) / 16).toNat) == b >>> 4) (by decide +kernel) b)
theorem hex_lo (b : UInt8) : UInt8.ofNat (((b.toNat : Int) % 16).toNat) = b &&& 15 :=
  beq_iff_eq.1 (all_bytes (p := fun b => UInt8.ofNat (((b.toNat : Int) % 16).toNat) == b &&& 15) (by decide +kernel) b)
end Go.Proofs.YtdkbfljhfhjofaaGreatDoor
namespace Go.Proofs.YtdkbfljhfhjofaaGreatDoor
open Go.RowKit
def QuoteRel (s : ByteArray) (w : World) (v i : Value) (wr : World) : Prop :=
  ∃ k : Nat, k ≤ s.size ∧ i = .int .i64 k ∧ OwnB wr w.heap.size v ((s.data.toList.take k).flatMap quoteB) ∧ Below w.heap.size w wr
set_option maxRecDepth 100000 in
set_option maxHeartbeats 1600000 in
theorem Quote_any (s : ByteArray) (w : World) (hs : s.size ≤ 1048576) :
    Calls Tryz.prog 43 #[.string s] w (StrPost (bs (quoteL s.data.toList)) w) := by
  have hL : Hid (s.data.toList.length = s.size) := by unfold Hid; simp
  by_cases h0 : s.data.toList = []
  · have hs0 : s = ByteArray.empty := ext_bs h0
    subst hs0
    go_enter Tryz.func43, Tryz.ntmps43
    go_wp2_with fail
    go_ret
    exact ⟨rfl, Below.refl _ _⟩
  by_cases h1 : s.data.toList = [45]
  · have hs0 : s = bs [45] := ext_bs h1
    subst hs0
    go_enter Tryz.func43, Tryz.ntmps43
    go_wp2_with fail
    go_ret
    exact ⟨rfl, Below.refl _ _⟩
  have HQ : Hid (quoteL s.data.toList = s.data.toList.flatMap quoteB) := by unfold Hid quoteL; rw [if_neg h0, if_neg h1]
  have g0 : (s.toList == []) = false := by rw [Lib.toList_data]; exact beq_eq_false_iff_ne.2 h0
  have g1 : (s.toList == [45]) = false := by rw [Lib.toList_data]; exact beq_eq_false_iff_ne.2 h1
  have g2 : s.toList.isEmpty = false := by rw [Lib.toList_data]; cases h : s.data.toList with | nil => exact absurd h h0 | cons _ _ => rfl
  clear h0 h1
  go_enter Tryz.func43, Tryz.ntmps43
  go_wp2_with fail
  go_loopw [3, 14] (fun v i wr => QuoteRel s w v i wr) (fun _ i _ => s.size - (intOf i).toNat)
  case atStart => exact ⟨0, Nat.zero_le _, rfl, OwnB.nil _ _, Below.refl _ _⟩
  case round =>
    obtain ⟨k, hk, rfl, hown, hbl⟩ := hrel
    have hbase := hbl.size
    by_cases hlt : k < s.size
    · have HT := Lib.hid (take_snoc s k hlt)
      have hql := quote_len (s.data.toList.take k)
      have htl : (s.data.toList.take k).length ≤ k := List.length_take_le _ _
      have hcb := s[k].toNat_lt
      have HFM : Hid ((s.data.toList.take (k + 1)).flatMap quoteB = (s.data.toList.take k).flatMap quoteB ++ quoteB s[k]) := by
        unfold Hid; rw [HT.out, List.flatMap_append]; simp
      rcases quoteB_special s[k] with ⟨hi, hq⟩ | ⟨hi, hq⟩ | ⟨hi, hq⟩ | ⟨hi, hq⟩ | ⟨hi, hq⟩ | ⟨hi, ⟨hr, hq⟩ | ⟨hr1, hr2, hq⟩⟩
      · have HI := Lib.hid hi
        have HQB := Lib.hid hq
        clear hi hq
        go_wp2_with (first | (go_at_call 86; refine (Tryz.strings_IndexByte _ _ _).mono ?_; rintro e w' ⟨rfl, rfl⟩; rw [toUInt8_back, show (ByteArray.mk #[10, 13, 9, 32, 92]).data.toList = qs from rfl, HI.out]) | (at_builtin; refine wpList_append_b rfl _ _ rfl w.heap.size _ _ rfl hown hbase _ [92, 110] rfl 2 2 rfl rfl (by omega) ?_; intro v' w1 hown1 hb1 hbs1))
        exact ⟨⟨k + 1, by omega, by go_num, by rw [HFM.out, HQB.out]; exact hown1, hbl.trans hb1⟩, by simp [intOf]; omega⟩
      · have HI := Lib.hid hi
        have HQB := Lib.hid hq
        clear hi hq
        go_wp2_with (first | (go_at_call 86; refine (Tryz.strings_IndexByte _ _ _).mono ?_; rintro e w' ⟨rfl, rfl⟩; rw [toUInt8_back, show (ByteArray.mk #[10, 13, 9, 32, 92]).data.toList = qs from rfl, HI.out]) | (at_builtin; refine wpList_append_b rfl _ _ rfl w.heap.size _ _ rfl hown hbase _ [92, 114] rfl 2 2 rfl rfl (by omega) ?_; intro v' w1 hown1 hb1 hbs1))
        exact ⟨⟨k + 1, by omega, by go_num, by rw [HFM.out, HQB.out]; exact hown1, hbl.trans hb1⟩, by simp [intOf]; omega⟩
      · have HI := Lib.hid hi
        have HQB := Lib.hid hq
        clear hi hq
        go_wp2_with (first | (go_at_call 86; refine (Tryz.strings_IndexByte _ _ _).mono ?_; rintro e w' ⟨rfl, rfl⟩; rw [toUInt8_back, show (ByteArray.mk #[10, 13, 9, 32, 92]).data.toList = qs from rfl, HI.out]) | (at_builtin; refine wpList_append_b rfl _ _ rfl w.heap.size _ _ rfl hown hbase _ [92, 116] rfl 2 2 rfl rfl (by omega) ?_; intro v' w1 hown1 hb1 hbs1))
        exact ⟨⟨k + 1, by omega, by go_num, by rw [HFM.out, HQB.out]; exact hown1, hbl.trans hb1⟩, by simp [intOf]; omega⟩
      · have HI := Lib.hid hi
        have HQB := Lib.hid hq
        clear hi hq
        go_wp2_with (first | (go_at_call 86; refine (Tryz.strings_IndexByte _ _ _).mono ?_; rintro e w' ⟨rfl, rfl⟩; rw [toUInt8_back, show (ByteArray.mk #[10, 13, 9, 32, 92]).data.toList = qs from rfl, HI.out]) | (at_builtin; refine wpList_append_b rfl _ _ rfl w.heap.size _ _ rfl hown hbase _ [92, 115] rfl 2 2 rfl rfl (by omega) ?_; intro v' w1 hown1 hb1 hbs1))
        exact ⟨⟨k + 1, by omega, by go_num, by rw [HFM.out, HQB.out]; exact hown1, hbl.trans hb1⟩, by simp [intOf]; omega⟩
      · have HI := Lib.hid hi
        have HQB := Lib.hid hq
        clear hi hq
        go_wp2_with (first | (go_at_call 86; refine (Tryz.strings_IndexByte _ _ _).mono ?_; rintro e w' ⟨rfl, rfl⟩; rw [toUInt8_back, show (ByteArray.mk #[10, 13, 9, 32, 92]).data.toList = qs from rfl, HI.out]) | (at_builtin; refine wpList_append_b rfl _ _ rfl w.heap.size _ _ rfl hown hbase _ [92, 92] rfl 2 2 rfl rfl (by omega) ?_; intro v' w1 hown1 hb1 hbs1))
        exact ⟨⟨k + 1, by omega, by go_num, by rw [HFM.out, HQB.out]; exact hown1, hbl.trans hb1⟩, by simp [intOf]; omega⟩
      · have HI := Lib.hid hi
        have HQB := Lib.hid hq
        clear hi hq
        have hq1 : 0 ≤ (s[k].toNat : Int) / 16 := by omega
        have hq2 : (s[k].toNat : Int) / 16 < 16 := by omega
        have hq3 : 0 ≤ (s[k].toNat : Int) % 16 := by omega
        have hq4 : (s[k].toNat : Int) % 16 < 16 := by omega
        have hvs : [Value.int .u8 92, .int .u8 120, .int .u8 ((hexD (UInt8.ofNat (((s[k].toNat : Int) / 16).toNat))).toNat : Int), .int .u8 ((hexD (UInt8.ofNat (((s[k].toNat : Int) % 16).toNat))).toNat : Int)] = [92, 120, hexD (s[k] >>> 4), hexD (s[k] &&& 15)].map byteV := by
          rw [hex_hi, hex_lo]; rfl
        have HVS := Lib.hid hvs
        clear hvs
        have ht := hexTab_at
        have hand : bits .and .u8 (s[k].toNat : Int) 15 = (s[k].toNat : Int) % 16 := u8_and15 _ (by omega) (by omega)
        rcases hr with hr | hr
        all_goals
          go_wp2_with (go_at_call 86; refine (Tryz.strings_IndexByte _ _ _).mono ?_; rintro e w' ⟨rfl, rfl⟩; rw [toUInt8_back, show (ByteArray.mk #[10, 13, 9, 32, 92]).data.toList = qs from rfl, HI.out])
          go_region_law ((refine step_append_b rfl (.tmp 41) (.tmp 48) rfl w.heap.size u3 _ rfl hown.drew hbase _ [92, 120, hexD (s[k] >>> 4), hexD (s[k] &&& 15)] HVS.out 4 4 rfl rfl (by omega) ?_); intro v' w1 hown1 hb1 hbs1)
          all_goals
            go_wp2_with fail
            exact ⟨⟨k + 1, by omega, by go_num, by rw [HFM.out, HQB.out]; exact hown1, hbl.trans ((Below.refl _ _).drew.trans hb1)⟩, by simp [intOf]; omega⟩
      · have HI := Lib.hid hi
        have HQB := Lib.hid hq
        clear hi hq
        go_wp2_with (first | (go_at_call 86; refine (Tryz.strings_IndexByte _ _ _).mono ?_; rintro e w' ⟨rfl, rfl⟩; rw [toUInt8_back, show (ByteArray.mk #[10, 13, 9, 32, 92]).data.toList = qs from rfl, HI.out]) | (at_builtin; refine wpList_append_b rfl _ _ rfl w.heap.size _ _ rfl hown hbase _ [s[k]] rfl 1 1 rfl rfl (by omega) ?_; intro v' w1 hown1 hb1 hbs1))
        exact ⟨⟨k + 1, by omega, by go_num, by rw [HFM.out, HQB.out]; exact hown1, hbl.trans hb1⟩, by simp [intOf]; omega⟩
    · have HK : Hid (s.data.toList.take k = s.data.toList) := List.take_of_length_le (by rw [hL.out]; omega)
      have hcv := hown.string
      clear hown
      go_wp2_with fail
      go_ret
      exact ⟨by rw [HQ.out]; show Ending.returned (.string (bs ((s.data.toList.take k).flatMap quoteB))) = _; rw [HK.out], hbl⟩
end Go.Proofs.YtdkbfljhfhjofaaGreatDoor
namespace Go.Proofs.YtdkbfljhfhjofaaGreatDoor
def es : List UInt8 := [110, 114, 116, 115, 92, 45]
def hexT : List UInt8 := [48, 49, 50, 51, 52, 53, 54, 55, 56, 57, 97, 98, 99, 100, 101, 102]
def isHex (b : UInt8) : Bool := decide (0 ≤ Lib.indexByte hexT b)
def escL (l : List UInt8) : UInt8 × Nat :=
  match l with
  | [] => (0, 0)
  | b :: r =>
    if b = 110 then (10, 1) else if b = 114 then (13, 1) else if b = 116 then (9, 1) else if b = 115 then (32, 1) else if b = 92 then (92, 1) else if b = 45 then (45, 1)
    else if b = 120 ∧ 2 ≤ r.length ∧ isHex (r.getD 0 0) = true ∧ isHex (r.getD 1 0) = true then (UInt8.ofNat ((digitI (r.getD 0 0)).toNat * 16 + (digitI (r.getD 1 0)).toNat), 3) else (0, 0)
theorem es_cases (b : UInt8) : (Lib.indexByte es b = 0 ∧ b = 110) ∨ (Lib.indexByte es b = 1 ∧ b = 114) ∨ (Lib.indexByte es b = 2 ∧ b = 116) ∨ (Lib.indexByte es b = 3 ∧ b = 115) ∨ (Lib.indexByte es b = 4 ∧ b = 92) ∨ (Lib.indexByte es b = 5 ∧ b = 45) ∨
    (Lib.indexByte es b = -1 ∧ b ≠ 110 ∧ b ≠ 114 ∧ b ≠ 116 ∧ b ≠ 115 ∧ b ≠ 92 ∧ b ≠ 45) :=
  of_decide_eq_true (all_bytes (p := fun b => decide ((Lib.indexByte es b = 0 ∧ b = 110) ∨ (Lib.indexByte es b = 1 ∧ b = 114) ∨ (Lib.indexByte es b = 2 ∧ b = 116) ∨ (Lib.indexByte es b = 3 ∧ b = 115) ∨ (Lib.indexByte es b = 4 ∧ b = 92) ∨ (Lib.indexByte es b = 5 ∧ b = 45) ∨
    (Lib.indexByte es b = -1 ∧ b ≠ 110 ∧ b ≠ 114 ∧ b ≠ 116 ∧ b ≠ 115 ∧ b ≠ 92 ∧ b ≠ 45))) (by decide +kernel) b)
theorem isHex_digit (b : UInt8) : isHex b = true → 0 ≤ digitI b ∧ digitI b ≤ 15 :=
  of_decide_eq_true (all_bytes (p := fun b => decide (isHex b = true → 0 ≤ digitI b ∧ digitI b ≤ 15)) (by decide +kernel) b)
theorem escL_hex (b : UInt8) (r : List UInt8) (h : b ≠ 110 ∧ b ≠ 114 ∧ b ≠ 116 ∧ b ≠ 115 ∧ b ≠ 92 ∧ b ≠ 45) :
    escL (b :: r) = if b = 120 ∧ 2 ≤ r.length ∧ isHex (r.getD 0 0) = true ∧ isHex (r.getD 1 0) = true then (UInt8.ofNat ((digitI (r.getD 0 0)).toNat * 16 + (digitI (r.getD 1 0)).toNat), 3) else (0, 0) := by
  obtain ⟨h1, h2, h3, h4, h5, h6⟩ := h
  simp only [escL, if_neg h1, if_neg h2, if_neg h3, if_neg h4, if_neg h5, if_neg h6]
end Go.Proofs.YtdkbfljhfhjofaaGreatDoor
