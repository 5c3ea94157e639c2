/- strings.ContainsAny at the three signs that no name may have, whatever the text. -/
import Derived.Test.YtchoenfclfafiaaUnq
import Derived.Test.YtchoenfclfafiaaMem2
import Derived.Test.YtchoenfclfafiaaMulL
import Derived.Test.YtchoenfclfafiaaShelf
import Derived.Laws.RangeString
import Derived.Deep.LoopGhost
namespace Go.Proofs.Ytchoenfclfafiaa
open Go.RowKit

theorem get_at (s : ByteArray) (i : Nat) (h : i < s.size) : s.get! i = s[i] := by
  simp [ByteArray.get!, getElem!_pos, h]
  rfl
theorem dec_hi (s : ByteArray) (i : Nat) (h : i < s.size) (hb : 128 ≤ (s[i]'h).toNat) : ∃ c n, Utf8.decode s i = (c, n) ∧ 128 ≤ c ∧ c ≤ 1114111 ∧ Utf8.valid c = true ∧ 1 ≤ n ∧ i + n ≤ s.size ∧ ∀ k, k < n → ∀ hk : i + k < s.size, 128 ≤ (s[i + k]'hk).toNat := by
  have e0 : s.get! (i + 0) = s[i] := get_at s i h
  have hone : ∀ k, k < 1 → ∀ hk : i + k < s.size, 128 ≤ (s[i + k]'hk).toNat := fun k hk hk2 => by
    obtain rfl : k = 0 := by omega
    exact hb
  have hcont : ∀ k, ((decide (i + k < s.size)) && ((s.get! (i + k)).toNat / 64 == 2)) = true → i + k < s.size ∧ (s.get! (i + k)).toNat / 64 = 2 ∧ ∀ hk : i + k < s.size, 128 ≤ (s[i + k]'hk).toNat := fun k hk => by
    simp only [Bool.and_eq_true, decide_eq_true_eq, beq_iff_eq] at hk
    refine ⟨hk.1, hk.2, fun hk2 => ?_⟩
    have := hk.2
    rw [get_at s (i + k) hk2] at this
    omega
  unfold Utf8.decode
  simp only [e0]
  rw [if_neg (by omega)]
  split
  · rename_i h1
    rw [Bool.and_eq_true] at h1
    obtain ⟨l1, q1, m1⟩ := hcont 1 h1.2
    have hlt := (s.get! (i + 1)).toNat_lt
    split
    · rename_i hc
      refine ⟨_, _, rfl, hc, by omega, ?_, by omega, by omega, fun k hk hk2 => ?_⟩
      · unfold Utf8.valid
        simp only [Bool.or_eq_true, Bool.and_eq_true, decide_eq_true_eq]
        left
        have : (s[i]).toNat < 256 := (s[i]).toNat_lt
        omega
      · rcases (by omega : k = 0 ∨ k = 1) with rfl | rfl
        · exact hb
        · exact m1 hk2
    · exact ⟨_, _, rfl, by decide, by decide, by decide, by omega, by omega, hone⟩
  · split
    · rename_i h1
      rw [Bool.and_eq_true, Bool.and_eq_true] at h1
      obtain ⟨l1, q1, m1⟩ := hcont 1 h1.1.2
      obtain ⟨l2, q2, m2⟩ := hcont 2 h1.2
      split
      · rename_i hc
        rw [Bool.and_eq_true] at hc
        have hc1 : 2048 ≤ _ := of_decide_eq_true hc.1
        refine ⟨_, _, rfl, by omega, ?_, hc.2, by omega, by omega, fun k hk hk2 => ?_⟩
        · have := hc.2
          unfold Utf8.valid at this
          simp only [Bool.or_eq_true, Bool.and_eq_true, decide_eq_true_eq] at this
          omega
        · rcases (by omega : k = 0 ∨ k = 1 ∨ k = 2) with rfl | rfl | rfl
          · exact hb
          · exact m1 hk2
          · exact m2 hk2
      · exact ⟨_, _, rfl, by decide, by decide, by decide, by omega, by omega, hone⟩
    · split
      · rename_i h1
        rw [Bool.and_eq_true, Bool.and_eq_true, Bool.and_eq_true] at h1
        obtain ⟨l1, q1, m1⟩ := hcont 1 h1.1.1.2
        obtain ⟨l2, q2, m2⟩ := hcont 2 h1.1.2
        obtain ⟨l3, q3, m3⟩ := hcont 3 h1.2
        split
        · rename_i hc
          rw [Bool.and_eq_true] at hc
          have hc1 : 65536 ≤ _ := of_decide_eq_true hc.1
          refine ⟨_, _, rfl, by omega, ?_, hc.2, by omega, by omega, fun k hk hk2 => ?_⟩
          · have := hc.2
            unfold Utf8.valid at this
            simp only [Bool.or_eq_true, Bool.and_eq_true, decide_eq_true_eq] at this
            omega
          · rcases (by omega : k = 0 ∨ k = 1 ∨ k = 2 ∨ k = 3) with rfl | rfl | rfl | rfl
            · exact hb
            · exact m1 hk2
            · exact m2 hk2
            · exact m3 hk2
        · exact ⟨_, _, rfl, by decide, by decide, by decide, by omega, by omega, hone⟩
      · exact ⟨_, _, rfl, by decide, by decide, by decide, by omega, by omega, hone⟩
/-- The bytes of a rune that is no ASCII: two to four, the last one no ASCII either. -/
theorem enc_hi (r : Int) (h : 128 ≤ r) : (∃ a b : UInt8, Utf8.encode r = ByteArray.mk #[a, b] ∧ 128 ≤ b.toNat) ∨ (∃ a b c : UInt8, Utf8.encode r = ByteArray.mk #[a, b, c] ∧ 128 ≤ c.toNat) ∨ (∃ a b c d : UInt8, Utf8.encode r = ByteArray.mk #[a, b, c, d] ∧ 128 ≤ d.toNat) := by
  have hb : ∀ n : Nat, 128 ≤ (UInt8.ofNat (0x80 + n % 64)).toNat := fun n => by simp; omega
  unfold Utf8.encode
  generalize hc : (if Utf8.valid r then r.toNat else Utf8.runeError) = c
  have hc2 : 128 ≤ c := by
    rw [← hc]
    split
    · omega
    · decide
  dsimp only
  rw [if_neg (by omega)]
  split
  · exact .inl ⟨_, _, rfl, hb _⟩
  · split
    · exact .inr (.inl ⟨_, _, _, rfl, hb _⟩)
    · exact .inr (.inr ⟨_, _, _, _, rfl, hb _⟩)
section
variable {P : Program}
theorem run_next_dec (w : World) (s : ByteArray) (pos : Nat) (ty : TypeId) (h : pos < s.size) (c n : Nat) (hd : Utf8.decode s pos = (c, n)) :
    (Instr.next (.pointer (some ⟨w.heap.size, 0, none⟩)) true ty).run P (w.iter s pos) = .ok (.tuple #[.bool true, .int .i64 pos, .int .i32 c]) (w.iter s (pos + n)) := by
  simp only [Instr.next, getObj, setObj, Sem.run_bind, Sem.run, World.iter_heap, Result.andThen, h, if_true, hd, World.iter_set]
  simp [goInt]
def setIter (W : World) (g : Nat) (s : ByteArray) (p : Nat) : World := { W with heap := W.heap.setIfInBounds g (.stringIter s p) }
theorem run_next_at (W : World) (g : Nat) (s : ByteArray) (pos : Nat) (ty : TypeId) (hg : W.heap[g]? = some (.stringIter s pos)) (h : pos < s.size) (c n : Nat) (hd : Utf8.decode s pos = (c, n)) :
    (Instr.next (.pointer (some ⟨g, 0, none⟩)) true ty).run P W = .ok (.tuple #[.bool true, .int .i64 pos, .int .i32 c]) (setIter W g s (pos + n)) := by
  simp only [Instr.next, getObj, setObj, Sem.run_bind, Sem.run, hg, Result.andThen, h, if_true, hd]
  simp [goInt, setIter]
theorem run_next_over (W : World) (g : Nat) (s : ByteArray) (pos : Nat) (ty : TypeId) (hg : W.heap[g]? = some (.stringIter s pos)) (h : ¬ pos < s.size) :
    (Instr.next (.pointer (some ⟨g, 0, none⟩)) true ty).run P W = .ok (.tuple #[.bool false]) W := by
  simp [Instr.next, getObj, Sem.run, hg, h]
theorem setIter_at {W : World} {g : Nat} {s : ByteArray} {p : Nat} {o : Obj} (hg : W.heap[g]? = some o) : (setIter W g s p).heap[g]? = some (.stringIter s p) := by
  have hlt : g < W.heap.size := by rw [Array.getElem?_eq_some_iff] at hg; exact hg.1
  simp [setIter, hlt]
theorem setIter_below {B : Nat} {w W : World} {g : Nat} {s : ByteArray} {p : Nat} (h : Below B w W) (hB : B ≤ g) : Below B w (setIter W g s p) :=
  ⟨h.os, h.tape, h.output, by simpa [setIter] using h.size, fun i hi => by
    rw [← h.block i hi]
    simp only [setIter]
    rw [Array.getElem?_setIfInBounds_ne (by omega)]⟩
theorem run_convert_rune (w : World) (src dst : TypeId) (r : Int) (hs : P.underlying src = some (.int .i32)) (hd : P.underlying dst = some .string) :
    (convert src dst (.int .i32 r)).run P w = .ok (.string (Utf8.encode r)) w := by
  simp [convert, run_underlying hs, run_underlying hd, Conv.intToString]
end
def chars3 : ByteArray := ByteArray.mk #[34, 13, 10]
theorem hi_none (x : UInt8) (h : 128 ≤ x.toNat) (l : List UInt8) (hl : ∀ y ∈ l, y.toNat < 128) : Lib.indexByte l x = -1 := by
  have : ∀ l : List UInt8, (∀ y ∈ l, y.toNat < 128) → Lib.indexByte l x = -1 := by
    intro l
    induction l with
    | nil => intro _; rfl
    | cons y l ih =>
      intro hl
      unfold Lib.indexByte
      have h1 := hl y (by simp)
      rw [if_neg (by intro e; have := beq_iff_eq.1 e; subst this; omega), ih (fun z hz => hl z (by simp [hz]))]
      rfl
  exact this l hl
set_option maxRecDepth 100000 in
set_option maxHeartbeats 1600000 in
theorem IndexRune_bad (w : World) : Calls Try.prog 87 #[.string (ByteArray.mk #[34, 13, 10]), .int .i32 65533] w fun e w' => e = .returned (.int .i64 (-1)) ∧ Below w.heap.size w w' := by
  have HB : Hid (∀ i, Below w.heap.size w (w.iter (ByteArray.mk #[34, 13, 10]) i)) := fun i => (Below.refl _ _).alloc (Nat.le_refl _) _
  go_enter Try.func87, Try.ntmps87
  go_wp2_with fail
  go_loopg [5, 6] 3 (fun g _ _ wx => ∃ i : Nat, i + g = 3 ∧ wx = w.iter (ByteArray.mk #[34, 13, 10]) i)
  case atStart => exact ⟨0, rfl, rfl⟩
  case round =>
    obtain ⟨i, hig, rfl⟩ := hrel
    cases gk with
    | zero =>
      obtain rfl : i = 3 := by omega
      have hnx := run_next_end (P := Try.prog) w (ByteArray.mk #[34, 13, 10]) 3 (h := by decide)
      go_wp2_with fail
      go_ret
      exact ⟨rfl, HB.out _⟩
    | succ g =>
      rcases (by omega : i = 0 ∨ i = 1 ∨ i = 2) with rfl | rfl | rfl
      · have hnx := fun ty => run_next_ascii (P := Try.prog) w (ByteArray.mk #[34, 13, 10]) 0 ty (by decide) (by decide)
        go_wp2_with fail
        go_roundg g
        case measure => omega
        case rel => exact ⟨1, by omega, rfl⟩
      · have hnx := fun ty => run_next_ascii (P := Try.prog) w (ByteArray.mk #[34, 13, 10]) 1 ty (by decide) (by decide)
        go_wp2_with fail
        go_roundg g
        case measure => omega
        case rel => exact ⟨2, by omega, rfl⟩
      · have hnx := fun ty => run_next_ascii (P := Try.prog) w (ByteArray.mk #[34, 13, 10]) 2 ty (by decide) (by decide)
        go_wp2_with fail
        go_roundg g
        case measure => omega
        case rel => exact ⟨3, by omega, rfl⟩
theorem valid_lib (r : Int) (h : Utf8.valid r = true) : Lib.validRune r = true := by
  unfold Utf8.valid at h
  unfold Lib.validRune
  simp only [Bool.or_eq_true, Bool.and_eq_true, decide_eq_true_eq] at h ⊢
  omega
set_option maxRecDepth 100000 in
set_option maxHeartbeats 3200000 in
theorem IndexRune_hi (r : Int) (w : World) (h : 128 ≤ r) (h2 : r ≤ 1114111) (hv : Utf8.valid r = true) : Calls Try.prog 87 #[.string (ByteArray.mk #[34, 13, 10]), .int .i32 r] w fun e w' => e = .returned (.int .i64 (-1)) ∧ Below w.heap.size w w' := by
  by_cases hE : r = 65533
  · subst hE; exact IndexRune_bad w
  · have q1 : (r == 65533) = false := beq_eq_false_iff_ne.2 hE
    have q2 : decide (r < 128) = false := decide_eq_false (by omega)
    have q3 : decide ((0 : Int) ≤ r) = true := decide_eq_true (by omega)
    have HVR : Hid (∀ W, Calls Try.prog 116 #[.int .i32 r] W fun e w' => e = .returned (.bool true) ∧ w' = W) := fun W => by
      have := Try.utf8_ValidRune r W
      rw [valid_lib r hv] at this
      exact this
    have HB : Hid (∀ W n, Below W.heap.size W (W.drewN n)) := fun W n => below_drewN (Below.refl _ _) n
    have hcv := fun W => run_convert_rune (P := Try.prog) W 21 9 r Try.underlying21 Try.underlying9
    rcases enc_hi r h with ⟨a, b, he, hb⟩ | ⟨a, b, c, he, hb⟩ | ⟨a, b, c, d, he, hb⟩
    · rw [he] at hcv
      have w2 : IntKind.i64.wrap 2 = 2 := by decide
      have w3 : IntKind.i64.wrap 3 = 3 := by decide
      have ne1 : ((13 : Int) != (b.toNat : Int)) = true := bne_iff_ne.2 (by omega)
      have hi1 : Lib.indexByte [10] b = -1 := hi_none b hb _ (by decide)
      have ex1 : (ByteArray.mk #[34, 13, 10]).extract 2 3 = ByteArray.mk #[10] := by rfl
      have gb1 : (ByteArray.mk #[a, b])[1]'(by show 1 < 2; decide) = b := by rfl
      have gb2 : (ByteArray.mk #[34, 13, 10])[1]'(by decide) = 13 := by rfl
      have HI : Hid (∀ W, Calls Try.prog 64 #[.string (ByteArray.mk #[10]), .int .u8 b.toNat] W fun e w' => e = .returned (.int .i64 (-1)) ∧ w' = W) := fun W => by
        have := IndexByte_any (ByteArray.mk #[10]) b W
        rw [show Lib.indexByte (ByteArray.mk #[10]).data.toList b = -1 from hi1] at this
        exact this
      clear h h2 hv he hi1 hb hE
      go_enter Try.func87, Try.ntmps87
      go_wp2_with (go_at_call 116; refine (HVR.out _).mono ?_; rintro e w' ⟨rfl, rfl⟩)
      go_step3
      go_wp2_with fail
      go_loopw [9] (fun s9 wr => s9 = .int .i64 1 ∧ wr = w') (fun _ _ => 0)
      case atStart => exact ⟨rfl, rfl⟩
      case round =>
        obtain ⟨rfl, rfl⟩ := hrel
        go_wp2_with fail
        try go_step3
        go_wp2_with fail
        go_quiet (fail)
        have HBQ := Lib.hid (HB.out wr nq)
        obtain ⟨wq, hwq⟩ : ∃ wq, wr.drewN nq = wq := ⟨_, rfl⟩
        rw [hwq] at HBQ ⊢
        clear hwq
        go_wp2_with fail
        go_quiet ((go_at_call 64; exact Calls.quiet_of_same (HI.out _)))
        go_wp2_with fail
        simp (config := { zetaDelta := true }) only [Exit.noGoto_ret, Exit.inBlock, Exit.then]
        go_ret
        exact ⟨rfl, below_drewN HBQ.out nq⟩
    · rw [he] at hcv
      have w2 : IntKind.i64.wrap 2 = 2 := by decide
      have w3 : IntKind.i64.wrap 3 = 3 := by decide
      have ne1 : ((10 : Int) != (c.toNat : Int)) = true := bne_iff_ne.2 (by omega)
      have hi1 : Lib.indexByte [] c = -1 := hi_none c hb _ (by decide)
      have ex1 : (ByteArray.mk #[34, 13, 10]).extract 3 3 = ByteArray.mk #[] := by rfl
      have gb1 : (ByteArray.mk #[a, b, c])[2]'(by show 2 < 3; decide) = c := by rfl
      have gb2 : (ByteArray.mk #[34, 13, 10])[2]'(by decide) = 10 := by rfl
      have HI : Hid (∀ W, Calls Try.prog 64 #[.string (ByteArray.mk #[]), .int .u8 c.toNat] W fun e w' => e = .returned (.int .i64 (-1)) ∧ w' = W) := fun W => by
        have := IndexByte_any (ByteArray.mk #[]) c W
        rw [show Lib.indexByte (ByteArray.mk #[]).data.toList c = -1 from hi1] at this
        exact this
      clear h h2 hv he hi1 hb hE
      go_enter Try.func87, Try.ntmps87
      go_wp2_with (go_at_call 116; refine (HVR.out _).mono ?_; rintro e w' ⟨rfl, rfl⟩)
      go_step3
      go_wp2_with fail
      go_loopw [9] (fun s9 wr => s9 = .int .i64 2 ∧ wr = w') (fun _ _ => 0)
      case atStart => exact ⟨rfl, rfl⟩
      case round =>
        obtain ⟨rfl, rfl⟩ := hrel
        go_wp2_with fail
        try go_step3
        go_wp2_with fail
        go_quiet (fail)
        have HBQ := Lib.hid (HB.out wr nq)
        obtain ⟨wq, hwq⟩ : ∃ wq, wr.drewN nq = wq := ⟨_, rfl⟩
        rw [hwq] at HBQ ⊢
        clear hwq
        go_wp2_with fail
        go_quiet ((go_at_call 64; exact Calls.quiet_of_same (HI.out _)))
        go_wp2_with fail
        simp (config := { zetaDelta := true }) only [Exit.noGoto_ret, Exit.inBlock, Exit.then]
        go_ret
        exact ⟨rfl, below_drewN HBQ.out nq⟩
    · rw [he] at hcv
      clear h h2 hv he hb hE
      go_enter Try.func87, Try.ntmps87
      go_wp2_with (go_at_call 116; refine (HVR.out _).mono ?_; rintro e w' ⟨rfl, rfl⟩)
      go_step3
      go_wp2_with fail
      go_loopw [9] (fun s9 wr => s9 = .int .i64 3 ∧ wr = w') (fun _ _ => 0)
      case atStart => exact ⟨rfl, rfl⟩
      case round =>
        obtain ⟨rfl, rfl⟩ := hrel
        go_wp2_with fail
        simp (config := { zetaDelta := true }) only [Exit.noGoto_ret, Exit.inBlock]
        go_ret
        exact ⟨rfl, HB.out _ 0⟩
theorem chars3_hit (x : UInt8) : (Lib.indexByte [34, 13, 10] ((x.toNat : Int)).toNat.toUInt8 ≥ 0) = (specL.contains x = true) := by
  have e : ((x.toNat : Int)).toNat.toUInt8 = x := by simp
  rw [e, propext_iff]
  have := Lib.contains_iff_indexByte specL x
  unfold specL at this ⊢
  rw [this, decide_eq_true_iff]
theorem noAny_jump {s chars : List UInt8} {i n : Nat} (h : Lib.NoAny s chars i) (hx : ∀ k, k < n → ∀ b, s[i + k]? = some b → chars.contains b = false) : Lib.NoAny s chars (i + n) := fun j b hj hb => by
  rcases Nat.lt_or_ge j i with h1 | h1
  · exact h j b h1 hb
  · exact hx (j - i) (by omega) b (by rw [show i + (j - i) = j by omega]; exact hb)
theorem spec_hi (x : UInt8) (h : 128 ≤ x.toNat) : specL.contains x = false := by
  have := all_bytes (p := fun x => decide (x.toNat < 128) || !specL.contains x) (by decide +kernel) x
  simp only [Bool.or_eq_true, decide_eq_true_eq, Bool.not_eq_true'] at this
  rcases this with h1 | h1
  · omega
  · exact h1
set_option maxRecDepth 100000 in
set_option maxHeartbeats 3200000 in
theorem IndexAny3_short (s : ByteArray) (w : World) (h8 : s.size ≤ 8) :
    Calls Try.prog 65 #[.string s, .string (ByteArray.mk #[34, 13, 10])] w fun e w' => e = .returned (.int .i64 (Lib.indexAny s.data.toList specL)) ∧ Below w.heap.size w w' := by
  have d8 : decide ((8 : Int) < (s.size : Int)) = false := decide_eq_false (by omega)
  have HU : Hid (∀ W, Calls Try.prog 88 #[.int .i64 (s.size : Int)] W fun e w' => e = .returned (.bool false) ∧ w' = W) := fun W => by
    have := Try.strings_shouldUseASCIISet (s.size : Int) W
    rw [d8] at this
    exact this
  have hit0 := World.iter_heap w s 0
  have hb0 : Below w.heap.size w (w.iter s 0) := (Below.refl _ _).alloc (Nat.le_refl _) _
  have HI0 := Lib.hid hit0
  have HB0 := Lib.hid hb0
  clear hit0 hb0
  go_enter Try.func65, Try.ntmps65
  go_wp2_with (go_at_call 88; refine (HU.out _).mono ?_; rintro e w' ⟨rfl, hw⟩; rw [hw])
  go_loopg [9, 10] s.size (fun g _ _ wx => ∃ i : Nat, i ≤ s.size ∧ s.size - i ≤ g ∧ wx.heap[w.heap.size]? = some (.stringIter s i) ∧ Below w.heap.size w wx ∧ Lib.NoAny s.data.toList specL i)
  case atStart => exact ⟨0, Nat.zero_le _, Nat.le_refl _, HI0.out, HB0.out, Lib.NoAny.zero _ _⟩
  case round =>
    obtain ⟨i, hi, hig, hit, hb, hno⟩ := hrel
    have HN := Lib.hid hno
    clear hno
    by_cases hlt : i < s.size
    · obtain ⟨g, rfl⟩ : ∃ g, gk = g + 1 := ⟨gk - 1, by omega⟩
      obtain ⟨x, hx⟩ : ∃ x : UInt8, s[i]'hlt = x := ⟨_, rfl⟩
      have hxl : s.data.toList[i]? = some x := by rw [← hx]; exact Lib.data_getElem? s i hlt
      by_cases h128 : x.toNat < 128
      · have hd := decode_ascii s i hlt (by rw [hx]; exact h128)
        rw [hx] at hd
        have hnx := fun ty => run_next_at (P := Try.prog) wr w.heap.size s i ty hit hlt _ _ hd
        have hit2 := setIter_at (s := s) (p := i + 1) hit
        have hb2 := setIter_below (s := s) (p := i + 1) hb (Nat.le_refl _)
        have HX := Lib.hid hxl
        have HIT := Lib.hid hit2
        have HBB := Lib.hid hb2
        have hr := fun W => Try.strings_IndexRune_ascii (ByteArray.mk #[34, 13, 10]) (x.toNat : Int) W (by omega) (by omega)
        have hq := chars3_hit x
        have eL : (ByteArray.mk #[34, 13, 10]).data.toList = [34, 13, 10] := rfl
        rw [eL] at hr
        generalize Lib.indexByte [34, 13, 10] ((x.toNat : Int)).toNat.toUInt8 = J at *
        have HRR := Lib.hid hr
        clear hd hit hb hit2 hb2 hxl hx hr eL
        by_cases hc : specL.contains x = true
        · have hJ : (0 : Int) ≤ J := by rw [hc] at hq; simpa using hq
          have HC := Lib.hid hc
          clear hq hc
          go_wp2_with (go_at_call 87; refine (HRR.out _).mono ?_; rintro e w9 ⟨rfl, hw⟩; rw [hw])
          go_ret
          exact ⟨by rw [Lib.indexAny_hit HN.out HX.out HC.out]; rfl, HBB.out⟩
        · have hc2 : specL.contains x = false := by simpa using hc
          have hJ : J < 0 := by
            rcases Int.lt_or_le J 0 with h | h
            · exact h
            · exfalso; apply hc; rw [← hq]; exact h
          have HC := Lib.hid hc2
          clear hq hc hc2
          go_wp2_with (go_at_call 87; refine (HRR.out _).mono ?_; rintro e w9 ⟨rfl, hw⟩; rw [hw])
          go_roundg g
          case measure => omega
          case rel => exact ⟨i + 1, by omega, by omega, HIT.out, HBB.out, HN.out.succ HX.out HC.out⟩
      · obtain ⟨c, n, hd, hc1, hc2, hv, hn1, hn2, hall⟩ := dec_hi s i hlt (by rw [hx]; omega)
        have hnx := fun ty => run_next_at (P := Try.prog) wr w.heap.size s i ty hit hlt _ _ hd
        have hit2 := setIter_at (s := s) (p := i + n) hit
        have hb2 := setIter_below (s := s) (p := i + n) hb (Nat.le_refl _)
        have hno2 : Lib.NoAny s.data.toList specL (i + n) := noAny_jump HN.out fun k hk b hbk => by
          have hlk : i + k < s.size := by omega
          rw [Lib.data_getElem? s (i + k) hlk] at hbk
          rw [← Option.some.inj hbk]
          exact spec_hi _ (hall k hk hlk)
        have HIT := Lib.hid hit2
        have HBB := Lib.hid hb2
        have HNN := Lib.hid hno2
        have hz := hb2.size
        have hit3 : w.heap.size < (setIter wr w.heap.size s (i + n)).heap.size := by
          rw [Array.getElem?_eq_some_iff] at hit2
          exact hit2.1
        have HRR := Lib.hid (IndexRune_hi (c : Int) (setIter wr w.heap.size s (i + n)) (by omega) (by omega) hv)
        clear hd hit hb hit2 hb2 hno2 hall hv hx hxl hc1 hc2
        go_wp2_with (go_at_call 87; refine HRR.out.mono ?_; rintro e w9 ⟨rfl, hb9⟩)
        go_roundg g
        case measure => omega
        case rel => exact ⟨i + n, hn2, by omega, (hb9.block _ hit3).trans HIT.out, HBB.out.trans (hb9.mono hz), HNN.out⟩
    · obtain rfl : i = s.size := by omega
      have hnx := fun ty => run_next_over (P := Try.prog) wr w.heap.size s s.size ty hit hlt
      have HBB := Lib.hid hb
      clear hb
      go_wp2_with fail
      go_ret
      exact ⟨by rw [Lib.indexAny_none (by rw [← Lib.size_eq]; exact HN.out)]; rfl, HBB.out⟩
theorem infoSet : (Try.prog.info? 136).map (fun i => (i.zero, i.size)) = some (some (.agg (Array.replicate 256 (.bool false))), 256) := by kernel_rfl
theorem zeroSet : ∀ w, (zeroValue 136).run Try.prog w = .ok (.agg (Array.replicate 256 (.bool false))) w := (zero_of_info infoSet).1
set_option maxRecDepth 100000 in
set_option maxHeartbeats 1600000 in
theorem ContainsAny3_any (s : ByteArray) (w : World) (hs : s.size < 4294967281) :
    Calls Try.prog 38 #[.string s, .string (ByteArray.mk #[34, 13, 10])] w fun e w' => e = .returned (.bool (Lib.containsAny s.data.toList specL)) ∧ Below w.heap.size w w' := by
  have hI : Calls Try.prog 65 #[.string s, .string (ByteArray.mk #[34, 13, 10])] w fun e w' => e = .returned (.int .i64 (Lib.indexAny s.data.toList specL)) ∧ Below w.heap.size w w' := by
    rcases Nat.lt_or_ge 8 s.size with h | h
    · refine (Try.strings_IndexAny_long zeroSet s (ByteArray.mk #[34, 13, 10]) w (by decide) h hs (by decide) (fun j b hb => ?_)).mono fun e w' ⟨h1, h2⟩ => ⟨h1, ?_⟩
      · have : b ∈ ([34, 13, 10] : List UInt8) := List.mem_of_getElem? hb
        simp only [List.mem_cons, List.not_mem_nil, or_false] at this
        rcases this with rfl | rfl | rfl <;> decide
      · rw [h2]
        exact ((Below.refl _ _).alloc (Nat.le_refl _) _).alloc (by simp) _
    · exact IndexAny3_short s w h
  have HI := Lib.hid hI
  unfold Lib.containsAny
  clear hI
  go_enter Try.func38, Try.ntmps38
  go_wp2_with fail
  refine HI.out.mono ?_
  rintro e w' ⟨rfl, hb⟩
  go_wp2_with fail
  go_ret
  exact ⟨rfl, hb⟩
end Go.Proofs.Ytchoenfclfafiaa
