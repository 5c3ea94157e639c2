/- Part 9 of the proof: lemmas and walks that the last texts use. -/
import Derived.Test.YtdkbfljhfhjofaaGreatDoorM03
import Derived.Test.YtdkbfljhfhjofaaGreatDoorM04
import Derived.Test.YtdkbfljhfhjofaaGreatDoorM07
import Derived.Test.YtdkbfljhfhjofaaGreatDoorM08
import Derived.Shelf.GgClosure.Gives
namespace Go.Proofs.YtdkbfljhfhjofaaGreatDoor
open Go.RowKit
theorem run_arr {t : TypeId} {n : Nat} (ht : Tryz.prog.underlying t = some (.array n 9)) (vs : Array Value) (x : ByteArray) (k : Nat) (hk : k < n) (hv : vs[k]? = some (.string x)) (w : World) :
    (Instr.index t (.agg vs) (.int .i64 (k : Int))).run Tryz.prog w = .ok (.string x) w := by
  obtain ⟨i0, hi, hz0, hz1, hz2⟩ := info_parts info_str
  have hs : (Go.sizeOf 9).run Tryz.prog w = .ok 1 w := by simp [Go.sizeOf, typeInfo, hi, hz1]
  unfold Instr.index
  simp [run_underlying ht, asIntOf, go_sem, hk, hs, hv]
def varV : Array Value := #[.string (ByteArray.mk #[]), .string (ByteArray.mk #[109, 101, 116, 104, 111, 100]), .string (ByteArray.mk #[116, 97, 114, 103, 101, 116]), .string (ByteArray.mk #[112, 97, 116, 104]), .string (ByteArray.mk #[113, 117, 101, 114, 121]), .string (ByteArray.mk #[98, 111, 100, 121]), .string (ByteArray.mk #[97, 114, 103, 115]), .string (ByteArray.mk #[97, 114, 103, 110, 97, 109, 101, 115]), .string (ByteArray.mk #[102, 105, 101, 108, 100, 115]), .string (ByteArray.mk #[102, 105, 101, 108, 100, 110, 97, 109, 101, 115]), .string (ByteArray.mk #[99, 111, 111, 107, 105, 101, 115]), .string (ByteArray.mk #[99, 108, 105, 101, 110, 116]), .string (ByteArray.mk #[115, 99, 111, 114, 101])]
theorem varV_at (k : Nat) (h : k < 13) : varV[k]? = some (.string (bs (wordAt varWs (k : Int)))) := by
  have key : ∀ k : Fin 13, varV[k.val]? = some (.string (bs (wordAt varWs (k.val : Int)))) := fun k => match k with
    | ⟨0, _⟩ => rfl
    | ⟨1, _⟩ => rfl
    | ⟨2, _⟩ => rfl
    | ⟨3, _⟩ => rfl
    | ⟨4, _⟩ => rfl
    | ⟨5, _⟩ => rfl
    | ⟨6, _⟩ => rfl
    | ⟨7, _⟩ => rfl
    | ⟨8, _⟩ => rfl
    | ⟨9, _⟩ => rfl
    | ⟨10, _⟩ => rfl
    | ⟨11, _⟩ => rfl
    | ⟨12, _⟩ => rfl
  exact key ⟨k, h⟩
set_option maxRecDepth 100000 in
theorem varWord_any (k : Int) (h1 : 0 ≤ k) (h2 : k < 13) (w : World) : Calls Tryz.prog 85 #[.int .i64 k] w fun e w' => e = .returned (.string (bs (wordAt varWs k))) ∧ w' = w := by
  obtain ⟨n, rfl⟩ := Int.eq_ofNat_of_zero_le h1
  have hr := fun W => run_arr Tryz.underlying145 varV _ n (by omega) (varV_at n (by omega)) W
  unfold varV at hr
  generalize wordAt varWs (n : Int) = wk at *
  go_enter Tryz.func85, Tryz.ntmps85
  go_wp2_with fail
  go_ret
  exact ⟨rfl, rfl⟩
def opV : Array Value := #[.string (ByteArray.mk #[]), .string (ByteArray.mk #[114, 120]), .string (ByteArray.mk #[112, 104, 114, 97, 115, 101]), .string (ByteArray.mk #[105, 115]), .string (ByteArray.mk #[104, 97, 115]), .string (ByteArray.mk #[98, 101, 103, 105, 110, 115]), .string (ByteArray.mk #[101, 110, 100, 115]), .string (ByteArray.mk #[103, 116]), .string (ByteArray.mk #[108, 116]), .string (ByteArray.mk #[101, 113]), .string (ByteArray.mk #[110, 101, 116]), .string (ByteArray.mk #[114, 97, 110, 103, 101]), .string (ByteArray.mk #[97, 110, 121])]
theorem opV_at (k : Nat) (h : k < 13) : opV[k]? = some (.string (bs (wordAt opWs (k : Int)))) := by
  have key : ∀ k : Fin 13, opV[k.val]? = some (.string (bs (wordAt opWs (k.val : Int)))) := fun k => match k with
    | ⟨0, _⟩ => rfl
    | ⟨1, _⟩ => rfl
    | ⟨2, _⟩ => rfl
    | ⟨3, _⟩ => rfl
    | ⟨4, _⟩ => rfl
    | ⟨5, _⟩ => rfl
    | ⟨6, _⟩ => rfl
    | ⟨7, _⟩ => rfl
    | ⟨8, _⟩ => rfl
    | ⟨9, _⟩ => rfl
    | ⟨10, _⟩ => rfl
    | ⟨11, _⟩ => rfl
    | ⟨12, _⟩ => rfl
  exact key ⟨k, h⟩
set_option maxRecDepth 100000 in
theorem opWord_any (k : Int) (h1 : 0 ≤ k) (h2 : k < 13) (w : World) : Calls Tryz.prog 42 #[.int .i64 k] w fun e w' => e = .returned (.string (bs (wordAt opWs k))) ∧ w' = w := by
  obtain ⟨n, rfl⟩ := Int.eq_ofNat_of_zero_le h1
  have hr := fun W => run_arr Tryz.underlying145 opV _ n (by omega) (opV_at n (by omega)) W
  unfold opV at hr
  generalize wordAt opWs (n : Int) = wk at *
  go_enter Tryz.func42, Tryz.ntmps42
  go_wp2_with fail
  go_ret
  exact ⟨rfl, rfl⟩
def actV : Array Value := #[.string (ByteArray.mk #[]), .string (ByteArray.mk #[112, 97, 115, 115]), .string (ByteArray.mk #[100, 101, 110, 121]), .string (ByteArray.mk #[115, 99, 111, 114, 101]), .string (ByteArray.mk #[115, 107, 105, 112]), .string (ByteArray.mk #[97, 108, 108, 111, 119])]
theorem actV_at (k : Nat) (h : k < 6) : actV[k]? = some (.string (bs (wordAt actWs (k : Int)))) := by
  have key : ∀ k : Fin 6, actV[k.val]? = some (.string (bs (wordAt actWs (k.val : Int)))) := fun k => match k with
    | ⟨0, _⟩ => rfl
    | ⟨1, _⟩ => rfl
    | ⟨2, _⟩ => rfl
    | ⟨3, _⟩ => rfl
    | ⟨4, _⟩ => rfl
    | ⟨5, _⟩ => rfl
  exact key ⟨k, h⟩
set_option maxRecDepth 100000 in
theorem actWord_any (k : Int) (h1 : 0 ≤ k) (h2 : k < 6) (w : World) : Calls Tryz.prog 87 #[.int .i64 k] w fun e w' => e = .returned (.string (bs (wordAt actWs k))) ∧ w' = w := by
  obtain ⟨n, rfl⟩ := Int.eq_ofNat_of_zero_le h1
  have hr := fun W => run_arr Tryz.underlying195 actV _ n (by omega) (actV_at n (by omega)) W
  unfold actV at hr
  generalize wordAt actWs (n : Int) = wk at *
  go_enter Tryz.func87, Tryz.ntmps87
  go_wp2_with fail
  go_ret
  exact ⟨rfl, rfl⟩
theorem numGo_range : ∀ (l : List UInt8) (v w : Int), 0 ≤ v → numGo 10 l v = some w → 0 ≤ w ∧ w < (v + 1) * 10 ^ l.length
  | [], v, w, hv, h => by
    unfold numGo at h
    have e : v = w := Option.some.inj h
    subst e
    rw [List.length_nil, Int.pow_zero]
    omega
  | b :: l, v, w, hv, h => by
    unfold numGo at h
    split at h
    · cases h
    · rename_i hd
      have := numGo_range l _ w (by omega) h
      refine ⟨this.1, ?_⟩
      rw [List.length_cons, Int.pow_succ']
      have hp : (0 : Int) < 10 ^ l.length := Int.pow_pos (by decide)
      have h2 : (v * 10 + digitI b + 1) * 10 ^ l.length ≤ ((v + 1) * 10) * 10 ^ l.length := Int.mul_le_mul_of_nonneg_right (by omega) (Int.le_of_lt hp)
      rw [← Int.mul_assoc]
      omega
theorem numL_range {l : List UInt8} {n : Int} (h : numL 10 9 l = some n) : 0 ≤ n ∧ n < 1000000000 := by
  unfold numL at h
  split at h
  · cases h
  · rename_i hl
    obtain ⟨h1, h2⟩ := numGo_range l 0 n (Int.le_refl _) h
    refine ⟨h1, ?_⟩
    have h3 : (10 : Nat) ^ l.length ≤ 10 ^ 9 := Nat.pow_le_pow_right (by decide) (by omega)
    have h4 : (10 : Int) ^ l.length = ((10 ^ l.length : Nat) : Int) := by simp
    rw [h4] at h2
    omega
set_option maxRecDepth 100000 in
set_option maxHeartbeats 800000 in
theorem rnumber_any (s : ByteArray) (w : World) (hs : s.size ≤ maxLen) :
    Calls Tryz.prog 25 #[.string s] w fun e w' => e = .returned (.int .i64 (numB 999999999 s.data.toList)) ∧ w' = w := by
  have hd := Dec_any s w hs
  cases hn : numL 10 9 s.data.toList with
  | none =>
    rw [hn] at hd
    have HR : Hid (numB 999999999 s.data.toList = -1) := by unfold Hid numB; rw [hn]
    have HD := Lib.hid hd
    clear hn hd
    go_enter Tryz.func25, Tryz.ntmps25
    go_wp2_with fail
    refine HD.out.mono ?_
    rintro e w1 ⟨rfl, rfl⟩
    dsimp only [numRes]
    go_wp2_with fail
    go_ret
    exact ⟨ret_int HR.out.symm, rfl⟩
  | some n =>
    have hr := numL_range hn
    rw [hn] at hd
    have hlen : s.data.toList.length = s.size := by simp
    have hpos : 0 < s.size := by
      unfold numL at hn
      split at hn
      · cases hn
      · omega
    have h0 : s.data.toList.head? = some s[0] := by
      have := drop_cons s 0 hpos
      rw [List.drop_zero] at this
      rw [this]; rfl
    have HR : Hid (numB 999999999 s.data.toList = if s[0].toNat = 48 ∧ 1 < s.size then -1 else n) := by
      unfold Hid numB
      rw [hn]
      dsimp only
      have : (s.data.toList.head? = some 48) ↔ s[0].toNat = 48 := by
        rw [h0]
        constructor
        · intro h; have := Option.some.inj h; rw [this]; rfl
        · intro h; congr 1; exact UInt8.toNat_inj.1 h
      have h9 : ¬ (999999999 < n) := by omega
      simp only [this, hlen, h9, false_or]
    have HD := Lib.hid hd
    clear hn hd h0 hlen hr
    by_cases c2 : s[0].toNat = 48
    · have d2 : ((s[0].toNat : Int) == 48) = true := by rw [c2]; rfl
      by_cases c3 : 1 < s.size
      · have d3 : decide ((1 : Int) < (s.size : Int)) = true := decide_eq_true (by omega)
        have HR2 : Hid (numB 999999999 s.data.toList = -1) := by unfold Hid; rw [HR.out, if_pos ⟨c2, c3⟩]
        clear HR c2 c3
        go_enter Tryz.func25, Tryz.ntmps25
        go_wp2_with fail
        refine HD.out.mono ?_
        rintro e w1 ⟨rfl, rfl⟩
        dsimp only [numRes]
        go_wp2_with fail
        go_ret
        exact ⟨ret_int HR2.out.symm, rfl⟩
      · have d3 : decide ((1 : Int) < (s.size : Int)) = false := decide_eq_false (by omega)
        have HR2 : Hid (numB 999999999 s.data.toList = n) := by unfold Hid; rw [HR.out, if_neg (fun h => c3 h.2)]
        clear HR c2 c3
        go_enter Tryz.func25, Tryz.ntmps25
        go_wp2_with fail
        refine HD.out.mono ?_
        rintro e w1 ⟨rfl, rfl⟩
        dsimp only [numRes]
        go_wp2_with fail
        go_ret
        exact ⟨ret_int HR2.out.symm, rfl⟩
    · have d2 : ((s[0].toNat : Int) == 48) = false := by rw [beq_eq_false_iff_ne]; omega
      have HR2 : Hid (numB 999999999 s.data.toList = n) := by unfold Hid; rw [HR.out, if_neg (fun h => c2 h.1)]
      clear HR c2
      go_enter Tryz.func25, Tryz.ntmps25
      go_wp2_with fail
      refine HD.out.mono ?_
      rintro e w1 ⟨rfl, rfl⟩
      dsimp only [numRes]
      go_wp2_with fail
      go_ret
      exact ⟨ret_int HR2.out.symm, rfl⟩
theorem place_hit (ws : List (List UInt8)) (n j : Nat) (x : List UInt8) (hj : j < n) (h1 : ws.getD (j + 1) [] = x) (h : ∀ i, i < j → ws.getD (i + 1) [] ≠ x) : placeL ws n x = (j : Int) + 1 := by
  have := hit_at (fun i => ws.getD (i + 1) [] == x) n j hj (beq_iff_eq.2 h1) (fun i hi => beq_eq_false_iff_ne.2 (h i hi))
  unfold hitI at this
  unfold placeL
  cases hf : (List.range n).find? (fun i => ws.getD (i + 1) [] == x) with
  | none => rw [hf] at this; dsimp only at this; omega
  | some k => rw [hf] at this; dsimp only at this ⊢; omega
theorem place_none (ws : List (List UInt8)) (n : Nat) (x : List UInt8) (h : ∀ i, i < n → ws.getD (i + 1) [] ≠ x) : placeL ws n x = 0 := by
  unfold placeL
  cases hf : (List.range n).find? (fun i => ws.getD (i + 1) [] == x) with
  | none => rfl
  | some k =>
    have h1 := List.mem_range.1 (List.mem_of_find?_eq_some hf)
    have h2 := List.find?_some hf
    exact absurd (beq_iff_eq.1 h2) (h k h1)
def PlcRel (ws : List (List UInt8)) (n : Nat) (x : List UInt8) (w : World) (v : Value) (wr : World) : Prop := ∃ j : Nat, j ≤ n ∧ v = .int .i64 ((j : Int) + 1) ∧ (∀ i, i < j → ws.getD (i + 1) [] ≠ x) ∧ wr = w
set_option maxRecDepth 100000 in
set_option maxHeartbeats 800000 in
theorem place_any (g : Nat) (eg : ∀ args w, (callFunc g args).run Tryz.prog w = .ok (.enter g args) w) (ws : List (List UInt8)) (n : Nat) (x : ByteArray) (w : World) (hn : n ≤ 100)
    (hp : ∀ W (k : Nat), 1 ≤ k → k ≤ n → Calls Tryz.prog g #[.int .i64 (k : Int)] W fun e w' => e = .returned (.string (bs (ws.getD k []))) ∧ w' = W) :
    Calls Tryz.prog 60 #[.string x, .int .i64 (n : Int), .func (.func g) #[] #[]] w fun e w' => e = .returned (.int .i64 (placeL ws n x.data.toList)) ∧ w' = w := by
  have HP := Lib.hid hp
  clear hp
  go_enter Tryz.func60, Tryz.ntmps60
  go_wp2_with fail
  go_loopw [7] (fun v wr => PlcRel ws n x.data.toList w v wr) (fun v _ => n + 1 - (intOf v).toNat)
  case atStart => exact ⟨0, Nat.zero_le _, rfl, fun i hi => absurd hi (by omega), rfl⟩
  case round =>
    obtain ⟨j, hj, rfl, hno, rfl⟩ := hrel
    have HNO := Lib.hid hno
    clear hno
    by_cases hlt : j < n
    · have d1 : decide ((j : Int) + 1 ≤ (n : Int)) = true := by simp; omega
      have hc := HP.out wr (j + 1) (by omega) (by omega)
      rw [show ((j + 1 : Nat) : Int) = (j : Int) + 1 by omega] at hc
      have HC := Lib.hid hc
      clear hc
      by_cases hx : ws.getD (j + 1) [] = x.data.toList
      · have HR := Lib.hid (place_hit ws n j _ hlt hx HNO.out)
        have q1 : (ws.getD (j + 1) [] == x.toList) = true := by rw [Lib.toList_data, hx]; exact beq_self_eq_true _
        clear hx HNO
        generalize ws.getD (j + 1) [] = y at *
        go_wp2_with (go_at_fn g; refine HC.out.mono ?_; rintro e w1 ⟨rfl, rfl⟩)
        go_ret
        exact ⟨ret_int HR.out.symm, rfl⟩
      · have HE : Hid (∀ i, i < j + 1 → ws.getD (i + 1) [] ≠ x.data.toList) := fun i hi => by
          by_cases e : i = j
          · rw [e]; exact hx
          · exact HNO.out i (by omega)
        have q1 : (ws.getD (j + 1) [] == x.toList) = false := by rw [Lib.toList_data]; exact beq_eq_false_iff_ne.2 hx
        clear hx HNO
        generalize hy : ws.getD (j + 1) [] = y at *
        clear hy
        go_wp2_with (go_at_fn g; refine HC.out.mono ?_; rintro e w1 ⟨rfl, rfl⟩)
        exact ⟨⟨j + 1, by omega, by simp, HE.out, rfl⟩, by simp [intOf] <;> omega⟩
    · have d1 : decide ((j : Int) + 1 ≤ (n : Int)) = false := by simp; omega
      have HR := Lib.hid (place_none ws n x.data.toList (fun i hi => HNO.out i (by omega)))
      go_wp2_with fail
      go_ret
      exact ⟨ret_int HR.out.symm, rfl⟩
end Go.Proofs.YtdkbfljhfhjofaaGreatDoor
namespace Go.Proofs.YtdkbfljhfhjofaaGreatDoor
open Go.RowKit
theorem srcI {wr : World} {B n : Nat} {A : Option Addr} {xs : List Value} {a0 : Nat → Value} (h : Sl wr B 1 A n xs) {j : Nat} (hj : j < n) (hx : ∀ j, j < n → xs[j]? = some (a0 j)) :
    ∃ b off, A = some ⟨b, off, none⟩ ∧ wr.cell? ⟨b, off + j, none⟩ = some (a0 j) := by
  have hl := h.len
  obtain ⟨b, off, e, _, hc⟩ := h.src (by omega)
  have hq := hx j hj
  have hat : ∀ i v, xs[i]? = some v → wr.cell? ⟨b, off + i, none⟩ = some v := fun i v hv => by
    have hi : i < xs.length := (List.getElem?_eq_some_iff.1 hv).1
    rw [hc i hi, ← hv, List.getElem?_eq_getElem hi]
  exact ⟨b, off, e, hat _ _ hq⟩
set_option maxRecDepth 100000 in
set_option maxHeartbeats 800000 in
theorem IdxFI_any (g : Nat) (lb : Array Value) (eg : ∀ args w, (callFunc g args).run Tryz.prog w = .ok (.enter g args) w) (A : Option Addr) (n c : Nat) (xs : List Value) (a0 : Nat → Value) (p : Nat → Bool) (w : World)
    (h : Sl w w.heap.size 1 A n xs) (hbig : n ≤ 9223372036854775807) (hx : ∀ j, j < n → xs[j]? = some (a0 j))
    (hp : ∀ W j, j < n → Below w.heap.size w W → Calls Tryz.prog g (#[a0 j] ++ lb) W (BoolPost (p j) W)) :
    Calls Tryz.prog 112 #[.slice A n c, .func (.func g) #[] lb] w fun e w' => e = .returned (.int .i64 (hitI p n)) ∧ Below w.heap.size w w' := by
  have HP := Lib.hid hp
  have HX := Lib.hid hx
  clear hp hx
  go_enter Tryz.func112, Tryz.ntmps112
  go_wp2_with fail
  go_loopw [5, 8] (fun _ i wr => ∃ j : Nat, j ≤ n ∧ i = .int .i64 j ∧ Below w.heap.size w wr ∧ Hid (∀ i, i < j → p i = false)) (fun _ i _ => n - (intOf i).toNat)
  case atStart => exact ⟨0, Nat.zero_le _, rfl, Below.refl _ _, fun i hi => absurd hi (by omega)⟩
  case round =>
    obtain ⟨j, hj, rfl, hb, hno⟩ := hrel
    by_cases hlt : j < n
    · obtain ⟨b, off, rfl, hc0⟩ := srcI (h.below hb) hlt HX.out
      have hc := HP.out wr j hlt hb
      cases hq : p j with
      | true =>
        rw [hq] at hc
        have HIT := Lib.hid (hit_at p n j hlt hq hno)
        clear hq
        go_wp2_with (go_at_fn g; refine hc.mono ?_; rintro e w' ⟨rfl, hb1⟩)
        go_ret
        exact ⟨ret_int HIT.out.symm, hb.trans (hb1.mono hb.size)⟩
      | false =>
        rw [hq] at hc
        have hno2 : Hid (∀ i, i < j + 1 → p i = false) := fun i hi => by
          by_cases e : i = j
          · rw [e]; exact hq
          · exact hno i (by omega)
        clear hq hno
        go_wp2_with (go_at_fn g; refine hc.mono ?_; rintro e w' ⟨rfl, hb1⟩)
        go_roundw
        case rel => exact ⟨j + 1, by omega, by go_num, hb.trans (hb1.mono hb.size), hno2⟩
        case measure => simp [intOf] <;> omega
    · obtain rfl : j = n := by omega
      have HIT := Lib.hid (hit_none p j hno)
      go_wp2_with fail
      go_ret
      exact ⟨ret_int HIT.out.symm, hb⟩
set_option maxRecDepth 100000 in
theorem ContFI_any (g : Nat) (lb : Array Value) (eg : ∀ args w, (callFunc g args).run Tryz.prog w = .ok (.enter g args) w) (A : Option Addr) (n c : Nat) (xs : List Value) (a0 : Nat → Value) (p : Nat → Bool) (w : World)
    (h : Sl w w.heap.size 1 A n xs) (hbig : n ≤ 9223372036854775807) (hx : ∀ j, j < n → xs[j]? = some (a0 j))
    (hp : ∀ W j, j < n → Below w.heap.size w W → Calls Tryz.prog g (#[a0 j] ++ lb) W (BoolPost (p j) W)) :
    Calls Tryz.prog 68 #[.slice A n c, .func (.func g) #[] lb] w (BoolPost (anyN p n) w) := by
  have HC := Lib.hid (IdxFI_any g lb eg A n c xs a0 p w h hbig hx hp)
  have HA := Lib.hid (hit_any p n)
  clear hp hx h
  go_enter Tryz.func68, Tryz.ntmps68
  go_wp2_with fail
  refine HC.out.mono ?_
  rintro e w1 ⟨rfl, hb⟩
  go_wp2_with fail
  go_ret
  exact ⟨ret_bool HA.out, hb⟩
end Go.Proofs.YtdkbfljhfhjofaaGreatDoor
namespace Go.Proofs.YtdkbfljhfhjofaaGreatDoor
open Go.RowKit
def OwnK (w : World) (base : Nat) (v : Value) (l : List Int) : Prop := w.ownsRow base 3 1 v l.length (l.map (Value.int .i64))
theorem OwnK.nil (w : World) (base : Nat) : OwnK w base (.slice none 0 0) [] := World.ownsRow_nil w base 3 1
theorem OwnK.below {w w' : World} {base : Nat} {v : Value} {l : List Int} (h : OwnK w base v l) (hb : Below w.heap.size w w') : OwnK w' base v l := ownsRow_below h hb
theorem OwnK.low {w : World} {base b : Nat} {v : Value} {l : List Int} (h : OwnK w base v l) (hb : b ≤ base) : OwnK w b v l :=
  ⟨h.1, h.2.imp_right fun ⟨g, cap, cur, h1, h2, h3⟩ => ⟨g, cap, cur, h1, Nat.le_trans hb h2, h3⟩⟩
theorem OwnK.form {w : World} {base : Nat} {v : Value} {l : List Int} (h : OwnK w base v l) : ∃ A c, v = .slice A l.length c ∧ l.length ≤ c ∧ Sl w w.heap.size 1 A l.length (l.map (Value.int .i64)) := by
  rcases h.2 with ⟨h1, h2⟩ | ⟨g, cap, cur, h1, hb, hg, hcap, _⟩
  · have : l = [] := List.eq_nil_of_length_eq_zero h2
    subst this
    exact ⟨none, 0, h1, Nat.le_refl _, Sl.nil _ _ _ _⟩
  · refine ⟨_, _, h1, hcap, by simp, fun hp => ⟨g, 0, rfl, ?_, fun j hj => ?_⟩⟩
    · exact ((World.ownsRow.lt h g (by rw [h1]; simp [Value.ownBlock])).2)
    · have := World.ownsRow.cells (g := g) h (by rw [h1]; simp [Value.ownBlock]) j _ (List.getElem?_eq_getElem hj)
      rw [addr_add] at this
      rw [Nat.zero_add]
      exact this
theorem info_intK : (Tryz.prog.info? 3).map (fun i => (i.zero, i.size, i.bytes)) = some (some (.int .i64 0), 1, 8) := by kernel_rfl
section
variable {ops : Array Oper} {rest : List Oper} {o : Oper} {a : Act} {Q : Exit → Act → World → Prop} {w : World}
theorem wpList_append_k (hgd : o.guard = none) (s x : Operand) (ho : o.op = .call { callee := .builtin .append, args := #[s, x], argTypes := #[36, 36] })
    (base : Nat) (v : Value) (l : List Int) (hs : a.eval s = v) (hown : OwnK w base v l) (hbase : base ≤ w.heap.size)
    (vs : List Value) (new : Int) (hv : vs = [Value.int .i64 new]) (g0 : Nat) (hg0 : w.heap.size = g0) (c : Nat) (hx : a.eval x = .slice (some ⟨g0, 0, none⟩) 1 c)
    (hbytes : l.length ≤ 1048576)
    (h : ∀ v' w', OwnK w' base v' (l ++ [new]) → Below base w w' → w.heap.size < w'.heap.size → wpList Tryz.prog ops Q rest (a.put o.dst v') w') :
    wpList Tryz.prog ops Q (o :: rest) a (w.alloc (.cells vs.toArray 3)) := by
  subst hv; subst hg0
  obtain ⟨i0, hi, hz0, hz1, hz2⟩ := info_parts info_intK
  exact wpList_plain hgd fun _ hK => wp_append_kept s x 36 ho base 3 i0 (.int .i64 0) 1 8 Tryz.underlying36 hi hz0 hz1 hz2 rfl (by decide) v l.length (l.map (Value.int .i64)) hs hown hbase [Value.int .i64 new] 1 c hx rfl
    (fun u hu => by rw [List.mem_singleton.1 hu]; rfl) (by unfold maxLen; omega) (by omega) fun v' w' h1 h2 _ h4 => hK _ _ (h v' w' (by unfold OwnK; rw [List.length_append, List.map_append]; exact h1) h2 h4)
end
def wordsV : Array Value := #[.string (ByteArray.mk #[]), .string (ByteArray.mk #[108, 111, 119, 101, 114]), .string (ByteArray.mk #[117, 114, 108]), .string (ByteArray.mk #[104, 101, 120]), .string (ByteArray.mk #[98, 97, 115, 101]), .string (ByteArray.mk #[104, 116, 109, 108]), .string (ByteArray.mk #[112, 97, 116, 104]), .string (ByteArray.mk #[115, 113, 117, 101, 101, 122, 101]), .string (ByteArray.mk #[110, 111, 110, 117, 108, 108]), .string (ByteArray.mk #[116, 114, 105, 109]), .string (ByteArray.mk #[108, 101, 110, 103, 116, 104]), .string (ByteArray.mk #[99, 109, 100])]
theorem words_at (n : Nat) (h : n ≤ 11) : wordsV[n * 1]? = some (.string (bs (wordI (n : Int)))) := by
  have hn : n = 0 ∨ n = 1 ∨ n = 2 ∨ n = 3 ∨ n = 4 ∨ n = 5 ∨ n = 6 ∨ n = 7 ∨ n = 8 ∨ n = 9 ∨ n = 10 ∨ n = 11 := by omega
  rcases hn with rfl | rfl | rfl | rfl | rfl | rfl | rfl | rfl | rfl | rfl | rfl | rfl <;> rfl
theorem run_word (k : Int) (h1 : 0 ≤ k) (h2 : k ≤ 11) (w : World) : (Instr.index 194 (.agg wordsV) (.int .i64 k)).run Tryz.prog w = .ok (.string (bs (wordI k))) w := by
  obtain ⟨n, rfl⟩ := Int.eq_ofNat_of_zero_le h1
  obtain ⟨i0, hi, hz0, hz1, hz2⟩ := info_parts info_str
  have hw : wordsV[n]? = some (.string (bs (wordI (n : Int)))) := by
    have := words_at n (by omega)
    rwa [Nat.mul_one] at this
  have hs : (Go.sizeOf 9).run Tryz.prog w = .ok 1 w := by simp [Go.sizeOf, typeInfo, hi, hz1]
  have c : n < 12 := by omega
  unfold Instr.index
  simp [run_underlying Tryz.underlying194, asIntOf, go_sem, c, hs, hw]
set_option maxRecDepth 100000 in
theorem word_any (k : Int) (h1 : 0 ≤ k) (h2 : k ≤ 11) (w : World) : Calls Tryz.prog 83 #[.int .i64 k] w fun e w' => e = .returned (.string (bs (wordI k))) ∧ w' = w := by
  have hr := fun W => run_word k h1 h2 W
  unfold wordsV at hr
  generalize wordI k = wk at *
  go_enter Tryz.func83, Tryz.ntmps83
  go_wp2_with fail
  go_ret
  exact ⟨rfl, rfl⟩
set_option maxRecDepth 100000 in
theorem check1_any (k : Int) (w : World) : Calls Tryz.prog 69 #[.int .i64 k] w (BoolPost (!okK k) w) := by
  have HO : Hid ((!okK k) = (decide (k < 1) || decide (11 < k))) := by unfold Hid okK; rw [Bool.not_not]
  by_cases c1 : k < 1
  · have d1 : decide (k < 1) = true := decide_eq_true c1
    rw [d1] at HO
    go_enter Tryz.func69, Tryz.ntmps69
    go_wp2_with fail
    go_ret
    exact ⟨by rw [HO.out]; rfl, Below.refl _ _⟩
  · have d1 : decide (k < 1) = false := decide_eq_false c1
    rw [d1] at HO
    by_cases c2 : 11 < k
    · have d2 : decide (11 < k) = true := decide_eq_true c2
      rw [d2] at HO
      go_enter Tryz.func69, Tryz.ntmps69
      go_wp2_with fail
      go_ret
      exact ⟨by rw [HO.out]; rfl, Below.refl _ _⟩
    · have d2 : decide (11 < k) = false := decide_eq_false c2
      rw [d2] at HO
      go_enter Tryz.func69, Tryz.ntmps69
      go_wp2_with fail
      go_ret
      exact ⟨by rw [HO.out]; rfl, Below.refl _ _⟩
set_option maxRecDepth 100000 in
theorem PCheckP_any (l : List Int) (A : Option Addr) (c : Nat) (w : World) (h : Sl w w.heap.size 1 A l.length (l.map (Value.int .i64))) (hl : l.length ≤ 4194304) :
    Calls Tryz.prog 34 #[.slice A l.length c] w fun e w' => e = .returned (.int .i64 (checkP l)) ∧ Below w.heap.size w w' := by
  have HC := Lib.hid ((ContFI_any 69 #[] (enters_of Tryz.func69 (by kernel_rfl) rfl) A l.length c (l.map (Value.int .i64)) (fun j => .int .i64 (l.getD j 0)) (fun j => !okK (l.getD j 0)) w h (by omega)
    (fun j hj => by rw [List.getElem?_map, List.getD_eq_getElem?_getD, List.getElem?_eq_getElem hj]; rfl) (fun W j _ _ => check1_any _ W)))
  rw [anyN_list (fun k => !okK k) l 0] at HC
  by_cases h8 : 8 < l.length
  · have HK : Hid (checkP l = 2) := by unfold Hid checkP; rw [if_pos h8]
    have d1 : decide (8 < (l.length : Int)) = true := by simp; omega
    rw [HK.out]
    go_enter Tryz.func34, Tryz.ntmps34
    go_wp2_with fail
    go_ret
    exact ⟨rfl, Below.refl _ _⟩
  · have d1 : decide (8 < (l.length : Int)) = false := by simp; omega
    have HK : Hid (checkP l = if l.any (fun k => !okK k) = true then 1 else 0) := by
      unfold Hid checkP
      rw [if_neg h8]
      cases hq : l.any (fun k => !okK k) with
      | true =>
        rw [if_neg, if_pos rfl]
        intro e
        obtain ⟨x, hx, hx2⟩ := List.any_eq_true.1 hq
        rw [List.all_eq_true.1 e x hx] at hx2
        cases hx2
      | false =>
        rw [if_pos, if_neg (by decide)]
        rw [List.all_eq_true]
        intro x hx
        have := List.any_eq_false.1 hq x hx
        simpa using this
    rw [HK.out]
    clear HK
    generalize l.any (fun k => !okK k) = bq at *
    cases bq with
    | true =>
      rw [if_pos rfl]
      go_enter Tryz.func34, Tryz.ntmps34
      go_wp2_with fail
      refine HC.out.mono ?_
      rintro e w1 ⟨rfl, hb⟩
      go_wp2_with fail
      go_ret
      exact ⟨rfl, hb⟩
    | false =>
      rw [if_neg (by decide)]
      go_enter Tryz.func34, Tryz.ntmps34
      go_wp2_with fail
      refine HC.out.mono ?_
      rintro e w1 ⟨rfl, hb⟩
      go_wp2_with fail
      go_ret
      exact ⟨rfl, hb⟩
end Go.Proofs.YtdkbfljhfhjofaaGreatDoor
