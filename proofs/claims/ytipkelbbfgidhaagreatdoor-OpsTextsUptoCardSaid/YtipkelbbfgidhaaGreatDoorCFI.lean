/- slices.IndexFunc and slices.ContainsFunc at []int, for whatever function value that answers a test and turns nothing that was there. -/
import Derived.Test.YtipkelbbfgidhaaGreatDoorHit
import Derived.Shelf.GgClosure.Gives
namespace Go.Proofs.YtipkelbbfgidhaaGreatDoor
open Go.RowKit

theorem srcI {wr : World} {B n : Nat} {A : Option Addr} {xs : List Value} {a0 : Nat → Value} (h : Sl wr B 1 A n xs) {j : Nat} (hj : j < n) (hx : ∀ j, j < n → xs[j]? = some (a0 j)) :
    ∃ b off, A = some ⟨b, off, none⟩ ∧ wr.cell? ⟨b, off + j, none⟩ = some (a0 j) := by
  have hl := h.len
  obtain ⟨b, off, e, _, hc⟩ := h.src (by omega)
  have hq := hx j hj
  have hat : ∀ i v, xs[i]? = some v → wr.cell? ⟨b, off + i, none⟩ = some v := fun i v hv => by
    have hi : i < xs.length := (List.getElem?_eq_some_iff.1 hv).1
    rw [hc i hi, ← hv, List.getElem?_eq_getElem hi]
  exact ⟨b, off, e, hat _ _ hq⟩

set_option maxRecDepth 100000 in
set_option maxHeartbeats 800000 in
theorem IdxFI_any (g : Nat) (lb : Array Value) (eg : ∀ args w, (callFunc g args).run Tryz.prog w = .ok (.enter g args) w) (A : Option Addr) (n c : Nat) (xs : List Value) (a0 : Nat → Value) (p : Nat → Bool) (w : World)
    (h : Sl w w.heap.size 1 A n xs) (hbig : n ≤ 9223372036854775807) (hx : ∀ j, j < n → xs[j]? = some (a0 j))
    (hp : ∀ W j, j < n → Below w.heap.size w W → Calls Tryz.prog g (#[a0 j] ++ lb) W (BoolPost (p j) W)) :
    Calls Tryz.prog 129 #[.slice A n c, .func (.func g) #[] lb] w fun e w' => e = .returned (.int .i64 (hitI p n)) ∧ Below w.heap.size w w' := by
  have HP := Lib.hid hp
  have HX := Lib.hid hx
  clear hp hx
  go_enter Tryz.func129, Tryz.ntmps129
  go_wp2_with fail
  go_loopw [5, 8] (fun _ i wr => ∃ j : Nat, j ≤ n ∧ i = .int .i64 j ∧ Below w.heap.size w wr ∧ Hid (∀ i, i < j → p i = false)) (fun _ i _ => n - (intOf i).toNat)
  case atStart => exact ⟨0, Nat.zero_le _, rfl, Below.refl _ _, fun i hi => absurd hi (by omega)⟩
  case round =>
    obtain ⟨j, hj, rfl, hb, hno⟩ := hrel
    by_cases hlt : j < n
    · obtain ⟨b, off, rfl, hc0⟩ := srcI (h.below hb) hlt HX.out
      have hc := HP.out wr j hlt hb
      cases hq : p j with
      | true =>
        rw [hq] at hc
        have HIT := Lib.hid (hit_at p n j hlt hq hno)
        clear hq
        go_wp2_with (go_at_fn g; refine hc.mono ?_; rintro e w' ⟨rfl, hb1⟩)
        go_ret
        exact ⟨ret_int HIT.out.symm, hb.trans (hb1.mono hb.size)⟩
      | false =>
        rw [hq] at hc
        have hno2 : Hid (∀ i, i < j + 1 → p i = false) := fun i hi => by
          by_cases e : i = j
          · rw [e]; exact hq
          · exact hno i (by omega)
        clear hq hno
        go_wp2_with (go_at_fn g; refine hc.mono ?_; rintro e w' ⟨rfl, hb1⟩)
        go_roundw
        case rel => exact ⟨j + 1, by omega, by go_num, hb.trans (hb1.mono hb.size), hno2⟩
        case measure => simp [intOf] <;> omega
    · obtain rfl : j = n := by omega
      have HIT := Lib.hid (hit_none p j hno)
      go_wp2_with fail
      go_ret
      exact ⟨ret_int HIT.out.symm, hb⟩

set_option maxRecDepth 100000 in
theorem ContFI_any (g : Nat) (lb : Array Value) (eg : ∀ args w, (callFunc g args).run Tryz.prog w = .ok (.enter g args) w) (A : Option Addr) (n c : Nat) (xs : List Value) (a0 : Nat → Value) (p : Nat → Bool) (w : World)
    (h : Sl w w.heap.size 1 A n xs) (hbig : n ≤ 9223372036854775807) (hx : ∀ j, j < n → xs[j]? = some (a0 j))
    (hp : ∀ W j, j < n → Below w.heap.size w W → Calls Tryz.prog g (#[a0 j] ++ lb) W (BoolPost (p j) W)) :
    Calls Tryz.prog 107 #[.slice A n c, .func (.func g) #[] lb] w (BoolPost (anyN p n) w) := by
  have HC := Lib.hid (IdxFI_any g lb eg A n c xs a0 p w h hbig hx hp)
  have HA := Lib.hid (hit_any p n)
  clear hp hx h
  go_enter Tryz.func107, Tryz.ntmps107
  go_wp2_with fail
  refine HC.out.mono ?_
  rintro e w1 ⟨rfl, hb⟩
  go_wp2_with fail
  go_ret
  exact ⟨ret_bool HA.out, hb⟩
end Go.Proofs.YtipkelbbfgidhaaGreatDoor
