/- Part 41 of the proof: lemmas and walks that the last texts use. -/
import Derived.Test.YthfjmlcjkbgboaaGreatDoorM04
import Derived.Test.YthfjmlcjkbgboaaGreatDoorM30
import Derived.Test.YthfjmlcjkbgboaaGreatDoorM35
import Derived.Test.YthfjmlcjkbgboaaGreatDoorM40
import Derived.Shelf.GgClosure.Gives
import Derived.BigQuiet
import Derived.Deep.QuietTactic
namespace Go.Proofs.YthfjmlcjkbgboaaGreatDoor
open Go.RowKit
set_option maxRecDepth 100000 in
set_option maxHeartbeats 1600000 in
theorem one_any (x : RuM) (w : World) (hin : RuIn w w.heap.size x) (hs : RuSmall x.r) (hlib : LibOk w) :
  Calls Tryz.prog 56 #[.agg (cellsRu x).toArray] w (CodePost (oneC argC x.r) w) := by
 have hv := fun W (hb : Below w.heap.size w W) => firstV_any 98 #[] (enters_of Tryz.func98 (by kernel_rfl) rfl) varC x.r.vars x.vA x.vc W ((hin.vars.below hb).more hb.size) hs.vars
  (fun W' v hv _ => variable_any v W' (by have := hs.names v hv; unfold maxLen; omega))
 have hp := fun W (hb : Below w.heap.size w W) => PCheckP_any x.r.pipe x.pA x.pc W ((hin.pipe.below hb).more hb.size) (by have := hs.pipe; omega)
 have ha : ∀ W, Below w.heap.size w W → 1 ≤ x.r.op → x.r.op ≤ 12 → Calls Tryz.prog 99 #[.int .i64 x.r.op, .string x.r.arg] W (CodePost (argC x.r.op x.r.arg) W) := fun W hb h1 h2 => arg_any x.r.op h1 h2 x.r.arg W hs.arg (hlib.below hb)
 have hc := fun W (hb : Below w.heap.size w W) => firstA_any 101 #[] (enters_of Tryz.func101 (by kernel_rfl) rfl) actC x.r.acts x.aA x.ac W ((hin.acts.below hb).more hb.size) hs.acts (fun W' a _ _ => act_any a W')
 have hdef : oneC argC x.r = if 8 < x.r.vars.length ∨ 6 < x.r.acts.length then 2 else if x.r.vars.length = 0 ∨ x.r.acts.length = 0 then 1 else if firstC varC x.r.vars ≠ 0 then firstC varC x.r.vars else
  if checkP x.r.pipe ≠ 0 then checkP x.r.pipe else if x.r.op < 1 ∨ 12 < x.r.op then 1 else if argC x.r.op x.r.arg ≠ 0 then argC x.r.op x.r.arg else firstC actC x.r.acts := rfl
 have hb0 : ∀ o, Below w.heap.size w (w.alloc o) := fun o => (Below.refl _ _).alloc (Nat.le_refl _) _
 generalize oneC argC x.r = res at *
 obtain ⟨⟨id, ph, vars, pipe, no, op, arg, acts, chain⟩, vA, vc, pA, pc, aA, ac⟩ := x
 unfold cellsRu
 dsimp only at *
 generalize vars.length = nv at *
 generalize acts.length = na at *
 generalize pipe.length = np at *
 generalize firstC varC vars = cv at *
 generalize checkP pipe = cp at *
 generalize argC op arg = ca at *
 generalize firstC actC acts = cc at *
 have HV := Lib.hid hv
 have HP := Lib.hid hp
 have HA := Lib.hid ha
 have HC := Lib.hid hc
 have HD := Lib.hid hdef
 have HB0 := Lib.hid hb0
 clear hv hp ha hc hin hs hlib hdef hb0
 unfold CodePost
 go_enter Tryz.func56, Tryz.ntmps56
 by_cases c1 : 8 < nv
 · have HR : Hid (res = 2) := Lib.hid (by rw [HD.out, if_pos (.inl c1)])
   have d1 : decide (8 < (nv : Int)) = true := by simp; omega
   go_wp2_with fail
   go_ret
   exact ⟨ret_int HR.out.symm, HB0.out _⟩
 have d1 : decide (8 < (nv : Int)) = false := by simp; omega
 by_cases c2 : 6 < na
 · have HR : Hid (res = 2) := Lib.hid (by rw [HD.out, if_pos (.inr c2)])
   have d2 : decide (6 < (na : Int)) = true := by simp; omega
   go_wp2_with fail
   go_ret
   exact ⟨ret_int HR.out.symm, HB0.out _⟩
 have d2 : decide (6 < (na : Int)) = false := by simp; omega
 by_cases c3 : nv = 0
 · have HR : Hid (res = 1) := Lib.hid (by rw [HD.out, if_neg (by omega), if_pos (.inl c3)])
   have d3 : ((nv : Int) == 0) = true := by rw [beq_iff_eq]; omega
   go_wp2_with fail
   go_ret
   exact ⟨ret_int HR.out.symm, HB0.out _⟩
 have d3 : ((nv : Int) == 0) = false := beq_eq_false_iff_ne.2 (by omega)
 by_cases c4 : na = 0
 · have HR : Hid (res = 1) := Lib.hid (by rw [HD.out, if_neg (by omega), if_pos (.inr c4)])
   have d4 : ((na : Int) == 0) = true := by rw [beq_iff_eq]; omega
   go_wp2_with fail
   go_ret
   exact ⟨ret_int HR.out.symm, HB0.out _⟩
 have d4 : ((na : Int) == 0) = false := beq_eq_false_iff_ne.2 (by omega)
 have HD2 : Hid (res = if cv ≠ 0 then cv else if cp ≠ 0 then cp else if op < 1 ∨ 12 < op then 1 else if ca ≠ 0 then ca else cc) := Lib.hid (by rw [HD.out, if_neg (by omega), if_neg (by omega)])
 clear HD c1 c2 c3 c4
 go_wp2_with fail
 refine (HV.out _ (HB0.out _)).mono ?_
 rintro e w1 ⟨rfl, hb1⟩
 obtain ⟨hc1, hbw1⟩ := box_facts (w := w) (by simpa using hb1)
 have x3 := hc1 3
 have x5 := hc1 5
 have x6 := hc1 6
 have x7 := hc1 7
 simp only [List.getElem?_toArray, List.getElem?_cons_succ, List.getElem?_cons_zero] at x3 x5 x6 x7
 clear hc1 hb1
 by_cases k1 : cv = 0
 · subst k1
   go_wp2_with fail
   refine (HP.out _ hbw1).mono ?_
   rintro e w2 ⟨rfl, hb2⟩
   have hbw2 := hbw1.trans (hb2.mono hbw1.size)
   have y5 := cell_kept hb2 x5
   have y6 := cell_kept hb2 x6
   have y7 := cell_kept hb2 x7
   clear x3 x5 x6 x7 hb2
   by_cases k2 : cp = 0
   · subst k2
     have HD3 : Hid (res = if op < 1 ∨ 12 < op then 1 else if ca ≠ 0 then ca else cc) := Lib.hid (by rw [HD2.out, if_neg (by decide), if_neg (by decide)])
     by_cases o1 : op < 1
     · have HR : Hid (res = 1) := Lib.hid (by rw [HD3.out, if_pos (.inl o1)])
       go_wp2_with fail
       go_ret
       exact ⟨ret_int HR.out.symm, hbw2⟩
     by_cases o2 : 12 < op
     · have HR : Hid (res = 1) := Lib.hid (by rw [HD3.out, if_pos (.inr o2)])
       go_wp2_with fail
       go_ret
       exact ⟨ret_int HR.out.symm, hbw2⟩
     have HD4 : Hid (res = if ca ≠ 0 then ca else cc) := Lib.hid (by rw [HD3.out, if_neg (by omega)])
     have HA2 := Lib.hid (HA.out _ hbw2 (by omega) (by omega))
     go_wp2_with fail
     refine HA2.out.mono ?_
     rintro e w3 ⟨rfl, hb3⟩
     have hbw3 := hbw2.trans (hb3.mono hbw2.size)
     have z7 := cell_kept hb3 y7
     clear y5 y6 y7 hb3
     by_cases k3 : ca = 0
     · subst k3
       have HR : Hid (res = cc) := Lib.hid (by rw [HD4.out, if_neg (by decide)])
       go_wp2_with fail
       refine (HC.out _ hbw3).mono ?_
       rintro e w4 ⟨rfl, hb4⟩
       go_wp2_with fail
       go_ret
       exact ⟨ret_int HR.out.symm, hbw3.trans (hb4.mono hbw3.size)⟩
     · have q3 : (ca == 0) = false := beq_eq_false_iff_ne.2 k3
       have HR : Hid (res = ca) := Lib.hid (by rw [HD4.out, if_pos k3])
       go_wp2_with fail
       go_ret
       exact ⟨ret_int HR.out.symm, hbw3⟩
   · have q2 : (cp == 0) = false := beq_eq_false_iff_ne.2 k2
     have HR : Hid (res = cp) := Lib.hid (by rw [HD2.out, if_neg (by decide), if_pos k2])
     go_wp2_with fail
     go_ret
     exact ⟨ret_int HR.out.symm, hbw2⟩
 · have q1 : (cv == 0) = false := beq_eq_false_iff_ne.2 k1
   have HR : Hid (res = cv) := Lib.hid (by rw [HD2.out, if_pos k1])
   go_wp2_with fail
   go_ret
   exact ⟨ret_int HR.out.symm, hbw1⟩
end Go.Proofs.YthfjmlcjkbgboaaGreatDoor
namespace Go.Proofs.YthfjmlcjkbgboaaGreatDoor
open Go.RowKit
theorem srcR {wr : World} {B n : Nat} {A : Option Addr} {xs : List Value} {a0 a1 a2 a3 a4 a5 a6 a7 a8 : Nat → Value} (h : Sl wr B 9 A n xs) {j : Nat} (hj : j < n) (hx : ∀ j, j < n → xs[j * 9]? = some (a0 j) ∧ xs[j * 9 + 1]? = some (a1 j) ∧ xs[j * 9 + 2]? = some (a2 j) ∧ xs[j * 9 + 3]? = some (a3 j) ∧ xs[j * 9 + 4]? = some (a4 j) ∧ xs[j * 9 + 5]? = some (a5 j) ∧ xs[j * 9 + 6]? = some (a6 j) ∧ xs[j * 9 + 7]? = some (a7 j) ∧ xs[j * 9 + 8]? = some (a8 j)) :
  ∃ b off, A = some ⟨b, off, none⟩ ∧ wr.cell? ⟨b, off + j * 9, none⟩ = some (a0 j) ∧ wr.cell? ⟨b, off + j * 9 + 1, none⟩ = some (a1 j) ∧ wr.cell? ⟨b, off + j * 9 + 2, none⟩ = some (a2 j) ∧ wr.cell? ⟨b, off + j * 9 + 3, none⟩ = some (a3 j) ∧ wr.cell? ⟨b, off + j * 9 + 4, none⟩ = some (a4 j) ∧ wr.cell? ⟨b, off + j * 9 + 5, none⟩ = some (a5 j) ∧ wr.cell? ⟨b, off + j * 9 + 6, none⟩ = some (a6 j) ∧ wr.cell? ⟨b, off + j * 9 + 7, none⟩ = some (a7 j) ∧ wr.cell? ⟨b, off + j * 9 + 8, none⟩ = some (a8 j) := by
 have hl := h.len
 obtain ⟨b, off, e, _, hc⟩ := h.src (by omega)
 have hq := hx j hj
 have hat : ∀ i v, xs[i]? = some v → wr.cell? ⟨b, off + i, none⟩ = some v := fun i v hv => by
  have hi : i < xs.length := (List.getElem?_eq_some_iff.1 hv).1
  rw [hc i hi, ← hv, List.getElem?_eq_getElem hi]
 exact ⟨b, off, e, by have := hat _ _ hq.1; rw [show off + j * 9 = off + j * 9 from rfl] at this; exact this, by have := hat _ _ hq.2.1; rw [← Nat.add_assoc] at this; exact this, by have := hat _ _ hq.2.2.1; rw [← Nat.add_assoc] at this; exact this, by have := hat _ _ hq.2.2.2.1; rw [← Nat.add_assoc] at this; exact this, by have := hat _ _ hq.2.2.2.2.1; rw [← Nat.add_assoc] at this; exact this, by have := hat _ _ hq.2.2.2.2.2.1; rw [← Nat.add_assoc] at this; exact this, by have := hat _ _ hq.2.2.2.2.2.2.1; rw [← Nat.add_assoc] at this; exact this, by have := hat _ _ hq.2.2.2.2.2.2.2.1; rw [← Nat.add_assoc] at this; exact this, by have := hat _ _ hq.2.2.2.2.2.2.2.2; rw [← Nat.add_assoc] at this; exact this⟩
set_option maxRecDepth 100000 in
set_option maxHeartbeats 800000 in
theorem IdxFR_any (g : Nat) (lb : Array Value) (eg : ∀ args w, (callFunc g args).run Tryz.prog w = .ok (.enter g args) w) (A : Option Addr) (n c : Nat) (xs : List Value) (a0 a1 a2 a3 a4 a5 a6 a7 a8 : Nat → Value) (p : Nat → Bool) (w : World)
  (h : Sl w w.heap.size 9 A n xs) (hbig : n ≤ 9223372036854775807) (hx : ∀ j, j < n → xs[j * 9]? = some (a0 j) ∧ xs[j * 9 + 1]? = some (a1 j) ∧ xs[j * 9 + 2]? = some (a2 j) ∧ xs[j * 9 + 3]? = some (a3 j) ∧ xs[j * 9 + 4]? = some (a4 j) ∧ xs[j * 9 + 5]? = some (a5 j) ∧ xs[j * 9 + 6]? = some (a6 j) ∧ xs[j * 9 + 7]? = some (a7 j) ∧ xs[j * 9 + 8]? = some (a8 j))
  (hp : ∀ W j, j < n → Below w.heap.size w W → Calls Tryz.prog g (#[.agg #[a0 j, a1 j, a2 j, a3 j, a4 j, a5 j, a6 j, a7 j, a8 j]] ++ lb) W (BoolPost (p j) W)) :
  Calls Tryz.prog 41 #[.slice A n c, .func (.func g) #[] lb] w fun e w' => e = .returned (.int .i64 (hitI p n)) ∧ Below w.heap.size w w' := by
 have HP := Lib.hid hp
 have HX := Lib.hid hx
 clear hp hx
 go_enter Tryz.func41, Tryz.ntmps41
 go_wp2_with fail
 go_loopw [5, 8] (fun _ i wr => ∃ j : Nat, j ≤ n ∧ i = .int .i64 j ∧ Below w.heap.size w wr ∧ Hid (∀ i, i < j → p i = false)) (fun _ i _ => n - (intOf i).toNat)
 case atStart => exact ⟨0, Nat.zero_le _, rfl, Below.refl _ _, fun i hi => absurd hi (by omega)⟩
 case round =>
  obtain ⟨j, hj, rfl, hb, hno⟩ := hrel
  by_cases hlt : j < n
  · obtain ⟨b, off, rfl, hc0, hc1, hc2, hc3, hc4, hc5, hc6, hc7, hc8⟩ := srcR (h.below hb) hlt HX.out
    have hc := HP.out wr j hlt hb
    cases hq : p j with
    | true =>
     rw [hq] at hc
     have HIT := Lib.hid (hit_at p n j hlt hq hno)
     clear hq
     go_wp2_with (go_at_fn g; refine hc.mono ?_; rintro e w' ⟨rfl, hb1⟩)
     go_ret
     exact ⟨ret_int HIT.out.symm, hb.trans (hb1.mono hb.size)⟩
    | false =>
     rw [hq] at hc
     have hno2 : Hid (∀ i, i < j + 1 → p i = false) := fun i hi => by
      by_cases e : i = j
      · rw [e]; exact hq
      · exact hno i (by omega)
     clear hq hno
     go_wp2_with (go_at_fn g; refine hc.mono ?_; rintro e w' ⟨rfl, hb1⟩)
     go_roundw
     case rel => exact ⟨j + 1, by omega, by go_num, hb.trans (hb1.mono hb.size), hno2⟩
     case measure => simp [intOf] <;> omega
  · obtain rfl : j = n := by omega
    have HIT := Lib.hid (hit_none p j hno)
    go_wp2_with fail
    go_ret
    exact ⟨ret_int HIT.out.symm, hb⟩
set_option maxRecDepth 100000 in
theorem ContFR_any (g : Nat) (lb : Array Value) (eg : ∀ args w, (callFunc g args).run Tryz.prog w = .ok (.enter g args) w) (A : Option Addr) (n c : Nat) (xs : List Value) (a0 a1 a2 a3 a4 a5 a6 a7 a8 : Nat → Value) (p : Nat → Bool) (w : World)
  (h : Sl w w.heap.size 9 A n xs) (hbig : n ≤ 9223372036854775807) (hx : ∀ j, j < n → xs[j * 9]? = some (a0 j) ∧ xs[j * 9 + 1]? = some (a1 j) ∧ xs[j * 9 + 2]? = some (a2 j) ∧ xs[j * 9 + 3]? = some (a3 j) ∧ xs[j * 9 + 4]? = some (a4 j) ∧ xs[j * 9 + 5]? = some (a5 j) ∧ xs[j * 9 + 6]? = some (a6 j) ∧ xs[j * 9 + 7]? = some (a7 j) ∧ xs[j * 9 + 8]? = some (a8 j))
  (hp : ∀ W j, j < n → Below w.heap.size w W → Calls Tryz.prog g (#[.agg #[a0 j, a1 j, a2 j, a3 j, a4 j, a5 j, a6 j, a7 j, a8 j]] ++ lb) W (BoolPost (p j) W)) :
  Calls Tryz.prog 17 #[.slice A n c, .func (.func g) #[] lb] w (BoolPost (anyN p n) w) := by
 have HC := Lib.hid (IdxFR_any g lb eg A n c xs a0 a1 a2 a3 a4 a5 a6 a7 a8 p w h hbig hx hp)
 have HA := Lib.hid (hit_any p n)
 clear hp hx h
 go_enter Tryz.func17, Tryz.ntmps17
 go_wp2_with fail
 refine HC.out.mono ?_
 rintro e w1 ⟨rfl, hb⟩
 go_wp2_with fail
 go_ret
 exact ⟨ret_bool HA.out, hb⟩
end Go.Proofs.YthfjmlcjkbgboaaGreatDoor
namespace Go.Proofs.YthfjmlcjkbgboaaGreatDoor
open Go.RowKit
theorem ruR_at {w : World} {B m : Nat} {A : Option Addr} {l : List RuM} (h : Sl w B 9 A m (l.flatMap cellsRu)) (k : Nat) (hk : k < l.length) :
  ∃ b off, A = some ⟨b, off, none⟩ ∧ b < B ∧ ∀ j, j < 9 → ∀ v, (cellsRu l[k])[j]? = some v → w.cell? ⟨b, off + k * 9 + j, none⟩ = some v := by
 have hl := flat_len cellsRu 9 (fun _ => rfl) l
 obtain ⟨b, off, e, hb, hc⟩ := h.src (by omega)
 refine ⟨b, off, e, hb, fun j hj v hv => ?_⟩
 have h1 := flat_at cellsRu 9 (fun _ => rfl) l k j hk hj
 have h2 : k * 9 + j < (l.flatMap cellsRu).length := by omega
 rw [Nat.add_assoc, hc (k * 9 + j) h2]
 rw [List.getElem?_eq_getElem h2] at h1
 rw [h1, hv]
theorem sl_front {α : Type} {cells : α → List Value} {size : Nat} (hsz : ∀ a, (cells a).length = size) {w : World} {B n : Nat} {A : Option Addr} {l : List α} (h : Sl w B size A n (l.flatMap cells)) (k : Nat) (hk : k ≤ l.length) : Sl w B size A k ((l.take k).flatMap cells) := by
 have hl := flat_len cells size hsz (l.take k)
 have he : l.flatMap cells = (l.take k).flatMap cells ++ (l.drop k).flatMap cells := by rw [← List.flatMap_append, List.take_append_drop]
 refine ⟨by rw [hl, List.length_take, Nat.min_eq_left hk], fun hp => ?_⟩
 obtain ⟨b, off, e, hb, hc⟩ := h.src (by rw [he, List.length_append]; omega)
 refine ⟨b, off, e, hb, fun j hj => ?_⟩
 have hj2 : j < (l.flatMap cells).length := by rw [he, List.length_append]; omega
 rw [hc j hj2]
 congr 1
 simp only [he, List.getElem_append_left hj]
def dRu : RuM := ⟨⟨0, 0, [], [], false, 0, ByteArray.empty, [], false⟩, none, 0, none, 0, none, 0⟩
set_option maxRecDepth 100000 in
theorem chk1_any (v0 v1 v2 v3 v4 v5 v6 v7 v8 : Value) (y id : Int) (g : Nat) (w : World) (hv : v0 = .int .i64 y) (hg : g < w.heap.size) (hc : w.cell? ⟨g, 0, none⟩ = some (.int .i64 id)) :
  Calls Tryz.prog 55 #[.agg #[v0, v1, v2, v3, v4, v5, v6, v7, v8], .pointer (some ⟨g, 0, none⟩)] w (BoolPost (y == id) w) := by
 subst hv
 have hc2 : ∀ o, (w.alloc o).cell? ⟨g, 0, none⟩ = some (.int .i64 id) := fun o => (((Below.refl _ _).alloc (Nat.le_refl _) o).cell (p := ⟨g, 0, none⟩) hg).trans hc
 go_enter Tryz.func55, Tryz.ntmps55
 go_wp2_with fail
 go_ret
 exact ⟨rfl, (Below.refl _ _).alloc (Nat.le_refl _) _⟩
theorem cont_rules (l : List RuM) (k : Nat) (hk : k ≤ l.length) (id : Int) (A : Option Addr) (c g : Nat) (w : World) (h : Sl w w.heap.size 9 A l.length (l.flatMap cellsRu)) (hl : l.length ≤ 1048576) (hg : g < w.heap.size) (hc : w.cell? ⟨g, 0, none⟩ = some (.int .i64 id)) :
  Calls Tryz.prog 17 #[.slice A k c, .func (.func 55) #[] #[.pointer (some ⟨g, 0, none⟩)]] w (BoolPost (((l.map RuM.r).take k).any fun y => y.id == id) w) := by
 have hs := sl_front (cells := cellsRu) (fun _ => rfl) h k hk
 have hlen : (l.take k).length = k := by rw [List.length_take, Nat.min_eq_left hk]
 have hp : anyN (fun j => ((l.take k).getD j dRu).r.id == id) (l.take k).length = (((l.map RuM.r).take k).any fun y => y.id == id) := by
  rw [anyN_list (fun y : RuM => y.r.id == id) (l.take k) dRu, ← List.map_take, List.any_map]; rfl
 rw [← hp, hlen]
 have hfl := flat_len cellsRu 9 (fun _ => rfl) (l.take k)
 have hat : ∀ j i, j < k → i < 9 → ((l.take k).flatMap cellsRu)[j * 9 + i]? = some (((l.take k).flatMap cellsRu).getD (j * 9 + i) undef) := fun j i hj hi => by
  rw [List.getD_eq_getElem?_getD, List.getElem?_eq_getElem (by rw [hfl, hlen]; omega)]; rfl
 generalize hxs : (l.take k).flatMap cellsRu = xs at *
 refine ContFR_any 55 #[.pointer (some ⟨g, 0, none⟩)] (enters_of Tryz.func55 (by kernel_rfl) rfl) A k c xs (fun j => xs.getD (j * 9) undef) (fun j => xs.getD (j * 9 + 1) undef) (fun j => xs.getD (j * 9 + 2) undef) (fun j => xs.getD (j * 9 + 3) undef) (fun j => xs.getD (j * 9 + 4) undef) (fun j => xs.getD (j * 9 + 5) undef) (fun j => xs.getD (j * 9 + 6) undef) (fun j => xs.getD (j * 9 + 7) undef) (fun j => xs.getD (j * 9 + 8) undef) _ w hs (by omega) (fun j hj => ?_) (fun W j hj hb => ?_)
 · exact ⟨hat j 0 hj (by decide), hat j 1 hj (by decide), hat j 2 hj (by decide), hat j 3 hj (by decide), hat j 4 hj (by decide), hat j 5 hj (by decide), hat j 6 hj (by decide), hat j 7 hj (by decide), hat j 8 hj (by decide)⟩
 · refine chk1_any _ _ _ _ _ _ _ _ _ ((l.take k).getD j dRu).r.id id g W ?_ (Nat.lt_of_lt_of_le hg hb.size) ((hb.cell (p := ⟨g, 0, none⟩) hg).trans hc)
   have hjl : j < (l.take k).length := by rw [hlen]; exact hj
   have h1 := flat_at cellsRu 9 (fun _ => rfl) (l.take k) j 0 hjl (by decide)
   have h2 : (l.take k).getD j dRu = (l.take k)[j] := by rw [List.getD_eq_getElem?_getD, List.getElem?_eq_getElem hjl]; rfl
   rw [hxs, Nat.add_zero] at h1
   rw [h2, List.getD_eq_getElem?_getD, h1]
   rfl
theorem goC_step (argC : Int → ByteArray → Int) (l : List RuOne) (k : Nat) (hk : k < l.length) :
  goC argC (l.take k) (l.drop k) = if l[k].id < 1 ∨ 9999 < l[k].id ∨ (l[k].phase ≠ 1 ∧ l[k].phase ≠ 2) then 1 else if (l.take k).any (fun y => y.id == l[k].id) = true then 9 else if oneC argC l[k] ≠ 0 then oneC argC l[k] else goC argC (l.take (k + 1)) (l.drop (k + 1)) := by
 rw [List.drop_eq_getElem_cons hk, goC, List.take_succ_eq_append_getElem hk]
theorem chainC_last (l : List RuOne) (k : Nat) (hk : k + 1 = l.length) : chainC (l.drop k) = if l[k].chain = true then 1 else 0 := by
 rw [List.drop_eq_getElem_cons (by omega), List.drop_eq_nil_of_le (by omega), chainC]
theorem chainC_step (l : List RuOne) (k : Nat) (hk : k + 1 < l.length) : chainC (l.drop k) = if l[k].chain = true ∧ l[k + 1].phase ≠ l[k].phase then 1 else chainC (l.drop (k + 1)) := by
 rw [List.drop_eq_getElem_cons (by omega : k < l.length), List.drop_eq_getElem_cons hk, chainC]
def ChkRel (L : List RuOne) (w W0 : World) (i : Value) (wr : World) : Prop := ∃ k : Nat, k ≤ L.length ∧ i = .int .i64 k ∧ Below (w.heap.size + 1) W0 wr ∧ goC argC [] L = goC argC (L.take k) (L.drop k)
def ChaRel (L : List RuOne) (w W0 : World) (i : Value) (wr : World) : Prop := ∃ k : Nat, k ≤ L.length ∧ i = .int .i64 k ∧ Below (w.heap.size + 1) W0 wr ∧ chainC L = chainC (L.drop k)
set_option maxRecDepth 100000 in
set_option maxHeartbeats 3200000 in
theorem Check_any (a : RuArg) (w : World) (h : RuLies w w.heap.size a) (hs : RuBulk a) (hlib : LibOk w) : Calls Tryz.prog 32 #[a.value] w (CodePost (checkR argC a.set) w) := by
 have hone := fun (x : RuM) (hx : x ∈ a.l) W (hb : Below w.heap.size w W) => one_any x W ((h.all x hx).keep hb hb.size) (hs.all x hx) (hlib.below hb)
 have hcont := fun k (hk : k ≤ a.l.length) id g W (hb : Below w.heap.size w W) => cont_rules a.l k hk id a.A a.c g W ((h.sl.below hb).more hb.size) hs.len
 have hat := fun W (hb : Below w.heap.size w W) k (hk : k < a.l.length) => ruR_at (h.sl.below hb) k hk
 have hdef : checkR argC a.set = if a.most < 1 ∨ 1000000 < a.most ∨ a.status < 400 ∨ 599 < a.status then 1 else if 40 < (a.l.map RuM.r).length then 2 else if goC argC [] (a.l.map RuM.r) ≠ 0 then goC argC [] (a.l.map RuM.r) else chainC (a.l.map RuM.r) := rfl
 have hb0 : ∀ o, Below w.heap.size w (w.alloc o) := fun o => (Below.refl _ _).alloc (Nat.le_refl _) _
 have hlen : (a.l.map RuM.r).length = a.l.length := List.length_map _
 have hcap := h.cap
 have hlb := hs.len
 have hget : ∀ k (hk : k < a.l.length) (hk' : k < (a.l.map RuM.r).length), (a.l.map RuM.r)[k]'hk' = a.l[k].r := fun k hk hk' => List.getElem_map _
 unfold RuArg.value
 generalize checkR argC a.set = res at *
 obtain ⟨most, status, A, c, l⟩ := a
 dsimp only at *
 have HS := Lib.hid (goC_step argC (l.map RuM.r))
 have HC1 := Lib.hid (chainC_last (l.map RuM.r))
 have HC2 := Lib.hid (chainC_step (l.map RuM.r))
 have HONE := Lib.hid hone
 have HCONT := Lib.hid hcont
 have HAT := Lib.hid hat
 have HD := Lib.hid hdef
 have HB0 := Lib.hid hb0
 have HL := Lib.hid hlen
 have HG := Lib.hid hget
 clear hone hcont hat h hs hlib hdef hb0 hlen hget
 unfold CodePost
 go_enter Tryz.func32, Tryz.ntmps32
 by_cases c1 : most < 1
 · have HR : Hid (res = 1) := Lib.hid (by rw [HD.out, if_pos (.inl c1)])
   go_wp2_with fail
   go_ret
   exact ⟨ret_int HR.out.symm, HB0.out _⟩
 by_cases c2 : 1000000 < most
 · have HR : Hid (res = 1) := Lib.hid (by rw [HD.out, if_pos (by omega)])
   go_wp2_with fail
   go_ret
   exact ⟨ret_int HR.out.symm, HB0.out _⟩
 by_cases c3 : status < 400
 · have HR : Hid (res = 1) := Lib.hid (by rw [HD.out, if_pos (by omega)])
   go_wp2_with fail
   go_ret
   exact ⟨ret_int HR.out.symm, HB0.out _⟩
 by_cases c4 : 599 < status
 · have HR : Hid (res = 1) := Lib.hid (by rw [HD.out, if_pos (by omega)])
   go_wp2_with fail
   go_ret
   exact ⟨ret_int HR.out.symm, HB0.out _⟩
 by_cases c5 : 40 < l.length
 · have HR : Hid (res = 2) := Lib.hid (by rw [HD.out, if_neg (by omega), if_pos (by rw [HL.out]; exact c5)])
   have d5 : decide (40 < (l.length : Int)) = true := by simp; omega
   go_wp2_with fail
   go_ret
   exact ⟨ret_int HR.out.symm, HB0.out _⟩
 have d5 : decide (40 < (l.length : Int)) = false := by simp; omega
 have HD2 : Hid (res = if goC argC [] (l.map RuM.r) ≠ 0 then goC argC [] (l.map RuM.r) else chainC (l.map RuM.r)) := Lib.hid (by rw [HD.out, if_neg (by omega), if_neg (by rw [HL.out]; exact c5)])
 clear HD
 obtain ⟨W0, hW0⟩ : ∃ W0, W0 = w.alloc (.cells #[.int .i64 most, .int .i64 status, .slice A l.length c] 32) := ⟨_, rfl⟩
 have HBX : Hid (∀ W, Below (w.heap.size + 1) W0 W → W.cell? ⟨w.heap.size, 2, none⟩ = some (.slice A l.length c) ∧ Below w.heap.size w W) := fun W hb => by
  subst hW0
  obtain ⟨a, b⟩ := box_facts hb
  exact ⟨a 2, b⟩
 have hz0 : w.heap.size + 1 ≤ W0.heap.size := by rw [hW0]; simp
 go_wp2_with fail
 rw [← hW0]
 clear hW0 HB0 c1 c2 c3 c4
 go_loopw [33] (fun i wr => ChkRel (l.map RuM.r) w W0 i wr) (fun i _ => l.length - (intOf i).toNat)
 case atStart => exact ⟨0, Nat.zero_le _, rfl, Below.refl _ _, rfl⟩
 case round =>
  obtain ⟨k, hk, rfl, hbr, hr⟩ := hrel
  rw [HL.out] at hk
  obtain ⟨x2, hbw⟩ := HBX.out wr hbr
  have hzr : w.heap.size + 1 ≤ wr.heap.size := Nat.le_trans hz0 hbr.size
  have HBR := Lib.hid hbr
  have HR := Lib.hid hr
  by_cases hlt : k < l.length
  · obtain ⟨b, off, rfl, hbB, hcell⟩ := HAT.out wr hbw k hlt
    have hone := HONE.out l[k] (List.getElem_mem hlt)
    have hst := HS.out k (by rw [HL.out]; exact hlt)
    rw [HG.out k hlt _] at hst
    have hcont := fun id g W hb => HCONT.out k hk id g W hb
    rw [← hr] at hst
    have q0 := hcell 0 (by decide) _ rfl
    have q1 := hcell 1 (by decide) _ rfl
    have q2 := hcell 2 (by decide) _ rfl
    have q3 := hcell 3 (by decide) _ rfl
    have q4 := hcell 4 (by decide) _ rfl
    have q5 := hcell 5 (by decide) _ rfl
    have q6 := hcell 6 (by decide) _ rfl
    have q7 := hcell 7 (by decide) _ rfl
    have q8 := hcell 8 (by decide) _ rfl
    rw [Nat.add_zero] at q0
    generalize l[k] = X at *
    obtain ⟨⟨id, ph, vars, pipe, no, op, arg, acts, chain⟩, vA, vc, pA, pc, aA, ac⟩ := X
    unfold cellsRu at hone
    dsimp only at q0 q1 q2 q3 q4 q5 q6 q7 q8 hst hone
    generalize oneC argC ⟨id, ph, vars, pipe, no, op, arg, acts, chain⟩ = oc at *
    generalize vars.length = nv at *
    generalize pipe.length = np at *
    generalize acts.length = na at *
    have i1 : (k : Int) ≤ (c : Int) := by have := hcap; omega
    have HNEW : Hid (∀ W, Below (wr.heap.size + 1) (wr.alloc (.cells #[.int .i64 id, .int .i64 ph, .slice vA nv vc, .slice pA np pc, .bool no, .int .i64 op, .string arg, .slice aA na ac, .bool chain] 26)) W → (∀ j, W.cell? ⟨wr.heap.size, j, none⟩ = (#[Value.int .i64 id, .int .i64 ph, .slice vA nv vc, .slice pA np pc, .bool no, .int .i64 op, .string arg, .slice aA na ac, .bool chain] : Array Value)[j]?) ∧ Below wr.heap.size wr W) := fun W hb => box_facts hb
    have HST := Lib.hid hst
    have HONE1 := Lib.hid hone
    have HCONT1 := Lib.hid hcont
    have HEND : Hid (∀ o, Below w.heap.size w (wr.alloc o)) := fun o => hbw.alloc hbw.size o
    have hxx2 : ∀ o, (wr.alloc o).cell? ⟨w.heap.size, 2, none⟩ = some (.slice (some ⟨b, off, none⟩) l.length c) := fun o => cell_kept ((Below.refl _ _).alloc (Nat.le_refl _) o) x2
    clear hcell hst hone hcont hbr hr
    by_cases c1 : id < 1
    · have HRES : Hid (res = 1) := Lib.hid (by have e := HST.out; rw [if_pos (.inl c1)] at e; rw [HD2.out, e, if_pos (by decide)])
      go_wp2_with fail
      go_ret
      exact ⟨ret_int HRES.out.symm, HEND.out _⟩
    by_cases c2 : 9999 < id
    · have HRES : Hid (res = 1) := Lib.hid (by have e := HST.out; rw [if_pos (by omega)] at e; rw [HD2.out, e, if_pos (by decide)])
      go_wp2_with fail
      go_ret
      exact ⟨ret_int HRES.out.symm, HEND.out _⟩
    by_cases c3 : ph ≠ 1 ∧ ph ≠ 2
    · have HRES : Hid (res = 1) := Lib.hid (by have e := HST.out; rw [if_pos (by omega)] at e; rw [HD2.out, e, if_pos (by decide)])
      have e1 : (ph != 1) = true := bne_iff_ne.2 c3.1
      have e2 : (ph != 2) = true := bne_iff_ne.2 c3.2
      go_wp2_with fail
      go_ret
      exact ⟨ret_int HRES.out.symm, HEND.out _⟩
    have hph : ph = 1 ∨ ph = 2 := by omega
    have HST2 : Hid (goC argC [] (l.map RuM.r) = if ((l.map RuM.r).take k).any (fun y => y.id == id) = true then 9 else if oc ≠ 0 then oc else goC argC ((l.map RuM.r).take (k + 1)) ((l.map RuM.r).drop (k + 1))) := Lib.hid (by rw [HST.out, if_neg (by omega)])
    clear HST c3
    have HC := Lib.hid fun o (h : (wr.alloc o).cell? ⟨wr.heap.size, 0, none⟩ = some (.int .i64 id)) => HCONT1.out id wr.heap.size (wr.alloc o) (HEND.out o) (by simp) h
    clear HCONT1
    have hcl0 : ∀ cs t, cs[0]? = some (Value.int .i64 id) → (wr.alloc (.cells cs t)).cell? ⟨wr.heap.size, 0, none⟩ = some (.int .i64 id) := fun cs t h => (cell_of_row _ _ 0 cs t (0, 0) (heap_alloc_new wr _)).trans h
    have HCL0 := Lib.hid hcl0
    clear hcl0
    rcases hph with rfl | rfl
    all_goals
     generalize ((l.map RuM.r).take k).any (fun y => y.id == id) = an at *
     go_wp2_with fail
     refine (HC.out _ (HCL0.out _ _ rfl)).mono ?_
     rintro e w1 ⟨rfl, hb1⟩
     obtain ⟨hn, hbw1⟩ := HNEW.out w1 (by simpa using hb1)
     clear hb1
     cases an with
     | true =>
      have HRES : Hid (res = 9) := Lib.hid (by rw [HD2.out, HST2.out, if_pos rfl, if_pos (by decide)])
      go_wp2_with fail
      go_ret
      exact ⟨ret_int HRES.out.symm, hbw.trans (hbw1.mono hbw.size)⟩
     | false =>
      have HST3 : Hid (goC argC [] (l.map RuM.r) = if oc ≠ 0 then oc else goC argC ((l.map RuM.r).take (k + 1)) ((l.map RuM.r).drop (k + 1))) := Lib.hid (by rw [HST2.out, if_neg (by decide)])
      have n0 := hn 0
      have n1 := hn 1
      have n2 := hn 2
      have n3 := hn 3
      have n4 := hn 4
      have n5 := hn 5
      have n6 := hn 6
      have n7 := hn 7
      have n8 := hn 8
      simp only [List.getElem?_toArray, List.getElem?_cons_succ, List.getElem?_cons_zero] at n0 n1 n2 n3 n4 n5 n6 n7 n8
      clear hn HST2
      have hbw2 := hbw.trans (hbw1.mono hbw.size)
      have HO := Lib.hid (HONE1.out w1 hbw2)
      by_cases co : oc = 0
      · subst co
        have HNX : Hid (∀ w2, Below w1.heap.size w1 w2 → ChkRel (l.map RuM.r) w W0 (.int .i64 ((k : Int) + 1)) w2) := fun w2 hb2 => ⟨k + 1, by rw [HL.out]; omega, rfl, (HBR.out.trans (hbw1.mono hzr)).trans (hb2.mono (Nat.le_trans hzr hbw1.size)), by rw [HST3.out, if_neg (by decide)]⟩
        go_wp2_with fail
        refine HO.out.mono ?_
        rintro e w2 ⟨rfl, hb2⟩
        have HNX2 := HNX.out w2 hb2
        go_wp2_with fail
        exact ⟨HNX2, by simp [intOf] <;> omega⟩
      · have HRES : Hid (res = oc) := Lib.hid (by rw [HD2.out, HST3.out, if_pos co, if_pos co])
        have qo : (oc == 0) = false := beq_eq_false_iff_ne.2 co
        go_wp2_with fail
        refine HO.out.mono ?_
        rintro e w2 ⟨rfl, hb2⟩
        go_wp2_with fail
        go_ret
        exact ⟨ret_int HRES.out.symm, hbw2.trans (hb2.mono hbw2.size)⟩
  · have hkl : l.length ≤ k := by omega
    have HD3 : Hid (res = chainC (l.map RuM.r)) := Lib.hid (by
     have : goC argC [] (l.map RuM.r) = 0 := by rw [hr, List.drop_eq_nil_of_le (by rw [HL.out]; exact hkl)]; rfl
     rw [HD2.out, this, if_neg (by decide)])
    clear HS HONE HCONT HD2 hr HR hbr hbw
    have i1 : ¬ ((k : Int) < (l.length : Int)) := by omega
    obtain ⟨wo, rfl⟩ : ∃ wo : World, wo = wr := ⟨_, rfl⟩
    go_wp2_with fail
    go_loopw [71] (fun i wr => ChaRel (l.map RuM.r) w W0 i wr) (fun i _ => l.length - (intOf i).toNat)
    case atStart => exact ⟨0, Nat.zero_le _, rfl, HBR.out, rfl⟩
    case round =>
     obtain ⟨m, hm, rfl, hbr2, hr2⟩ := hrel
     rw [HL.out] at hm
     obtain ⟨y2, hbw2⟩ := HBX.out wr hbr2
     have HBR2 := Lib.hid hbr2
     have HR2 := Lib.hid hr2
     clear x2
     by_cases hlt : m < l.length
     · obtain ⟨b, off, rfl, hbB, hcell⟩ := HAT.out wr hbw2 m hlt
       have q0 := hcell 0 (by decide) _ rfl
       have q1 := hcell 1 (by decide) _ rfl
       have q2 := hcell 2 (by decide) _ rfl
       have q3 := hcell 3 (by decide) _ rfl
       have q4 := hcell 4 (by decide) _ rfl
       have q5 := hcell 5 (by decide) _ rfl
       have q6 := hcell 6 (by decide) _ rfl
       have q7 := hcell 7 (by decide) _ rfl
       have q8 := hcell 8 (by decide) _ rfl
       rw [Nat.add_zero] at q0
       have hyy2 : ∀ o, (wr.alloc o).cell? ⟨w.heap.size, 2, none⟩ = some (.slice (some ⟨b, off, none⟩) l.length c) := fun o => cell_kept ((Below.refl _ _).alloc (Nat.le_refl _) o) y2
       have HNX : Hid (∀ o, chainC (l.map RuM.r) = chainC ((l.map RuM.r).drop (m + 1)) → ∀ q, ChaRel (l.map RuM.r) w W0 (.int .i64 ((m : Int) + 1)) ((wr.alloc o).drewN q)) := fun o h q => ⟨m + 1, by rw [HL.out]; omega, rfl, below_drewN (hbr2.alloc (Nat.le_trans hz0 hbr2.size) o) q, h⟩
       have HOUT : Hid (∀ o q, Below w.heap.size w ((wr.alloc o).drewN q)) := fun o q => below_drewN (hbw2.alloc hbw2.size o) q
       by_cases hlast : m + 1 = l.length
       · have hc1 := HC1.out m (by rw [HL.out]; exact hlast)
         rw [← hr2, HG.out m hlt _] at hc1
         have HCN : Hid (chainC ((l.map RuM.r).drop (m + 1)) = 0) := Lib.hid (by rw [List.drop_eq_nil_of_le (by rw [HL.out]; omega)]; rfl)
         generalize l[m] = X at *
         obtain ⟨⟨id, ph, vars, pipe, no, op, arg, acts, chain⟩, vA, vc, pA, pc, aA, ac⟩ := X
         dsimp only at q0 q1 q2 q3 q4 q5 q6 q7 q8 hc1
         generalize vars.length = nv at *
         generalize pipe.length = np at *
         generalize acts.length = na at *
         have e1 : ((m : Int) + 1 == (l.length : Int)) = true := by rw [beq_iff_eq]; omega
         have HC3 := Lib.hid hc1
         clear hcell hc1 hbr2 hr2
         cases chain with
         | true =>
          have HRES : Hid (res = 1) := Lib.hid (by rw [HD3.out, HC3.out, if_pos rfl])
          go_wp2_with fail
          go_quiet (fail)
          go_wp2_with fail
          go_ret
          exact ⟨ret_int HRES.out.symm, HOUT.out _ _⟩
         | false =>
          have HCC : Hid (chainC (l.map RuM.r) = chainC ((l.map RuM.r).drop (m + 1))) := Lib.hid (by rw [HC3.out, HCN.out, if_neg (by decide)])
          go_wp2_with fail
          go_quiet (fail)
          go_wp2_with fail
          exact ⟨HNX.out _ HCC.out _, by simp [intOf] <;> omega⟩
       · have hlt2 : m + 1 < l.length := by omega
         obtain ⟨b', off', e', _, hcell2⟩ := HAT.out wr hbw2 (m + 1) hlt2
         injection e' with e'
         injection e' with e1 e2
         subst e1; subst e2
         have r1 := hcell2 1 (by decide) _ rfl
         have r2 : ∀ o, (wr.alloc o).cell? ⟨b, off + (m + 1) * 9 + 1, none⟩ = some (.int .i64 l[m + 1].r.phase) := fun o => cell_kept ((Below.refl _ _).alloc (Nat.le_refl _) o) r1
         have hc1 := HC2.out m (by rw [HL.out]; exact hlt2)
         rw [← hr2, HG.out m hlt _, HG.out (m + 1) hlt2 _] at hc1
         generalize l[m + 1].r.phase = ph2 at *
         generalize l[m] = X at *
         obtain ⟨⟨id, ph, vars, pipe, no, op, arg, acts, chain⟩, vA, vc, pA, pc, aA, ac⟩ := X
         dsimp only at q0 q1 q2 q3 q4 q5 q6 q7 q8 hc1
         generalize vars.length = nv at *
         generalize pipe.length = np at *
         generalize acts.length = na at *
         have e1 : ((m : Int) + 1 == (l.length : Int)) = false := beq_eq_false_iff_ne.2 (by omega)
         have HC3 := Lib.hid hc1
         clear hcell hcell2 hc1 hbr2 hr2 r1
         cases chain with
         | true =>
          by_cases hp : ph2 = ph
          · have HCC : Hid (chainC (l.map RuM.r) = chainC ((l.map RuM.r).drop (m + 1))) := Lib.hid (by rw [HC3.out, if_neg (fun h => h.2 hp)])
            have e3 : (ph2 != ph) = false := by rw [hp]; simp
            go_wp2_with fail
            go_quiet (fail)
            go_wp2_with fail
            exact ⟨HNX.out _ HCC.out _, by simp [intOf] <;> omega⟩
          · have HRES : Hid (res = 1) := Lib.hid (by rw [HD3.out, HC3.out, if_pos ⟨rfl, hp⟩])
            have e3 : (ph2 != ph) = true := bne_iff_ne.2 hp
            go_wp2_with fail
            go_quiet (fail)
            go_wp2_with fail
            go_ret
            exact ⟨ret_int HRES.out.symm, HOUT.out _ _⟩
         | false =>
          have HCC : Hid (chainC (l.map RuM.r) = chainC ((l.map RuM.r).drop (m + 1))) := Lib.hid (by rw [HC3.out, if_neg (fun h => absurd h.1 (by decide))])
          go_wp2_with fail
          go_quiet (fail)
          go_wp2_with fail
          exact ⟨HNX.out _ HCC.out _, by simp [intOf] <;> omega⟩
     · have HRES : Hid (res = 0) := Lib.hid (by rw [HD3.out, hr2, List.drop_eq_nil_of_le (by rw [HL.out]; omega)]; rfl)
       have i2 : ¬ ((m : Int) < (l.length : Int)) := by omega
       go_wp2_with fail
       go_ret
       exact ⟨ret_int HRES.out.symm, hbw2⟩
end Go.Proofs.YthfjmlcjkbgboaaGreatDoor
