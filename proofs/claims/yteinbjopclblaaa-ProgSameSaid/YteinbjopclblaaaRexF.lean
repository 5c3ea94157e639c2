/- The walk of rex.Find. -/
import Derived.Test.YteinbjopclblaaaRexK
import Derived.Test.YteinbjopclblaaaRexN3
import Derived.Test.YteinbjopclblaaaRexN5
import Derived.Test.YteinbjopclblaaaRexC
namespace Go.Proofs.Yteinbjopclblaaa
open Go.RowKit

theorem ends_all (t : Tree) (h : Fine t) : EndsC t := by
  match t, h with
  | .node k S ts, h =>
    have hsh := fine_shape h
    match k, ts, hsh with
    | _, _, .none => exact ends1 S
    | _, _, .empty => exact ends2 S
    | _, _, .byte => exact ends3 S
    | _, _, .cat a b ha hb => exact ends4 S a b (ends_all a ha) (ends_all b hb)
    | _, _, .alt a b ha hb => exact ends5 S a b (ends_all a ha) (ends_all b hb)
    | _, _, .star a ha => exact ends6 S a (ends_all a ha)
    | _, _, .begin => exact ends7 S
    | _, _, .finish => exact ends8 S
termination_by SizeOf.sizeOf t

def errF (t : Tree) (n : Nat) : Int := if checkT t ≠ 0 then checkT t else if 300 < n then 2 else 0
def spanV (i j : Int) : Value := .agg #[.int .i64 i, .int .i64 j]
def FindIs (t : Tree) (s : List UInt8) (is : Bool) (i j : Nat) : Prop := (errF t s.length ≠ 0 → is = false ∧ i = 0 ∧ j = 0) ∧ (errF t s.length = 0 → Found s t is i j)
def FindPost (t : Tree) (s : ByteArray) (w : World) (e : Ending) (w' : World) : Prop :=
  ∃ is i j, e = .returned (.tuple #[spanV (i : Nat) (j : Nat), .bool is, .int .i64 (errF t s.size)]) ∧ FindIs t s.data.toList is i j ∧ Below w.heap.size w w'

/-- Two cells that are known whole. -/
def Two (w : World) (g : Nat) (a b : Value) : Prop := w.heap[g]? = some (.cells #[a, b] 66 (0, 0))
theorem Two.cells {w : World} {g : Nat} {a b : Value} (h : Two w g a b) : w.cell? ⟨g, 0, none⟩ = some a ∧ w.cell? ⟨g, 1, none⟩ = some b := ⟨cell_of_row w g 0 _ _ (0, 0) h, cell_of_row w g 1 _ _ (0, 0) h⟩
theorem Two.frees {w : World} {g : Nat} {a b : Value} (h : Two w g a b) : w.frozen? ⟨g, 0, none⟩ = false ∧ w.frozen? ⟨g, 1, none⟩ = false := by unfold Two at h; simp [World.frozen?, h]
theorem Two.below {w w' : World} {B g : Nat} {a b : Value} (h : Two w g a b) (hb : Below B w w') (hg : g < B) : Two w' g a b := (hb.block g hg).trans h
theorem Two.set0 {w : World} {g : Nat} {a b : Value} (h : Two w g a b) (u : Value) : Two (w.setCell ⟨g, 0, none⟩ u) g u b := by unfold Two at h ⊢; simp [World.setCell, Array.getElem?_modify, h]
theorem Two.set1 {w : World} {g : Nat} {a b : Value} (h : Two w g a b) (u : Value) : Two (w.setCell ⟨g, 1, none⟩ u) g a u := by unfold Two at h ⊢; simp [World.setCell, Array.getElem?_modify, h]

def AllRel2 (n gA : Nat) (W0 w : World) (i : Value) (wr : World) : Prop :=
  ∃ (k : Nat) (o : List Bool), k ≤ n ∧ i = .int .i64 k ∧ BL wr gA gA n n o ∧ Hid (∀ j, j < n → tt o j = decide (j < k)) ∧ Below (w.heap.size + 1 + 1) W0 wr ∧ Below w.heap.size w wr
def FindRel (n : Nat) (s : List UInt8) (t : Tree) (W0 w : World) (i : Value) (wr : World) : Prop :=
  ∃ k : Nat, k ≤ n ∧ i = .int .i64 k ∧ Hid (∀ a b, a < k → ¬ M s t a b) ∧ Below (w.heap.size + 1 + 1) W0 wr ∧ Below w.heap.size w wr
theorem ends_full {s : List UInt8} {t : Tree} {fr to : List Bool} (he : EndsL s t fr to) (hl : fr.length = s.length + 1) (hf : ∀ j, j < fr.length → tt fr j = true) (j : Nat) : tt to j = true ↔ ∃ i, M s t i j := by
  rw [he.2 j]
  constructor
  · rintro ⟨i, _, h⟩; exact ⟨i, h⟩
  · rintro ⟨i, h⟩; exact ⟨i, hf i (by have := h.le; omega), h⟩
theorem ends_from {s : List UInt8} {t : Tree} {n k : Nat} {to : List Bool} (hk : k < n) (he : EndsL s t ((List.replicate n false).set k true) to) (j : Nat) : tt to j = true ↔ M s t k j := by
  rw [he.2 j]
  constructor
  · rintro ⟨i, hi, h⟩
    rw [tt_set (by simpa using hk), tt_rep] at hi
    by_cases c : i = k
    · rw [c] at h; exact h
    · rw [if_neg c] at hi; cases hi
  · intro h
    exact ⟨k, by rw [tt_set (by simpa using hk), if_pos rfl], h⟩

section
variable {ops : Array Oper} {rest : List Oper} {o : Oper} {a : Act} {Q : Exit → Act → World → Prop} {w : World}
theorem wpList_make_bz (hgd : o.guard = none) (x y : Operand) (hop : o.op = .makeSlice 127 x y) (z : Int) (n g : Nat) (hz : z = (n : Int)) (hg : w.heap.size = g) (hx : a.eval x = .int .i64 z) (hy : a.eval y = .int .i64 z) (hn : n ≤ 1048576)
    (hK : ∀ w', BL w' g g n n (List.replicate n false) → Below w.heap.size w w' → g < w'.heap.size → wpList Try.prog ops Q rest (a.put o.dst (.slice (some ⟨g, 0, none⟩) n n)) w') :
    wpList Try.prog ops Q (o :: rest) a w := by
  subst hz
  exact wpList_make_b hgd x y hop n g hg hx hy hn hK
end
theorem find_boxes {w w1 : World} {c0 c1 c2 c3 c4 c5 d0 d1 : Value} {t : TypeId} (hb : Below ((w.alloc (.cells #[c0, c1, c2, c3, c4, c5] t)).alloc (.cells #[d0, d1] 66)).heap.size ((w.alloc (.cells #[c0, c1, c2, c3, c4, c5] t)).alloc (.cells #[d0, d1] 66)) w1) :
    (w1.cell? ⟨w.heap.size, 0, none⟩ = some c0 ∧ w1.cell? ⟨w.heap.size, 1, none⟩ = some c1 ∧ w1.cell? ⟨w.heap.size, 2, none⟩ = some c2 ∧ w1.cell? ⟨w.heap.size, 3, none⟩ = some c3 ∧ w1.cell? ⟨w.heap.size, 4, none⟩ = some c4 ∧ w1.cell? ⟨w.heap.size, 5, none⟩ = some c5) ∧
      Two w1 (w.heap.size + 1) d0 d1 ∧ Below w.heap.size w w1 ∧ w.heap.size + 1 + 1 ≤ w1.heap.size := by
  have hz := hb.size
  have hb1 : Below (w.alloc (.cells #[c0, c1, c2, c3, c4, c5] t)).heap.size (w.alloc (.cells #[c0, c1, c2, c3, c4, c5] t)) w1 := below_new hb (Nat.le_refl _)
  refine ⟨(box_six hb1).1, ?_, (box_six hb1).2, by simpa using hz⟩
  have h1 := hb.block (w.heap.size + 1) (by simp)
  have h2 := heap_alloc_new (w.alloc (.cells #[c0, c1, c2, c3, c4, c5] t)) (.cells #[d0, d1] 66)
  rw [World.size_alloc] at h2
  exact h1.trans h2

set_option maxRecDepth 100000 in
set_option maxHeartbeats 1600000 in
theorem Find_any (t : Tree) (A : Option Addr) (c : Nat) (s : ByteArray) (w : World) (h : LT w w.heap.size t (cellsX t.kind t.set A t.kids.length c)) :
    Calls Try.prog 57 #[argX t A c, .string s] w (FindPost t s w) := by
  have hck : ∀ W, Below w.heap.size w W → _ := fun W hb => Check_any2 t _ W ((h.below hb).more hb.size)
  have hlen : s.data.toList.length = s.size := by simp
  unfold cellsX at hck
  have HCK : Hid (∀ W, Below w.heap.size w W → Calls Try.prog 40 #[argX t A c] W fun e w' => e = .returned (.int .i64 (checkT t)) ∧ Below W.heap.size W w') := hck
  clear hck
  have HP : Hid (∀ is i j W, FindIs t s.data.toList is i j → Below w.heap.size w W → FindPost t s w (.returned (.tuple #[spanV (i : Nat) (j : Nat), .bool is, .int .i64 (errF t s.size)])) W) := fun is i j W h1 h2 => ⟨is, i, j, rfl, h1, h2⟩
  by_cases hc : checkT t = 0
  · by_cases hs : s.size ≤ 300
    · have hfine : Fine t := chk_fine t 1 0 hc
      have HE := Lib.hid ((ends_all t hfine).call h rfl hs rfl)
      have HERR : Hid (errF t s.size = 0) := by unfold Hid errF; rw [if_neg (by simpa using hc), if_neg (by omega)]
      rw [HERR.out] at HP
      rw [hc] at HCK
      unfold argX at *
      obtain ⟨n, hn⟩ : ∃ n, s.size + 1 = n := ⟨_, rfl⟩
      rw [hn] at HE
      have HN := Lib.hid hn
      have hn1 : n ≤ 301 := by omega
      have hns : s.size < n := by omega
      have hns2 : n ≤ s.size + 1 := by omega
      clear hn hc h hfine
      go_enter Try.func57, Try.ntmps57
      go_wp2_with fail
      refine (HCK.out _ (((Below.refl _ _).alloc (Nat.le_refl _) _).alloc (by simp) _)).mono ?_
      rintro e w1 ⟨rfl, hb1⟩
      obtain ⟨⟨f0, f1, f2, f3, f4, f5⟩, hT1, hbw1, hz1⟩ := find_boxes hb1
      have hbx : ∀ W, Below (w.heap.size + 1 + 1) w1 W → (W.cell? ⟨w.heap.size, 0, none⟩ = some (.int .i64 t.kind) ∧ W.cell? ⟨w.heap.size, 1, none⟩ = some (.int .u64 t.set.a) ∧ W.cell? ⟨w.heap.size, 2, none⟩ = some (.int .u64 t.set.b) ∧ W.cell? ⟨w.heap.size, 3, none⟩ = some (.int .u64 t.set.c) ∧ W.cell? ⟨w.heap.size, 4, none⟩ = some (.int .u64 t.set.d) ∧ W.cell? ⟨w.heap.size, 5, none⟩ = some (.slice A t.kids.length c)) ∧ Two W (w.heap.size + 1) (.int .i64 0) (.int .i64 0) ∧ Below w.heap.size w W := fun W h =>
        have e : w.heap.size < w.heap.size + 1 + 1 := by omega
        ⟨⟨(h.cell (p := ⟨w.heap.size, 0, none⟩) e).trans f0, (h.cell (p := ⟨w.heap.size, 1, none⟩) e).trans f1, (h.cell (p := ⟨w.heap.size, 2, none⟩) e).trans f2, (h.cell (p := ⟨w.heap.size, 3, none⟩) e).trans f3, (h.cell (p := ⟨w.heap.size, 4, none⟩) e).trans f4, (h.cell (p := ⟨w.heap.size, 5, none⟩) e).trans f5⟩, hT1.below h (Nat.lt_succ_self _), hbw1.trans (h.mono (by omega))⟩
      have HBX := Lib.hid hbx
      clear hbx f0 f1 f2 f3 f4 f5 hT1 hb1
      go_wp2_with (at_make; refine wpList_make_bz rfl _ _ rfl _ n w1.heap.size (by omega) rfl rfl rfl (by omega) ?_; intro w2 hO hb2 hz2)
      have hb12 : Below (w.heap.size + 1 + 1) w1 w2 := hb2.mono hz1
      have hbw2 := hbw1.trans (hb2.mono hbw1.size)
      go_loopw [29] (fun i wr => AllRel2 n w1.heap.size w1 w i wr) (fun i _ => n - (intOf i).toNat)
      case atStart => exact ⟨0, _, Nat.zero_le _, rfl, hO, (fun j _ => by rw [tt_rep]; simp), hb12, hbw2⟩
      case round =>
        obtain ⟨k, o, hk, rfl, hB, HT, hbr1, hbr⟩ := hrel
        by_cases hlt : k < n
        · have c1 := hB.cell hlt
          have c2 := hB.free k
          have HT2 : Hid (∀ j, j < n → tt (o.set k true) j = decide (j < k + 1)) := fun j hj => by
            rw [tt_set (by rw [hB.len]; exact hlt)]
            by_cases e : j = k
            · subst e; simp
            · rw [if_neg e, HT.out j hj]; simp only [decide_eq_decide]; omega
          generalize tt o k = q at c1
          go_wp2_with fail
          go_roundw
          case rel => exact ⟨k + 1, _, by omega, by go_num, hB.set k true, HT2, hbr1.setCell hz1 _, hbr.setCell (by show _ ≤ w1.heap.size; omega) _⟩
          case measure => simp [intOf] <;> omega
        · obtain rfl : k = n := by omega
          obtain ⟨⟨f0, f1, f2, f3, f4, f5⟩, hT1, _⟩ := HBX.out wr hbr1
          have hcall := HE.out wr _ _ _ o hbr hB
          have HC := Lib.hid hcall
          have HFL : Hid (∀ to, EndsL s.data.toList t o to → ∀ j, tt to j = true ↔ ∃ i, M s.data.toList t i j) := fun to he => ends_full he (by rw [hB.len, hlen]; omega) (fun j hj => by
            rw [hB.len] at hj
            rw [HT.out j hj]; simpa using hj)
          have HZ := Lib.hid hlen
          clear hcall hlen
          go_wp2_with fail
          refine HC.out.mono ?_
          rintro e w3 ⟨g3, c3, to, rfl, hB3, hE3, hb3⟩
          have hbr3 := hbr.trans (hb3.mono hbr.size)
          have hbr13 := hbr1.trans (hb3.mono (by have := hB.lt; omega))
          have hz3 := hb3.size
          have hzr : w1.heap.size < wr.heap.size := hB.lt.2
          have HTO := Lib.hid (HFL.out to hE3)
          clear f0 f1 f2 f3 f4 f5 hE3
          go_wp2_with fail
          refine (last_any _ _ _ _ _ to hB3 (by omega)).mono ?_
          rintro e w4 ⟨⟨r, rfl, hr⟩, rfl⟩
          obtain ⟨⟨f0, f1, f2, f3, f4, f5⟩, hT3, _⟩ := HBX.out w4 hbr13
          have ⟨t0, t1⟩ := hT3.cells
          have ⟨u0, u1⟩ := hT3.frees
          rcases hr with ⟨rfl, hno⟩ | ⟨jl, rfl, hjl, _⟩
          · have HFI : Hid (FindIs t s.data.toList false 0 0) := ⟨fun _ => ⟨rfl, rfl, rfl⟩, fun _ => ⟨rfl, rfl, fun a b m => by
              have h1 := (HTO.out b).2 ⟨a, m⟩
              rw [hno b] at h1; cases h1⟩⟩
            go_wp2_with fail
            have hW := (hbr3.setCell (p := ⟨w.heap.size + 1, 0, none⟩) (Nat.le_succ _) (.int .i64 0)).setCell (p := ⟨w.heap.size + 1, 1, none⟩) (Nat.le_succ _) (.int .i64 0)
            have hT4 := (hT3.set0 (.int .i64 0)).set1 (.int .i64 0)
            generalize ((w4.setCell ⟨w.heap.size + 1, 0, none⟩ (.int .i64 0)).setCell ⟨w.heap.size + 1, 1, none⟩ (.int .i64 0)) = WF at *
            obtain ⟨s0, s1⟩ := hT4.cells
            exact bodyPost_ret (v := .tuple #[spanV 0 0, .bool false, .int .i64 0]) (by simp [results, Try.results57, go_sem, s0, s1, spanV]) rfl (HP.out false 0 0 WF HFI.out hW)
          · clear t0 t1 u0 u1 hT3 f0 f1 f2 f3 f4 f5
            have HSOME : Hid (∃ a b, M s.data.toList t a b) := by
              obtain ⟨i0, m0⟩ := (HTO.out jl).1 hjl
              exact ⟨i0, jl, m0⟩
            have i0 : ¬ ((jl : Int) < 0) := by omega
            go_wp2_with fail
            clear i0
            obtain ⟨wo, rfl⟩ : ∃ wo : World, wo = w4 := ⟨_, rfl⟩
            go_loopw [45] (fun i wr => FindRel k s.data.toList t w1 w i wr) (fun i _ => k - (intOf i).toNat)
            case atStart => exact ⟨0, Nat.zero_le _, rfl, (fun a b h => absurd h (by omega)), hbr13, hbr3⟩
            case round =>
              obtain ⟨q, hq, rfl, HNO, hbq1, hbq⟩ := hrel
              by_cases hlt2 : q < k
              · have hzq : w.heap.size + 1 + 1 ≤ wr.heap.size := Nat.le_trans hz1 hbq1.size
                go_wp2_with (at_make; refine wpList_make_bz rfl _ _ rfl _ k wr.heap.size (by omega) rfl rfl rfl (by omega) ?_; intro w5 hO5 hb5 hz5; have c1 := hO5.cell hlt2; have c2 := hO5.free q; rw [tt_rep] at c1; obtain ⟨⟨f0, f1, f2, f3, f4, f5⟩, hT5, hbw5⟩ := HBX.out w5 (hbq1.trans (hb5.mono hzq)))
                have hS := hO5.set q true
                have hbw6 := hbw5.setCell (p := ⟨wr.heap.size, q, none⟩) hbq.size (.bool true)
                have hb16 := (hbq1.trans (hb5.mono hzq)).setCell (p := ⟨wr.heap.size, q, none⟩) hzq (.bool true)
                have hz6 : wr.heap.size < (w5.setCell ⟨wr.heap.size, q, none⟩ (.bool true)).heap.size := hS.lt.2
                generalize w5.setCell ⟨wr.heap.size, q, none⟩ (.bool true) = w6 at *
                refine (HE.out _ _ _ _ _ hbw6 hS).mono ?_
                rintro e w7 ⟨g7, c7, to7, rfl, hB7, hE7, hb7⟩
                have HT7 := Lib.hid (ends_from hlt2 hE7)
                have hb17 := hb16.trans (hb7.mono (by omega))
                clear f0 f1 f2 f3 f4 f5 hE7 c1 c2 hT5
                go_wp2_with fail
                refine (last_any _ _ _ _ _ to7 hB7 (by omega)).mono ?_
                rintro e w8 ⟨⟨r, rfl, hr⟩, rfl⟩
                obtain ⟨_, hT8, hbw8⟩ := HBX.out w8 hb17
                rcases hr with ⟨rfl, hno⟩ | ⟨jm, rfl, hjm, hmx⟩
                · have HNO2 : Hid (∀ a b, a < q + 1 → ¬ M s.data.toList t a b) := fun a b ha m => by
                    by_cases e : a = q
                    · subst e
                      have h1 := (HT7.out b).2 m
                      rw [hno b] at h1; cases h1
                    · exact HNO.out a b (by omega) m
                  clear hno
                  go_wp2_with fail
                  go_roundw
                  case rel => exact ⟨q + 1, by omega, by go_num, HNO2, hb17, hbw8⟩
                  case measure => simp [intOf] <;> omega
                · have HFI : Hid (FindIs t s.data.toList true q jm) := ⟨fun e => absurd (by rw [HZ.out]; exact HERR.out) e, fun _ => ⟨(HT7.out jm).1 hjm, fun a b m => by
                    by_cases c1 : q < a
                    · exact .inl c1
                    · have c2 : ¬ a < q := fun h => HNO.out a b h m
                      obtain rfl : a = q := by omega
                      refine .inr ⟨rfl, ?_⟩
                      have h1 := (HT7.out b).2 m
                      by_cases c3 : jm < b
                      · rw [hmx b c3] at h1; cases h1
                      · omega⟩⟩
                  have ⟨t0, t1⟩ := hT8.cells
                  have ⟨u0, u1⟩ := hT8.frees
                  have i0 : 0 ≤ (jm : Int) := by omega
                  clear hmx hjm
                  go_wp2_with fail
                  have hW := (hbw8.setCell (p := ⟨w.heap.size + 1, 0, none⟩) (Nat.le_succ _) (.int .i64 (q : Int))).setCell (p := ⟨w.heap.size + 1, 1, none⟩) (Nat.le_succ _) (.int .i64 (jm : Int))
                  have hT9 := (hT8.set0 (.int .i64 (q : Int))).set1 (.int .i64 (jm : Int))
                  generalize ((w8.setCell ⟨w.heap.size + 1, 0, none⟩ (.int .i64 (q : Int))).setCell ⟨w.heap.size + 1, 1, none⟩ (.int .i64 (jm : Int))) = WF at *
                  obtain ⟨s0, s1⟩ := hT9.cells
                  exact bodyPost_ret (v := .tuple #[spanV (q : Nat) (jm : Nat), .bool true, .int .i64 0]) (by simp [results, Try.results57, go_sem, s0, s1, spanV]) rfl (HP.out true q jm WF HFI.out hW)
              · obtain rfl : q = k := by omega
                have HX : Hid False := by
                  obtain ⟨a, b, m⟩ := HSOME.out
                  have := m.le
                  exact HNO.out a b (by have := HZ.out; omega) m
                exact absurd HX.out (fun h => h)
    · have HERR : Hid (errF t s.size = 2) := by unfold Hid errF; rw [if_neg (by simpa using hc), if_pos (by omega)]
      have HFI : Hid (FindIs t s.data.toList false 0 0) := ⟨fun _ => ⟨rfl, rfl, rfl⟩, fun e => absurd (by rw [hlen, HERR.out] at e; exact e) (by decide)⟩
      rw [HERR.out] at HP
      rw [hc] at HCK
      unfold argX at *
      clear hc h
      go_enter Try.func57, Try.ntmps57
      go_wp2_with fail
      refine (HCK.out _ (((Below.refl _ _).alloc (Nat.le_refl _) _).alloc (by simp) _)).mono ?_
      rintro e w1 ⟨rfl, hb1⟩
      obtain ⟨_, hT1, hbw1, hz1⟩ := find_boxes hb1
      have ⟨t0, t1⟩ := hT1.cells
      have ⟨u0, u1⟩ := hT1.frees
      clear hb1
      go_wp2_with fail
      have hW := (hbw1.setCell (p := ⟨w.heap.size + 1, 0, none⟩) (Nat.le_succ _) (.int .i64 0)).setCell (p := ⟨w.heap.size + 1, 1, none⟩) (Nat.le_succ _) (.int .i64 0)
      have hT9 := (hT1.set0 (.int .i64 0)).set1 (.int .i64 0)
      generalize ((w1.setCell ⟨w.heap.size + 1, 0, none⟩ (.int .i64 0)).setCell ⟨w.heap.size + 1, 1, none⟩ (.int .i64 0)) = WF at *
      obtain ⟨s0, s1⟩ := hT9.cells
      exact bodyPost_ret (v := .tuple #[spanV 0 0, .bool false, .int .i64 2]) (by simp [results, Try.results57, go_sem, s0, s1, spanV]) rfl (HP.out false 0 0 WF HFI.out hW)
  · have HERR : Hid (errF t s.size = checkT t) := by unfold Hid errF; rw [if_pos hc]
    have HFI : Hid (FindIs t s.data.toList false 0 0) := ⟨fun _ => ⟨rfl, rfl, rfl⟩, fun e => absurd (by rw [hlen, HERR.out] at e; exact e) hc⟩
    have qc : (checkT t != 0) = true := bne_iff_ne.2 hc
    rw [HERR.out] at HP
    generalize checkT t = ec at *
    unfold argX at *
    clear hc h
    go_enter Try.func57, Try.ntmps57
    go_wp2_with fail
    refine (HCK.out _ (((Below.refl _ _).alloc (Nat.le_refl _) _).alloc (by simp) _)).mono ?_
    rintro e w1 ⟨rfl, hb1⟩
    obtain ⟨_, hT1, hbw1, hz1⟩ := find_boxes hb1
    have ⟨t0, t1⟩ := hT1.cells
    have ⟨u0, u1⟩ := hT1.frees
    clear hb1
    go_wp2_with fail
    have hW := (hbw1.setCell (p := ⟨w.heap.size + 1, 0, none⟩) (Nat.le_succ _) (.int .i64 0)).setCell (p := ⟨w.heap.size + 1, 1, none⟩) (Nat.le_succ _) (.int .i64 0)
    have hT9 := (hT1.set0 (.int .i64 0)).set1 (.int .i64 0)
    generalize ((w1.setCell ⟨w.heap.size + 1, 0, none⟩ (.int .i64 0)).setCell ⟨w.heap.size + 1, 1, none⟩ (.int .i64 0)) = WF at *
    obtain ⟨s0, s1⟩ := hT9.cells
    exact bodyPost_ret (v := .tuple #[spanV 0 0, .bool false, .int .i64 ec]) (by simp [results, Try.results57, go_sem, s0, s1, spanV]) rfl (HP.out false 0 0 WF HFI.out hW)
end Go.Proofs.Yteinbjopclblaaa
