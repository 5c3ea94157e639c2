/- The walk of args.Form. -/
import Derived.Test.YtedjidammcdkmaaDoorArgA
import Derived.Test.YtedjidammcdkmaaDoorCod
import Derived.Test.YtedjidammcdkmaaDoorShelf
namespace Go.Proofs.YtedjidammcdkmaaDoor
open Go.RowKit

def argP (x : List UInt8) : Pair := (bs (urlDecL (Lib.cut x [61]).1), bs (urlDecL (Lib.cut x [61]).2.1))
def accP (ps : List (List UInt8)) : List Pair := (ps.filter fun x => !x.isEmpty).map argP
def formP (l : List UInt8) : List Pair := accP (splL 38 l)
theorem formP_len (l : List UInt8) : (formP l).length ≤ l.length := by
  unfold formP accP
  rw [List.length_map]
  exact splL_some 38 l
theorem formP_append (s t : List UInt8) : formP (s ++ 38 :: t) = formP s ++ formP t := by
  unfold formP accP
  rw [splL_append, List.filter_append, List.map_append]
theorem accP_step (ps : List (List UInt8)) (k : Nat) (h : k < ps.length) : accP (ps.take (k + 1)) = accP (ps.take k) ++ (if ps[k].isEmpty then [] else [argP ps[k]]) := by
  unfold accP
  rw [List.take_succ_eq_append_getElem h, List.filter_append, List.map_append]
  congr 1
  cases ps[k] with
  | nil => rfl
  | cons b x => rfl
theorem accP_le (ps : List (List UInt8)) (k : Nat) : (accP (ps.take k)).length ≤ (accP ps).length := by
  unfold accP
  rw [List.length_map, List.length_map]
  exact ((List.take_sublist k ps).filter _).length_le
theorem accP_all (ps : List (List UInt8)) : accP (ps.take ps.length) = accP ps := by rw [List.take_length]

theorem below_undrewN {B n : Nat} {W w' : World} (hb : Below B (W.drewN n) w') : Below B W w' := ⟨hb.os, hb.tape, hb.output, hb.size, hb.block⟩
def FormRel (ps : List (List UInt8)) (most : Int) (w w1 : World) (v i : Value) (wr : World) : Prop :=
  ∃ k : Nat, k ≤ ps.length ∧ i = .int .i64 k ∧ OwnA wr (w.heap.size + 1) v (accP (ps.take k)) ∧ Hid ((accP (ps.take k)).length ≤ most.toNat) ∧ Below (w.heap.size + 1) w1 wr
def FormPost (l : List UInt8) (w : World) (e : Ending) (w' : World) : Prop :=
  ∃ v, e = .returned (.tuple #[v, .int .i64 0]) ∧ OwnA w' w.heap.size v (formP l) ∧ Below w.heap.size w w'
def FormPost2 (most : Int) (l : List UInt8) (w : World) (e : Ending) (w' : World) : Prop :=
  ((formP l).length ≤ most.toNat ∧ FormPost l w e w') ∨ (most.toNat < (formP l).length ∧ e = .returned (.tuple #[.slice none 0 0, .int .i64 2]) ∧ Below w.heap.size w w')

set_option maxRecDepth 100000 in
set_option maxHeartbeats 1600000 in
theorem Form_all (s : ByteArray) (most : Int) (w : World) (hlib : LibOk w) (hs : s.size ≤ 4194304) :
    Calls Tryd.prog 5 #[.string s, .int .i64 most] w (FormPost2 most s.data.toList w) := by
  obtain ⟨m0, hm0⟩ := hlib
  have hlp : 0 < w.heap.size := World.block_lt_of_cell? w _ hm0
  have hsp := Tryd.strings_Split s ⟨#[38]⟩ m0 w (by omega) hm0 (by decide)
  have hps := split_one 38 s
  have hpl := Lib.splitB_all ⟨#[38]⟩ (by decide) 0 _ s rfl
  generalize Lib.splitB ⟨#[38]⟩ 0 (Lib.countB s ⟨#[38]⟩) s = ps at hsp hps hpl
  generalize Lib.countB s ⟨#[38]⟩ = n at hsp hpl
  rw [← hpl] at hsp
  have HPS := Lib.hid hps
  have HSP := Lib.hid hsp
  clear hps hsp hpl
  go_enter Tryd.func5, Tryd.ntmps5
  go_wp2_with fail
  refine HSP.out.mono ?_
  rintro e w1 ⟨rfl, hw1⟩
  have hcl : ∀ W, Below (w.heap.size + 1) w1 W → ∀ j (h : j < ps.length), W.cell? ⟨w.heap.size, j, none⟩ = some (.string ps[j]) := fun W hb j h => by
    have hb' : Below (w.alloc (.cells (ps.map Value.string).toArray 9)).heap.size (w.alloc (.cells (ps.map Value.string).toArray 9)) W := by rw [← hw1]; rw [hw1]; rw [hw1] at hb; simpa using hb
    rw [new_cell hb' j]
    simp [h]
  have hz1 : w1.heap.size = w.heap.size + 1 := by rw [hw1]; simp
  have hbw1 : Below w.heap.size w w1 := by rw [hw1]; exact (Below.refl _ _).alloc (Nat.le_refl _) _
  have hlb : ∀ W, Below (w.heap.size + 1) w1 W → W.cell? ⟨0, 0, none⟩ = some (.int .i64 m0) := fun W hb => ((hbw1.trans (hb.mono (Nat.le_succ _))).cell (p := ⟨0, 0, none⟩) hlp).trans hm0
  have hpl : (splL 38 s.data.toList).length = ps.length := by rw [← HPS.out, List.length_map]
  have hsz : s.data.toList.length = s.size := by simp
  have hpn : ps.length ≤ 4194305 := by have := splL_len 38 s.data.toList; omega
  have HCL := Lib.hid hcl
  have HLB := Lib.hid hlb
  have HBW1 := Lib.hid hbw1
  have HPL := Lib.hid hpl
  have HSZ := Lib.hid hsz
  have hge1 : w.heap.size + 1 ≤ w1.heap.size := Nat.le_of_eq hz1.symm
  clear hcl hlb hbw1 hpl hsz hw1 hz1 HSP
  go_wp2_with fail
  go_loopw [6, 15] (fun v i wr => FormRel (splL 38 s.data.toList) most w w1 v i wr) (fun _ i _ => ps.length - (intOf i).toNat)
  case atStart => exact ⟨0, Nat.zero_le _, rfl, OwnA.nil _ _, Nat.zero_le _, Below.refl _ _⟩
  case round =>
    obtain ⟨k, hk, rfl, hO, hcnt, hB⟩ := hrel
    rw [HPL.out] at hk
    have hbase : w.heap.size + 1 ≤ wr.heap.size := Nat.le_trans hge1 hB.size
    have hle := accP_le (splL 38 s.data.toList) k
    have htot : (accP (splL 38 s.data.toList)).length ≤ 4194304 := by
      have := formP_len s.data.toList
      rw [HSZ.out] at this
      exact Nat.le_trans this hs
    obtain ⟨A, c, rfl, _⟩ := hO.form
    have HO := Lib.hid hO
    have HB := Lib.hid hB
    by_cases hlt : k < ps.length
    · have i7 : IntKind.i64.wrap ((k : Int) + 1) = (k : Int) + 1 := IntWalk.i64_in _ (by omega)
      have d1 : decide ((k : Int) < (ps.length : Int)) = true := by simp; omega
      have hc := HCL.out wr hB k hlt
      have HST := Lib.hid (accP_step (splL 38 s.data.toList) k (by rw [HPL.out]; exact hlt))
      have HX : Hid (ps[k].data.toList = (splL 38 s.data.toList)[k]'(by rw [HPL.out]; exact hlt)) := by
        unfold Hid
        have := HPS.out
        simp only [← this, List.getElem_map]
      have hxs : ps[k].size ≤ s.size := by
        have h1 := splL_piece 38 s.data.toList _ (List.getElem_mem (by rw [HPL.out]; exact hlt))
        rw [← HX.out] at h1
        rw [HSZ.out] at h1
        exact h1
      rw [← HX.out] at HST
      generalize ps[k] = x at hc HX HST hxs
      clear hO hB
      cases hx0 : x.data.toList.isEmpty with
      | true =>
        have qx : x.toList.isEmpty = true := by rw [Lib.toList_data]; exact hx0
        have HST2 : Hid (accP ((splL 38 s.data.toList).take (k + 1)) = accP ((splL 38 s.data.toList).take k)) := by unfold Hid; rw [HST.out, if_pos hx0, List.append_nil]
        clear hx0
        go_wp2_with fail
        exact ⟨⟨k + 1, by rw [HPL.out]; omega, rfl, by rw [HST2.out]; exact HO.out, by rw [HST2.out]; exact hcnt, HB.out⟩, by dsimp only [intOf]; omega⟩
      | false =>
        have qx : x.toList.isEmpty = false := by rw [Lib.toList_data]; exact hx0
        have HST2 : Hid (accP ((splL 38 s.data.toList).take (k + 1)) = accP ((splL 38 s.data.toList).take k) ++ [argP x.data.toList]) := by unfold Hid; rw [HST.out, if_neg (by rw [hx0]; decide)]
        have hle2 := accP_le (splL 38 s.data.toList) (k + 1)
        rw [HST2.out, List.length_append, List.length_singleton] at hle2
        by_cases hfull : most ≤ ((accP ((splL 38 s.data.toList).take k)).length : Int)
        · have d2 : decide (most ≤ ((accP ((splL 38 s.data.toList).take k)).length : Int)) = true := decide_eq_true hfull
          have HP : Hid (FormPost2 most s.data.toList w (.returned (.tuple #[.slice none 0 0, .int .i64 2])) wr) := .inr ⟨by show most.toNat < (accP (splL 38 s.data.toList)).length; omega, rfl, HBW1.out.trans (HB.out.mono (Nat.le_succ _))⟩
          clear hx0 hfull
          go_wp2_with fail
          exact bodyPost_ret (v := .tuple #[.slice none 0 0, .int .i64 2]) (by simp [results, Tryd.results5, go_sem]) rfl HP.out
        · have d2 : decide (most ≤ ((accP ((splL 38 s.data.toList).take k)).length : Int)) = false := decide_eq_false hfull
          have HCN : Hid ((accP ((splL 38 s.data.toList).take k)).length + 1 ≤ most.toNat) := by unfold Hid; omega
          clear hfull
          have hcut := Tryd.strings_Cut x ⟨#[61]⟩ m0 wr (by omega) (HLB.out wr HB.out)
          have hcl := cut_len x.data.toList [61]
          have hxl : x.data.toList.length = x.size := by simp
          have HCT := Lib.hid hcut
          have hb1 : (Lib.cut x.data.toList [61]).1.length ≤ 4194304 := by omega
          have hb2 : (Lib.cut x.data.toList [61]).2.1.length ≤ 4194304 := by omega
          have HB1 := Lib.hid hb1
          have HB2 := Lib.hid hb2
          clear hx0 hcut hcl hxl hb1 hb2
          go_wp2_with fail
          refine HCT.out.mono ?_
          rintro e w2 ⟨rfl, nq, rfl⟩
          go_wp2_with fail
          refine (UrlDecode_any (bs (Lib.cut x.data.toList [61]).1) (wr.drewN nq) (by rw [bs_size]; have := HB1.out; omega)).mono ?_
          rintro e w3 ⟨rfl, hb3⟩
          rw [bs_toList]
          go_wp2_with fail
          refine (UrlDecode_any (bs (Lib.cut x.data.toList [61]).2.1) w3 (by rw [bs_size]; have := HB2.out; omega)).mono ?_
          rintro e w4 ⟨rfl, hb4⟩
          rw [bs_toList]
          have hb34 : Below wr.heap.size wr w4 := below_undrewN (hb3.trans (hb4.mono hb3.size))
          have hO4 : OwnA w4 (w.heap.size + 1) (.slice A (accP ((splL 38 s.data.toList).take k)).length c) (accP ((splL 38 s.data.toList).take k)) := HO.out.below hb34
          have hz4 : w.heap.size + 1 ≤ w4.heap.size := Nat.le_trans hbase hb34.size
          have hB4 : Below (w.heap.size + 1) w1 w4 := HB.out.trans (hb34.mono hbase)
          clear hb3 hb4 hb34
          have hal : (accP ((splL 38 s.data.toList).take k)).length ≤ 4194304 := by
            omega
          go_wp2_with (at_builtin; refine wpList_append_a rfl (.tmp 31) (.tmp 37) rfl (w.heap.size + 1) (.slice A (accP ((splL 38 s.data.toList).take k)).length c) (accP ((splL 38 s.data.toList).take k)) rfl hO4 hz4 _ (argP x.data.toList) rfl w4.heap.size rfl 1 rfl hal ?_; intro v5 w5 hO5 hb5 hk5 hz5)
          exact ⟨⟨k + 1, by rw [HPL.out]; omega, rfl, by rw [HST2.out]; exact hO5, by rw [HST2.out, List.length_append]; exact HCN.out, hB4.trans hb5⟩, by dsimp only [intOf]; omega⟩
    · obtain rfl : k = ps.length := by omega
      have d1 : decide ((ps.length : Int) < (ps.length : Int)) = false := by simp
      have HE : Hid (accP ((splL 38 s.data.toList).take ps.length) = formP s.data.toList) := by unfold Hid; rw [← HPL.out, accP_all]; rfl
      clear hO hB
      go_wp2_with fail
      refine bodyPost_ret (v := .tuple #[_, .int .i64 0]) (by simp [results, Tryd.results5, go_sem]; rfl) rfl (.inl ⟨by rw [← HE.out]; exact hcnt.out, _, rfl, ?_, HBW1.out.trans (HB.out.mono (Nat.le_succ _))⟩)
      have := HO.out.low (Nat.le_succ w.heap.size)
      rw [HE.out] at this
      rw [HE.out]
      exact this
theorem Form_any (s : ByteArray) (most : Nat) (w : World) (hlib : LibOk w) (hs : s.size ≤ 4194304) (hm : (formP s.data.toList).length ≤ most) (_ : most ≤ 4194304) :
    Calls Tryd.prog 5 #[.string s, .int .i64 (most : Int)] w (FormPost s.data.toList w) :=
  (Form_all s most w hlib hs).mono fun e w' h => by
    rcases h with ⟨_, h⟩ | ⟨h, _⟩
    · exact h
    · exact absurd h (by rw [Int.toNat_natCast]; omega)
end Go.Proofs.YtedjidammcdkmaaDoor
