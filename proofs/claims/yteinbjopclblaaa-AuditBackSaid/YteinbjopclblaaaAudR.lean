/- The walk of audit's reader. -/
import Derived.Test.YteinbjopclblaaaAudL
import Derived.Test.YteinbjopclblaaaMem2
import Derived.Deep.RegionHeld3
import Derived.Deep.QuietTactic
import Derived.BigQuiet
import Derived.Deep.DrawnRows
import Derived.Deep.DeepCutAuto
import Derived.Deep.RegionWith
import Derived.Lib.Strings
namespace Go.Proofs.Yteinbjopclblaaa
open Go.RowKit

/-- The reader's block. -/
def AR (w : World) (g : Nat) (s : ByteArray) (a e : Int) : Prop := w.heap[g]? = some (.cells #[.string s, .int .i64 a, .int .i64 e] 107 (0, 0))
theorem AR.lt {w : World} {g : Nat} {s : ByteArray} {a e : Int} (h : AR w g s a e) : g < w.heap.size := by
  rcases Nat.lt_or_ge g w.heap.size with hlt | hge
  · exact hlt
  · unfold AR at h; rw [Array.getElem?_eq_none hge] at h; cases h
theorem AR.c0 {w : World} {g : Nat} {s : ByteArray} {a e : Int} (h : AR w g s a e) : w.cell? ⟨g, 0, none⟩ = some (.string s) := cell_of_row w g 0 _ _ (0, 0) h
theorem AR.c1 {w : World} {g : Nat} {s : ByteArray} {a e : Int} (h : AR w g s a e) : w.cell? ⟨g, 1, none⟩ = some (.int .i64 a) := cell_of_row w g 1 _ _ (0, 0) h
theorem AR.c2 {w : World} {g : Nat} {s : ByteArray} {a e : Int} (h : AR w g s a e) : w.cell? ⟨g, 2, none⟩ = some (.int .i64 e) := cell_of_row w g 2 _ _ (0, 0) h
theorem AR.free {w : World} {g : Nat} {s : ByteArray} {a e : Int} (h : AR w g s a e) (j : Nat) : w.frozen? ⟨g, j, none⟩ = false := by
  unfold AR at h
  simp [World.frozen?, h]
theorem AR.set1 {w : World} {g : Nat} {s : ByteArray} {a e : Int} (h : AR w g s a e) (a' : Int) : AR (w.setCell ⟨g, 1, none⟩ (.int .i64 a')) g s a' e := by
  unfold AR at h ⊢
  simp [World.setCell, Array.getElem?_modify, h]
theorem AR.set2 {w : World} {g : Nat} {s : ByteArray} {a e : Int} (h : AR w g s a e) (e' : Int) : AR (w.setCell ⟨g, 2, none⟩ (.int .i64 e')) g s a e' := by
  unfold AR at h ⊢
  simp [World.setCell, Array.getElem?_modify, h]
theorem AR.below {w w' : World} {g : Nat} {s : ByteArray} {a e : Int} (h : AR w g s a e) (hb : Below w.heap.size w w') : AR w' g s a e := (hb.block g h.lt).trans h

/-- What a reading of four bytes leaves: block g alone may have turned. -/
def RdPost (w : World) (g : Nat) (s : ByteArray) (r : Int × Nat × Int) (e : Ending) (w' : World) : Prop :=
  e = .returned (.int .i64 r.1) ∧ AR w' g s (r.2.1 : Int) r.2.2 ∧ w.grownBy w' (some g)

def RdCut (W : World) (l : List UInt8) (s41 s42 s43 : Value) (wx : World) : Prop :=
  ∃ c : Nat, s41 = .slice (some ⟨W.heap.size, 0, none⟩) 4 c ∧ s42 = .int .i64 4 ∧ s43 = .int .i64 0 ∧ BytesAt wx W.heap.size l ∧ Below W.heap.size W wx

theorem be4_snoc (l : List UInt8) (k : Nat) (h : k < l.length) : be4 (l.take (k + 1)) = be4 (l.take k) * 256 + ((l[k]).toNat : Int) := by
  unfold be4
  rw [List.take_succ_eq_append_getElem h, List.foldl_append]
  rfl
theorem be4_app (l : List UInt8) (n : Int) : l.foldl (fun n b => n * 256 + (b.toNat : Int)) n < (n + 1) * 256 ^ l.length ∧ (0 ≤ n → 0 ≤ l.foldl (fun n b => n * 256 + (b.toNat : Int)) n) := by
  induction l generalizing n with
  | nil => simp; omega
  | cons b r ih =>
    have hb := b.toNat_lt
    obtain ⟨h1, h2⟩ := ih (n * 256 + (b.toNat : Int))
    rw [List.foldl_cons, List.length_cons, Int.pow_succ]
    refine ⟨Int.lt_of_lt_of_le h1 ?_, fun hn => h2 (by omega)⟩
    have hp : (0 : Int) ≤ 256 ^ r.length := Int.pow_nonneg (by decide)
    have : (n * 256 + (b.toNat : Int) + 1) ≤ (n + 1) * 256 := by omega
    calc (n * 256 + (b.toNat : Int) + 1) * 256 ^ r.length ≤ ((n + 1) * 256) * 256 ^ r.length := Int.mul_le_mul_of_nonneg_right this hp
      _ = (n + 1) * (256 ^ r.length * 256) := by rw [Int.mul_assoc, Int.mul_comm 256]
theorem be4_range (l : List UInt8) (k : Nat) (h : l.length = k) (hk : k < 4) : 0 ≤ be4 l ∧ be4 l < 16777216 := by
  have := be4_app l 0
  unfold be4
  refine ⟨this.2 (by omega), Int.lt_of_lt_of_le this.1 ?_⟩
  rw [h]
  match k, hk with
  | 0, _ => decide
  | 1, _ => decide
  | 2, _ => decide
  | 3, _ => decide
theorem or_byte (n : Int) (x : UInt8) (h0 : 0 ≤ n) (h1 : n < 16777216) : bits BinOp.or .i64 (n * 256) (x.toNat : Int) = n * 256 + (x.toNat : Int) := by
  obtain ⟨m, rfl⟩ := Int.eq_ofNat_of_zero_le h0
  have hx := x.toNat_lt
  have hm : m < 16777216 := by omega
  have e1 : (BitVec.ofInt 64 ((m : Int) * 256)).toNat = m * 256 := by
    rw [show ((m : Int) * 256) = ((m * 256 : Nat) : Int) by omega, BitVec.ofInt_natCast, BitVec.toNat_ofNat]; exact Nat.mod_eq_of_lt (by omega)
  have e2 : (BitVec.ofInt 64 ((x.toNat : Nat) : Int)).toNat = x.toNat := by
    rw [BitVec.ofInt_natCast, BitVec.toNat_ofNat]; exact Nat.mod_eq_of_lt (by omega)
  have e3 : m * 256 ||| x.toNat = m * 256 + x.toNat := by
    rw [show m * 256 = m <<< 8 by rw [Nat.shiftLeft_eq]]
    exact (Nat.shiftLeft_add_eq_or_of_lt (i := 8) hx m).symm
  show IntKind.i64.wrap ((BitVec.ofInt 64 ((m : Int) * 256) ||| BitVec.ofInt 64 ((x.toNat : Nat) : Int)).toNat : Int) = _
  rw [BitVec.toNat_or, e1, e2, e3, IntKind.wrap_i64]
  omega
def RdRel (l : List UInt8) (v i : Value) : Prop := ∃ k : Nat, k ≤ 4 ∧ i = .int .i64 k ∧ v = .int .i64 (be4 (l.take k))

set_option maxRecDepth 100000 in
set_option maxHeartbeats 1600000 in
theorem read_any (w : World) (g : Nat) (s : ByteArray) (a : Nat) (e most : Int) (h : AR w g s (a : Int) e) (ha : a ≤ s.size) (hs : s.size ≤ 4611686018427387904) :
    Calls Try.prog 68 #[.pointer (some ⟨g, 0, none⟩), .int .i64 most] w (RdPost w g s (fourR s.data.toList (a, e) most)) := by
  have c0 := h.c0
  have c1 := h.c1
  have c2 := h.c2
  have hlen : s.data.toList.length = s.size := by simp
  by_cases he : e ≠ 0
  · have HF := Lib.hid (four_stuck s.data.toList a e most he)
    have qe : (e != 0) = true := bne_iff_ne.2 he
    clear he
    go_enter Try.func68, Try.ntmps68
    go_wp2_with fail
    go_ret
    unfold RdPost
    rw [HF.out]
    exact ⟨rfl, h, World.grownBy.refl w _⟩
  · have he := Classical.not_not.1 he
    subst he
    by_cases hlt : (s.size : Int) - (a : Int) < 4
    · have HF : Hid (fourR s.data.toList (a, 0) most = (0, a, 7)) := by unfold Hid fourR; rw [if_neg (by simp), if_pos (by rw [hlen]; exact hlt)]
      have i1 : IntKind.i64.wrap ((s.size : Int) - (a : Int)) = (s.size : Int) - (a : Int) := IntWalk.i64_in _ (by omega)
      clear hlen
      go_enter Try.func68, Try.ntmps68
      go_wp2_with fail
      go_quiet (fail)
      have h2 : AR (w.drewN nq) g s a 0 := h
      have hg2 := only_drewN (World.grownBy.refl w (some g)) nq
      generalize w.drewN nq = W2 at *
      have d2 := h2.c2
      have f2 := h2.free 2
      clear c0 c1 c2
      go_wp2_with fail
      go_ret
      unfold RdPost
      rw [HF.out]
      exact ⟨rfl, h2.set2 7, only_setCell hg2 2 _⟩
    · have HF : Hid (fourR s.data.toList (a, 0) most = if most < be4 ((s.data.toList.drop a).take 4) then (0, a + 4, 4) else (be4 ((s.data.toList.drop a).take 4), a + 4, 0)) := by unfold Hid fourR; rw [if_neg (by simp), if_neg (by rw [hlen]; exact hlt)]
      have i1 : IntKind.i64.wrap ((s.size : Int) - (a : Int)) = (s.size : Int) - (a : Int) := IntWalk.i64_in _ (by omega)
      have d1 : decide ((s.size : Int) - (a : Int) < 4) = false := decide_eq_false hlt
      have ha4 : a + 4 ≤ s.size := by omega
      have i2 : IntKind.i64.wrap ((a : Int) + 4) = (a : Int) + 4 := IntWalk.i64_in _ (by omega)
      have i3 : (a : Int) ≤ (a : Int) + 4 := by omega
      have i4 : (a : Int) + 4 ≤ (s.size : Int) := by omega
      have i5 : 0 ≤ (a : Int) := by omega
      have i6 : 0 ≤ (a : Int) + 4 := by omega
      have i7 : ((a : Int) + 4).toNat = a + 4 := by omega
      have hx : (s.extract a (a + 4)).data.toList = (s.data.toList.drop a).take 4 := by rw [Lib.extract_data]; simp
      have hxs : (s.extract a (a + 4)).size = 4 := by rw [ByteArray.size_extract]; omega
      have hcv := fun (W : World) => run_bytes_of_string (P := Try.prog) W 9 92 5 (s.extract a (a + 4)) Try.underlying9 Try.underlying92 Try.underlying5
      have HX := Lib.hid hx
      have HXS := Lib.hid hxs
      clear hlen hlt hx hxs
      go_enter Try.func68, Try.ntmps68
      go_wp2_with fail
      go_quiet (fail)
      have h2 : AR (w.drewN nq) g s a 0 := h
      have hg2 := only_drewN (World.grownBy.refl w (some g)) nq
      generalize w.drewN nq = W2 at *
      have e0 := h2.c0
      have e1 := h2.c1
      clear c0 c1 c2
      go_wp2_with fail
      go_cut [41, 42, 43] (fun s41 s42 s43 wx => RdCut W2 (s.extract a (a + 4)).data.toList s41 s42 s43 wx)
      case first =>
        go_region_with (fail)
        all_goals (go_wp2_with fail; go_meet)
        all_goals exact ⟨_, rfl, rfl, rfl, bytes_new _ _ _ (by rw [HXS.out]; exact grownCap_ge _ _ _ _) _, ((Below.refl _ _).alloc (Nat.le_refl _) _).drew.drew⟩
      case rest =>
        obtain ⟨c, rfl, rfl, rfl, hby, hbl⟩ := hcut
        have hL4 : (s.extract a (a + 4)).data.toList.length = 4 := HXS.out
        rw [HX.out] at hby hL4
        obtain ⟨L, hL⟩ : ∃ L, (s.data.toList.drop a).take 4 = L := ⟨_, rfl⟩
        rw [hL] at hby hL4 HF
        have hg3 := only_below hg2 hbl
        have h3 := h2.below hbl
        have HL := Lib.hid hL4
        clear hL hL4 HX HXS h2 hg2
        have hgl := hby.1
        have HBY := Lib.hid hby
        clear hby e0 e1 hbl
        have HG3 := Lib.hid hg3
        have H3 := Lib.hid h3
        clear hg3 h3 hcv
        go_wp2_with fail
        go_loop [5, 43] (fun v i => RdRel L v i) (fun _ i => 4 - (intOf i).toNat)
        case atStart => exact ⟨0, Nat.zero_le _, rfl, rfl⟩
        case round =>
          obtain ⟨k, hk, rfl, rfl⟩ := hrel
          by_cases hlt : k < 4
          · have hkl : k < L.length := by rw [HL.out]; exact hlt
            have hcell := HBY.out.cell hkl
            have hbk := (L[k]).toNat_lt
            have hrng := be4_range (L.take k) k (by rw [List.length_take]; omega) (by omega)
            have HSN := Lib.hid (be4_snoc L k hkl)
            generalize be4 (L.take k) = n at *
            generalize L[k] = x at *
            go_wp2_with fail
            go_round
            case rel => exact ⟨k + 1, by omega, by go_num, by rw [HSN.out, or_byte n x hrng.1 hrng.2]⟩
            case measure => simp [intOf] <;> omega
          · have hk4 : L.take k = L := List.take_of_length_le (by rw [HL.out]; omega)
            rw [hk4]
            clear hk4
            have H3 := H3.out
            have f1 := H3.free 1
            have f2 := H3.free 2
            have c1 := H3.c1
            have c2 := H3.c2
            generalize be4 L = n at *
            by_cases hmost : most < n
            · have HF : Hid (fourR s.data.toList (a, 0) most = (0, a + 4, 4)) := by unfold Hid; rw [HF.out, if_pos hmost]
              go_wp2_with fail
              go_ret
              unfold RdPost
              rw [HF.out]
              exact ⟨rfl, (H3.set1 _).set2 4, only_setCell (only_setCell HG3.out 1 _) 2 _⟩
            · have HF : Hid (fourR s.data.toList (a, 0) most = (n, a + 4, 0)) := by unfold Hid; rw [HF.out, if_neg hmost]
              go_wp2_with fail
              go_ret
              unfold RdPost
              rw [HF.out]
              exact ⟨rfl, H3.set1 _, only_setCell HG3.out 1 _⟩
end Go.Proofs.Yteinbjopclblaaa
