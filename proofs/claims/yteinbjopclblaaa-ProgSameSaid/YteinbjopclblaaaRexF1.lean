/- The walk of the closure of RexFirst: is a piece matched as a whole? -/
import Derived.Test.YteinbjopclblaaaRexL1
namespace Go.Proofs.Yteinbjopclblaaa
open Go.RowKit

theorem run_span_in (a b c d : Int) (w : World) : (Op.equalIn 10000 66 (spanV a b) (spanV c d)).run Try.prog w = .ok (sameSp a b c d) w := by
  unfold spanV
  rw [run_equalIn_agg w 9999 66 _ _ (by kernel_rfl) (by kernel_rfl)]
  have hf : (Try.prog.fieldsOf 66).toList.map (fun f => (f.name, f.type, f.offset)) = [("From", 3, 0), ("To", 3, 1)] := by kernel_rfl
  match hq : (Try.prog.fieldsOf 66).toList with
  | [f0, f1] =>
    rw [hq] at hf
    simp only [List.map_cons, List.map_nil, List.cons.injEq, Prod.mk.injEq, and_true] at hf
    obtain ⟨⟨n0, t0, o0⟩, n1, t1, o1⟩ := hf
    have hp : Try.prog.plainKey 3 = true := by kernel_rfl
    simp only [Op.eqFields, n0, n1, t0, t1, o0, o1, Sem.run_bind, Sem.run_ite]
    rw [if_pos (by decide)]
    rw [run_part_plain w hp (xs := #[.int .i64 a, .int .i64 b]) (off := 0) (v := .int .i64 a) rfl]
    simp only [Result.andThen_ok]
    rw [run_part_plain w hp (xs := #[.int .i64 c, .int .i64 d]) (off := 0) (v := .int .i64 c) rfl]
    simp only [Result.andThen_ok]
    rw [run_equalIn_int w 9998 3 .i64 .i64 a c Try.underlying3]
    simp only [Result.andThen_ok]
    unfold sameSp
    cases h1 : a == c with
    | false => simp
    | true =>
      rw [if_neg (by decide)]
      rw [run_part_plain w hp (xs := #[.int .i64 a, .int .i64 b]) (off := 1) (v := .int .i64 b) rfl]
      simp only [Result.andThen_ok]
      rw [run_part_plain w hp (xs := #[.int .i64 c, .int .i64 d]) (off := 1) (v := .int .i64 d) rfl]
      simp only [Result.andThen_ok]
      rw [run_equalIn_int w 9998 3 .i64 .i64 b d Try.underlying3]
      cases h2 : b == d <;> simp
  | [] => rw [hq] at hf; cases hf
  | [_] => rw [hq] at hf; simp at hf
  | _ :: _ :: _ :: _ => rw [hq] at hf; simp at hf
theorem run_span_eql (a b c d : Int) (w : World) : (binOp .eql 66 (spanV a b) (spanV c d)).run Try.prog w = .ok (.bool (sameSp a b c d)) w := by
  have h := run_span_in a b c d w
  unfold spanV at h ⊢
  rw [run_eql_struct, h]
  rfl
def WholeIs (s : List UInt8) (t : Tree) (a b : Nat) (w : World) (e : Ending) (w' : World) : Prop := ∃ r, e = .returned (.bool r) ∧ (r = true ↔ M s t a b) ∧ Below w.heap.size w w'

set_option maxRecDepth 100000 in
set_option maxHeartbeats 1600000 in
theorem whole_any (tr : Tree) (A : Option Addr) (c : Nat) (s : ByteArray) (gr gs fr to : Nat) (w : World) (hl : LT w w.heap.size tr (cellsX tr.kind tr.set A tr.kids.length c))
    (x0 : w.cell? ⟨gr, 0, none⟩ = some (.int .i64 tr.kind)) (x1 : w.cell? ⟨gr, 1, none⟩ = some (.int .u64 tr.set.a)) (x2 : w.cell? ⟨gr, 2, none⟩ = some (.int .u64 tr.set.b)) (x3 : w.cell? ⟨gr, 3, none⟩ = some (.int .u64 tr.set.c)) (x4 : w.cell? ⟨gr, 4, none⟩ = some (.int .u64 tr.set.d)) (x5 : w.cell? ⟨gr, 5, none⟩ = some (.slice A tr.kids.length c))
    (y0 : w.cell? ⟨gs, 0, none⟩ = some (.string s)) (hck : checkT (wholeT tr) = 0) (hsz : s.size ≤ 300) (h7 : asksT 7 tr = false) (h8 : asksT 8 tr = false) (hft : fr ≤ to) (hto : to ≤ s.size) :
    Calls Try.prog 39 #[.int .i64 (fr : Int), .int .i64 (to : Int), .pointer (some ⟨gr, 0, none⟩), .pointer (some ⟨gs, 0, none⟩)] w (WholeIs s.data.toList tr fr to w) := by
  have HR : Hid (∀ W, Below w.heap.size w W → LT W W.heap.size tr (cellsX tr.kind tr.set A tr.kids.length c)) := fun W hb => (hl.below hb).more hb.size
  have HBEG : Hid (∀ W, Below w.heap.size w W → Calls Try.prog 35 #[.int .i64 4, .agg #[.int .i64 7, .int .u64 0, .int .u64 0, .int .u64 0, .int .u64 0, .slice none 0 0], argX tr A c] W (TreePost (catT beginT tr) W)) := fun W hb => two_any 4 beginT tr none A 0 c W (by unfold beginT; rw [LT]; exact ⟨none, 0, rfl, zero_wf, LK.nil _ _ _⟩) (HR.out W hb)
  have hsn := fun a b c d W => run_span_eql a b c d W
  unfold argX at HBEG
  unfold spanV at hsn
  have HEND : Hid (∀ W0 W A c, LT W0 W0.heap.size (catT beginT tr) (cellsX (catT beginT tr).kind (catT beginT tr).set A (catT beginT tr).kids.length c) → Below W0.heap.size W0 W → Calls Try.prog 35 #[.int .i64 4, argX (catT beginT tr) A c, .agg #[.int .i64 8, .int .u64 0, .int .u64 0, .int .u64 0, .int .u64 0, .slice none 0 0]] W (TreePost (wholeT tr) W)) := fun W0 W A c h hb => two_any 4 (catT beginT tr) endT A none c 0 W ((h.below hb).more hb.size) (by unfold endT; rw [LT]; exact ⟨none, 0, rfl, zero_wf, LK.nil _ _ _⟩)
  have hlen : s.data.toList.length = s.size := by simp
  have hps : (s.extract fr to).size = to - fr := by rw [ByteArray.size_extract]; omega
  have hpl : (s.extract fr to).data.toList = (s.data.toList.take to).drop fr := by rw [Lib.extract_data, List.drop_take]
  have HFI : Hid (∀ is i j, FindIs (wholeT tr) (s.extract fr to).data.toList is i j → (is = true → i = 0 ∧ j = to - fr) ∧ (is = true ↔ M s.data.toList tr fr to)) := fun is i j hf => by
    have hpz : (s.extract fr to).data.toList.length = to - fr := (show (s.extract fr to).data.toList.length = (s.extract fr to).size from Array.length_toList).trans hps
    have he : errF (wholeT tr) (s.extract fr to).data.toList.length = 0 := by
      unfold errF; rw [if_neg (by rw [hck]; decide), if_neg (by rw [hpz]; omega)]
    have hw := whole_found (hf.2 he)
    rw [hpz] at hw
    refine ⟨hw.1, ?_⟩
    rw [hw.2, hpl, piece_iff fr to hft (by rw [hlen]; exact hto) h7 h8]
  have HFD : Hid (∀ W0 W A c, LT W0 W0.heap.size (wholeT tr) (cellsX (wholeT tr).kind (wholeT tr).set A (wholeT tr).kids.length c) → Below W0.heap.size W0 W → Calls Try.prog 34 #[argX (wholeT tr) A c, .string (s.extract fr to)] W (FoundPost (wholeT tr) (s.extract fr to) W)) := fun W0 W A c h hb => found_any (wholeT tr) A c (s.extract fr to) W ((h.below hb).more hb.size)
  have i1 : (0 : Int) ≤ (fr : Int) := by omega
  have i2 : (fr : Int) ≤ (to : Int) := by omega
  have i3 : (to : Int) ≤ (s.size : Int) := by omega
  have i4 : ((to : Int) - (fr : Int)) = ((to - fr : Nat) : Int) := by omega
  have I4 := Lib.hid i4
  have HS : Hid (∀ W, Below w.heap.size w W → W.cell? ⟨gr, 0, none⟩ = some (.int .i64 tr.kind) ∧ W.cell? ⟨gr, 1, none⟩ = some (.int .u64 tr.set.a) ∧ W.cell? ⟨gr, 2, none⟩ = some (.int .u64 tr.set.b) ∧ W.cell? ⟨gr, 3, none⟩ = some (.int .u64 tr.set.c) ∧ W.cell? ⟨gr, 4, none⟩ = some (.int .u64 tr.set.d) ∧ W.cell? ⟨gr, 5, none⟩ = some (.slice A tr.kids.length c) ∧ W.cell? ⟨gs, 0, none⟩ = some (.string s)) := fun W hb =>
    ⟨cell_kept hb x0, cell_kept hb x1, cell_kept hb x2, cell_kept hb x3, cell_kept hb x4, cell_kept hb x5, cell_kept hb y0⟩
  clear hl hlen hps hpl i4 h7 h8 hck
  go_enter Try.func39, Try.ntmps39
  go_wp2_with fail
  go_region_held3 (fun w' => w'.cell? ⟨gr, 0, none⟩ = some (.int .i64 tr.kind) ∧ w'.cell? ⟨gr, 1, none⟩ = some (.int .u64 tr.set.a) ∧ w'.cell? ⟨gr, 2, none⟩ = some (.int .u64 tr.set.b) ∧ w'.cell? ⟨gr, 3, none⟩ = some (.int .u64 tr.set.c) ∧ w'.cell? ⟨gr, 4, none⟩ = some (.int .u64 tr.set.d) ∧ w'.cell? ⟨gr, 5, none⟩ = some (.slice A tr.kids.length c) ∧ w'.cell? ⟨gs, 0, none⟩ = some (.string s))
    (first | go_keep | exact HS.out _ ((hb35.setCell (p := ⟨_, 0, none⟩) hG _).setCell (p := ⟨_, 1, none⟩) hG _) | exact HS.out _ (hb35.alloc hb35.size _) | exact HS.out _ (hb35) | exact HS.out _ (hb34.alloc hb34.size _) | exact HS.out _ (hb34) | exact HS.out _ (hb33.alloc hb33.size _) | exact HS.out _ (hb33) | exact HS.out _ (((Below.refl _ _).alloc (Nat.le_refl _) _).drew) | exact HS.out _ ((Below.refl _ _).drew.alloc (Nat.le_refl _) _) | exact HS.out _ ((Below.refl _ _).alloc (Nat.le_refl _) _))
    (first
      | (go_at_call 35; (with_reducible refine (HBEG.out _ ?_).mono ?_); (first | exact (Below.refl _ _).drew | exact ((Below.refl _ _).alloc (Nat.le_refl _) _).drew | exact (Below.refl _ _).drew.alloc (Nat.le_refl _) _); rintro e w3 ⟨A3, c3, rfl, hl3, hb3⟩; (first | (have hb33 : Below w.heap.size w w3 := undrew hb3) | (have hb33 : Below w.heap.size w w3 := below_new (undrew hb3) (Nat.le_refl _); have q0 : w3.cell? ⟨w.heap.size, 0, none⟩ = some (.int .i64 0) := new_cell (undrew hb3) 0; have q1 : w3.cell? ⟨w.heap.size, 1, none⟩ = some (.int .i64 0) := new_cell (undrew hb3) 1; have r0 : w3.frozen? ⟨w.heap.size, 0, none⟩ = false := new_free (undrew hb3) 0; have r1 : w3.frozen? ⟨w.heap.size, 1, none⟩ = false := new_free (undrew hb3) 1; have hG : w.heap.size ≤ w.heap.size := Nat.le_refl _)))
      | (go_at_call 35; (with_reducible refine (HEND.out w3 _ A3 c3 hl3 ?_).mono ?_); (first | exact Below.refl _ _ | exact (Below.refl _ _).alloc (Nat.le_refl _) _); rintro e w4 ⟨A4, c4, rfl, hl4, hb4⟩; (first | (have hb44 : Below w3.heap.size w3 w4 := hb4) | (have hb44 : Below w3.heap.size w3 w4 := below_new hb4 (Nat.le_refl _); have q0 : w4.cell? ⟨w3.heap.size, 0, none⟩ = some (.int .i64 0) := new_cell hb4 0; have q1 : w4.cell? ⟨w3.heap.size, 1, none⟩ = some (.int .i64 0) := new_cell hb4 1; have r0 : w4.frozen? ⟨w3.heap.size, 0, none⟩ = false := new_free hb4 0; have r1 : w4.frozen? ⟨w3.heap.size, 1, none⟩ = false := new_free hb4 1; have hG : w.heap.size ≤ w3.heap.size := hb33.size)); (first | (have q2 := cell_kept hb44 q0; have q3 := cell_kept hb44 q1; have r2 := free_kept hb44 q0 r0; have r3 := free_kept hb44 q1 r1) | skip); have hb34 : Below w.heap.size w w4 := hb33.trans (hb44.mono hb33.size))
      | (go_at_call 34; (with_reducible refine (HFD.out w4 _ A4 c4 hl4 ?_).mono ?_); (first | exact Below.refl _ _ | exact (Below.refl _ _).alloc (Nat.le_refl _) _); rintro e w5 ⟨is, i, j, rfl, hf5, hb5⟩; (first | (have hb45 : Below w4.heap.size w4 w5 := hb5) | (have hb45 : Below w4.heap.size w4 w5 := below_new hb5 (Nat.le_refl _); have q6 : w5.cell? ⟨w4.heap.size, 0, none⟩ = some (.int .i64 0) := new_cell hb5 0; have q7 : w5.cell? ⟨w4.heap.size, 1, none⟩ = some (.int .i64 0) := new_cell hb5 1; have r6 : w5.frozen? ⟨w4.heap.size, 0, none⟩ = false := new_free hb5 0; have r7 : w5.frozen? ⟨w4.heap.size, 1, none⟩ = false := new_free hb5 1; have hG : w.heap.size ≤ w4.heap.size := hb34.size)); (first | (have q4 := cell_kept hb45 q2; have q5 := cell_kept hb45 q3; have r4 := free_kept hb45 q2 r2; have r5 := free_kept hb45 q3 r3) | (have q4 := cell_kept hb45 q0; have q5 := cell_kept hb45 q1; have r4 := free_kept hb45 q0 r0; have r5 := free_kept hb45 q1 r1) | skip); have hb35 : Below w.heap.size w w5 := hb34.trans (hb45.mono hb34.size); unfold spanV))
  all_goals
    have hfi := Lib.hid (HFI.out is i j hf5)
    clear hf5
    cases is with
    | true =>
      have hij := hfi.out.1 rfl
      have qs : sameSp (i : Int) (j : Int) 0 ((to : Int) - (fr : Int)) = true := by rw [hij.1, hij.2, I4.out]; exact same_span _ _
      clear hij
      go_wp2_with fail
      go_ret
      refine ⟨true, rfl, ⟨fun _ => hfi.out.2.1 trivial, fun _ => rfl⟩, ?_⟩
      first | exact hb35.alloc hb35.size _ | exact (hb35.setCell (p := ⟨_, 0, none⟩) hG _).setCell (p := ⟨_, 1, none⟩) hG _
    | false =>
      go_wp2_with fail
      go_ret
      refine ⟨false, rfl, hfi.out.2, ?_⟩
      first | exact hb35.alloc hb35.size _ | exact (hb35.setCell (p := ⟨_, 0, none⟩) hG _).setCell (p := ⟨_, 1, none⟩) hG _
end Go.Proofs.Yteinbjopclblaaa
