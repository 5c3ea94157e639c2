/- The walk of frame's chunk. -/
import Derived.Test.YtchoenfclfafiaaDoorFrmS
namespace Go.Proofs.YtchoenfclfafiaaDoor
open Go.RowKit

section
variable {ops : Array Oper} {rest : List Oper} {o : Oper} {a : Act} {Q : Exit → Act → World → Prop} {w : World}
theorem wp_append_str {K : Act → World → Prop} (sl x : Operand) (ho : o.op = .call { callee := .builtin .append, args := #[sl, x], argTypes := #[107, 9] })
    (base : Nat) (v : Value) (l : List UInt8) (hs : a.eval sl = v) (hown : OwnB w base v l) (hbase : base ≤ w.heap.size) (t : ByteArray) (hx : a.eval x = .string t)
    (hbytes : l.length + t.size ≤ 140737488355328)
    (h : ∀ v' w', OwnB w' base v' (l ++ t.data.toList) → Below base w w' → (∀ g, g < w.heap.size → v.ownBlock ≠ some g → w'.heap[g]? = w.heap[g]?) → K (a.put o.dst v') w') :
    o.wp Tryd.prog a w K Q := by
  obtain ⟨i0, hi, hz0, hz1, hz2⟩ := info_parts info_u8
  obtain ⟨v', w', hr, h2, h3, h4⟩ := Lib.run_append_own_string (P := Tryd.prog) w base 107 9 o.type 5 i0 Tryd.underlying107 Tryd.underlying9 hi hz0 hz1 hz2 v l.length (l.map byteV) hown t
    (by unfold maxLen; omega) hbytes hbase
  have hl : (l ++ t.data.toList).length = l.length + t.size := by rw [List.length_append, Array.length_toList]; rfl
  have hk := h v' w' (by unfold OwnB; rw [hl, List.map_append]; exact h2) ((Below.refl _ _).grown h3 hbase (fun k hk => (hown.lt k hk).1)) (fun g hg hne => h3.block g hg (fun e => hne e.symm))
  unfold Oper.wp execOp
  simp only [ho, resolve, invoke, builtin, Sem.run_bind, Sem.run_pure, Result.andThen_ok, List.map_toArray, List.map_cons, List.map_nil, hs, hx, hr]
  exact hk
theorem wpList_append_str (hgd : o.guard = none) (sl x : Operand) (ho : o.op = .call { callee := .builtin .append, args := #[sl, x], argTypes := #[107, 9] })
    (base : Nat) (v : Value) (l : List UInt8) (hs : a.eval sl = v) (hown : OwnB w base v l) (hbase : base ≤ w.heap.size) (t : ByteArray) (hx : a.eval x = .string t)
    (hbytes : l.length + t.size ≤ 140737488355328)
    (h : ∀ v' w', OwnB w' base v' (l ++ t.data.toList) → Below base w w' → (∀ g, g < w.heap.size → v.ownBlock ≠ some g → w'.heap[g]? = w.heap[g]?) → wpList Tryd.prog ops Q rest (a.put o.dst v') w') :
    wpList Tryd.prog ops Q (o :: rest) a w :=
  wpList_plain hgd fun _ hK => wp_append_str sl x ho base v l hs hown hbase t hx hbytes fun v' w' h1 h2 h3 => hK _ _ (h v' w' h1 h2 h3)
theorem step_append_str {K : Act → World → Prop} {E : Prop} (hgd : o.guard = none) (sl x : Operand) (ho : o.op = .call { callee := .builtin .append, args := #[sl, x], argTypes := #[107, 9] })
    (base : Nat) (v : Value) (l : List UInt8) (hs : a.eval sl = v) (hown : OwnB w base v l) (hbase : base ≤ w.heap.size) (t : ByteArray) (hx : a.eval x = .string t)
    (hbytes : l.length + t.size ≤ 140737488355328)
    (h : ∀ v' w', OwnB w' base v' (l ++ t.data.toList) → Below base w w' → (∀ g, g < w.heap.size → v.ownBlock ≠ some g → w'.heap[g]? = w.heap[g]?) → K (a.put o.dst v') w') :
    if Region.wanted o (yielded ops a.tmps) = true then Oper.wp Tryd.prog o a w K Q else E := by
  have hw : Region.wanted o (yielded ops a.tmps) = true := by simp [Region.wanted, hgd]
  rw [if_pos hw]
  exact wp_append_str sl x ho base v l hs hown hbase t hx hbytes h
end

theorem size_c {l : List UInt8} (h : (sizeR l).e = 0) : (sizeR l).c ≤ l.length ∧ 0 ≤ (sizeR l).n ∧ (sizeR l).n < 268435456 := by
  obtain ⟨ds, r, o⟩ := size_ok h
  rw [o.e, size_eval ds r o.dig o.lo o.hi]
  refine ⟨?_, hexV_range ds⟩
  rw [List.length_append, List.length_cons, List.length_cons]; show ds.length + 2 ≤ _; omega
theorem OwnB.form {w : World} {B : Nat} {v : Value} {l : List UInt8} (h : OwnB w B v l) : ∃ A c L, v = .slice A L c := by
  rcases h.2 with ⟨h1, h2⟩ | ⟨g', cap, cur, h1, _⟩
  · exact ⟨none, 0, 0, h1⟩
  · exact ⟨_, _, _, h1⟩
theorem Rd.drew {w : World} {g B : Nat} {s : ByteArray} {a m : Int} {v : Value} {acc : List UInt8} (h : Rd w g B s a m v acc) : Rd w.drew g B s a m v acc := ⟨h.blk, h.own, h.hB⟩
theorem Rd.freeAfter {w w' : World} {g B : Nat} {s : ByteArray} {a m : Int} {v : Value} {acc : List UInt8} (h : Rd w g B s a m v acc) (hk : ∀ q, q < w.heap.size → v.ownBlock ≠ some q → w'.heap[q]? = w.heap[q]?) : w'.frozen? ⟨g, 3, none⟩ = false := by
  simp [World.frozen?, (hk g h.lt h.apart).trans h.blk]
theorem Rd.afters {w w' : World} {g B : Nat} {s : ByteArray} {a m : Int} {v : Value} {acc : List UInt8} (h : Rd w g B s a m v acc) (hk : ∀ q, q < w.heap.size → v.ownBlock ≠ some q → w'.heap[q]? = w.heap[q]?) : w'.cell? ⟨g, 1, none⟩ = some (.int .i64 a) ∧ w'.frozen? ⟨g, 1, none⟩ = false :=
  ⟨cell_of_row w' g 1 _ _ (0, 0) ((hk g h.lt h.apart).trans h.blk), by simp [World.frozen?, (hk g h.lt h.apart).trans h.blk]⟩
theorem Rd.cellAfter {w w' : World} {g B : Nat} {s : ByteArray} {a m : Int} {v : Value} {acc : List UInt8} (h : Rd w g B s a m v acc) (hk : ∀ q, q < w.heap.size → v.ownBlock ≠ some q → w'.heap[q]? = w.heap[q]?) : w'.cell? ⟨g, 3, none⟩ = some v :=
  cell_of_row w' g 3 _ _ (0, 0) ((hk g h.lt h.apart).trans h.blk)
theorem Rd.form {w : World} {g B : Nat} {s : ByteArray} {a m : Int} {v : Value} {acc : List UInt8} (h : Rd w g B s a m v acc) : ∃ A c, v = .slice A acc.length c := by
  rcases h.own.2 with ⟨h1, h2⟩ | ⟨g', cap, cur, h1, _⟩
  · exact ⟨none, 0, by rw [h1, h2]⟩
  · exact ⟨_, _, h1⟩
theorem Rd.grown {w w' : World} {g B : Nat} {s : ByteArray} {a m : Int} {v v' : Value} {acc l : List UInt8} (h : Rd w g B s a m v acc) (hown : OwnB w' B v' l) (hk : ∀ q, q < w.heap.size → v.ownBlock ≠ some q → w'.heap[q]? = w.heap[q]?) :
    Rd (w'.setCell ⟨g, 3, none⟩ v') g B s a m v' l := by
  have hb : w'.heap[g]? = some (.cells #[.string s, .int .i64 a, .int .i64 m, v] 141 (0, 0)) := (hk g h.lt h.apart).trans h.blk
  have hap : v'.ownBlock ≠ some g := by
    intro he
    obtain ⟨c, fz, hc⟩ := Lib.ownsRow_kind hown g he
    rw [hb] at hc
    injection hc with hc
    injection hc with _ ht
    exact absurd ht (by decide)
  refine ⟨?_, ownsRow_setCell_other hown hap _, h.hB⟩
  simp [World.setCell, Array.getElem?_modify, hb]

theorem chunk_eq (l : List UInt8) (room : Int) : chunkR l room = if (sizeR l).e ≠ 0 then ⟨0, (sizeR l).e, (sizeR l).c, []⟩
    else if room < (sizeR l).n then ⟨0, 6, (sizeR l).c, []⟩
    else if (l.length : Int) - (sizeR l).c < (sizeR l).n then ⟨0, 7, (sizeR l).c, []⟩
    else ⟨(sizeR l).n, (lineR (l.drop ((sizeR l).c + (sizeR l).n.toNat))).1, (sizeR l).c + (sizeR l).n.toNat + (lineR (l.drop ((sizeR l).c + (sizeR l).n.toNat))).2, (l.drop (sizeR l).c).take (sizeR l).n.toNat⟩ := rfl
def ChunkPost (w : World) (g B : Nat) (s : ByteArray) (k : Nat) (m : Int) (acc : List UInt8) (p : Piece) (e : Ending) (w' : World) : Prop :=
  e = .returned (.tuple #[.int .i64 p.n, .int .i64 p.e]) ∧ (∃ v', Rd w' g B s ((k + p.c : Nat) : Int) m v' (acc ++ p.d)) ∧ Below B w w'

set_option maxRecDepth 100000 in
set_option maxHeartbeats 6400000 in
theorem chunk_any (w : World) (g B : Nat) (s : ByteArray) (k : Nat) (m : Int) (v : Value) (acc : List UInt8) (h : Rd w g B s (k : Int) m v acc) (hs2 : s.size ≤ 4611686018427387904) (hk : k ≤ s.size) (hB : B ≤ w.heap.size)
    (hm0 : 0 ≤ m) (hm1 : m ≤ 9223372036854775807) (hal : acc.length ≤ k) (hcap : (acc.length : Int) + (chunkR (s.data.toList.drop k) (m - acc.length)).n ≤ 140737488355328) :
    Calls Tryd.prog 90 #[.pointer (some ⟨g, 0, none⟩)] w (ChunkPost w g B s k m acc (chunkR (s.data.toList.drop k) (m - acc.length))) := by
  have hcap := Lib.hid hcap
  have hs3 : s.size ≤ maxLen := by unfold maxLen; omega
  obtain ⟨A, cp, rfl⟩ := h.form
  have hdl : (s.data.toList.drop k).length = s.size - k := by rw [List.length_drop, Array.length_toList]; rfl
  have hsz := size_any w g B s k m _ acc h hs2 hk hB
  have HCH := Lib.hid (chunk_eq (s.data.toList.drop k) (m - acc.length))
  by_cases c0 : (sizeR (s.data.toList.drop k)).e ≠ 0
  · rw [if_pos c0] at HCH
    obtain ⟨n, hn⟩ : ∃ n, (sizeR (s.data.toList.drop k)).n = n := ⟨_, rfl⟩
    obtain ⟨e, he⟩ : ∃ e, (sizeR (s.data.toList.drop k)).e = e := ⟨_, rfl⟩
    have qe : (e != 0) = true := bne_iff_ne.2 (by rw [← he]; exact c0)
    unfold PiecePost at hsz
    rw [hn, he] at hsz
    have HE := Lib.hid he
    clear he hn c0 hdl
    go_enter Tryd.func90, Tryd.ntmps90
    go_wp2_with (go_at_call 104; refine hsz.mono ?_; rintro e1 w1 ⟨rfl, hr1, hbl1⟩)
    go_ret2
    unfold ChunkPost
    rw [HCH.out]
    exact ⟨by rw [HE.out]; rfl, ⟨_, by rw [List.append_nil]; exact hr1⟩, hbl1⟩
  · have he : (sizeR (s.data.toList.drop k)).e = 0 := Classical.not_not.1 c0
    rw [if_neg c0] at HCH
    have hcl := size_c he
    obtain ⟨n, hn⟩ : ∃ n, (sizeR (s.data.toList.drop k)).n = n := ⟨_, rfl⟩
    obtain ⟨c, hc⟩ : ∃ c, (sizeR (s.data.toList.drop k)).c = c := ⟨_, rfl⟩
    rw [hn, hc, hdl] at hcl
    obtain ⟨l1, l2, l3⟩ := hcl
    obtain ⟨n, rfl⟩ := Int.eq_ofNat_of_zero_le l2
    obtain ⟨p, hp⟩ : ∃ p, k + c = p := ⟨_, rfl⟩
    unfold PiecePost at hsz
    rw [hn, he, hc, hp] at hsz
    rw [hn, hc, hdl] at HCH
    have hps : p ≤ s.size := by omega
    have i4 : IntKind.i64.wrap (m - (acc.length : Int)) = m - (acc.length : Int) := IntWalk.i64_in _ (by omega)
    have i5 : IntKind.i64.wrap ((s.size : Int) - (p : Int)) = (s.size : Int) - (p : Int) := IntWalk.i64_in _ (by omega)
    clear hn hc he c0 hdl
    by_cases c1 : m - (acc.length : Int) < (n : Int)
    · rw [if_pos c1] at HCH
      go_enter Tryd.func90, Tryd.ntmps90
      go_wp2_with (go_at_call 104; refine hsz.mono ?_; rintro e1 w1 ⟨rfl, hr1, hbl1⟩)
      have h2 := hr1.c2
      have h3 := hr1.c3
      go_quiet (fail)
      go_wp2_with fail
      go_ret2
      unfold ChunkPost
      rw [HCH.out]
      exact ⟨rfl, ⟨_, by rw [List.append_nil]; exact (hr1.drewN nq).eq (by show (p : Int) = ((k + c : Nat) : Int); omega)⟩, below_drewN hbl1 nq⟩
    · rw [if_neg c1] at HCH
      have d1 : decide (m - (acc.length : Int) < (n : Int)) = false := decide_eq_false c1
      by_cases c2 : (s.size : Int) - (p : Int) < (n : Int)
      · rw [if_pos (by omega)] at HCH
        clear c1
        go_enter Tryd.func90, Tryd.ntmps90
        go_wp2_with (go_at_call 104; refine hsz.mono ?_; rintro e1 w1 ⟨rfl, hr1, hbl1⟩)
        have h2 := hr1.c2
        have h3 := hr1.c3
        go_quiet (fail)
        have hr2 := hr1.drewN nq
        have hbl2 := below_drewN hbl1 nq
        generalize w1.drewN nq = W2 at *
        clear h2 h3 hr1 hbl1
        have h0 := hr2.c0
        have h1 := hr2.c1
        go_wp2_with fail
        go_quiet (fail)
        go_wp2_with fail
        go_ret2
        unfold ChunkPost
        rw [HCH.out]
        exact ⟨rfl, ⟨_, by rw [List.append_nil]; exact (hr2.drewN nq).eq (by show (p : Int) = ((k + c : Nat) : Int); omega)⟩, below_drewN hbl2 nq⟩
      · rw [if_neg (by omega)] at HCH
        have d2 : decide ((s.size : Int) - (p : Int) < (n : Int)) = false := decide_eq_false c2
        have hpn : p + n ≤ s.size := by omega
        have HCH : Hid (chunkR (s.data.toList.drop k) (m - acc.length) = ⟨n, (lineR (s.data.toList.drop (p + n))).1, c + n + (lineR (s.data.toList.drop (p + n))).2, (s.extract p (p + n)).data.toList⟩) := by
          unfold Hid; rw [HCH.out, Int.toNat_natCast, List.drop_drop, List.drop_drop, Lib.extract_data, show k + (c + n) = p + n by omega, hp, show p + n - p = n by omega]
        have hc47 : acc.length + n ≤ 140737488355328 := by have q := hcap.out; rw [HCH.out] at q; dsimp only at q; omega
        have i6 : IntKind.i64.wrap ((p : Int) + (n : Int)) = (p : Int) + (n : Int) := IntWalk.i64_in _ (by omega)
        have i7 : (p : Int) ≤ (p : Int) + (n : Int) := by omega
        have i8 : (p : Int) + (n : Int) ≤ (s.size : Int) := by omega
        have i9 : 0 ≤ (p : Int) := by omega
        have i10 : 0 ≤ (p : Int) + (n : Int) := by omega
        have i11 : ((p : Int) + (n : Int)).toNat = p + n := by omega
        clear c1 c2
        go_enter Tryd.func90, Tryd.ntmps90
        go_wp2_with (go_at_call 104; refine hsz.mono ?_; rintro e1 w1 ⟨rfl, hr1, hbl1⟩)
        have h2 := hr1.c2
        have h3 := hr1.c3
        go_quiet (fail)
        have hr2 := hr1.drewN nq
        have hbl2 := below_drewN hbl1 nq
        generalize w1.drewN nq = W2 at *
        clear h2 h3 hr1 hbl1
        have h0 := hr2.c0
        have h1 := hr2.c1
        go_wp2_with fail
        go_quiet (fail)
        have hr3 := hr2.drewN nq
        have hbl3 := below_drewN hbl2 nq
        generalize W2.drewN nq = W3 at *
        clear h0 h1 hr2 hbl2
        have h0 := hr3.c0
        have h1 := hr3.c1
        have h3 := hr3.c3
        have hf := hr3.free 3
        have hap := hr3.apart
        have hB3 : B ≤ W3.heap.size := Nat.le_trans hB hbl3.size
        have hxs : (s.extract p (p + n)).size = n := by rw [ByteArray.size_extract]; omega
        go_wp2_with fail
        have hgB := hr3.hB
        go_region_law ((refine step_append_str rfl (.tmp 45) (.tmp 60) rfl B (.slice A acc.length cp) acc rfl (by exact hr3.own) (by exact hB3) (s.extract p (p + n)) rfl (by rw [hxs]; omega) ?_); intro v' w4 hown4 hb4 hk4; obtain ⟨A', cp', L', rfl⟩ := hown4.form; have hf4 := Rd.freeAfter hr3.drew hk4; have hc4 := Rd.cellAfter hr3.drew hk4; have ⟨hc6, hf6⟩ := Rd.afters hr3.drew hk4)
        all_goals
          go_wp2_with (go_at_call 105; refine (line_any _ g B s (p + n) m _ _ (((hr3.drew.grown hown4 hk4).at_ _).eq (by omega)) hs3 hpn (Nat.le_trans hB3 (by have := hb4.size; simp at this ⊢; omega))).mono ?_; rintro e w6 ⟨rfl, hr6, hbl6⟩)
          go_ret2
          unfold ChunkPost
          rw [HCH.out]
          exact ⟨rfl, ⟨_, hr6.eq (by show ((p + n + _ : Nat) : Int) = ((k + (c + n + _) : Nat) : Int); omega)⟩, (((hbl3.drew.trans hb4).setCell (p := ⟨g, 3, none⟩) hgB _).setCell (p := ⟨g, 1, none⟩) hgB _).trans hbl6⟩
end Go.Proofs.YtchoenfclfafiaaDoor
