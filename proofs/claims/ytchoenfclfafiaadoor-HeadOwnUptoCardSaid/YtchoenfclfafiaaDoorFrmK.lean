/- The walk of frame.Chunks. -/
import Derived.Test.YtchoenfclfafiaaDoorFrmC
namespace Go.Proofs.YtchoenfclfafiaaDoor
open Go.RowKit

def ChsRel (w : World) (s : ByteArray) (m : Int) (wr : World) : Prop :=
  ∃ (k : Nat) (v : Value) (acc : List UInt8), k ≤ s.size ∧ acc.length ≤ k ∧ (acc.length : Int) ≤ m ∧ Rd wr w.heap.size w.heap.size s (k : Int) m v acc ∧ Below w.heap.size w wr ∧
    chunksL s.data.toList m = preT acc k (chunksL (s.data.toList.drop k) (m - acc.length))
theorem chunk_dc' {l : List UInt8} {room : Int} (h : (chunkR l room).e = 0) : 0 ≤ (chunkR l room).n ∧ (chunkR l room).n ≤ l.length := by
  obtain ⟨ds, d, r, o⟩ := chunk_ok h
  have e := chunk_eval ds d r room o.dig o.lo o.hi o.n o.room
  rw [← o.e] at e
  have h3 := (chunk_c h).2.2.1
  have h1 := (chunk_c h).1
  have h4 : (chunkR l room).d.length ≤ (chunkR l room).c := by rw [e]; show d.length ≤ ds.length + 2 + d.length + 2; omega
  omega
theorem chunk_dc {l : List UInt8} {room : Int} (h : (chunkR l room).e = 0) : (chunkR l room).d.length ≤ (chunkR l room).c := by
  obtain ⟨ds, d, r, o⟩ := chunk_ok h
  have e := chunk_eval ds d r room o.dig o.lo o.hi o.n o.room
  rw [← o.e] at e
  rw [e]
  show d.length ≤ ds.length + 2 + d.length + 2
  omega
theorem chunk_n0 (l : List UInt8) (room : Int) : (chunkR l room).n = 0 ∨ (0 ≤ (chunkR l room).n ∧ (chunkR l room).n ≤ room ∧ (chunkR l room).n ≤ l.length) := by
  rw [chunk_eq]
  by_cases c0 : (sizeR l).e ≠ 0
  · rw [if_pos c0]; exact .inl rfl
  · rw [if_neg c0]
    have hs := size_c (Classical.not_not.1 c0)
    by_cases c1 : room < (sizeR l).n
    · rw [if_pos c1]; exact .inl rfl
    · rw [if_neg c1]
      by_cases c2 : (l.length : Int) - (sizeR l).c < (sizeR l).n
      · rw [if_pos c2]; exact .inl rfl
      · rw [if_neg c2]; right; dsimp only; omega
/-- What is built up never passes 2^47 bytes: the text is no longer, or what is told is not. -/
def CapOk (s : ByteArray) (m : Int) : Prop := (s.size ≤ 140737488355328 ∨ ∃ t k, chunksL s.data.toList m = .inr (t, k) ∧ t.length ≤ 140737488355328) ∨ m ≤ 140737488355328
theorem cap_round {s : ByteArray} {m : Int} (h : CapOk s m) {k : Nat} {acc : List UInt8} (hk : k ≤ s.size) (hal : acc.length ≤ k) (ham : (acc.length : Int) ≤ m)
    (hc : chunksL s.data.toList m = preT acc k (chunksL (s.data.toList.drop k) (m - acc.length))) :
    (acc.length : Int) + (chunkR (s.data.toList.drop k) (m - acc.length)).n ≤ 140737488355328 := by
  have hl : (s.data.toList.drop k).length = s.size - k := by rw [List.length_drop, Array.length_toList]; rfl
  rcases h with (h | ⟨t, kk, ht, htl⟩) | h
  · by_cases he : (chunkR (s.data.toList.drop k) (m - acc.length)).e = 0
    · have h1 := chunk_dc' he
      rw [hl] at h1
      omega
    · rcases chunk_n0 (s.data.toList.drop k) (m - acc.length) with h0 | ⟨h0, h1, h2⟩
      · rw [h0]; omega
      · rw [hl] at h2; omega
  · rw [ht] at hc
    cases hr : chunksL (s.data.toList.drop k) (m - acc.length) with
    | inl e => rw [hr] at hc; cases hc
    | inr p =>
      obtain ⟨t2, k2⟩ := p
      rw [hr] at hc
      injection hc with hc
      injection hc with hc1 hc2
      have he : (chunkR (s.data.toList.drop k) (m - acc.length)).e = 0 := by
        refine Classical.byContradiction fun hn => ?_
        rw [chunksL_bad _ _ hn] at hr; cases hr
      have hd := (chunk_c he).2.2.1
      by_cases hn : (chunkR (s.data.toList.drop k) (m - acc.length)).n = 0
      · rw [hn]
        have : t.length = acc.length + t2.length := by rw [hc1, List.length_append]
        omega
      · rw [chunksL_more _ _ he hn] at hr
        cases hr3 : chunksL ((s.data.toList.drop k).drop (chunkR (s.data.toList.drop k) (m - acc.length)).c) (m - acc.length - (chunkR (s.data.toList.drop k) (m - acc.length)).n) with
        | inl e => rw [hr3] at hr; cases hr
        | inr p3 =>
          rw [hr3] at hr
          injection hr with hr
          injection hr with hr1 hr2
          have h1 : t.length = acc.length + t2.length := by rw [hc1, List.length_append]
          have h2 : t2.length = (chunkR (s.data.toList.drop k) (m - acc.length)).d.length + p3.1.length := by rw [← hr1, List.length_append]
          omega
  · rcases chunk_n0 (s.data.toList.drop k) (m - acc.length) with h0 | ⟨h0, h1, h2⟩
    · rw [h0]; omega
    · omega
theorem chunksR_text : ∀ (f : Nat) (l : List UInt8) (room : Int) (t : List UInt8) (k : Nat), chunksR f l room = .inr (t, k) → t.length ≤ k
  | 0, l, room, t, k, h => by unfold chunksR at h; cases h
  | f + 1, l, room, t, k, h => by
    unfold chunksR at h
    split at h
    · cases h
    · rename_i he
      have hd := chunk_dc (Classical.not_not.1 he)
      split at h
      · cases h; exact Nat.zero_le _
      · cases hr : chunksR f (l.drop (chunkR l room).c) (room - (chunkR l room).n) with
        | inl e' => rw [hr] at h; cases h
        | inr p =>
          obtain ⟨t2, k2⟩ := p
          rw [hr] at h
          have := chunksR_text f _ _ _ _ hr
          cases h
          rw [List.length_append]; omega
theorem chunksL_text {l : List UInt8} {room : Int} {t : List UInt8} {k : Nat} (h : chunksL l room = .inr (t, k)) : t.length ≤ l.length :=
  Nat.le_trans (chunksR_text _ _ _ _ _ h) (chunksL_range _ _ _ _ h).1
def toldV : Told → Value
  | .inl e => .tuple #[.string (bs []), .int .i64 0, .int .i64 e]
  | .inr (t, k) => .tuple #[.string (bs t), .int .i64 (k : Int), .int .i64 0]

set_option maxRecDepth 100000 in
set_option maxHeartbeats 1600000 in
theorem Chunks_any (w : World) (s : ByteArray) (m : Int) (hs : s.size ≤ 4611686018427387904) (hcap : CapOk s (max m 0)) (hm1 : m ≤ 9223372036854775807) :
    Calls Tryd.prog 74 #[.string s, .int .i64 m] w (ResPost (toldV (chunksL s.data.toList (max m 0))) w) := by
  have hcap := Lib.hid hcap
  have hm0 : 0 ≤ max m 0 := by omega
  have hm2 : max m 0 ≤ 9223372036854775807 := by omega
  go_enter Tryd.func74, Tryd.ntmps74
  go_wp2_with fail
  go_loopw [] (fun wr => ChsRel w s (max m 0) wr) (fun wr => s.size - atOf w.heap.size wr)
  case atStart =>
    refine ⟨0, .slice none 0 0, [], Nat.zero_le _, Nat.le_refl _, hm0, ⟨heap_alloc_new w _, OwnB.nil _ _, Nat.le_refl _⟩, (Below.refl _ _).alloc (Nat.le_refl _) _, ?_⟩
    cases h : chunksL s.data.toList (max m 0) with
    | inl e => simp [h, preT]
    | inr p => simp [h, preT]
  case round =>
    obtain ⟨k, v, acc, hk, hal, ham, hr, hbl, hc⟩ := hrel
    have hch := chunk_any wr w.heap.size w.heap.size s k (max m 0) v acc hr hs hk hbl.size hm0 hm2 hal (cap_round hcap.out hk hal ham hc)
    have hat := hr.atOf
    have HC := Lib.hid hc
    clear hc
    obtain ⟨P, hP⟩ : ∃ P, chunkR (s.data.toList.drop k) (max m 0 - acc.length) = P := ⟨_, rfl⟩
    have hbad := chunksL_bad (s.data.toList.drop k) (max m 0 - acc.length)
    have hend := chunksL_end (s.data.toList.drop k) (max m 0 - acc.length)
    have hmore := chunksL_more (s.data.toList.drop k) (max m 0 - acc.length)
    have hcc := fun h => chunk_c (l := s.data.toList.drop k) (room := max m 0 - acc.length) h
    have hdc := fun h => chunk_dc (l := s.data.toList.drop k) (room := max m 0 - acc.length) h
    rw [hP] at hch hbad hend hmore hcc hdc
    clear hP hr
    obtain ⟨n, e, c, d⟩ := P
    dsimp only at hbad hend hmore hcc hdc
    unfold ChunkPost at hch
    dsimp only at hch
    by_cases he : e ≠ 0
    · have qe : (e != 0) = true := bne_iff_ne.2 he
      have HF := Lib.hid (hbad he)
      clear hbad hend hmore hcc he hdc
      go_wp2_with (go_at_call 90; refine hch.mono ?_; rintro e1 w1 ⟨rfl, ⟨v', hr1⟩, hb1⟩)
      go_ret3
      exact ⟨by rw [HC.out, HF.out]; rfl, hbl.trans hb1⟩
    · have he := Classical.not_not.1 he
      subst he
      have ⟨c1, c2, c3, c4⟩ := hcc rfl
      have c5 := hdc rfl
      rw [List.length_drop, Array.length_toList] at c1
      have c1 : c ≤ s.size - k := c1
      by_cases hn : n = 0
      · have HF := Lib.hid (hend rfl hn)
        have hd0 : d = [] := List.eq_nil_of_length_eq_zero (by omega)
        subst hd0
        have qn : (n == 0) = true := beq_iff_eq.2 hn
        rw [List.append_nil] at hch
        clear hbad hend hmore hcc hn c3 c4 c5 hdc
        go_wp2_with (go_at_call 90; refine hch.mono ?_; rintro e1 w1 ⟨rfl, ⟨v', hr1⟩, hb1⟩)
        have h1 := hr1.c1
        have h3 := hr1.c3
        have hcv := fun q => (hr1.drewN q).own.string
        have hcv0 := hr1.own.string
        go_quiet (fail)
        go_wp2_with fail
        go_ret3
        exact ⟨by rw [HC.out, HF.out]; simp [preT, toldV], hbl.trans (below_drewN hb1 nq)⟩
      · have HF := Lib.hid (hmore rfl hn)
        have qn : (n == 0) = false := beq_eq_false_iff_ne.2 hn
        clear hbad hend hmore hcc hdc
        go_wp2_with (go_at_call 90; refine hch.mono ?_; rintro e1 w1 ⟨rfl, ⟨v', hr1⟩, hb1⟩)
        exact ⟨⟨k + c, v', acc ++ d, by omega, by rw [List.length_append]; omega, by rw [List.length_append]; omega, hr1, hbl.trans hb1,
          by rw [HC.out, HF.out, preT_preT, List.drop_drop, List.length_append]; congr 2; omega⟩, by rw [hr1.atOf, hat]; omega⟩
end Go.Proofs.YtchoenfclfafiaaDoor
