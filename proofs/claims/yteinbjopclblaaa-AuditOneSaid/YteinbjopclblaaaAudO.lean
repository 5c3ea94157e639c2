/- SameRecord at equal records, and the walk of AuditOne. -/
import Derived.Test.YteinbjopclblaaaAudD
import Derived.Test.YteinbjopclblaaaAudE
import Derived.Test.YteinbjopclblaaaFCuts
import Derived.Test.YteinbjopclblaaaSlI
namespace Go.Proofs.Yteinbjopclblaaa
open Go.RowKit

set_option maxRecDepth 100000 in
set_option maxHeartbeats 1600000 in
theorem SameRecord_yes (r : Rec) (A A2 : Option Addr) (c c2 : Nat) (w : World) (h : Sl w w.heap.size 1 A r.matched.length (r.matched.map (Value.int .i64))) (h2 : Sl w w.heap.size 1 A2 r.matched.length (r.matched.map (Value.int .i64))) (hl : r.matched.length ≤ 9223372036854775807) :
    Calls Try.prog 31 #[recV r A c, recV r A2 c2] w (BoolPost true w) := by
  obtain ⟨co, ou, b, sc, ms, tg⟩ := r
  unfold recV
  dsimp only at h h2 hl ⊢
  go_enter Try.func31, Try.ntmps31
  go_wp2_with fail
  refine (EqualI_any _ _ (((h.alloc (Nat.le_refl _) _).more (by simp)).alloc (Nat.le_refl _) _) (((h2.alloc (Nat.le_refl _) _).more (by simp)).alloc (Nat.le_refl _) _) hl hl).mono ?_
  rintro e w1 ⟨rfl, q, rfl⟩
  go_wp2_with fail
  go_ret
  exact ⟨rfl, below_drewN (((Below.refl _ _).alloc (Nat.le_refl _) _).alloc (by simp) _) q⟩

theorem dec_ne (l : List UInt8) (x : Int) (h : decL l = .inl x) : x ≠ 0 := by
  have e : ∀ (c o b s : Int) (m : List Int) (n : Int) (st : Nat × Int), endR l c o b s m n st = .inl x → x ≠ 0 := fun c o b s m n st hh => by
    unfold endR at hh
    by_cases h0 : st.2 ≠ 0
    · rw [if_pos h0] at hh; injection hh with hh; rw [← hh]; exact h0
    · rw [if_neg h0] at hh
      by_cases h1 : (l.length : Int) - st.1 < n
      · rw [if_pos h1] at hh; injection hh with hh; rw [← hh]; decide
      · rw [if_neg h1] at hh
        by_cases h2 : checkR ⟨c, o, b, s, m, (l.drop st.1).take n.toNat⟩ ≠ 0
        · rw [if_pos h2] at hh; injection hh with hh; rw [← hh]; exact h2
        · rw [if_neg h2] at hh; cases hh
  match l, h with
  | [], h => injection h with h; rw [← h]; decide
  | b :: t, h =>
    by_cases c : b ≠ 82
    · have : decL (b :: t) = .inl 4 := by show (if b ≠ 82 then _ else _) = _; rw [if_pos c]
      rw [this] at h; injection h with h; rw [← h]; decide
    · have : decL (b :: t) = r1 (b :: t) (1, 0) := by show (if b ≠ 82 then _ else _) = _; rw [if_neg c]
      rw [this] at h
      exact e _ _ _ _ _ _ _ h
theorem dec_r0 : decL (ByteArray.mk #[82, 0]).data.toList = .inl 7 := by kernel_rfl
/-- Before the end of what was read more is asked for. -/
theorem dec_more (l : List UInt8) (r : Rec) (n j : Nat) (h : decL l = .inr (r, n)) (hj : j < n) : decL (l.take j) = .inl 7 := by
  obtain ⟨h1, h2, h3⟩ := dec_good l r n h
  have hl : encL r ++ l.drop n = l := by rw [← h3, List.take_append_drop]
  have hn : (encL r).length = n := by rw [← h3, List.length_take]; omega
  have := dec_cut r (l.drop n) j h1
  rw [hl, if_neg (by omega)] at this
  exact this

set_option maxRecDepth 100000 in
set_option maxHeartbeats 1600000 in
theorem auditOne_any (s : ByteArray) (atp : Int) (w : World) (hs : s.size ≤ 140737488351232) (_ : -9223372036854775808 ≤ atp ∧ atp ≤ 9223372036854775807) :
    Calls Try.prog 8 #[.string s, .int .i64 atp] w fun e w' => e = .returned (.bool true) ∧ Below w.heap.size w w' := by
  go_enter Try.func8, Try.ntmps8
  go_wp2_with fail
  refine (Decode_any _ _ (by decide)).mono ?_
  rintro e w1 hp
  rw [dec_r0] at hp
  obtain ⟨rfl, hb1⟩ := hp
  simp only [zero6]
  go_wp2_with fail
  refine (Decode_any _ _ (by omega)).mono ?_
  rintro e w2 hp
  have hbx := (hb1.alloc hb1.size (.cells zero6 51))
  cases hd : decL s.data.toList with
  | inl x =>
    have hx := dec_ne _ _ hd
    have qx : (x != 0) = true := bne_iff_ne.2 hx
    rw [hd] at hp
    obtain ⟨rfl, hb2⟩ := hp
    have hb3 := hbx.trans (hb2.mono hbx.size)
    clear hd hx hb2 hbx hb1
    simp only [zero6]
    go_wp2_with fail
    refine (SameRecord_yes ⟨0, 0, 0, 0, [], []⟩ none none 0 0 _ (Sl.nil _ _ _ _) (Sl.nil _ _ _ _) (by decide)).mono ?_
    rintro e w3 ⟨rfl, hb4⟩
    go_wp2_with fail
    go_ret
    exact ⟨rfl, hb3.trans (below_new hb4 hb3.size)⟩
  | inr p =>
    obtain ⟨r, n⟩ := p
    obtain ⟨hck, hnl, htk⟩ := dec_good _ _ _ hd
    have hmore := fun j hj => dec_more _ _ _ j hd hj
    have hlen : s.data.toList.length = s.size := by simp
    have ok := check_ok hck
    have hel := enc_len r
    have hn25 : 25 ≤ n := by rw [← htk, List.length_take] at hel; omega
    have hER : Hid (encRes r = .tuple #[.string (bs (encL r)), .int .i64 0]) := by unfold Hid encRes; rw [if_pos hck]
    rw [hd] at hp
    obtain ⟨A, c, rfl, hsl, hb2⟩ := hp
    have hb3 := hbx.trans (hb2.mono hbx.size)
    have hml := ok.len
    rw [hlen] at hnl
    have HTK := Lib.hid htk
    have HMORE := Lib.hid hmore
    clear hd hb2 hbx hb1 hck hel htk hmore hlen
    have henc := fun W h => Encode_any r A c W h (by omega)
    rw [hER.out] at henc
    unfold recV at henc ⊢
    have HENC := Lib.hid henc
    clear henc ok
    go_wp2_with fail
    refine (HENC.out _ ((hsl.alloc (Nat.le_refl _) _).more (by simp))).mono ?_
    rintro e w3 ⟨rfl, hb4⟩
    have hb5 := hb3.trans (below_new hb4 hb3.size)
    clear hb4 hb3 hsl HENC
    go_wp2_with fail
    refine (Rest_any _ _ _ (by omega) (by omega)).mono ?_
    rintro e w5 ⟨j, rfl, hj, rfl⟩
    have i1 : 0 ≤ (j : Int) := by omega
    have i2 : (j : Int) ≤ (s.size : Int) := by omega
    have i3 : (n : Int) ≤ (s.size : Int) := by omega
    have i4 : 0 ≤ (n : Int) := by omega
    have HT : Hid ((s.extract 0 j).data.toList = s.data.toList.take j) := by unfold Hid; rw [Lib.extract_data]; simp
    have hMJ := HMORE.out j (by omega)
    rw [← HT.out] at hMJ
    have HMJ := Lib.hid hMJ
    have HQ : Hid (s.extract 0 n = bs (encL r)) := by
      unfold Hid
      have : (s.extract 0 n).data.toList = encL r := by rw [← HTK.out, Lib.extract_data]; simp
      rw [← this]; exact (bs_eta _).symm
    clear hMJ
    go_wp2_with fail
    refine (Decode_any _ _ (by rw [ByteArray.size_extract]; omega)).mono ?_
    rintro e w6 hp
    rw [HMJ.out] at hp
    obtain ⟨rfl, hb6⟩ := hp
    have hb7 := hb5.trans (hb6.mono hb5.size)
    clear hb6 hb5
    simp only [zero6]
    have qe : (encL r == (s.extract 0 n).toList) = true := by rw [beq_iff_eq, HQ.out, bs_list]
    go_wp2_with fail
    go_ret
    exact ⟨rfl, hb7.alloc hb7.size _⟩
end Go.Proofs.Yteinbjopclblaaa
