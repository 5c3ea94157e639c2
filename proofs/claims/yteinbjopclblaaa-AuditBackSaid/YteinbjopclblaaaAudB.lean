/- The walk of AuditBack. -/
import Derived.Test.YteinbjopclblaaaAudA
import Derived.Test.YteinbjopclblaaaRecO
namespace Go.Proofs.Yteinbjopclblaaa
open Go.RowKit

def okB (x : RC) : Bool := checkR x.re == 0
def zeroR : Rec := ⟨0, 0, 0, 0, [], []⟩
theorem enc_zero : encRes zeroR = .tuple #[.string (bs [82, 0, 0, 0, 0, 0, 0, 0, 0, 0, 0, 0, 0, 0, 0, 0, 0, 0, 0, 0, 0, 0, 0, 0, 0]), .int .i64 0] := by kernel_rfl
def BRel (B : Nat) (W : World) (l : List RC) (t v i : Value) (wr : World) : Prop :=
  ∃ (k : Nat) (rs : List RC), k ≤ l.length ∧ i = .int .i64 k ∧ t = .string (bs ((rs.map RC.re).flatMap encL)) ∧ OwnR wr B v rs ∧ Hid (rs = (l.take k).filter okB) ∧ rs.length ≤ k ∧ Below B W wr
theorem good_all {l rs : List RC} {k : Nat} (h : rs = (l.take k).filter okB) : ∀ r ∈ rs.map RC.re, checkR r = 0 := fun r hr => by
  obtain ⟨x, hx, rfl⟩ := List.mem_map.1 hr
  rw [h] at hx
  have := (List.mem_filter.1 hx).2
  unfold okB at this
  simpa using this
theorem good_len {l rs : List RC} {k : Nat} (h : rs = (l.take k).filter okB) : rs.length ≤ k := by
  rw [h]
  have h1 := List.length_filter_le okB (l.take k)
  have h2 : (l.take k).length ≤ k := List.length_take_le _ _
  omega

set_option maxRecDepth 100000 in
set_option maxHeartbeats 1600000 in
theorem auditBack_any (a : RArg) (w : World) {v : Value} (x : RecsArg w v a) (z : a.l.length * 72 ≤ 140737488351232) :
    Calls Try.prog 13 #[.slice a.A a.l.length a.c] w fun e w' => e = .returned (.bool true) ∧ Below w.heap.size w w' := by
  obtain ⟨_, hsl, hall⟩ := x
  obtain ⟨A, cc, l⟩ := a
  dsimp only at hsl hall z ⊢
  have HALL := Lib.hid hall
  clear hall
  generalize hn : l.length = n at *
  have HN := Lib.hid hn
  have henc := fun W => Encode_any zeroR none 0 W (Sl.nil _ _ _ _) (by decide)
  rw [enc_zero] at henc
  unfold recV zeroR at henc
  dsimp only at henc
  have HENC := Lib.hid henc
  clear hn henc
  go_enter Try.func13, Try.ntmps13
  go_wp2_with fail
  refine (HENC.out _).mono ?_
  rintro e w1 ⟨rfl, hb1⟩
  have hi : ∀ W : World, (Instr.index 9 (.string (bs [82, 0, 0, 0, 0, 0, 0, 0, 0, 0, 0, 0, 0, 0, 0, 0, 0, 0, 0, 0, 0, 0, 0, 0, 0])) (.int .i64 0)).run Try.prog W = .ok (.int .u8 82) W := fun _ => by kernel_rfl
  go_wp2_with fail
  clear hi
  go_loopw [5, 6, 32] (fun t v i wr => BRel w.heap.size w l t v i wr) (fun _ _ i _ => n - (intOf i).toNat)
  case atStart => exact ⟨0, [], Nat.zero_le _, rfl, rfl, OwnR.nil _ _, rfl, Nat.le_refl _, hb1⟩
  case round =>
    obtain ⟨k, rs, hk, rfl, rfl, hO, HRS, hrk, hb⟩ := hrel
    have hkn : k ≤ n := by rw [← HN.out]; exact hk
    have hfl := flat_enc_len _ (good_all HRS.out)
    rw [List.length_map] at hfl
    obtain ⟨T, hT⟩ : ∃ T, (rs.map RC.re).flatMap encL = T := ⟨_, rfl⟩
    rw [hT] at hfl ⊢
    have HT := Lib.hid hT
    have hzr : w.heap.size ≤ wr.heap.size := hb.size
    clear hT hk
    obtain ⟨A0, c0, rfl, _⟩ := hO.form
    by_cases hlt : k < n
    · have q1 : k < l.length := by rw [HN.out]; exact hlt
      obtain ⟨b, off, rfl, hbB, x0, x1, x2, x3, x4, x5⟩ := rows_at wr _ _ _ l (hsl.below hb) k q1
      have r1 := (HALL.out _ (List.getElem_mem q1)).keep hb hzr
      have HTK : Hid (l.take (k + 1) = l.take k ++ [l[k]]) := List.take_succ_eq_append_getElem q1
      have hq1 : b < wr.heap.size := by omega
      generalize l[k] = X at *
      obtain ⟨r, a1, d1⟩ := X
      obtain ⟨s1, s2⟩ := r1
      have henc := fun W h => Encode_any r a1 d1 W h s2
      have hchk := fun W h => Check_any r a1 d1 W h s2
      by_cases hck : checkR r = 0
      · have ok := check_ok hck
        have hel : (encL r).length ≤ 1185 := by have := enc_len r; have := ok.len; have := ok.tlen; omega
        have HF : Hid ((l.take (k + 1)).filter okB = rs ++ [RC.mk r a1 d1]) := by
          unfold Hid
          rw [HTK.out, List.filter_append, ← HRS.out]
          congr 1
          have : okB ⟨r, a1, d1⟩ = true := by unfold okB; simpa using hck
          simp [this]
        have HTE : Hid (((rs ++ [RC.mk r a1 d1]).map RC.re).flatMap encL = T ++ encL r) := by
          unfold Hid
          rw [List.map_append, List.flatMap_append, HT.out]
          simp
        have hER : encRes r = .tuple #[.string (bs (encL r)), .int .i64 0] := by unfold encRes; rw [if_pos hck]
        rw [hER] at henc
        rw [hck] at hchk
        obtain ⟨E, hE⟩ : ∃ E, encL r = E := ⟨_, rfl⟩
        rw [hE] at henc hel HTE
        obtain ⟨co, ou, by', sc, ms, tg⟩ := r
        unfold recV at henc hchk
        dsimp only [RC.ints] at henc hchk x0 x1 x2 x3 x4 x5 s1 s2
        have HENC2 := Lib.hid henc
        have HCHK := Lib.hid hchk
        have e1 : T.length + E.length ≤ 9223372036854775807 := by omega
        clear hE hER hck ok henc hchk
        go_wp2_with fail
        refine (HENC2.out _ ((s1.alloc (Nat.le_refl _) _).more (by simp))).mono ?_
        rintro e w2 ⟨rfl, hb2⟩

        have f0 := new_cell hb2 0
        have f1 := new_cell hb2 1
        have f2 := new_cell hb2 2
        have f3 := new_cell hb2 3
        have f4 := new_cell hb2 4
        have f5 := new_cell hb2 5
        have hbb := below_new hb2 (Nat.le_refl _)
        have hz2 : wr.heap.size < w2.heap.size := by have := hb2.size; simp at this; omega
        clear hb2 x0 x1 x2 x3 x4 x5
        go_wp2_with fail
        refine (HCHK.out _ ((s1.below hbb).more hbb.size)).mono ?_
        rintro e w3 ⟨rfl, hb3⟩
        have g0 := cell_kept hb3 f0
        have g1 := cell_kept hb3 f1
        have g2 := cell_kept hb3 f2
        have g3 := cell_kept hb3 f3
        have g4 := cell_kept hb3 f4
        have g5 := cell_kept hb3 f5
        have hbc := hbb.trans (hb3.mono hbb.size)
        have hO3 := hO.below hbc
        have hz3 := hb3.size
        clear f0 f1 f2 f3 f4 f5 hb3
        go_wp2_with (at_builtin; refine wpList_append_r rfl _ _ rfl w.heap.size _ rs rfl hO3 (by omega) _ ⟨⟨co, ou, by', sc, ms, tg⟩, a1, d1⟩ rfl w3.heap.size rfl 1 rfl (by omega) ?_; intro v' w4 hO4 hb4 hk4 hz4)
        go_roundw
        case rel => exact ⟨k + 1, _, by omega, by go_num, by rw [HTE.out], hO4, HF.out.symm, by rw [List.length_append]; exact Nat.succ_le_succ hrk, (hb.trans (hbc.mono hzr)).trans hb4⟩
        case measure => simp [intOf] <;> omega
      · have HF : Hid ((l.take (k + 1)).filter okB = rs) := by
          unfold Hid
          rw [HTK.out, List.filter_append, ← HRS.out]
          have : okB ⟨r, a1, d1⟩ = false := by unfold okB; simpa using hck
          simp [this]
        have hER : encRes r = .tuple #[.string (bs []), .int .i64 (checkR r)] := by unfold encRes; rw [if_neg hck]
        have qx : (checkR r == 0) = false := by simpa using hck
        rw [hER] at henc
        generalize checkR r = ex at *
        obtain ⟨co, ou, by', sc, ms, tg⟩ := r
        unfold recV at henc hchk
        dsimp only [RC.ints] at henc hchk x0 x1 x2 x3 x4 x5 s1 s2
        have HENC2 := Lib.hid henc
        have HCHK := Lib.hid hchk
        clear hER hck henc hchk
        go_wp2_with fail
        refine (HENC2.out _ ((s1.alloc (Nat.le_refl _) _).more (by simp))).mono ?_
        rintro e w2 ⟨rfl, hb2⟩
        have f0 := new_cell hb2 0
        have f1 := new_cell hb2 1
        have f2 := new_cell hb2 2
        have f3 := new_cell hb2 3
        have f4 := new_cell hb2 4
        have f5 := new_cell hb2 5
        have hbb := below_new hb2 (Nat.le_refl _)
        clear hb2 x0 x1 x2 x3 x4 x5
        go_wp2_with fail
        refine (HCHK.out _ ((s1.below hbb).more hbb.size)).mono ?_
        rintro e w3 ⟨rfl, hb3⟩
        have hbc := hbb.trans (hb3.mono hbb.size)
        have hO3 := hO.below hbc
        clear f0 f1 f2 f3 f4 f5 hb3
        go_wp2_with fail
        go_roundw
        case rel => exact ⟨k + 1, rs, by omega, by go_num, by rw [HT.out], hO3, HF.out.symm, by omega, hb.trans (hbc.mono hzr)⟩
        case measure => simp [intOf] <;> omega
    · obtain rfl : k = n := by omega
      have hin : ∀ x ∈ rs, RcIn w w.heap.size x := fun x hx => by
        rw [HRS.out] at hx
        exact HALL.out x (List.mem_of_mem_take (List.mem_filter.1 hx).1)
      have HIN := Lib.hid hin
      have hall := fun W => All_good (rs.map RC.re) W (good_all HRS.out) (by rw [List.length_map]; omega)
      rw [HT.out] at hall
      have HA := Lib.hid hall
      clear hall hin
      go_wp2_with fail
      refine (HA.out _).mono ?_
      rintro e w2 ⟨v2, ys, rfl, hO2, hys, hown, hb2⟩
      obtain ⟨A2, c2, rfl, hsl2⟩ := hO2.form
      obtain ⟨_, _, e0, hsl0⟩ := (hO.below hb2).form
      injection e0 with e01 e02 e03
      rw [← e01] at hsl0
      have hyl : ys.length = rs.length := by have := congrArg List.length hys; rwa [List.length_map, List.length_map] at this
      have hbw := hb.trans (hb2.mono hzr)
      have HEQ := Lib.hid (EqualF_yes ys rs A2 A0 c2 c0 w2 hsl2 hsl0 hys (fun x hx => (hown x hx).rcIn) (fun x hx => (HIN.out x hx).keep hbw hbw.size) (by omega))
      clear e01 e02 e03 hyl hys
      go_wp2_with fail
      refine HEQ.out.mono ?_
      rintro e w3 ⟨rfl, hb3⟩
      go_wp2_with fail
      go_ret
      exact ⟨rfl, hbw.trans (hb3.mono hbw.size)⟩
end Go.Proofs.Yteinbjopclblaaa
