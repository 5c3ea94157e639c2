/- Part 37 of the proof: lemmas and walks that the last texts use. -/
import Derived.Test.YtdkbfljhfhjofaaGreatDoorM07
import Derived.Test.YtdkbfljhfhjofaaGreatDoorM08
import Derived.Test.YtdkbfljhfhjofaaGreatDoorM09
import Derived.Test.YtdkbfljhfhjofaaGreatDoorM25
import Derived.Test.YtdkbfljhfhjofaaGreatDoorM27
import Derived.Test.YtdkbfljhfhjofaaGreatDoorM35
import Derived.Test.YtdkbfljhfhjofaaGreatDoorM36
import Derived.Shelf.GgClosure.Gives
namespace Go.Proofs.YtdkbfljhfhjofaaGreatDoor
open Go.RowKit
noncomputable def argC (op : Int) (s : ByteArray) : Int :=
  if op = 1 then (parseP s.data.toList).2.2 else if op = 2 then (mkC (piecesP s) : Nat) else if op = 7 ∨ op = 8 ∨ op = 9 then (if (numL 10 9 s.data.toList).isSome = true then 0 else 4)
  else if op = 10 then netsC s.data.toList else if op = 11 then (bytesR s.data.toList).2 else if op = 12 then (if s.data.toList = [] then 0 else 1) else if 200 < s.size then 2 else 0
def ArgPost (op : Int) (s : ByteArray) (w : World) (e : Ending) (w' : World) : Prop := e = .returned (.int .i64 (argC op s)) ∧ Below w.heap.size w w'
theorem parseP_check {s : List UInt8} (h : (parseP s).2.2 = 0) : checkT (parseP s).1 = 0 := by
  unfold parseP at h ⊢
  split at h
  · exact absurd h (by decide)
  · split at h
    · rename_i h1; exact absurd h h1
    · split at h
      · rename_i h1; exact absurd h h1
      · rename_i h0 h1 h2
        rw [if_neg h0, if_neg h1, if_neg h2]
        simpa using h2
set_option maxRecDepth 100000 in
set_option maxHeartbeats 1600000 in
theorem arg_rx (s : ByteArray) (w : World) (hs : s.size ≤ 1048576) : Calls Tryz.prog 49 #[.int .i64 1, .string s] w (ArgPost 1 s w) := by
  have hp := Parse_any s w (by unfold maxLen; omega)
  have HA : Hid (argC 1 s = (parseP s.data.toList).2.2) := Lib.hid (by unfold argC; rw [if_pos rfl])
  have HCK := Lib.hid (@parseP_check s.data.toList)
  unfold ArgPost
  rw [HA.out]
  generalize parseP s.data.toList = P at *
  obtain ⟨t, n, c⟩ := P
  dsimp only at *
  have HP := Lib.hid hp
  clear hp HA
  by_cases h0 : c = 0
  · subst h0
    have hc := HCK.out rfl
    go_enter Tryz.func49, Tryz.ntmps49
    go_wp2_with (go_at_call 89; apply Hid.out)
    unfold Hid
    refine HP.out.mono ?_
    rintro e w1 ⟨A, cc, rfl, hN, hb1⟩
    have hLT := LX.lt (fun _ hb => hb.2) _ _ hN
    have HM : Hid (∀ o, Calls Tryz.prog 90 #[argX t A cc] (w1.alloc o) (TMakePost t (w1.alloc o))) := fun o => Make_any t A cc _ ((hLT.below ((Below.refl _ _).alloc (Nat.le_refl _) o)).more (by simp))
    unfold argX at HM ⊢
    clear hLT hN
    dsimp only
    go_wp2_with fail
    refine (HM.out _).mono ?_
    rintro e w2 ⟨v, rfl, _, hl, hb2⟩
    obtain ⟨l, hC, h160, hO⟩ := hl hc
    obtain ⟨A2, c2, rfl, hS⟩ := hO.form
    have HPC := Lib.hid (PCheck_any _ A2 c2 w2 hS (code_ok hC) (by simp) (by rw [List.length_append, List.length_singleton]; omega))
    have hb3 := below_new hb2 (Nat.le_refl _)
    generalize (l ++ [(⟨6, 0, 0, .zero⟩ : Ins)]).length = nl at *
    clear hb2 hS hO hl
    go_wp2_with fail
    refine HPC.out.mono ?_
    rintro e w3 ⟨rfl, hb4⟩
    have hbb := (hb1.trans (hb3.mono hb1.size)).trans (hb4.mono (Nat.le_trans hb1.size hb3.size))
    go_wp2_with fail
    go_ret
    exact ⟨rfl, hbb⟩
  · have hne : (c == 0) = false := beq_eq_false_iff_ne.2 h0
    go_enter Tryz.func49, Tryz.ntmps49
    go_wp2_with (go_at_call 89; apply Hid.out)
    unfold Hid
    refine HP.out.mono ?_
    rintro e w1 ⟨A, cc, rfl, hN, hb1⟩
    unfold argX
    dsimp only
    go_wp2_with fail
    go_ret
    exact ⟨rfl, hb1.alloc hb1.size _⟩
set_option maxRecDepth 100000 in
set_option maxHeartbeats 1600000 in
theorem arg_phr (s : ByteArray) (w : World) (hs : s.size ≤ 1048576) (hlib : LibOk w) : Calls Tryz.prog 49 #[.int .i64 2, .string s] w (ArgPost 2 s w) := by
  obtain ⟨m0, hm0⟩ := hlib
  have hsp := Tryz.strings_Split s ⟨#[124]⟩ m0 w (by omega) hm0 (by decide)
  have hpl := pieces_len s
  rw [← hpl] at hsp
  have HA : Hid (argC 2 s = (mkC (piecesP s) : Nat)) := Lib.hid (by unfold argC; rw [if_neg (by decide), if_pos rfl])
  unfold ArgPost
  rw [HA.out]
  change Calls _ _ _ _ fun e w' => e = .returned (.slice (some ⟨w.heap.size, 0, none⟩) (piecesP s).length (piecesP s).length) ∧ w' = w.alloc (.cells ((piecesP s).map Value.string).toArray 9) at hsp
  generalize piecesP s = ps at *
  have HSP := Lib.hid hsp
  have hlit : OwnG rowStr (w.alloc (.cells (ps.map Value.string).toArray 9)) w.heap.size (.slice (some ⟨w.heap.size, 0, none⟩) ps.length ps.length) ps := by
    have := World.ownsRow_lit (base := w.heap.size) (e := 9) (size := 1) w (ps.map Value.string).toArray ps.length (Nat.le_refl _) (by have := Lib.countB_le ⟨#[124]⟩ (by decide) s.size s (Nat.le_refl _); unfold maxLen; omega) (by simp)
    unfold OwnG
    rw [rowStr_flat]
    exact this
  have hsl : Sl (w.alloc (.cells (ps.map Value.string).toArray 9)) (w.alloc (.cells (ps.map Value.string).toArray 9)).heap.size 1 (some ⟨w.heap.size, 0, none⟩) ps.length (ps.map Value.string) := by
    obtain ⟨A5, c5, e5, h5⟩ := hlit.form
    injection e5 with e6 _ _
    subst e6
    rw [rowStr_flat] at h5
    exact h5
  have HM := Lib.hid (make_code (some ⟨w.heap.size, 0, none⟩) ps.length ps.length ps _ rfl hsl)
  have hbw : Below w.heap.size w (w.alloc (.cells (ps.map Value.string).toArray 9)) := (Below.refl _ _).alloc (Nat.le_refl _) _
  clear hsp hpl hlit hsl HA
  go_enter Tryz.func49, Tryz.ntmps49
  go_wp2_with (go_at_call 24; apply Hid.out)
  unfold Hid
  refine HSP.out.mono ?_
  rintro e w1 ⟨rfl, rfl⟩
  go_wp2_with (go_at_call 92; apply Hid.out)
  unfold Hid
  refine HM.out.mono ?_
  rintro e w2 ⟨hb2, v, rfl⟩
  have hbb := hbw.trans (hb2.mono hbw.size)
  go_wp2_with fail
  go_ret
  exact ⟨rfl, hbb⟩
set_option maxRecDepth 100000 in
set_option maxHeartbeats 1600000 in
theorem arg_num (op : Int) (hop : op = 7 ∨ op = 8 ∨ op = 9) (s : ByteArray) (w : World) (hs : s.size ≤ 1048576) : Calls Tryz.prog 49 #[.int .i64 op, .string s] w (ArgPost op s w) := by
  have HD := Lib.hid (Dec_any s w (by unfold maxLen; omega))
  have HA : Hid (argC op s = if (numL 10 9 s.data.toList).isSome = true then 0 else 4) := Lib.hid (by unfold argC; rw [if_neg (by omega), if_neg (by omega), if_pos hop])
  unfold ArgPost
  rw [HA.out]
  clear HA
  cases hn : numL 10 9 s.data.toList with
  | none =>
    rw [hn] at HD
    rcases hop with rfl | rfl | rfl
    all_goals
      go_enter Tryz.func49, Tryz.ntmps49
      go_wp2_with (go_at_call 54; refine HD.out.mono ?_; rintro e w1 ⟨rfl, rfl⟩; unfold numRes)
      go_ret
      exact ⟨rfl, Below.refl _ _⟩
  | some k =>
    rw [hn] at HD
    rcases hop with rfl | rfl | rfl
    all_goals
      go_enter Tryz.func49, Tryz.ntmps49
      go_wp2_with (go_at_call 54; refine HD.out.mono ?_; rintro e w1 ⟨rfl, rfl⟩; unfold numRes)
      go_ret
      exact ⟨rfl, Below.refl _ _⟩
set_option maxRecDepth 100000 in
set_option maxHeartbeats 1600000 in
theorem arg_net (s : ByteArray) (w : World) (hs : s.size ≤ 1048576) (hlib : LibOk w) : Calls Tryz.prog 49 #[.int .i64 10, .string s] w (ArgPost 10 s w) := by
  have HN := Lib.hid (NList_any s w (by omega) hlib)
  have HA : Hid (argC 10 s = netsC s.data.toList) := Lib.hid (by unfold argC; rw [if_neg (by decide), if_neg (by decide), if_neg (by decide), if_pos rfl])
  unfold ArgPost
  rw [HA.out]
  unfold NListPost at HN
  generalize netsC s.data.toList = c at *
  clear HA hlib
  go_enter Tryz.func49, Tryz.ntmps49
  go_wp2_with (go_at_call 93; apply Hid.out)
  unfold Hid
  refine HN.out.mono ?_
  rintro e w1 ⟨v, rfl, _, _, hb⟩
  go_wp2_with fail
  go_ret
  exact ⟨rfl, hb⟩
set_option maxRecDepth 100000 in
set_option maxHeartbeats 1600000 in
theorem arg_range (s : ByteArray) (w : World) (hs : s.size ≤ 1048576) (hlib : LibOk w) : Calls Tryz.prog 49 #[.int .i64 11, .string s] w (ArgPost 11 s w) := by
  have HN := Lib.hid (Bytes_any s w hlib (by omega))
  have HA : Hid (argC 11 s = (bytesR s.data.toList).2) := Lib.hid (by unfold argC; rw [if_neg (by decide), if_neg (by decide), if_neg (by decide), if_neg (by decide), if_pos rfl])
  unfold ArgPost
  rw [HA.out]
  unfold BytesPost at HN
  generalize bytesR s.data.toList = c at *
  obtain ⟨F, c⟩ := c
  clear HA hlib
  go_enter Tryz.func49, Tryz.ntmps49
  go_wp2_with (go_at_call 94; apply Hid.out)
  unfold Hid
  refine HN.out.mono ?_
  rintro e w1 ⟨rfl, hb⟩
  unfold setA
  go_wp2_with fail
  go_ret
  exact ⟨rfl, hb⟩
set_option maxRecDepth 100000 in
set_option maxHeartbeats 1600000 in
theorem arg_none (s : ByteArray) (w : World) : Calls Tryz.prog 49 #[.int .i64 12, .string s] w (ArgPost 12 s w) := by
  have HA : Hid (argC 12 s = if s.data.toList = [] then 0 else 1) := Lib.hid (by unfold argC; rw [if_neg (by decide), if_neg (by decide), if_neg (by decide), if_neg (by decide), if_neg (by decide), if_pos rfl])
  unfold ArgPost
  rw [HA.out]
  clear HA
  by_cases h : s.data.toList = []
  · have q : s.toList.isEmpty = true := by rw [ByteArray.toList_eq, h]; rfl
    have q2 : (s.toList == []) = true := by rw [ByteArray.toList_eq, h]; rfl
    rw [if_pos h]
    go_enter Tryz.func49, Tryz.ntmps49
    go_wp2_with fail
    go_ret
    exact ⟨rfl, Below.refl _ _⟩
  · have q : s.toList.isEmpty = false := by rw [ByteArray.toList_eq]; cases hh : s.data.toList with | nil => exact absurd hh h | cons a r => rfl
    have q2 : (s.toList == []) = false := by rw [ByteArray.toList_eq]; exact beq_eq_false_iff_ne.2 h
    rw [if_neg h]
    go_enter Tryz.func49, Tryz.ntmps49
    go_wp2_with fail
    go_ret
    exact ⟨rfl, Below.refl _ _⟩
set_option maxRecDepth 100000 in
set_option maxHeartbeats 1600000 in
theorem arg_text (op : Int) (hop : op = 3 ∨ op = 4 ∨ op = 5 ∨ op = 6) (s : ByteArray) (w : World) : Calls Tryz.prog 49 #[.int .i64 op, .string s] w (ArgPost op s w) := by
  have HA : Hid (argC op s = if 200 < s.size then 2 else 0) := Lib.hid (by unfold argC; rw [if_neg (by omega), if_neg (by omega), if_neg (by omega), if_neg (by omega), if_neg (by omega), if_neg (by omega)])
  unfold ArgPost
  rw [HA.out]
  clear HA
  by_cases h : 200 < s.size
  · have d : decide ((200 : Int) < (s.size : Int)) = true := by simp; omega
    rw [if_pos h]
    rcases hop with rfl | rfl | rfl | rfl
    all_goals
      go_enter Tryz.func49, Tryz.ntmps49
      go_wp2_with fail
      go_ret
      exact ⟨rfl, Below.refl _ _⟩
  · have d : decide ((200 : Int) < (s.size : Int)) = false := by simp; omega
    rw [if_neg h]
    rcases hop with rfl | rfl | rfl | rfl
    all_goals
      go_enter Tryz.func49, Tryz.ntmps49
      go_wp2_with fail
      go_ret
      exact ⟨rfl, Below.refl _ _⟩
theorem arg_any (op : Int) (h1 : 1 ≤ op) (h2 : op ≤ 12) (s : ByteArray) (w : World) (hs : s.size ≤ 1048576) (hlib : LibOk w) : Calls Tryz.prog 49 #[.int .i64 op, .string s] w (ArgPost op s w) := by
  rcases (by omega : op = 1 ∨ op = 2 ∨ (op = 7 ∨ op = 8 ∨ op = 9) ∨ op = 10 ∨ op = 11 ∨ op = 12 ∨ (op = 3 ∨ op = 4 ∨ op = 5 ∨ op = 6)) with rfl | rfl | h | rfl | rfl | rfl | h
  · exact arg_rx s w hs
  · exact arg_phr s w hs hlib
  · exact arg_num op h s w hs
  · exact arg_net s w hs hlib
  · exact arg_range s w hs hlib
  · exact arg_none s w
  · exact arg_text op h s w
end Go.Proofs.YtdkbfljhfhjofaaGreatDoor
namespace Go.Proofs.YtdkbfljhfhjofaaGreatDoor
open Go.RowKit
set_option maxRecDepth 100000 in
set_option maxHeartbeats 1600000 in
theorem one_any (x : RuM) (w : World) (hin : RuIn w w.heap.size x) (hs : RuSmall x.r) (hlib : LibOk w) :
    Calls Tryz.prog 22 #[.agg (cellsRu x).toArray] w (CodePost (oneC argC x.r) w) := by
  have hv := fun W (hb : Below w.heap.size w W) => firstV_any 48 #[] (enters_of Tryz.func48 (by kernel_rfl) rfl) varC x.r.vars x.vA x.vc W ((hin.vars.below hb).more hb.size) hs.vars
    (fun W' v hv _ => variable_any v W' (by have := hs.names v hv; unfold maxLen; omega))
  have hp := fun W (hb : Below w.heap.size w W) => PCheckP_any x.r.pipe x.pA x.pc W ((hin.pipe.below hb).more hb.size) (by have := hs.pipe; omega)
  have ha : ∀ W, Below w.heap.size w W → 1 ≤ x.r.op → x.r.op ≤ 12 → Calls Tryz.prog 49 #[.int .i64 x.r.op, .string x.r.arg] W (CodePost (argC x.r.op x.r.arg) W) := fun W hb h1 h2 => arg_any x.r.op h1 h2 x.r.arg W hs.arg (hlib.below hb)
  have hc := fun W (hb : Below w.heap.size w W) => firstA_any 51 #[] (enters_of Tryz.func51 (by kernel_rfl) rfl) actC x.r.acts x.aA x.ac W ((hin.acts.below hb).more hb.size) hs.acts (fun W' a _ _ => act_any a W')
  have hdef : oneC argC x.r = if 8 < x.r.vars.length ∨ 6 < x.r.acts.length then 2 else if x.r.vars.length = 0 ∨ x.r.acts.length = 0 then 1 else if firstC varC x.r.vars ≠ 0 then firstC varC x.r.vars else
    if checkP x.r.pipe ≠ 0 then checkP x.r.pipe else if x.r.op < 1 ∨ 12 < x.r.op then 1 else if argC x.r.op x.r.arg ≠ 0 then argC x.r.op x.r.arg else firstC actC x.r.acts := rfl
  have hb0 : ∀ o, Below w.heap.size w (w.alloc o) := fun o => (Below.refl _ _).alloc (Nat.le_refl _) _
  generalize oneC argC x.r = res at *
  obtain ⟨⟨id, ph, vars, pipe, no, op, arg, acts, chain⟩, vA, vc, pA, pc, aA, ac⟩ := x
  unfold cellsRu
  dsimp only at *
  generalize vars.length = nv at *
  generalize acts.length = na at *
  generalize pipe.length = np at *
  generalize firstC varC vars = cv at *
  generalize checkP pipe = cp at *
  generalize argC op arg = ca at *
  generalize firstC actC acts = cc at *
  have HV := Lib.hid hv
  have HP := Lib.hid hp
  have HA := Lib.hid ha
  have HC := Lib.hid hc
  have HD := Lib.hid hdef
  have HB0 := Lib.hid hb0
  clear hv hp ha hc hin hs hlib hdef hb0
  unfold CodePost
  go_enter Tryz.func22, Tryz.ntmps22
  by_cases c1 : 8 < nv
  · have HR : Hid (res = 2) := Lib.hid (by rw [HD.out, if_pos (.inl c1)])
    have d1 : decide (8 < (nv : Int)) = true := by simp; omega
    go_wp2_with fail
    go_ret
    exact ⟨ret_int HR.out.symm, HB0.out _⟩
  have d1 : decide (8 < (nv : Int)) = false := by simp; omega
  by_cases c2 : 6 < na
  · have HR : Hid (res = 2) := Lib.hid (by rw [HD.out, if_pos (.inr c2)])
    have d2 : decide (6 < (na : Int)) = true := by simp; omega
    go_wp2_with fail
    go_ret
    exact ⟨ret_int HR.out.symm, HB0.out _⟩
  have d2 : decide (6 < (na : Int)) = false := by simp; omega
  by_cases c3 : nv = 0
  · have HR : Hid (res = 1) := Lib.hid (by rw [HD.out, if_neg (by omega), if_pos (.inl c3)])
    have d3 : ((nv : Int) == 0) = true := by rw [beq_iff_eq]; omega
    go_wp2_with fail
    go_ret
    exact ⟨ret_int HR.out.symm, HB0.out _⟩
  have d3 : ((nv : Int) == 0) = false := beq_eq_false_iff_ne.2 (by omega)
  by_cases c4 : na = 0
  · have HR : Hid (res = 1) := Lib.hid (by rw [HD.out, if_neg (by omega), if_pos (.inr c4)])
    have d4 : ((na : Int) == 0) = true := by rw [beq_iff_eq]; omega
    go_wp2_with fail
    go_ret
    exact ⟨ret_int HR.out.symm, HB0.out _⟩
  have d4 : ((na : Int) == 0) = false := beq_eq_false_iff_ne.2 (by omega)
  have HD2 : Hid (res = if cv ≠ 0 then cv else if cp ≠ 0 then cp else if op < 1 ∨ 12 < op then 1 else if ca ≠ 0 then ca else cc) := Lib.hid (by rw [HD.out, if_neg (by omega), if_neg (by omega)])
  clear HD c1 c2 c3 c4
  go_wp2_with fail
  refine (HV.out _ (HB0.out _)).mono ?_
  rintro e w1 ⟨rfl, hb1⟩
  obtain ⟨hc1, hbw1⟩ := box_facts (w := w) (by simpa using hb1)
  have x3 := hc1 3
  have x5 := hc1 5
  have x6 := hc1 6
  have x7 := hc1 7
  simp only [List.getElem?_toArray, List.getElem?_cons_succ, List.getElem?_cons_zero] at x3 x5 x6 x7
  clear hc1 hb1
  by_cases k1 : cv = 0
  · subst k1
    go_wp2_with fail
    refine (HP.out _ hbw1).mono ?_
    rintro e w2 ⟨rfl, hb2⟩
    have hbw2 := hbw1.trans (hb2.mono hbw1.size)
    have y5 := cell_kept hb2 x5
    have y6 := cell_kept hb2 x6
    have y7 := cell_kept hb2 x7
    clear x3 x5 x6 x7 hb2
    by_cases k2 : cp = 0
    · subst k2
      have HD3 : Hid (res = if op < 1 ∨ 12 < op then 1 else if ca ≠ 0 then ca else cc) := Lib.hid (by rw [HD2.out, if_neg (by decide), if_neg (by decide)])
      by_cases o1 : op < 1
      · have HR : Hid (res = 1) := Lib.hid (by rw [HD3.out, if_pos (.inl o1)])
        go_wp2_with fail
        go_ret
        exact ⟨ret_int HR.out.symm, hbw2⟩
      by_cases o2 : 12 < op
      · have HR : Hid (res = 1) := Lib.hid (by rw [HD3.out, if_pos (.inr o2)])
        go_wp2_with fail
        go_ret
        exact ⟨ret_int HR.out.symm, hbw2⟩
      have HD4 : Hid (res = if ca ≠ 0 then ca else cc) := Lib.hid (by rw [HD3.out, if_neg (by omega)])
      have HA2 := Lib.hid (HA.out _ hbw2 (by omega) (by omega))
      go_wp2_with fail
      refine HA2.out.mono ?_
      rintro e w3 ⟨rfl, hb3⟩
      have hbw3 := hbw2.trans (hb3.mono hbw2.size)
      have z7 := cell_kept hb3 y7
      clear y5 y6 y7 hb3
      by_cases k3 : ca = 0
      · subst k3
        have HR : Hid (res = cc) := Lib.hid (by rw [HD4.out, if_neg (by decide)])
        go_wp2_with fail
        refine (HC.out _ hbw3).mono ?_
        rintro e w4 ⟨rfl, hb4⟩
        go_wp2_with fail
        go_ret
        exact ⟨ret_int HR.out.symm, hbw3.trans (hb4.mono hbw3.size)⟩
      · have q3 : (ca == 0) = false := beq_eq_false_iff_ne.2 k3
        have HR : Hid (res = ca) := Lib.hid (by rw [HD4.out, if_pos k3])
        go_wp2_with fail
        go_ret
        exact ⟨ret_int HR.out.symm, hbw3⟩
    · have q2 : (cp == 0) = false := beq_eq_false_iff_ne.2 k2
      have HR : Hid (res = cp) := Lib.hid (by rw [HD2.out, if_neg (by decide), if_pos k2])
      go_wp2_with fail
      go_ret
      exact ⟨ret_int HR.out.symm, hbw2⟩
  · have q1 : (cv == 0) = false := beq_eq_false_iff_ne.2 k1
    have HR : Hid (res = cv) := Lib.hid (by rw [HD2.out, if_pos k1])
    go_wp2_with fail
    go_ret
    exact ⟨ret_int HR.out.symm, hbw1⟩
end Go.Proofs.YtdkbfljhfhjofaaGreatDoor
namespace Go.Proofs.YtdkbfljhfhjofaaGreatDoor
open Go.RowKit
theorem srcR {wr : World} {B n : Nat} {A : Option Addr} {xs : List Value} {a0 a1 a2 a3 a4 a5 a6 a7 a8 : Nat → Value} (h : Sl wr B 9 A n xs) {j : Nat} (hj : j < n) (hx : ∀ j, j < n → xs[j * 9]? = some (a0 j) ∧ xs[j * 9 + 1]? = some (a1 j) ∧ xs[j * 9 + 2]? = some (a2 j) ∧ xs[j * 9 + 3]? = some (a3 j) ∧ xs[j * 9 + 4]? = some (a4 j) ∧ xs[j * 9 + 5]? = some (a5 j) ∧ xs[j * 9 + 6]? = some (a6 j) ∧ xs[j * 9 + 7]? = some (a7 j) ∧ xs[j * 9 + 8]? = some (a8 j)) :
    ∃ b off, A = some ⟨b, off, none⟩ ∧ wr.cell? ⟨b, off + j * 9, none⟩ = some (a0 j) ∧ wr.cell? ⟨b, off + j * 9 + 1, none⟩ = some (a1 j) ∧ wr.cell? ⟨b, off + j * 9 + 2, none⟩ = some (a2 j) ∧ wr.cell? ⟨b, off + j * 9 + 3, none⟩ = some (a3 j) ∧ wr.cell? ⟨b, off + j * 9 + 4, none⟩ = some (a4 j) ∧ wr.cell? ⟨b, off + j * 9 + 5, none⟩ = some (a5 j) ∧ wr.cell? ⟨b, off + j * 9 + 6, none⟩ = some (a6 j) ∧ wr.cell? ⟨b, off + j * 9 + 7, none⟩ = some (a7 j) ∧ wr.cell? ⟨b, off + j * 9 + 8, none⟩ = some (a8 j) := by
  have hl := h.len
  obtain ⟨b, off, e, _, hc⟩ := h.src (by omega)
  have hq := hx j hj
  have hat : ∀ i v, xs[i]? = some v → wr.cell? ⟨b, off + i, none⟩ = some v := fun i v hv => by
    have hi : i < xs.length := (List.getElem?_eq_some_iff.1 hv).1
    rw [hc i hi, ← hv, List.getElem?_eq_getElem hi]
  exact ⟨b, off, e, by have := hat _ _ hq.1; rw [show off + j * 9 = off + j * 9 from rfl] at this; exact this, by have := hat _ _ hq.2.1; rw [← Nat.add_assoc] at this; exact this, by have := hat _ _ hq.2.2.1; rw [← Nat.add_assoc] at this; exact this, by have := hat _ _ hq.2.2.2.1; rw [← Nat.add_assoc] at this; exact this, by have := hat _ _ hq.2.2.2.2.1; rw [← Nat.add_assoc] at this; exact this, by have := hat _ _ hq.2.2.2.2.2.1; rw [← Nat.add_assoc] at this; exact this, by have := hat _ _ hq.2.2.2.2.2.2.1; rw [← Nat.add_assoc] at this; exact this, by have := hat _ _ hq.2.2.2.2.2.2.2.1; rw [← Nat.add_assoc] at this; exact this, by have := hat _ _ hq.2.2.2.2.2.2.2.2; rw [← Nat.add_assoc] at this; exact this⟩
set_option maxRecDepth 100000 in
set_option maxHeartbeats 800000 in
theorem IdxFR_any (g : Nat) (lb : Array Value) (eg : ∀ args w, (callFunc g args).run Tryz.prog w = .ok (.enter g args) w) (A : Option Addr) (n c : Nat) (xs : List Value) (a0 a1 a2 a3 a4 a5 a6 a7 a8 : Nat → Value) (p : Nat → Bool) (w : World)
    (h : Sl w w.heap.size 9 A n xs) (hbig : n ≤ 9223372036854775807) (hx : ∀ j, j < n → xs[j * 9]? = some (a0 j) ∧ xs[j * 9 + 1]? = some (a1 j) ∧ xs[j * 9 + 2]? = some (a2 j) ∧ xs[j * 9 + 3]? = some (a3 j) ∧ xs[j * 9 + 4]? = some (a4 j) ∧ xs[j * 9 + 5]? = some (a5 j) ∧ xs[j * 9 + 6]? = some (a6 j) ∧ xs[j * 9 + 7]? = some (a7 j) ∧ xs[j * 9 + 8]? = some (a8 j))
    (hp : ∀ W j, j < n → Below w.heap.size w W → Calls Tryz.prog g (#[.agg #[a0 j, a1 j, a2 j, a3 j, a4 j, a5 j, a6 j, a7 j, a8 j]] ++ lb) W (BoolPost (p j) W)) :
    Calls Tryz.prog 46 #[.slice A n c, .func (.func g) #[] lb] w fun e w' => e = .returned (.int .i64 (hitI p n)) ∧ Below w.heap.size w w' := by
  have HP := Lib.hid hp
  have HX := Lib.hid hx
  clear hp hx
  go_enter Tryz.func46, Tryz.ntmps46
  go_wp2_with fail
  go_loopw [5, 8] (fun _ i wr => ∃ j : Nat, j ≤ n ∧ i = .int .i64 j ∧ Below w.heap.size w wr ∧ Hid (∀ i, i < j → p i = false)) (fun _ i _ => n - (intOf i).toNat)
  case atStart => exact ⟨0, Nat.zero_le _, rfl, Below.refl _ _, fun i hi => absurd hi (by omega)⟩
  case round =>
    obtain ⟨j, hj, rfl, hb, hno⟩ := hrel
    by_cases hlt : j < n
    · obtain ⟨b, off, rfl, hc0, hc1, hc2, hc3, hc4, hc5, hc6, hc7, hc8⟩ := srcR (h.below hb) hlt HX.out
      have hc := HP.out wr j hlt hb
      cases hq : p j with
      | true =>
        rw [hq] at hc
        have HIT := Lib.hid (hit_at p n j hlt hq hno)
        clear hq
        go_wp2_with (go_at_fn g; refine hc.mono ?_; rintro e w' ⟨rfl, hb1⟩)
        go_ret
        exact ⟨ret_int HIT.out.symm, hb.trans (hb1.mono hb.size)⟩
      | false =>
        rw [hq] at hc
        have hno2 : Hid (∀ i, i < j + 1 → p i = false) := fun i hi => by
          by_cases e : i = j
          · rw [e]; exact hq
          · exact hno i (by omega)
        clear hq hno
        go_wp2_with (go_at_fn g; refine hc.mono ?_; rintro e w' ⟨rfl, hb1⟩)
        go_roundw
        case rel => exact ⟨j + 1, by omega, by go_num, hb.trans (hb1.mono hb.size), hno2⟩
        case measure => simp [intOf] <;> omega
    · obtain rfl : j = n := by omega
      have HIT := Lib.hid (hit_none p j hno)
      go_wp2_with fail
      go_ret
      exact ⟨ret_int HIT.out.symm, hb⟩
set_option maxRecDepth 100000 in
theorem ContFR_any (g : Nat) (lb : Array Value) (eg : ∀ args w, (callFunc g args).run Tryz.prog w = .ok (.enter g args) w) (A : Option Addr) (n c : Nat) (xs : List Value) (a0 a1 a2 a3 a4 a5 a6 a7 a8 : Nat → Value) (p : Nat → Bool) (w : World)
    (h : Sl w w.heap.size 9 A n xs) (hbig : n ≤ 9223372036854775807) (hx : ∀ j, j < n → xs[j * 9]? = some (a0 j) ∧ xs[j * 9 + 1]? = some (a1 j) ∧ xs[j * 9 + 2]? = some (a2 j) ∧ xs[j * 9 + 3]? = some (a3 j) ∧ xs[j * 9 + 4]? = some (a4 j) ∧ xs[j * 9 + 5]? = some (a5 j) ∧ xs[j * 9 + 6]? = some (a6 j) ∧ xs[j * 9 + 7]? = some (a7 j) ∧ xs[j * 9 + 8]? = some (a8 j))
    (hp : ∀ W j, j < n → Below w.heap.size w W → Calls Tryz.prog g (#[.agg #[a0 j, a1 j, a2 j, a3 j, a4 j, a5 j, a6 j, a7 j, a8 j]] ++ lb) W (BoolPost (p j) W)) :
    Calls Tryz.prog 20 #[.slice A n c, .func (.func g) #[] lb] w (BoolPost (anyN p n) w) := by
  have HC := Lib.hid (IdxFR_any g lb eg A n c xs a0 a1 a2 a3 a4 a5 a6 a7 a8 p w h hbig hx hp)
  have HA := Lib.hid (hit_any p n)
  clear hp hx h
  go_enter Tryz.func20, Tryz.ntmps20
  go_wp2_with fail
  refine HC.out.mono ?_
  rintro e w1 ⟨rfl, hb⟩
  go_wp2_with fail
  go_ret
  exact ⟨ret_bool HA.out, hb⟩
end Go.Proofs.YtdkbfljhfhjofaaGreatDoor
