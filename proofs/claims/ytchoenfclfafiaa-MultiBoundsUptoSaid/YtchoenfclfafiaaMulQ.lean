/- The walk of multi.Parts. -/
import Derived.Test.YtchoenfclfafiaaMulP
import Derived.Test.YtchoenfclfafiaaArgA
namespace Go.Proofs.Ytchoenfclfafiaa
open Go.RowKit

def pairB (a : PartV) : Pair := (bs a.1, bs a.2)
def PsRel (F : Int × List PartV) (b : List UInt8) (most : Int) (base : Nat) (w : World) (v0 v9 : Value) (wr : World) : Prop :=
  ∃ (f : Nat) (u : List UInt8) (out : List PartV), v0 = .string (bs u) ∧ u.length < f ∧ u.length + out.length ≤ 4096 ∧ partsR f u b most out = F ∧ OwnA wr base v9 (out.map pairB) ∧ Below base w wr
def PartsPost (F : Int × List PartV) (w : World) (e : Ending) (w' : World) : Prop :=
  ∃ v, e = .returned (.tuple #[v, .int .i64 F.1]) ∧ OwnA w' w.heap.size v (F.2.map pairB) ∧ Below w.heap.size w w'
theorem trimP_yes {s p : List UInt8} (h : Lib.hasPrefix s p = true) : Lib.trimPrefix s p = s.drop p.length := by
  unfold Lib.trimPrefix
  rw [if_pos h]

set_option maxRecDepth 100000 in
set_option maxHeartbeats 6400000 in
theorem MParts_any (s b : ByteArray) (most : Int) (w : World) (hs : s.size ≤ maxLen) (hb : b.size ≤ maxLen) (hlib : LibOk w) :
    Calls Try.prog 18 #[.string s, .string b, .int .i64 most] w (PartsPost (partsL s.data.toList b.data.toList most) w) := by
  have HR := Lib.hid (right_any b w hb)
  unfold maxLen at hs hb
  have hsl : s.data.toList.length = s.size := by simp
  have HF : Hid (partsL s.data.toList b.data.toList most = if rightB b.data.toList = false then (1, []) else if 4096 < s.size then (2, []) else if Lib.hasPrefix s.data.toList (lineM b.data.toList) = false then (4, []) else partsR (s.data.toList.length + 1) (s.data.toList.drop (lineM b.data.toList).length) b.data.toList most []) := by
    unfold Hid partsL; rw [hsl]
  generalize hPF : partsL s.data.toList b.data.toList most = F at *
  have HLB : Hid (∀ W, Below w.heap.size w W → LibOk W) := fun W h => hlib.below h
  have HERR : Hid (∀ x W, F = (x, []) → Below w.heap.size w W → PartsPost F w (.returned (.tuple #[.slice none 0 0, .int .i64 x])) W) := fun x W h h2 => by
    subst h
    exact ⟨_, rfl, OwnA.nil _ _, h2⟩
  clear hlib hPF
  cases hrb : rightB b.data.toList with
  | false =>
    rw [hrb] at HR HF
    have HP := Lib.hid (HERR.out 1 w HF.out (Below.refl _ _))
    clear HF HERR HLB hrb
    go_enter Try.func18, Try.ntmps18
    go_wp2_with (go_at_call 37; apply Hid.out)
    unfold Hid
    refine HR.out.mono ?_
    rintro e w1 ⟨rfl, rfl⟩
    go_wp2_with fail
    exact bodyPost_ret (v := .tuple #[.slice none 0 0, .int .i64 1]) (by simp [results, Try.results18, go_sem]) rfl HP.out
  | true =>
  have hbl := (right_len hrb).2
  have hbs : b.data.toList.length = b.size := by simp
  have hb70 : b.size ≤ 70 := by omega
  rw [hrb] at HR
  by_cases hlong : 4096 < s.size
  · have d1 : decide ((4096 : Int) < (s.size : Int)) = true := decide_eq_true (by omega)
    have HP := Lib.hid (HERR.out 2 w (by rw [HF.out, hrb, if_neg (by decide), if_pos hlong]) (Below.refl _ _))
    clear HF HERR HLB hrb
    go_enter Try.func18, Try.ntmps18
    go_wp2_with (go_at_call 37; apply Hid.out)
    unfold Hid
    refine HR.out.mono ?_
    rintro e w1 ⟨rfl, rfl⟩
    go_wp2_with fail
    exact bodyPost_ret (v := .tuple #[.slice none 0 0, .int .i64 2]) (by simp [results, Try.results18, go_sem]) rfl HP.out
  have d1 : decide ((4096 : Int) < (s.size : Int)) = false := decide_eq_false (by omega)
  have k2 : (ByteArray.mk #[45, 45]).size + b.size ≤ 9223372036854775807 := by show 2 + b.size ≤ _; omega
  have hCP := CutPrefix_bs s (ByteArray.mk #[45, 45] ++ b) w
  have em : (ByteArray.mk #[45, 45] ++ b).data.toList = lineM b.data.toList := by simp [lineM]
  rw [em] at hCP
  have HF2 : Hid (F = if Lib.hasPrefix s.data.toList (lineM b.data.toList) = false then (4, []) else partsR (s.data.toList.length + 1) (s.data.toList.drop (lineM b.data.toList).length) b.data.toList most []) := by
    unfold Hid; rw [HF.out, hrb, if_neg (by decide), if_neg hlong]
  cases hpx : Lib.hasPrefix s.data.toList (lineM b.data.toList) with
  | false =>
    rw [hpx] at hCP HF2
    have HCP := Lib.hid hCP
    have HP := Lib.hid (HERR.out 4 w HF2.out (Below.refl _ _))
    clear HF HF2 HERR HLB hrb hCP em hpx
    go_enter Try.func18, Try.ntmps18
    go_wp2_with (go_at_call 37; apply Hid.out)
    unfold Hid
    refine HR.out.mono ?_
    rintro e w1 ⟨rfl, rfl⟩
    go_wp2_with (go_at_call 42; apply Hid.out)
    unfold Hid
    refine HCP.out.mono ?_
    rintro e w1 ⟨rfl, rfl⟩
    go_wp2_with fail
    exact bodyPost_ret (v := .tuple #[.slice none 0 0, .int .i64 4]) (by simp [results, Try.results18, go_sem]) rfl HP.out
  | true =>
  rw [trimP_yes hpx] at hCP
  rw [hpx] at hCP HF2
  have HCP := Lib.hid hCP
  have hdl : (s.data.toList.drop (lineM b.data.toList).length).length ≤ s.size := by rw [List.length_drop]; omega
  have hst : PsRel F b.data.toList most w.heap.size w (.string (bs (s.data.toList.drop (lineM b.data.toList).length))) (.slice none 0 0) w :=
    ⟨s.data.toList.length + 1, _, [], rfl, by omega, by show _ + 0 ≤ 4096; omega, HF2.out.symm, OwnA.nil _ _, Below.refl _ _⟩
  generalize s.data.toList.drop (lineM b.data.toList).length = u0 at *
  have HST := Lib.hid hst
  have HRB := Lib.hid hrb
  clear HF HF2 hCP em hpx hst hdl hsl hlong hrb hbl hbs
  go_enter Try.func18, Try.ntmps18
  go_wp2_with (go_at_call 37; apply Hid.out)
  unfold Hid
  refine HR.out.mono ?_
  rintro e w1 ⟨rfl, rfl⟩
  go_wp2_with (go_at_call 42; apply Hid.out)
  unfold Hid
  refine HCP.out.mono ?_
  rintro e w1 ⟨rfl, rfl⟩
  go_wp2_with fail
  clear HR HCP d1 k2
  go_loopw [0, 8, 9, 10] (fun v0 _ v9 _ wr => PsRel F b.data.toList most w1.heap.size w1 v0 v9 wr) (fun v0 _ _ _ _ => strLen v0)
  case atStart => exact HST.out
  case round =>
    obtain ⟨f, u, out, rfl, hf, hul, hF, hO, hB⟩ := hrel
    obtain ⟨Ao, co, rfl, _⟩ := hO.form
    have HO := Lib.hid hO
    have HB := Lib.hid hB
    have hzr := hB.size
    obtain ⟨g, rfl⟩ : ∃ g, f = g + 1 := ⟨f - 1, by omega⟩
    rw [partsR] at hF
    by_cases hend : u = [45, 45, 13, 10]
    · rw [if_pos hend] at hF
      subst hend
      have HP : Hid (PartsPost F w1 (.returned (.tuple #[.slice Ao (out.map pairB).length co, .int .i64 0])) wr) := by subst hF; exact ⟨_, rfl, HO.out, HB.out⟩
      clear hF hO hB HO HB HERR HST
      go_wp2_with fail
      exact bodyPost_ret (v := .tuple #[.slice Ao (out.map pairB).length co, .int .i64 0]) (by simp [results, Try.results18, go_sem]) rfl HP.out
    rw [if_neg hend] at hF
    have q1 : (u == [45, 45, 13, 10]) = false := beq_eq_false_iff_ne.2 hend
    have hCP := CutPrefix_bs (bs u) (ByteArray.mk #[13, 10]) wr
    have eb : (ByteArray.mk #[13, 10]).data.toList = nlL := rfl
    rw [bs_toList, eb] at hCP
    clear eb
    cases hpx : Lib.hasPrefix u nlL with
    | false =>
      rw [hpx] at hCP hF
      have HCP := Lib.hid hCP
      have HP := Lib.hid (HERR.out 4 wr (by rw [← hF]; rfl) HB.out)
      clear hF hO hB HO HB HERR HST hCP hpx hend
      go_wp2_with (go_at_call 42; apply Hid.out)
      unfold Hid
      refine HCP.out.mono ?_
      rintro e w2 ⟨rfl, rfl⟩
      go_wp2_with fail
      exact bodyPost_ret (v := .tuple #[.slice none 0 0, .int .i64 4]) (by simp [results, Try.results18, go_sem]) rfl HP.out
    | true =>
    rw [trimP_yes hpx] at hCP
    have e2 : nlL.length = 2 := rfl
    rw [e2] at hCP
    rw [hpx] at hCP hF
    rw [if_neg (by decide)] at hF
    have hdl : (u.drop 2).length ≤ u.length := by rw [List.length_drop]; omega
    generalize u.drop 2 = t at *
    have HCP := Lib.hid hCP
    clear hCP hpx hend e2 hO hB HST
    have hml : (out.map pairB).length = out.length := List.length_map _
    generalize hPO : out.map pairB = PO at *
    have HML := Lib.hid hml
    have HPO := Lib.hid hPO
    clear hml hPO
    have hz6 : wr.heap.size < (wr.alloc (.cells #[.string (ByteArray.mk #[]), .string (ByteArray.mk #[])] 43)).heap.size := by simp
    have hal : Below wr.heap.size wr (wr.alloc (.cells #[.string (ByteArray.mk #[]), .string (ByteArray.mk #[])] 43)) := (Below.refl _ _).alloc (Nat.le_refl _) _
    have hpa := part_any (bs t) b (wr.alloc (.cells #[.string (ByteArray.mk #[]), .string (ByteArray.mk #[])] 43)) (by rw [bs_size]; omega) (by omega) (HLB.out _ (HB.out.trans (hal.mono hzr)))
    rw [bs_toList] at hpa
    have HPA := Lib.hid hpa
    clear hpa
    go_wp2_with (go_at_call 42; apply Hid.out)
    unfold Hid
    refine HCP.out.mono ?_
    rintro e w2 ⟨rfl, rfl⟩
    go_wp2_with (go_at_call 43; apply Hid.out)
    unfold Hid
    refine HPA.out.mono ?_
    rintro e w7 ⟨hP, hb7⟩
    have hr7 : ArgAt w2.heap.size (ByteArray.mk #[]) (ByteArray.mk #[]) w7 := (hb7.block _ hz6).trans (heap_alloc_new _ _)
    have hw7 : Below w2.heap.size w2 w7 := hal.trans (hb7.mono (Nat.le_of_lt hz6))
    have hzz : w2.heap.size < w7.heap.size := Nat.lt_of_lt_of_le hz6 hb7.size
    have HW : Hid (∀ x y, Below w2.heap.size w2 ((w7.setCell ⟨w2.heap.size, 0, none⟩ x).setCell ⟨w2.heap.size, 1, none⟩ y)) := fun x y =>
      (hw7.setCell (p := ⟨w2.heap.size, 0, none⟩) (Nat.le_refl _) _).setCell (p := ⟨w2.heap.size, 1, none⟩) (Nat.le_refl _) _
    have ⟨z0, z1⟩ := hr7.cells
    have f0 := hr7.free 0
    have f1 := hr7.free 1
    clear HPA HCP hal hz6 hb7 hr7 hw7
    rcases hP with ⟨hp, rfl⟩ | ⟨n, v, r, hp, rfl⟩
    · have TT := Lib.hid (two_set (.string (ByteArray.mk #[])) (.string (ByteArray.mk #[])) z0 z1)
      have HP := Lib.hid (HERR.out 4 _ (by rw [← hF, hp]) (HB.out.trans ((HW.out (.string (ByteArray.mk #[])) (.string (ByteArray.mk #[]))).mono hzr)))
      clear hF hp HERR HW HB HO HLB
      go_wp2_with fail
      exact bodyPost_ret (v := .tuple #[.slice none 0 0, .int .i64 4]) (by simp [results, Try.results18, go_sem]) rfl HP.out
    have TT := Lib.hid (two_set (.string (bs n)) (.string (bs v)) z0 z1)
    rw [hp] at hF
    dsimp only at hF
    have hrl := (part_good HRB.out hp).2
    by_cases hfull : most ≤ (out.length : Int)
    · have d2 : decide (most ≤ (PO.length : Int)) = true := decide_eq_true (by rw [HML.out]; exact hfull)
      have HP := Lib.hid (HERR.out 2 _ (by rw [← hF, if_pos hfull]) (HB.out.trans ((HW.out (.string (bs n)) (.string (bs v))).mono hzr)))
      clear hF hp HERR HW HB HO HLB hfull
      go_wp2_with fail
      exact bodyPost_ret (v := .tuple #[.slice none 0 0, .int .i64 2]) (by simp [results, Try.results18, go_sem]) rfl HP.out
    · have d2 : decide (most ≤ (PO.length : Int)) = false := decide_eq_false (by rw [HML.out]; exact hfull)
      rw [if_neg hfull] at hF
      have HF := Lib.hid hF
      have HO8 := Lib.hid (HO.out.below (HW.out (.string (bs n)) (.string (bs v))))
      have HB8 := Lib.hid (HB.out.trans ((HW.out (.string (bs n)) (.string (bs v))).mono hzr))
      have HZ8 : Hid (w1.heap.size ≤ ((w7.setCell ⟨w2.heap.size, 0, none⟩ (.string (bs n))).setCell ⟨w2.heap.size, 1, none⟩ (.string (bs v))).heap.size) := HB8.out.size
      have HM : Hid ((out ++ [(n, v)]).map pairB = PO ++ [(bs n, bs v)]) := by unfold Hid; rw [List.map_append, HPO.out]; rfl
      have hol : PO.length ≤ 4194304 := by have := HML.out; omega
      clear hF hp HERR HW HB HO HLB hfull
      have t0 := TT.out.1
      have t1 := TT.out.2
      go_wp2_with (at_builtin; refine wpList_append_a rfl (.tmp 48) (.tmp 50) rfl w1.heap.size (.slice Ao PO.length co) PO rfl HO8.out HZ8.out _ (bs n, bs v) rfl w7.heap.size (by simp) 1 rfl hol ?_; intro v9 w9 hO9 hb9 hk9 hz9)
      exact ⟨⟨g, r, out ++ [(n, v)], rfl, by omega, by rw [List.length_append, List.length_singleton]; omega, HF.out, by rw [HM.out]; exact hO9, HB8.out.trans hb9⟩, by show (bs r).size < (bs u).size; rw [bs_size, bs_size]; omega⟩
end Go.Proofs.Ytchoenfclfafiaa
