/- RulesAgain walked. -/
import Derived.Test.YtdkbfljhfhjofaaGreatDoorTRulG
namespace Go.Proofs.YtdkbfljhfhjofaaGreatDoor
open Go.RowKit

def fiveB : ByteArray := ByteArray.mk #[115, 99, 111, 114, 101, 32, 53, 32, 53, 48, 48, 10]
theorem five_check : checkR argC ⟨5, 500, []⟩ = 0 := by simp [checkR, goC, chainC]
theorem five_text : printR ⟨5, 500, []⟩ = fiveB.data.toList := by decide +kernel
theorem five_reads : ReadsSet argC fiveB.data.toList ⟨5, 500, []⟩ := by
  have := reads_back five_check (by rw [five_text]; decide)
  rw [five_text] at this
  exact this
theorem zero_lies (W : World) : RuLies W W.heap.size ⟨0, 0, none, 0, []⟩ := ⟨Sl.nil _ _ _ _, fun x hx => (by cases hx), Nat.le_refl _⟩
theorem zero_bulk : RuBulk ⟨0, 0, none, 0, []⟩ := ⟨Nat.zero_le _, fun x hx => (by cases hx)⟩
set_option maxRecDepth 100000 in
set_option maxHeartbeats 3200000 in
theorem rulesAgain_walk (s : ByteArray) (w : World) (hs : s.size ≤ 1048576) (hlib : LibOk w) (htab : TabOk w) : Calls Tryz.prog 4 #[.string s] w fun e w' => e = .returned (.bool true) ∧ Below w.heap.size w w' := by
  have HPA : Hid (∀ (t : ByteArray) W, t.size ≤ 2000000000 → Below w.heap.size w W → Calls Tryz.prog 10 #[.string t] W (RuParsePost t W)) := Lib.hid fun t W ht hb => RuParse_any t W (hlib.below hb) (by omega)
  have HPR : Hid (∀ (a : RuArg) W, RuLies W W.heap.size a → RuBulk a → Below w.heap.size w W → Calls Tryz.prog 7 #[a.value] W (RuPrintPost a.set W)) := Lib.hid fun a W h1 h2 hb => RuPrint_any a W h1 h2 (hlib.below hb) (htab.below hb)
  have HCK : Hid (∀ (a : RuArg) W, RuLies W W.heap.size a → RuBulk a → Below w.heap.size w W → Calls Tryz.prog 9 #[a.value] W (CodePost (checkR argC a.set) W)) := Lib.hid fun a W h1 h2 hb => Check_any a W h1 h2 (hlib.below hb)
  clear hlib htab
  have HF := Lib.hid (HPA.out fiveB w (by decide) (Below.refl _ _))
  unfold fiveB at HF
  go_enter Tryz.func4, Tryz.ntmps4
  go_wp2_with (go_at_call 10; apply Hid.out)
  unfold Hid
  refine HF.out.mono ?_
  rintro e w1 ⟨a1, at1, c1, rfl, _, p1, p2, _, hb1⟩
  have hc1 : c1 = 0 := by
    by_cases h : c1 = 0
    · exact h
    · exact absurd five_reads ((p2 h).2 (by decide) _)
  subst hc1
  obtain ⟨_, r1, _, _⟩ := p1 rfl
  have hset1 : a1.set = ⟨5, 500, []⟩ := reads_one r1 five_reads
  have hm1 : a1.most = 5 := congrArg RuSet.most hset1
  have hl1 : a1.l.length = 0 := by have := congrArg List.length (congrArg RuSet.list hset1); simpa [RuArg.set] using this
  unfold RuArg.value
  rw [hm1, hl1]
  have HB1 : Hid (∀ o, Below w.heap.size w (w1.alloc o)) := Lib.hid fun o => hb1.alloc hb1.size o
  have HP2 := Lib.hid fun o => HPA.out s (w1.alloc o) (by omega) (HB1.out o)
  clear HF p1 p2 r1 hset1 hm1 hl1 hb1
  go_wp2_with (go_at_call 10; apply Hid.out)
  unfold Hid
  refine (HP2.out _).mono ?_
  rintro e w2 ⟨a2, at2, c2, rfl, ha2, p1, p2, _, hb2⟩
  have hbw2 := (HB1.out _).trans (hb2.mono (HB1.out _).size)
  have HB2 : Hid (∀ o, Below w.heap.size w (w2.alloc o)) := Lib.hid fun o => hbw2.alloc hbw2.size o
  clear hb2 HP2 HB1
  by_cases hc2 : c2 = 0
  · subst hc2
    obtain ⟨rfl, r2, l2, b2⟩ := p1 rfl
    have hck := r2.2.2
    have htl : (printR a2.set).length ≤ 2000000000 := printR_len hck (fun x hx => by
      obtain ⟨y, hy, rfl⟩ := List.mem_map.1 (show x ∈ a2.l.map RuM.r from hx)
      exact b2.all y hy)
    have hrb : (printR a2.set).length ≤ 8192 → ReadsSet argC (printR a2.set) a2.set := fun h => reads_back hck h
    obtain ⟨W2, hW2⟩ : ∃ W2, W2 = w2.alloc (.cells #[.int .i64 a2.most, .int .i64 a2.status, .slice a2.A a2.l.length a2.c] 24) := ⟨_, rfl⟩
    have hR2 : R3 W2 w2.heap.size a2.most a2.status (.slice a2.A a2.l.length a2.c) := by rw [hW2]; exact heap_alloc_new w2 _
    have hbW2 : Below w.heap.size w W2 := by rw [hW2]; exact HB2.out _
    have hL2 : RuLies W2 W2.heap.size a2 := by rw [hW2]; exact l2.keep ((Below.refl _ _).alloc (Nat.le_refl _) _) (by simp)
    have hpr := HPR.out a2 W2 hL2 b2 hbW2
    unfold RuPrintPost at hpr
    rw [hck, if_pos rfl] at hpr
    have HCK2 : Hid (∀ W, Below W2.heap.size W2 W → Calls Tryz.prog 9 #[a2.value] W (CodePost 0 W)) := Lib.hid fun W hb => by
      have := HCK.out a2 W (hL2.keep hb hb.size) b2 (hbW2.trans (hb.mono hbW2.size))
      rwa [hck] at this
    have HSR2 : Hid (∀ (x : RuArg) W, x.set = a2.set → RuLies W W.heap.size x → RuBulk x → Below W2.heap.size W2 W → Calls Tryz.prog 11 #[x.value, a2.value] W (BoolPost true W)) := Lib.hid fun x W h1 h2 h3 hb => SameRules_yes x a2 h1 W h2 (hL2.keep hb hb.size) h3
    have hval : a2.value = .agg #[.int .i64 a2.most, .int .i64 a2.status, .slice a2.A a2.l.length a2.c] := rfl
    obtain ⟨T, hT⟩ : ∃ T, T = bs (printR a2.set) := ⟨_, rfl⟩
    have HTL : Hid (T.data.toList = printR a2.set) := Lib.hid (by rw [hT]; rfl)
    have hTs : T.size ≤ 2000000000 := by rw [hT, bs_size]; exact htl
    rw [← hT] at hpr
    rw [hval] at hpr HCK2 HSR2
    have HT := Lib.hid hT
    have HPR2 := Lib.hid hpr
    have HRB := Lib.hid hrb
    clear hpr hT p1 p2 l2 hval hL2 HB2 hbw2 r2 hck htl hrb
    unfold RuArg.value
    generalize hset : a2.set = R at *
    clear hset
    generalize a2.l.length = nl at *
    go_wp2_with fail
    rw [← hW2]
    clear hW2
    refine HPR2.out.mono ?_
    rintro e w3 ⟨rfl, hb3⟩
    have HP4 := Lib.hid (HPA.out T w3 hTs (hbW2.trans (hb3.mono hbW2.size)))
    have hR3 := hR2.below hb3
    have hb23 := hb3
    clear hb3 HPR2
    go_wp2_with (go_at_call 10; apply Hid.out)
    unfold Hid
    refine HP4.out.mono ?_
    rintro e w4 ⟨a4, at4, c4, rfl, _, p1, p2, p3, hb4⟩
    have hb24 := hb23.trans (hb4.mono hb23.size)
    have hlenT : T.data.toList.length = T.size := by simp
    obtain ⟨W4, hW4⟩ : ∃ W4, W4 = w4.alloc (.cells #[.int .i64 a4.most, .int .i64 a4.status, .slice a4.A a4.l.length a4.c] 24) := ⟨_, rfl⟩
    have hX4 : R3 W4 w4.heap.size a4.most a4.status (.slice a4.A a4.l.length a4.c) := by rw [hW4]; exact heap_alloc_new w4 _
    have hbW4 : Below W2.heap.size W2 W4 := by rw [hW4]; exact hb24.alloc hb24.size _
    have hR4 := hR2.below hbW4
    have hgo : ∀ {x : RuArg}, RuLies w4 w4.heap.size x → RuLies W4 W4.heap.size x := fun h => by rw [hW4]; exact h.keep ((Below.refl _ _).alloc (Nat.le_refl _) _) (by simp)
    by_cases hlen : 8192 < T.size
    · obtain rfl := p3 hlen
      obtain ⟨rfl, _⟩ := p2 (by decide)
      have d1 : decide ((8192 : Int) < (T.size : Int)) = true := by simp; omega
      have hz := HPR.out ⟨0, 0, none, 0, []⟩ W4 (zero_lies W4) zero_bulk (hbW2.trans (hbW4.mono hbW2.size))
      unfold RuPrintPost at hz
      generalize (if checkR argC (RuArg.set ⟨0, 0, none, 0, []⟩) = 0 then bs (printR (RuArg.set ⟨0, 0, none, 0, []⟩)) else bs []) = U at hz
      generalize checkR argC (RuArg.set ⟨0, 0, none, 0, []⟩) = ce at hz
      have HZ := Lib.hid hz
      unfold RuArg.value at HZ ⊢
      dsimp only [List.length_nil] at HZ hW4 hX4 ⊢
      clear hz p1 p2 p3 hgo hlen hX4 hb24 hb4
      go_wp2_with fail
      rw [← hW4]
      clear hW4
      refine HZ.out.mono ?_
      rintro e w5 ⟨rfl, hb5⟩
      have hR5 := hR4.below hb5
      have hbW5 := hbW4.trans (hb5.mono hbW4.size)
      obtain ⟨x0, x1, x2⟩ := hR5.cell
      clear hR4 hR3 hR2 hb5
      go_wp2_with fail
      refine (HCK2.out w5 hbW5).mono ?_
      rintro e w6 ⟨rfl, hb6⟩
      have hbb := hbW2.trans ((hbW5.trans (hb6.mono hbW5.size)).mono hbW2.size)
      go_wp2_with fail
      go_ret
      exact ⟨rfl, hbb⟩
    · have d1 : decide ((8192 : Int) < (T.size : Int)) = false := by simp; omega
      have hrd : ReadsSet argC T.data.toList R := by
        rw [HTL.out]
        exact HRB.out (by rw [← HTL.out, hlenT]; omega)
      have hc4 : c4 = 0 := by
        by_cases hcz : c4 = 0
        · exact hcz
        · exact absurd hrd ((p2 hcz).2 (by omega) R)
      subst hc4
      obtain ⟨rfl, r4, l4, b4⟩ := p1 rfl
      have hset4 : a4.set = R := reads_one r4 hrd
      have hck4 : checkR argC R = 0 := hrd.2.2
      have hL4 := hgo l4
      have hz := HPR.out a4 W4 hL4 b4 (hbW2.trans (hbW4.mono hbW2.size))
      unfold RuPrintPost at hz
      rw [hset4, hck4, if_pos rfl, ← HT.out] at hz
      have HSX : Hid (∀ W, Below W4.heap.size W4 W → Calls Tryz.prog 11 #[a4.value, .agg #[.int .i64 a2.most, .int .i64 a2.status, .slice a2.A nl a2.c]] W (BoolPost true W)) := Lib.hid fun W hb => HSR2.out a4 W hset4 (hL4.keep hb hb.size) b4 (hbW4.trans (hb.mono hbW4.size))
      have HZ := Lib.hid hz
      have qt : (T.toList == T.toList) = true := beq_self_eq_true _
      unfold RuArg.value at HZ HSX ⊢
      clear hz p1 p2 p3 hgo hrd r4 l4 hset4 hck4 hL4 hlenT hb24 hb4
      generalize a4.l.length = nl4 at *
      go_wp2_with fail
      rw [← hW4]
      clear hW4
      obtain ⟨y0, y1, y2⟩ := hX4.cell
      go_wp2_with fail
      refine HZ.out.mono ?_
      rintro e w5 ⟨rfl, hb5⟩
      have hR5 := hR4.below hb5
      have hX5 := hX4.below hb5
      have hbW5 := hbW4.trans (hb5.mono hbW4.size)
      obtain ⟨x0, x1, x2⟩ := hR5.cell
      clear hR4 hR3 hR2 y0 y1 y2 hX4
      go_wp2_with fail
      refine (HCK2.out w5 hbW5).mono ?_
      rintro e w6 ⟨rfl, hb6⟩
      have hR6 := hR5.below hb6
      have hX6 := hX5.below hb6
      have hb56 := hb5.trans (hb6.mono hb5.size)
      clear x0 x1 x2 hR5 hX5 hb5 hb6
      obtain ⟨x0, x1, x2⟩ := hR6.cell
      obtain ⟨y0, y1, y2⟩ := hX6.cell
      go_wp2_with fail
      refine (HSX.out w6 hb56).mono ?_
      rintro e w7 ⟨rfl, hb7⟩
      have hbb := hbW2.trans (((hbW4.trans (hb56.mono hbW4.size))).mono hbW2.size)
      have hbb7 := hbb.trans (hb7.mono hbb.size)
      go_wp2_with fail
      go_ret
      exact ⟨rfl, hbb7⟩
  · obtain ⟨rfl, _⟩ := p2 hc2
    have qc : (c2 == 0) = false := beq_eq_false_iff_ne.2 hc2
    have d0 : decide ((0 : Int) ≤ at2) = true := decide_eq_true ha2
    have HSR : Hid (∀ o, Calls Tryz.prog 11 #[RuArg.value ⟨0, 0, none, 0, []⟩, RuArg.value ⟨0, 0, none, 0, []⟩] (w2.alloc o) (BoolPost true (w2.alloc o))) := Lib.hid fun o => SameRules_yes _ _ rfl _ (zero_lies _) (zero_lies _) zero_bulk
    unfold RuArg.value at HSR ⊢
    dsimp only [List.length_nil] at HSR ⊢
    clear p1 p2 hc2
    go_wp2_with fail
    refine (HSR.out _).mono ?_
    rintro e w3 ⟨rfl, hb3⟩
    have hbb := (HB2.out _).trans (hb3.mono (HB2.out _).size)
    go_wp2_with fail
    go_ret
    exact ⟨rfl, hbb⟩
theorem rulesAgain_any (s : ByteArray) (w : World) (hs : s.size ≤ 1048576) (hlib : LibOk w) (htab : Lib.TabIs Tryz.prog w "internal/strconv.uint64pow10" .u64 Lib.pow10Tab) : Calls Tryz.prog 4 #[.string s] w fun e w' => e = .returned (.bool true) ∧ Below w.heap.size w w' :=
  rulesAgain_walk s w hs hlib (TabOk.of htab)
end Go.Proofs.YtdkbfljhfhjofaaGreatDoor
