/- The walk of ArgsJoins. -/
import Derived.Test.YtnhlkjalmcldpaaDoorArgE
namespace Go.Proofs.YtnhlkjalmcldpaaDoor
open Go.RowKit

theorem OwnA.sl {w : World} {b n c : Nat} {A : Option Addr} {l : List Pair} (h : OwnA w b (.slice A n c) l) : Sl w w.heap.size 2 A l.length (l.flatMap cellsA) := by
  obtain ⟨A', c', e, hs⟩ := h.form
  injection e with e1 _ _
  rw [e1]; exact hs
def formC : List Pair := [(ByteArray.mk #[120], ByteArray.mk #[]), (ByteArray.mk #[121], ByteArray.mk #[49, 61, 50])]
theorem form_c : formP (ByteArray.mk #[38, 120, 38, 38, 121, 61, 49, 61, 50]).data.toList = formC := by rfl

set_option maxRecDepth 100000 in
set_option maxHeartbeats 1600000 in
theorem argsJoins_any (s t : ByteArray) (w : World) (hs : s.size ≤ 1048576) (ht : t.size ≤ 1048576) (hl : LibOk w) :
    Calls Tryd.prog 4 #[.string s, .string t] w fun e w' => e = .returned (.bool true) ∧ Below w.heap.size w w' := by
  have HLB : Hid (∀ W, Below w.heap.size w W → LibOk W) := fun W hb => hl.below hb
  have hls : s.data.toList.length = s.size := by simp
  have hlt : t.data.toList.length = t.size := by simp
  have HA : Hid (∀ W, Below w.heap.size w W → Calls Tryd.prog 14 #[.string s, .int .i64 1048576] W (FormPost s.data.toList W)) := fun W hb =>
    Form_any s 1048576 W (hl.below hb) (by omega) (by have := formP_len s.data.toList; omega) (by decide)
  have HB : Hid (∀ W, Below w.heap.size w W → Calls Tryd.prog 14 #[.string t, .int .i64 1048576] W (FormPost t.data.toList W)) := fun W hb =>
    Form_any t 1048576 W (hl.below hb) (by omega) (by have := formP_len t.data.toList; omega) (by decide)
  have hst : (s ++ ByteArray.mk #[38] ++ t).data.toList = s.data.toList ++ 38 :: t.data.toList := by simp
  have hsz : (s ++ ByteArray.mk #[38] ++ t).size = s.size + 1 + t.size := by rw [ByteArray.size_append, ByteArray.size_append]; rfl
  have HC : Hid (∀ W, Below w.heap.size w W → Calls Tryd.prog 14 #[.string (s ++ ByteArray.mk #[38] ++ t), .int .i64 2097152] W (FormPost (s.data.toList ++ 38 :: t.data.toList) W)) := fun W hb => by
    have := Form_any (s ++ ByteArray.mk #[38] ++ t) 2097152 W (hl.below hb) (by omega) (by
      rw [hst, formP_append, List.length_append]
      have h1 := formP_len s.data.toList
      have h2 := formP_len t.data.toList
      omega) (by decide)
    rw [hst] at this
    exact this
  have HF1 : Hid (∀ W, Below w.heap.size w W → Calls Tryd.prog 14 #[.string (ByteArray.mk #[38, 120, 38, 38, 121, 61, 49, 61, 50]), .int .i64 9] W (FormPost (ByteArray.mk #[38, 120, 38, 38, 121, 61, 49, 61, 50]).data.toList W)) := fun W hb =>
    Form_any (ByteArray.mk #[38, 120, 38, 38, 121, 61, 49, 61, 50]) 9 W (hl.below hb) (by decide) (by rw [form_c]; decide) (by decide)
  have HPA : Hid (∀ W, Below w.heap.size w W → Calls Tryd.prog 16 #[.string s] W fun e w' => e = .returned (.string (bs (Lib.cut s.data.toList [63]).1)) ∧ Below W.heap.size W w') := fun W hb => Path_any s W (hl.below hb) (by omega)
  have HQU : Hid (∀ W, Below w.heap.size w W → Calls Tryd.prog 17 #[.string s] W fun e w' => e = .returned (.string (bs (Lib.cut s.data.toList [63]).2.1)) ∧ Below W.heap.size W w') := fun W hb => Query_any s W (hl.below hb) (by omega)
  have HSA := Lib.hid (formP_len s.data.toList)
  have HTA := Lib.hid (formP_len t.data.toList)
  have HLS := Lib.hid hls
  have HLT := Lib.hid hlt
  clear hls hlt hst hsz hl
  go_enter Tryd.func4, Tryd.ntmps4
  go_wp2_with fail
  refine (HF1.out _ (Below.refl _ _)).mono ?_
  rintro e w1 ⟨v1, rfl, hO1, hb1⟩
  rw [form_c] at hO1
  obtain ⟨A1, c1, rfl, hS1⟩ := hO1.form
  have HS1 := Lib.hid hS1
  clear hS1 hO1
  go_wp2_with fail
  refine (EqualA_yes formC A1 (some ⟨w1.heap.size, 0, none⟩) c1 2 _ ((HS1.out.alloc (Nat.le_refl _) _).more (by simp)) (Sl.lit rfl (by simp) rfl rfl) (by decide)).mono ?_
  rintro e w2 ⟨rfl, hb2⟩
  have hbw2 : Below w.heap.size w w2 := hb1.trans (((Below.refl _ _).alloc hb1.size _).trans (hb2.mono (by have := hb1.size; simp; omega)))
  clear HS1 hb1 hb2
  go_wp2_with fail
  refine (HA.out _ hbw2).mono ?_
  rintro e w3 ⟨va, rfl, hOa, hb3⟩
  have hbw3 := hbw2.trans (hb3.mono hbw2.size)
  have hza := hbw2.size
  go_wp2_with fail
  refine (HB.out _ hbw3).mono ?_
  rintro e w4 ⟨vb, rfl, hOb, hb4⟩
  have hbw4 := hbw3.trans (hb4.mono hbw3.size)
  have hOa4 := hOa.below hb4
  have HOa := Lib.hid hOa4
  have HOb := Lib.hid hOb
  have hzb := hb3.size
  have hzb4 := hb4.size
  clear hOa hOb hb4 hOa4 hb3 hbw3 hbw2
  go_wp2_with fail
  refine (HC.out _ hbw4).mono ?_
  rintro e w5 ⟨vc, rfl, hOc, hb5⟩
  rw [formP_append] at hOc
  have hbw5 := hbw4.trans (hb5.mono hbw4.size)
  have hzc := hb5.size
  have HOc := Lib.hid hOc
  have HB5 := Lib.hid hb5
  clear hOc hb5
  go_wp2_with fail
  refine (HPA.out _ hbw5).mono ?_
  rintro e w6 ⟨rfl, hb6⟩
  have hbw6 := hbw5.trans (hb6.mono hbw5.size)
  have hzd := hb6.size
  have HB6 := Lib.hid hb6
  clear hb6
  go_wp2_with fail
  refine (HQU.out _ hbw6).mono ?_
  rintro e w7 ⟨rfl, hb7⟩
  have hbw7 := hbw6.trans (hb7.mono hbw6.size)
  have hze := hb7.size
  have hb57 : Below w5.heap.size w5 w7 := HB6.out.trans (hb7.mono hzd)
  have hb47 : Below w4.heap.size w4 w7 := HB5.out.trans (hb57.mono hzc)
  have hOa7 := HOa.out.below hb47
  have hOb7 := HOb.out.below hb47
  have hOc7 := HOc.out.below hb57
  have hfar : ∀ g, vc.ownBlock = some g → va.ownBlock ≠ some g := fun g hg e => by
    have h1 := (World.ownsRow.lt HOa.out g e).2
    have h2 := (World.ownsRow.lt HOc.out g hg).1
    omega
  obtain ⟨Ac, cc, rfl, _⟩ := hOc7.form
  have HO7 := Lib.hid hOc7
  have HFR := Lib.hid hfar
  have HBW7 := Lib.hid hbw7
  have hlen : (formP s.data.toList).length + (formP t.data.toList).length ≤ 4194304 := by
    have h1 := HSA.out
    have h2 := HTA.out
    rw [HLS.out] at h1
    rw [HLT.out] at h2
    omega
  have HLN : Hid ((formP s.data.toList ++ formP t.data.toList).length ≤ 4194304) := by unfold Hid; rw [List.length_append]; exact hlen
  have hbase7 : w2.heap.size ≤ w7.heap.size := by omega
  clear hOc7 hfar hb57 hb47 hb7 hbw7 hbw6 hbw5 hbw4 HB5 HB6
  have hpq := cut_back 63 s.data.toList
  generalize Lib.cut s.data.toList [63] = pq at *
  obtain ⟨p1, q1, fd⟩ := pq
  dsimp only at hpq ⊢
  have HPQ := Lib.hid hpq
  clear hpq
  go_wp2_with (at_builtin; refine wpList_append_aa rfl (.tmp 68) (.tmp 69) rfl w2.heap.size w3.heap.size va vb (formP s.data.toList) (formP t.data.toList) rfl rfl hOa7 hOb7 hbase7 hlen ?_; intro v8 w8 hO8 hb8 hk8 hz8)
  obtain ⟨A8, c8, rfl, hS8⟩ := hO8.form
  have hOc8 := HO7.out.keep fun g hg => hk8 g (World.ownsRow.lt HO7.out g hg).2 (HFR.out g hg)
  have hS9 := hOc8.sl
  clear hOc8
  go_wp2_with fail
  rw [← List.length_append]
  refine (EqualA_yes (formP s.data.toList ++ formP t.data.toList) _ _ cc c8 w8 hS9 hS8 HLN.out).mono ?_
  rintro e w9 ⟨rfl, hb9⟩
  have hbw9 : Below w.heap.size w w9 := HBW7.out.trans ((hb8.mono (Nat.le_trans hza (Nat.le_refl _))).trans (hb9.mono (by have := HBW7.out.size; omega)))
  rw [List.length_append]
  clear hS8 hS9 hb8 hb9 hO8 hk8 hz8
  cases fd with
  | false =>
    obtain ⟨rfl, rfl⟩ := HPQ.out.2 rfl
    rw [bs_eta]
    have q1 : (s.toList == s.toList) = true := beq_self_eq_true _
    go_wp2_with fail
    go_ret
    exact ⟨rfl, hbw9⟩
  | true =>
    have h1 := HPQ.out.1 rfl
    have hl1 := congrArg List.length h1
    rw [List.length_append, List.length_cons, HLS.out] at hl1
    have e1 : ((bs p1).toList == s.toList) = false := by
      rw [bs_list, Lib.toList_data, beq_eq_false_iff_ne]
      intro e
      rw [← e] at h1
      have := congrArg List.length h1
      rw [List.length_append, List.length_cons] at this
      omega
    have e2 : ((bs p1 ++ ByteArray.mk #[63] ++ bs q1).toList == s.toList) = true := by
      rw [Lib.toList_data, Lib.toList_data, ← h1]
      simp [bs]
    have z1 : (bs p1).size ≤ 1048576 := by rw [bs_size]; omega
    have z2 : (bs q1).size ≤ 1048576 := by rw [bs_size]; omega
    generalize bs p1 = x at *
    generalize bs q1 = y at *
    clear h1 hl1 HPQ
    go_wp2_with fail
    go_ret
    exact ⟨rfl, hbw9⟩
end Go.Proofs.YtnhlkjalmcldpaaDoor
