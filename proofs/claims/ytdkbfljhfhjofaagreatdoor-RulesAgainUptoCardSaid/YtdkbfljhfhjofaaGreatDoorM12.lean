/- Part 12 of the proof: lemmas and walks that the last texts use. -/
import Derived.Test.YtdkbfljhfhjofaaGreatDoorM10
namespace Go.Proofs.YtdkbfljhfhjofaaGreatDoor
open Go.RowKit
def ParsePost (s : List UInt8) (w : World) (e : Ending) (w' : World) : Prop :=
  ∃ v code, e = .returned (.tuple #[v, .int .i64 code]) ∧ (code = 0 → ∃ ks, OwnK w' w.heap.size v ks ∧ ParseIs s ks) ∧ (code ≠ 0 → v = .slice none 0 0 ∧ ∀ ks, ¬ ParseIs s ks) ∧ Below w.heap.size w w'
def PaRel (ps : List (List UInt8)) (w w1 : World) (v i : Value) (wr : World) : Prop :=
  ∃ (k : Nat) (ks : List Int), k ≤ ps.length ∧ i = .int .i64 k ∧ OwnK wr (w.heap.size + 1) v ks ∧ Hid (ks.map wordI = ps.take k ∧ ∀ x ∈ ks, 1 ≤ x ∧ x ≤ 11) ∧ Below (w.heap.size + 1) w1 wr
def KiRel (x : List UInt8) (wo : World) (v : Value) (wr : World) : Prop := ∃ j : Nat, 1 ≤ j ∧ j ≤ 12 ∧ v = .int .i64 j ∧ Hid (∀ i : Nat, 1 ≤ i → i < j → wordI i ≠ x) ∧ wr = wo
set_option maxRecDepth 100000 in
set_option maxHeartbeats 1600000 in
theorem PiParse_any (s : ByteArray) (w : World) (hlib : LibOk w) (hs : s.size ≤ 4194304) : Calls Tryz.prog 62 #[.string s] w (ParsePost s.data.toList w) := by
  by_cases hm : s.data.toList = [45]
  · have hse : s = bs [45] := by rw [← hm]; rfl
    subst hse
    have HP : Hid (∀ W, Below w.heap.size w W → ParsePost (bs [45]).data.toList w (.returned (.tuple #[.slice none 0 0, .int .i64 0])) W) := fun W hb => ⟨_, 0, rfl, fun _ => ⟨[], OwnK.nil _ _, .inl ⟨rfl, rfl⟩⟩, fun e => absurd rfl e, hb⟩
    have q1 : ((bs [45]).toList == [45]) = true := by rw [bs_list]; rfl
    clear hm hs hlib
    go_enter Tryz.func62, Tryz.ntmps62
    go_wp2_with fail
    exact bodyPost_ret (v := .tuple #[.slice none 0 0, .int .i64 0]) (by simp [results, Tryz.results62, go_sem]) rfl (HP.out w (Below.refl _ _))
  · obtain ⟨m0, hm0⟩ := hlib
    have hlp : 0 < w.heap.size := World.block_lt_of_cell? w _ hm0
    have hsp := Tryz.strings_Split s ⟨#[44]⟩ m0 w (by omega) hm0 (by decide)
    have hps := split_one 44 s
    have hpl := Lib.splitB_all ⟨#[44]⟩ (by decide) 0 _ s rfl
    generalize Lib.splitB ⟨#[44]⟩ 0 (Lib.countB s ⟨#[44]⟩) s = ps at hsp hps hpl
    generalize Lib.countB s ⟨#[44]⟩ = n at hsp hpl
    rw [← hpl] at hsp
    have q1 : (s.toList == [45]) = false := by
      rw [Lib.toList_data, beq_eq_false_iff_ne]
      exact hm
    have HM := Lib.hid hm
    have HPS := Lib.hid hps
    have HSP := Lib.hid hsp
    clear hps hsp hpl hm hm0
    go_enter Tryz.func62, Tryz.ntmps62
    go_wp2_with fail
    refine HSP.out.mono ?_
    rintro e w1 ⟨rfl, hw1⟩
    have hcl : ∀ W, Below (w.heap.size + 1) w1 W → ∀ j (h : j < ps.length), W.cell? ⟨w.heap.size, j, none⟩ = some (.string ps[j]) := fun W hb j h => by
      have hb' : Below (w.alloc (.cells (ps.map Value.string).toArray 9)).heap.size (w.alloc (.cells (ps.map Value.string).toArray 9)) W := by rw [hw1] at hb; simpa using hb
      rw [new_cell hb' j]
      simp [h]
    have hz1 : w1.heap.size = w.heap.size + 1 := by rw [hw1]; simp
    have hbw1 : Below w.heap.size w w1 := by rw [hw1]; exact (Below.refl _ _).alloc (Nat.le_refl _) _
    have hpl : (splL 44 s.data.toList).length = ps.length := by rw [← HPS.out, List.length_map]
    have HCL := Lib.hid hcl
    have HBW1 := Lib.hid hbw1
    have HPL := Lib.hid hpl
    have hge1 : w.heap.size + 1 ≤ w1.heap.size := Nat.le_of_eq hz1.symm
    clear hcl hbw1 hpl hw1 hz1 HSP q1
    by_cases h8 : 8 < ps.length
    · have d1 : decide (8 < (ps.length : Int)) = true := by simp; omega
      have HP : Hid (ParsePost s.data.toList w (.returned (.tuple #[.slice none 0 0, .int .i64 2])) w1) := ⟨_, 2, rfl, fun e => absurd e (by decide), fun _ => ⟨rfl, fun ks h => by
        rcases h with ⟨h1, _⟩ | ⟨_, h2, h3, _⟩
        · exact HM.out h1
        · have := congrArg List.length h2
          rw [List.length_map, HPL.out] at this
          omega⟩, HBW1.out⟩
      go_wp2_with fail
      exact bodyPost_ret (v := .tuple #[.slice none 0 0, .int .i64 2]) (by simp [results, Tryz.results62, go_sem]) rfl HP.out
    · have d1 : decide (8 < (ps.length : Int)) = false := by simp; omega
      go_wp2_with fail
      go_loopw [5, 18] (fun v i wr => PaRel (splL 44 s.data.toList) w w1 v i wr) (fun _ i _ => ps.length - (intOf i).toNat)
      case atStart => exact ⟨0, [], Nat.zero_le _, rfl, OwnK.nil _ _, ⟨rfl, fun x hx => by cases hx⟩, Below.refl _ _⟩
      case round =>
        obtain ⟨k, ks, hk, rfl, hO, hks, hB⟩ := hrel
        rw [HPL.out] at hk
        obtain ⟨Ao, co, rfl, _⟩ := hO.form
        have hbase : w.heap.size + 1 ≤ wr.heap.size := Nat.le_trans hge1 hB.size
        have hkl : ks.length ≤ 8 := by
          have := congrArg List.length hks.out.1
          rw [List.length_map, List.length_take] at this
          omega
        have HO := Lib.hid hO
        have HB := Lib.hid hB
        by_cases hlt : k < ps.length
        · have d2 : decide ((k : Int) < (ps.length : Int)) = true := by simp; omega
          have i7 : IntKind.i64.wrap ((k : Int) + 1) = (k : Int) + 1 := IntWalk.i64_in _ (by omega)
          have hc := HCL.out wr hB k hlt
          have HX : Hid ((splL 44 s.data.toList)[k]'(by rw [HPL.out]; exact hlt) = ps[k].data.toList) := by
            unfold Hid
            have := HPS.out
            simp only [← this, List.getElem_map]
          have HTK : Hid ((splL 44 s.data.toList).take (k + 1) = (splL 44 s.data.toList).take k ++ [ps[k].data.toList]) := by
            unfold Hid
            rw [List.take_succ_eq_append_getElem (by rw [HPL.out]; exact hlt), HX.out]
          have HMEM : Hid (ps[k].data.toList ∈ splL 44 s.data.toList) := by
            unfold Hid
            rw [← HX.out]
            exact List.getElem_mem _
          clear HX
          generalize ps[k] = x at hc HTK HMEM
          obtain ⟨wo, rfl⟩ : ∃ wo : World, wo = wr := ⟨_, rfl⟩
          clear hO hB
          go_wp2_with fail
          go_loopw [8] (fun v wr => KiRel x.data.toList wo v wr) (fun v _ => 12 - (intOf v).toNat)
          case atStart => exact ⟨1, Nat.le_refl _, by decide, rfl, fun i h1 h2 => absurd h2 (by omega), rfl⟩
          case round =>
            obtain ⟨j, hj1, hj2, rfl, hno, rfl⟩ := hrel
            by_cases hj : j ≤ 11
            · have d3 : decide ((j : Int) ≤ 11) = true := by simp; omega
              have HW := Lib.hid (word_any (j : Int) (by omega) (by omega) wr)
              by_cases hx : wordI (j : Int) = x.data.toList
              · have q3 : (wordI (j : Int) == x.toList) = true := by rw [Lib.toList_data, hx]; exact beq_self_eq_true _
                have d4 : decide (11 < (j : Int)) = false := by simp; omega
                have HNX : Hid ((ks ++ [(j : Int)]).map wordI = (splL 44 s.data.toList).take (k + 1) ∧ ∀ y ∈ ks ++ [(j : Int)], 1 ≤ y ∧ y ≤ 11) := by
                  unfold Hid
                  rw [List.map_append, HTK.out, hks.out.1]
                  refine ⟨by rw [← hx]; rfl, fun y hy => ?_⟩
                  rcases List.mem_append.1 hy with h1 | h1
                  · exact hks.out.2 y h1
                  · rw [List.mem_singleton.1 h1]; omega
                clear hx hno
                have hO := HO.out
                go_wp2_with (first | (go_at_call 83; refine HW.out.mono ?_; rintro e w4 ⟨rfl, rfl⟩) | (at_builtin; refine wpList_append_k rfl (.tmp 34) (.tmp 36) rfl (w.heap.size + 1) (.slice Ao ks.length co) ks rfl hO hbase _ (j : Int) rfl _ rfl 1 rfl (by omega) ?_; intro v5 w5 hO5 hb5 hz5))
                exact ⟨⟨k + 1, ks ++ [(j : Int)], by rw [HPL.out]; omega, rfl, hO5, HNX.out, HB.out.trans hb5⟩, by dsimp only [intOf]; omega⟩
              · have q3 : (wordI (j : Int) == x.toList) = false := by rw [Lib.toList_data, beq_eq_false_iff_ne]; exact hx
                have i8 : IntKind.i64.wrap ((j : Int) + 1) = (j : Int) + 1 := IntWalk.i64_in _ (by omega)
                have HNO : Hid (∀ i : Nat, 1 ≤ i → i < j + 1 → wordI i ≠ x.data.toList) := fun i h1 h2 => by
                  by_cases e : i = j
                  · subst e; exact hx
                  · exact hno.out i h1 (by omega)
                clear hx hno
                go_wp2_with (go_at_call 83; refine HW.out.mono ?_; rintro e w4 ⟨rfl, rfl⟩)
                exact ⟨⟨j + 1, by omega, by omega, rfl, HNO.out, rfl⟩, by dsimp only [intOf]; omega⟩
            · have d3 : decide ((j : Int) ≤ 11) = false := by simp; omega
              have d4 : decide (11 < (j : Int)) = true := by simp; omega
              have HP : Hid (ParsePost s.data.toList w (.returned (.tuple #[.slice none 0 0, .int .i64 3])) wr) := ⟨_, 3, rfl, fun e => absurd e (by decide), fun _ => ⟨rfl, fun ks' h => by
                rcases h with ⟨h1, _⟩ | ⟨_, h2, _, h4⟩
                · exact HM.out h1
                · have h5 := HMEM.out
                  rw [← h2] at h5
                  obtain ⟨y, hy, e⟩ := List.mem_map.1 h5
                  obtain ⟨h6, h7⟩ := h4 y hy
                  obtain ⟨m, rfl⟩ := Int.eq_ofNat_of_zero_le (show 0 ≤ y by omega)
                  exact hno.out m (by omega) (by omega) e⟩, HBW1.out.trans (HB.out.mono (Nat.le_succ _))⟩
              clear hno
              go_wp2_with fail
              exact bodyPost_ret (v := .tuple #[.slice none 0 0, .int .i64 3]) (by simp [results, Tryz.results62, go_sem]) rfl HP.out
        · obtain rfl : k = ps.length := by omega
          have d2 : decide ((ps.length : Int) < (ps.length : Int)) = false := by simp
          have HP : Hid (ParsePost s.data.toList w (.returned (.tuple #[.slice Ao ks.length co, .int .i64 0])) wr) := by
            refine ⟨_, 0, rfl, fun _ => ⟨ks, hO.low (Nat.le_succ _), .inr ⟨HM.out, ?_, hkl, hks.out.2⟩⟩, fun e => absurd rfl e, HBW1.out.trans (hB.mono (Nat.le_succ _))⟩
            rw [hks.out.1, ← HPL.out, List.take_length]
          clear hO hB
          go_wp2_with fail
          exact bodyPost_ret (v := .tuple #[.slice Ao ks.length co, .int .i64 0]) (by simp [results, Tryz.results62, go_sem]) rfl HP.out
end Go.Proofs.YtdkbfljhfhjofaaGreatDoor
