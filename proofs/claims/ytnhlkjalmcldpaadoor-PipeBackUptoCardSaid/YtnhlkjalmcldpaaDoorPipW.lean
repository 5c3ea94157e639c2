/- The walks of pipe.Print and pipe.Parse. -/
import Derived.Test.YtnhlkjalmcldpaaDoorPipA
import Derived.Test.YtnhlkjalmcldpaaDoorOctC
namespace Go.Proofs.YtnhlkjalmcldpaaDoor
open Go.RowKit

def PrintPost (l : List Int) (w : World) (e : Ending) (w' : World) : Prop :=
  e = .returned (.tuple #[.string (if checkP l = 0 then bs (printP l) else bs []), .int .i64 (checkP l)]) ∧ Below w.heap.size w w'
def PrRel (l : List Int) (w : World) (v i : Value) (wr : World) : Prop :=
  ∃ k : Nat, k ≤ l.length ∧ i = .int .i64 k ∧ OwnS wr w.heap.size v ((l.take k).map fun x => bs (wordI x)) ∧ Below w.heap.size w wr
theorem join_len (c : UInt8) : ∀ ws : List (List UInt8), (∀ w ∈ ws, w.length ≤ 7) → (Lib.join ws [c]).length ≤ ws.length * 8
  | [], _ => by simp [Lib.join_nil]
  | w :: r, h => by
    have ht : ∀ r : List (List UInt8), (∀ w ∈ r, w.length ≤ 7) → (Lib.joinTail [c] r).length ≤ r.length * 8 := fun r => by
      induction r with
      | nil => intro _; simp [Lib.joinTail]
      | cons x r ih =>
        intro h
        have h1 := ih fun w hw => h w (by simp [hw])
        have h2 := h x (by simp)
        simp only [Lib.joinTail, List.map_cons, List.flatten_cons, List.length_append, List.length_cons, List.length_nil] at h1 ⊢
        omega
    rw [Lib.join_cons, List.length_append]
    have h1 := ht r fun x hx => h x (by simp [hx])
    have h2 := h w (by simp)
    simp only [List.length_cons]
    omega

set_option maxRecDepth 100000 in
set_option maxHeartbeats 1600000 in
theorem Print_any (l : List Int) (A : Option Addr) (c : Nat) (w : World) (h : Sl w w.heap.size 1 A l.length (l.map (Value.int .i64))) (hl : l.length ≤ 1048576) :
    Calls Tryd.prog 20 #[.slice A l.length c] w (PrintPost l w) := by
  have HC := Lib.hid (PCheckP_any l A c w h hl)
  by_cases hc : checkP l = 0
  · have hk := checkP_ok.1 hc
    have HCZ := Lib.hid hc
    by_cases hn : l = []
    · subst hn
      have HP : Hid (PrintPost [] w = fun e w' => e = .returned (.tuple #[.string (ByteArray.mk #[45]), .int .i64 0]) ∧ Below w.heap.size w w') := rfl
      rw [HP.out]
      rw [HCZ.out] at HC
      dsimp only [List.length_nil] at HC ⊢
      clear hk hc h
      go_enter Tryd.func20, Tryd.ntmps20
      go_wp2_with fail
      refine HC.out.mono ?_
      rintro e w1 ⟨rfl, hb⟩
      go_wp2_with fail
      exact bodyPost_ret (v := .tuple #[.string (ByteArray.mk #[45]), .int .i64 0]) (by simp [results, Tryd.results20, go_sem]) rfl ⟨rfl, hb⟩
    · have hpos : 0 < l.length := List.length_pos_iff.2 hn
      have HPP : Hid (printP l = Lib.join (l.map wordI) [44]) := by unfold Hid printP; rw [if_neg hn]
      have HK := Lib.hid hk.2
      have h8 := hk.1
      unfold PrintPost
      rw [HCZ.out, if_pos rfl, HPP.out]
      rw [HCZ.out] at HC
      have d0 : ((l.length : Int) == 0) = false := by rw [beq_eq_false_iff_ne]; omega
      have HJ : Hid ((Lib.join (l.map wordI) [44]).length ≤ 140737488355328) := by
        have := join_len 44 (l.map wordI) fun w hw => by
          obtain ⟨x, hx, rfl⟩ := List.mem_map.1 hw
          exact (word_ok (hk.2 x hx).1 (hk.2 x hx).2).2.2.2.2
        rw [List.length_map] at this
        unfold Hid
        omega
      clear hk hc hn
      go_enter Tryd.func20, Tryd.ntmps20
      go_wp2_with fail
      refine HC.out.mono ?_
      rintro e w1 ⟨rfl, hb⟩
      go_wp2_with fail
      go_loopw [5, 18] (fun v i wr => PrRel l w v i wr) (fun _ i _ => l.length - (intOf i).toNat)
      case atStart => exact ⟨0, Nat.zero_le _, rfl, OwnS.nil _ _, hb⟩
      case round =>
        obtain ⟨k, hk, rfl, hO, hb2⟩ := hrel
        by_cases hlt : k < l.length
        · have d1 : decide ((k : Int) < (l.length : Int)) = true := by simp; omega
          obtain ⟨b, off, rfl, hbB, hcell⟩ := (h.below hb2).src (by rw [List.length_map]; omega)
          have hc := hcell k (by rw [List.length_map]; exact hlt)
          rw [List.getElem_map] at hc
          have hr := HK.out l[k] (List.getElem_mem hlt)
          have HST : Hid ((l.take (k + 1)).map (fun x => bs (wordI x)) = (l.take k).map (fun x => bs (wordI x)) ++ [bs (wordI l[k])]) := by
            unfold Hid
            rw [List.take_succ_eq_append_getElem hlt, List.map_append]
            rfl
          generalize l[k] = x at hc hr HST
          have HW := Lib.hid (word_any x (by omega) hr.2 wr)
          have i7 : IntKind.i64.wrap ((k : Int) + 1) = (k : Int) + 1 := IntWalk.i64_in _ (by omega)
          have hz := hb2.size
          have hll : ((l.take k).map fun x => bs (wordI x)).length ≤ 8 := by rw [List.length_map, List.length_take]; omega
          generalize (l.take k).map (fun x => bs (wordI x)) = acc at hO HST hll
          obtain ⟨Ao, co, rfl, _⟩ := hO.form
          clear hcell hr
          go_wp2_with fail
          refine HW.out.mono ?_
          rintro e w2 ⟨rfl, rfl⟩
          go_wp2_with (at_builtin; refine wpList_append_s rfl (.tmp 22) (.tmp 25) rfl w.heap.size (.slice Ao acc.length co) acc rfl hO hz _ [bs (wordI x)] rfl 1 1 rfl rfl (by omega) ?_; intro v5 w5 hO5 hb5 hk5 hz5)
          exact ⟨⟨k + 1, by omega, rfl, by rw [HST.out]; exact hO5, hb2.trans hb5⟩, by dsimp only [intOf]; omega⟩
        · obtain rfl : k = l.length := by omega
          obtain ⟨Ao, co, rfl, hSo⟩ := hO.form
          have d1 : decide ((l.length : Int) < (l.length : Int)) = false := by simp
          rw [List.take_length] at hO hSo
          have hsl : (l.map fun x => bs (wordI x)).length = l.length := by rw [List.length_map]
          have hxs : (l.map fun x => bs (wordI x)).map (·.data.toList) = l.map wordI := by rw [List.map_map]; rfl
          obtain ⟨bo, oo, rfl, hbo, hco⟩ := hSo.src (by rw [List.length_map, List.length_map]; exact hpos)
          have hcap : (l.map fun x => bs (wordI x)).length ≤ co := by
            rcases hO.2 with ⟨e, _⟩ | ⟨_, _, _, e, _, _, h9, _⟩
            · cases e
            · injection e with _ _ e; rw [e]; exact h9
          have hj := Tryd.strings_Join bo oo co (l.map fun x => bs (wordI x)) ⟨#[44]⟩ wr (fun j x hx => by
            have hjl : j < ((l.map fun x => bs (wordI x)).map Value.string).length := by rw [List.length_map]; exact (List.getElem?_eq_some_iff.1 hx).1
            rw [hco j hjl, List.getElem_map]
            obtain ⟨h9, h10⟩ := List.getElem?_eq_some_iff.1 hx
            rw [h10]) hbo (by rw [hsl]; omega) hcap (by rw [hxs]; exact HJ.out)
          rw [hxs, hsl] at hj
          have HJN := Lib.hid hj
          rw [List.take_length, hsl]
          clear hj hO hSo hco hxs
          go_wp2_with fail
          refine HJN.out.mono ?_
          rintro e w5 ⟨rfl, hb5⟩
          go_wp2_with fail
          exact bodyPost_ret (v := .tuple #[.string (bs (Lib.join (l.map wordI) [44])), .int .i64 0]) (by simp [results, Tryd.results20, go_sem, bs]) rfl ⟨rfl, hb2.trans (hb5.mono hb2.size)⟩
  · have HP : Hid (PrintPost l w = fun e w' => e = .returned (.tuple #[.string (ByteArray.mk #[]), .int .i64 (checkP l)]) ∧ Below w.heap.size w w') := by unfold Hid PrintPost; rw [if_neg hc]; rfl
    rw [HP.out]
    have qc : (checkP l != 0) = true := bne_iff_ne.2 hc
    generalize checkP l = ck at *
    clear hc h HP
    go_enter Tryd.func20, Tryd.ntmps20
    go_wp2_with fail
    refine HC.out.mono ?_
    rintro e w1 ⟨rfl, hb⟩
    go_wp2_with fail
    exact bodyPost_ret (v := .tuple #[.string (ByteArray.mk #[]), .int .i64 ck]) (by simp [results, Tryd.results20, go_sem]) rfl ⟨rfl, hb⟩
end Go.Proofs.YtnhlkjalmcldpaaDoor
