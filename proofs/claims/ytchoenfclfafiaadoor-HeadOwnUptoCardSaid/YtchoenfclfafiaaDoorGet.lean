/- The walk of head.Get. -/
import Derived.Test.YtchoenfclfafiaaDoorMem
import Derived.Test.YtchoenfclfafiaaDoorOctB
namespace Go.Proofs.YtchoenfclfafiaaDoor
open Go.RowKit

def sameN (name : ByteArray) (f : ByteArray × ByteArray) : Bool := lowerL f.1.data.toList == lowerL name.data.toList
def getL (fs : List (ByteArray × ByteArray)) (name : ByteArray) : List ByteArray := (fs.filter (sameN name)).map (·.2)
theorem getL_snoc (fs : List (ByteArray × ByteArray)) (name : ByteArray) (k : Nat) (h : k < fs.length) : getL (fs.take (k + 1)) name = getL (fs.take k) name ++ if sameN name fs[k] = true then [fs[k].2] else [] := by
  unfold getL
  rw [List.take_succ_eq_append_getElem h, List.filter_append, List.map_append]
  by_cases c : sameN name fs[k] = true <;> simp [c]
theorem getL_len (fs : List (ByteArray × ByteArray)) (name : ByteArray) (k : Nat) : (getL (fs.take k) name).length ≤ k := by
  unfold getL
  rw [List.length_map]
  exact Nat.le_trans (List.length_filter_le _ _) (List.length_take_le _ _)
theorem getL_len' (fs : List (ByteArray × ByteArray)) (name : ByteArray) : (getL fs name).length ≤ fs.length := by
  have := getL_len fs name fs.length
  rw [List.take_length] at this
  exact this
theorem getL_sizes {fs : List (ByteArray × ByteArray)} {name : ByteArray} (h : ∀ f ∈ fs, f.2.size ≤ maxLen) : ∀ x ∈ getL fs name, x.size ≤ maxLen := fun x hx => by
  obtain ⟨f, hf, rfl⟩ := List.mem_map.1 hx
  exact h f (List.mem_filter.1 hf).1
def GetRel (w : World) (fs : List (ByteArray × ByteArray)) (name : ByteArray) (v i : Value) (wr : World) : Prop :=
  ∃ k : Nat, k ≤ fs.length ∧ i = .int .i64 k ∧ OwnS wr w.heap.size v (getL (fs.take k) name) ∧ Below w.heap.size w wr
def RowPost (l : List ByteArray) (w : World) (e : Ending) (w' : World) : Prop := ∃ v, e = .returned v ∧ OwnS w' w.heap.size v l ∧ Below w.heap.size w w'

set_option maxRecDepth 100000 in
set_option maxHeartbeats 800000 in
theorem Get_any (m t : ByteArray) (A : Option Addr) (n c : Nat) (fs : List (ByteArray × ByteArray)) (name : ByteArray) (w : World) (hn : n = fs.length) (hf : Sl w w.heap.size 2 A n (cellsF fs))
    (hs : ∀ f ∈ fs, f.1.size ≤ maxLen) (hname : name.size ≤ maxLen) (hl : fs.length ≤ 4398046511104) :
    Calls Tryd.prog 41 #[.agg #[.string m, .string t, .slice A n c], .string name] w (RowPost (getL fs name) w) := by
  subst hn
  go_enter Tryd.func41, Tryd.ntmps41
  go_wp2_with fail
  go_loopw [5, 11] (fun v i wr => GetRel w fs name v i wr) (fun _ i _ => fs.length - (intOf i).toNat)
  case atStart => exact ⟨0, Nat.zero_le _, rfl, OwnS.nil _ _, (Below.refl _ _).alloc (Nat.le_refl _) _⟩
  case round =>
    obtain ⟨k, hk, rfl, hown, hb⟩ := hrel
    by_cases hlt : k < fs.length
    · obtain ⟨b, off, rfl, hbB, hc1, hc2⟩ := (hf.below hb).field hlt
      have HS := Lib.hid hs
      have H1 := hs _ (List.getElem_mem hlt)
      clear hs hf
      go_wp2_with fail
      refine (Lower_any _ _ H1).mono ?_
      rintro e w1 ⟨rfl, hb1⟩
      go_wp2_with fail
      refine (Lower_any _ _ hname).mono ?_
      rintro e w2 ⟨rfl, hb2⟩
      have hb3 := hb1.trans (hb2.mono hb1.size)
      have hx := new_cell hb3 1
      have hown2 := hown.later hb3
      have hb4 := hb.trans (below_new hb3 hb.size)
      have hz := hb4.size
      have HG := Lib.hid (getL_snoc fs name k hlt)
      have hgl := getL_len fs name k
      clear hown hb1 hb2 hb3
      go_wp2_with (at_builtin; refine wpList_append_s rfl _ _ rfl w.heap.size _ (getL (fs.take k) name) rfl (by exact hown2) (by exact hz) [.string fs[k].2] [fs[k].2] rfl 1 1 rfl rfl (by omega) ?_; intro v' w3 hown3 hb5 _ hz5)
      · have h1 : sameN name fs[k] = true := by assumption
        go_roundw
        case rel => exact ⟨k + 1, by omega, by go_num, by rw [HG.out, if_pos h1]; exact hown3, hb4.trans hb5⟩
        case measure => simp [intOf] <;> omega
      · have h1 : sameN name fs[k] = false := by assumption
        go_roundw
        case rel => exact ⟨k + 1, by omega, by go_num, by rw [HG.out, h1]; simpa using hown2, hb4⟩
        case measure => simp [intOf] <;> omega
    · obtain rfl : k = fs.length := by omega
      go_wp2_with fail
      go_ret
      exact ⟨_, rfl, by rw [List.take_length] at hown; exact hown, hb⟩
end Go.Proofs.YtchoenfclfafiaaDoor
