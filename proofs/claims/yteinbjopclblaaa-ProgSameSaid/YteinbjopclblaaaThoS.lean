/- Threads that were just made. -/
import Derived.Test.YteinbjopclblaaaThoA
namespace Go.Proofs.Yteinbjopclblaaa
open Go.RowKit

theorem FromN.zero (w : World) (n : Nat) : FromN (w.alloc (.cells (List.replicate n (Value.int .i64 0)).toArray 3)) w.heap.size n (fun _ => 0) := by
  unfold FromN
  rw [heap_alloc_new]
  congr 3
  apply List.ext_getElem (by simp)
  intro i h1 h2
  simp [natV]
theorem ThM.fresh {w : World} {gt : Nat} {pv : Value} {s : ByteArray} {gF n : Nat} (hb : ThB w gt pv s gF n (.slice none 0 0)) (hf : FromN w gF n (fun _ => 0)) : ThM w gt pv s gF n (.slice none 0 0) (fun _ => 0) [] :=
  ⟨hb, hf, OwnN.nil w, by simp [Value.ownBlock], by have := unmet_le n (fun _ => 0); simpa using this⟩
theorem ThM.keep {w w' : World} {gt : Nat} {pv : Value} {s : ByteArray} {gF n : Nat} {vl : Value} {G : Nat → Nat} {lg : List Nat} (h : ThM w gt pv s gF n vl G lg) (h1 : w'.heap[gt]? = w.heap[gt]?) (h2 : w'.heap[gF]? = w.heap[gF]?) (h3 : ∀ g, vl.ownBlock = some g → w'.heap[g]? = w.heap[g]?) : ThM w' gt pv s gF n vl G lg :=
  ⟨h.blk.keep h1, h.frm.keep h2, h.lst.keep h3, h.far, h.len⟩
theorem FromN.made {w : World} {g n : Nat} (h : w.ownsRow w.heap.size 3 1 (.slice (some ⟨g, 0, none⟩) n n) n (List.replicate n (Value.int .i64 0)) ∨ w.ownsRow 0 3 1 (.slice (some ⟨g, 0, none⟩) n n) n (List.replicate n (Value.int .i64 0))) : FromN w g n (fun _ => 0) := by
  have key : ∀ base, w.ownsRow base 3 1 (.slice (some ⟨g, 0, none⟩) n n) n (List.replicate n (Value.int .i64 0)) → FromN w g n (fun _ => 0) := fun base h => by
    rcases h.2 with ⟨h1, _⟩ | ⟨g', cap, cur, h1, _, h3, _, _, h5, h6⟩
    · cases h1
    · injection h1 with h1 _ h2
      injection h1 with h1
      injection h1 with h1
      subst h1; subst h2
      unfold FromN
      rw [h3]
      have e : cur.toList = (List.range n).map fun _ => natV 0 := by
        rw [Nat.mul_one] at h5 h6
        rw [List.take_of_length_le (by rw [Array.length_toList]; omega)] at h6
        rw [h6]
        apply List.ext_getElem (by simp)
        intro i a b
        simp [natV]
      rw [← e]
  exact h.elim (key _) (key _)
section
variable {ops : Array Oper} {rest : List Oper} {o : Oper} {a : Act} {Q : Exit → Act → World → Prop} {w : World}
theorem wpList_make_n (hgd : o.guard = none) (x y : Operand) (hop : o.op = .makeSlice 49 x y) (n g : Nat) (hg : w.heap.size = g) (hx : a.eval x = .int .i64 (n : Int)) (hy : a.eval y = .int .i64 (n : Int)) (hn : n ≤ 1048576)
    (hK : ∀ w', FromN w' g n (fun _ => 0) → Below w.heap.size w w' → g < w'.heap.size → wpList Try.prog ops Q rest (a.put o.dst (.slice (some ⟨g, 0, none⟩) n n)) w') :
    wpList Try.prog ops Q (o :: rest) a w := by
  subst hg
  obtain ⟨i0, hi, hz0, hz1, hz2⟩ := info_parts info_intN
  refine wpList_make_full w hgd x y 49 hop 0 3 i0 (.int .i64 0) 1 Try.underlying49 hi hz0 hz1 .i64 .i64 _ _ n hx hy rfl rfl (by rw [hz2]; omega) (by unfold maxLen; omega) (Nat.zero_le _) fun w' h1 h2 => ?_
  rw [Nat.mul_one] at h1
  have e : (madeCells (Value.int .i64 0).cells n).toList = List.replicate n (Value.int .i64 0) := toList_madeCells_one (.int .i64 0) n
  rw [e] at h1
  have hF := FromN.made (.inr h1)
  exact hK w' hF (below_none h2) (heap_lt hF)
end
/-- The place behind the new thread. -/
theorem mid_added {P : List Ins} {sl : List UInt8} {t f : Nat} {F : Nat → Nat} {ls : List Nat} {G : Nat → Nat} {lg : List Nat} (hc : CompLt P sl t F false f) (hF : Thr P sl t F ls) (hm : ∀ m, F m ≤ t) (hA : AddPost P sl t 0 t F ls G lg) :
    Comp P sl t G false f ∧ Thr P sl t G lg ∧ ∀ m, G m ≤ t + 1 :=
  have h1 : ∀ m, F m ≤ t + 1 := fun m => Nat.le_succ_of_le (hm m)
  ⟨comp_added hc hF h1 hA, hA.thr hF h1 (R.start t), hA.le h1⟩
/-- No new thread once a span is found. -/
theorem mid_found {P : List Ins} {sl : List UInt8} {t f to N : Nat} {F : Nat → Nat} (hc : CompLt P sl t F true f) (hb : BestI P sl N (fun j => j < t) true f to) : Comp P sl t F true f :=
  comp_found hc (by
    obtain ⟨h1, h2, _⟩ := hb.1 rfl
    have h3 := h1.le
    have h4 : to < t := h2
    omega)
end Go.Proofs.Yteinbjopclblaaa
