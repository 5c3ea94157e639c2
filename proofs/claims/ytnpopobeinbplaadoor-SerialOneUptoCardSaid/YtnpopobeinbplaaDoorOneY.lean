/- The walk of OneMore. -/
import Derived.Test.YtnpopobeinbplaaDoorOneM
import Derived.Test.YtnpopobeinbplaaDoorRest
import Derived.Deep.RegionHeld3
import Derived.Deep.CutRange
namespace Go.Proofs.YtnpopobeinbplaaDoor
open Go.RowKit

def getS : ByteArray := ByteArray.mk #[71, 69, 84, 32, 47]
theorem get_more : oneR getS.data.toList 4096 4096 = .error 7 := by kernel_rfl
theorem one_err_any {s : ByteArray} {H B A0 x : Int} {W : World} (hb : boundsB H B A0 = true) (hx : oneR s.data.toList H B = .error x) (hl : LibOk W) (hs : s.size ≤ 4611686018427387904) :
    Calls Tryd.prog 21 #[.string s, .agg #[.int .i64 H, .int .i64 B, .int .i64 A0]] W fun e w' => e = .returned (.tuple #[.agg #[.string (ByteArray.mk #[]), .string (ByteArray.mk #[]), .slice none 0 0, .string (ByteArray.mk #[])], .int .i64 0, .int .i64 x]) ∧ Below W.heap.size W w' := by
  refine (One_any s H B A0 W hb hl hs).mono ?_
  rintro e w' (⟨y, hy, rfl, hb⟩ | ⟨q, n, A, c, hy, _⟩)
  · rw [hx] at hy
    injection hy with hy
    subst hy
    exact ⟨rfl, hb⟩
  · rw [hx] at hy; cases hy
theorem one_ok_any {s : ByteArray} {H B A0 : Int} {q : ReqV} {n : Nat} {W : World} (hb : boundsB H B A0 = true) (hx : oneR s.data.toList H B = .ok (q, n)) (hl : LibOk W) (hs : s.size ≤ 4611686018427387904) :
    Calls Tryd.prog 21 #[.string s, .agg #[.int .i64 H, .int .i64 B, .int .i64 A0]] W fun e w' => ∃ A c, e = .returned (.tuple #[.agg #[.string q.h.m, .string q.h.t, .slice A q.h.fs.length c, .string (bs q.b)], .int .i64 (n : Int), .int .i64 0]) ∧ OwnV w' W.heap.size (.slice A q.h.fs.length c) q.h.fs ∧ Below W.heap.size W w' := by
  refine (One_any s H B A0 W hb hl hs).mono ?_
  rintro e w' (⟨y, hy, _⟩ | ⟨p, k, A, c, hy, rfl, hO, hb⟩)
  · rw [hx] at hy; cases hy
  · rw [hx] at hy
    injection hy with hy
    injection hy with h1 h2
    subst h1; subst h2
    exact ⟨A, c, rfl, hO, hb⟩

theorem req_new {W w' : World} (hb : Below (W.alloc (.cells #[.string (ByteArray.mk #[]), .string (ByteArray.mk #[]), .slice none 0 0, .string (ByteArray.mk #[])] 50)).heap.size (W.alloc (.cells #[.string (ByteArray.mk #[]), .string (ByteArray.mk #[]), .slice none 0 0, .string (ByteArray.mk #[])] 50)) w') : ReqAt W.heap.size w' :=
  (hb.block W.heap.size (by simp)).trans (heap_alloc_new W _)
end Go.Proofs.YtnpopobeinbplaaDoor
