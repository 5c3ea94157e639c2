/- strconv.Itoa of a number that is not negative, under the laid table. -/
import Derived.Test.YtchoenfclfafiaaDoorBase
import Derived.Test.YtchoenfclfafiaaDoorShelf
import Derived.Lib.AppendIntMem
import Derived.Lib.ItoaNum
namespace Go.Proofs.YtchoenfclfafiaaDoor
open Go.RowKit Go.Sort

/-- The table of powers is laid. -/
def TabOk (w : World) : Prop := ∀ w', Below w.heap.size w w' → Lib.TabIs Tryd.prog w' "internal/strconv.uint64pow10" .u64 Lib.pow10Tab
theorem TabOk.of {w : World} (h : Lib.TabIs Tryd.prog w "internal/strconv.uint64pow10" .u64 Lib.pow10Tab) : TabOk w := Lib.tabBelow_of_tabIs h
theorem TabOk.below {w w' : World} (h : TabOk w) (hb : Below w.heap.size w w') : TabOk w' := fun w2 hb2 => h w2 (hb.trans (hb2.mono hb.size))
theorem below_growI (w : World) (k : Nat) (os : Array Obj) : Below w.heap.size w (grow (w.drewN k) os) :=
  ⟨rfl, rfl, rfl, by rw [size_grow]; exact Nat.le_add_right _ _, fun j hj => heap_grow_old (w.drewN k) os hj⟩
theorem itoa_any (n : Nat) (w : World) (hn : n ≤ 9223372036854775807) (h : TabOk w) :
    Calls Tryd.prog 32 #[.int .i64 (n : Int)] w fun e w' => e = .returned (.string (bs (Lib.decDigits n))) ∧ Below w.heap.size w w' :=
  (Tryd.strconv_Itoa (n : Int) (by omega) (by omega) w (h w (Below.refl _ _))).mono fun e w' ⟨h1, k', os, h2⟩ => by
    subst h2
    refine ⟨?_, below_growI w k' os⟩
    rw [h1]
    unfold Lib.itoa
    rw [if_neg (by omega)]
    rfl
end Go.Proofs.YtchoenfclfafiaaDoor
