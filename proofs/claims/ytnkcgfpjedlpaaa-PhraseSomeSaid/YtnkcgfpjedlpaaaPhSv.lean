/- PhraseSome of its opened arguments. -/
import Derived.Test.YtnkcgfpjedlpaaaPhSm
import Derived.Test.YtnkcgfpjedlpaaaOpenW
namespace Go.Proofs.Ytnkcgfpjedlpaaa
open Go.RowKit

theorem phraseSome_any (a : WArg) (s more : ByteArray) (W : World) (h : WordsArg W (.slice a.A a.l.length a.c) a) (_ : True) (_ : s.size ≤ 140737488351232) (_ : more.size ≤ 140737488351232) (hl : LibOk W) :
    Calls Try.prog 4 #[.slice a.A a.l.length a.c, .string s, .string more] W fun e w' => e = .returned (.bool true) ∧ Below W.heap.size W w' :=
  phraseSome_walk a.A a.c a.l.length a.l s more W rfl h.sl hl
end Go.Proofs.Ytnkcgfpjedlpaaa
