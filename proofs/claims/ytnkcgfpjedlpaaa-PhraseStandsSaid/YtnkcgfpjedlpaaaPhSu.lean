/- PhraseStands of its opened arguments. -/
import Derived.Test.YtnkcgfpjedlpaaaPhSt
import Derived.Test.YtnkcgfpjedlpaaaOpenW
namespace Go.Proofs.Ytnkcgfpjedlpaaa
open Go.RowKit

theorem phraseStands_any (a : WArg) (s : ByteArray) (W : World) (h : WordsArg W (.slice a.A a.l.length a.c) a) (_ : True) (hs : s.size ≤ 140737488351232) :
    Calls Try.prog 3 #[.slice a.A a.l.length a.c, .string s] W fun e w' => e = .returned (.bool true) ∧ Below W.heap.size W w' :=
  phraseStands_walk a.A a.c a.l.length a.l s W rfl h.sl hs
end Go.Proofs.Ytnkcgfpjedlpaaa
