/-
  DERIVED. GIVEN WITH THE SEED: THE CARDS: each row of YtedjidammcdkmaaDoorRows.lean that lists a variable, with what it lists TIED to the program's text (the seventh form; the later family's looks); each row that meets fmt, with fmt's text TOLD by the authors' own Lean function (tested against real Go, not proved from fmt's source: count such statements apart). THE CARD IS WHAT COUNTS. Prove the row's statement (the work); the ties are given (YtedjidammcdkmaaDoorTie.lean); close each card by the builder's one call (the guide's Derived/Test/ToyasCard.lean, 'card_holds'). Laid BY PROGRAM, IN A SANDBOX (cutbox-door.mjs). By AI agents, Wed Nov 11 2026. No macro, syntax, notation, axiom, sorry.
-/
import Derived.Test.YtedjidammcdkmaaDoorRows
import GoSem.ClaimSeven
namespace Go.Proofs.YtedjidammcdkmaaDoor
namespace Rows

/-- THE TIED CARD OF 'wickkeep.ArgsBack'. -/
def argsBackCard : Claim7 := { stood := { row := argsBackRow, standIns := [], harness := (true, "008a7f5a0c82a2200d09c6dc9ba622f94977a4beebb20018fa8dfbfa46e468b2"), looks := false }, kinds := [], alts := [], laidByText := true, laidKinds := [.data, .pinned], laidTests := true, laidLooks := .later }
def ArgsBackCardSaid : Prop := Claim7.holds Tryd.pinned (.plain (OpenSpec.ofChange argsBackSpec)) argsBackCard

/-- THE SECOND FORM's CARD OF 'wickkeep.ArgsBack'. -/
def argsBackUptoCard : Claim7 := { stood := { row := argsBackUptoRow, standIns := [], harness := (true, "008a7f5a0c82a2200d09c6dc9ba622f94977a4beebb20018fa8dfbfa46e468b2"), looks := false }, kinds := [], alts := [], laidByText := true, laidKinds := [.data, .pinned], laidTests := true, laidLooks := .later }
def ArgsBackUptoCardSaid : Prop := Claim7.holds Tryd.pinned (.plain (OpenSpec.upto argsBackSpec)) argsBackUptoCard
end Rows
end Go.Proofs.YtedjidammcdkmaaDoor
