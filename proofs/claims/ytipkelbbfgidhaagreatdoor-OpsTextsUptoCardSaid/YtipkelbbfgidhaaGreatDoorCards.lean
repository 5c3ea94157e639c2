/-
  DERIVED. GIVEN WITH THE SEED: THE CARDS: each row of YtipkelbbfgidhaaGreatDoorRows.lean that lists a variable, with what it lists TIED to the program's text (the seventh form; the later family's looks); each row that meets fmt, with fmt's text TOLD by the authors' own Lean function (tested against real Go, not proved from fmt's source: count such statements apart). THE CARD IS WHAT COUNTS. Prove the row's statement (the work); the ties are given (YtipkelbbfgidhaaGreatDoorTie.lean); close each card by the builder's one call (the guide's Derived/Test/ToyasCard.lean, 'card_holds'). Laid BY PROGRAM, IN A SANDBOX (cutbox-door.mjs). By AI agents, Wed Nov 11 2026. No macro, syntax, notation, axiom, sorry.
-/
import Derived.Test.YtipkelbbfgidhaaGreatDoorRows
import GoSem.ClaimSeven
namespace Go.Proofs.YtipkelbbfgidhaaGreatDoor
namespace Rows

/-- THE TIED CARD OF 'wickkeep.OpsTexts'. -/
def opsTextsCard : Claim7 := { stood := { row := opsTextsRow, standIns := [], harness := (true, "3bbfb8cbd36ff2cfcf5abc2f7f13da11bf73bb8c283e10e4cdb471df0b700313"), looks := false }, kinds := [], alts := [], laidByText := true, laidKinds := [.data, .pinned], laidTests := true, laidLooks := .later }
def OpsTextsCardSaid : Prop := Claim7.holds Tryz.pinned (.plain (OpenSpec.ofChange opsTextsSpec)) opsTextsCard

/-- THE SECOND FORM's CARD OF 'wickkeep.OpsTexts'. -/
def opsTextsUptoCard : Claim7 := { stood := { row := opsTextsUptoRow, standIns := [], harness := (true, "3bbfb8cbd36ff2cfcf5abc2f7f13da11bf73bb8c283e10e4cdb471df0b700313"), looks := false }, kinds := [], alts := [], laidByText := true, laidKinds := [.data, .pinned], laidTests := true, laidLooks := .later }
def OpsTextsUptoCardSaid : Prop := Claim7.holds Tryz.pinned (.plain (OpenSpec.upto opsTextsSpec)) opsTextsUptoCard
end Rows
end Go.Proofs.YtipkelbbfgidhaaGreatDoor
