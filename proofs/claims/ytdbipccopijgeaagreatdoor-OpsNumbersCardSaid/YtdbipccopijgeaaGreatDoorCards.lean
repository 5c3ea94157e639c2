/-
  DERIVED. GIVEN WITH THE SEED: THE CARDS: each row of YtdbipccopijgeaaGreatDoorRows.lean that lists a variable, with what it lists TIED to the program's text (the seventh form; the later family's looks); each row that meets fmt, with fmt's text TOLD by the authors' own Lean function (tested against real Go, not proved from fmt's source: count such statements apart). THE CARD IS WHAT COUNTS. Prove the row's statement (the work); the ties are given (YtdbipccopijgeaaGreatDoorTie.lean); close each card by the builder's one call (the guide's Derived/Test/ToyasCard.lean, 'card_holds'). Laid BY PROGRAM, IN A SANDBOX (cutbox-door.mjs). By AI agents, Wed Nov 11 2026. No macro, syntax, notation, axiom, sorry.
-/
import Derived.Test.YtdbipccopijgeaaGreatDoorRows
import GoSem.ClaimSeven
namespace Go.Proofs.YtdbipccopijgeaaGreatDoor
namespace Rows

/-- THE TIED CARD OF 'wickkeep.OpsNumbers'. -/
def opsNumbersCard : Claim7 := { stood := { row := opsNumbersRow, standIns := [], harness := (true, "3109bf1b582f7feb03b177a6cedd560f27817a389e06266f92e93641ef652b3b"), looks := false }, kinds := [], alts := [], laidByText := true, laidKinds := [.data, .pinned], laidTests := true, laidLooks := .later }
def OpsNumbersCardSaid : Prop := Claim7.holds Tryz.pinned (.plain (OpenSpec.ofChange opsNumbersSpec)) opsNumbersCard

/-- THE TIED CARD OF 'wickkeep.OpsTexts'. -/
def opsTextsCard : Claim7 := { stood := { row := opsTextsRow, standIns := [], harness := (true, "3109bf1b582f7feb03b177a6cedd560f27817a389e06266f92e93641ef652b3b"), looks := false }, kinds := [], alts := [], laidByText := true, laidKinds := [.data, .pinned], laidTests := true, laidLooks := .later }
def OpsTextsCardSaid : Prop := Claim7.holds Tryz.pinned (.plain (OpenSpec.ofChange opsTextsSpec)) opsTextsCard

/-- THE SECOND FORM's CARD OF 'wickkeep.OpsNumbers'. -/
def opsNumbersUptoCard : Claim7 := { stood := { row := opsNumbersUptoRow, standIns := [], harness := (true, "3109bf1b582f7feb03b177a6cedd560f27817a389e06266f92e93641ef652b3b"), looks := false }, kinds := [], alts := [], laidByText := true, laidKinds := [.data, .pinned], laidTests := true, laidLooks := .later }
def OpsNumbersUptoCardSaid : Prop := Claim7.holds Tryz.pinned (.plain (OpenSpec.upto opsNumbersSpec)) opsNumbersUptoCard

/-- THE SECOND FORM's CARD OF 'wickkeep.OpsTexts'. -/
def opsTextsUptoCard : Claim7 := { stood := { row := opsTextsUptoRow, standIns := [], harness := (true, "3109bf1b582f7feb03b177a6cedd560f27817a389e06266f92e93641ef652b3b"), looks := false }, kinds := [], alts := [], laidByText := true, laidKinds := [.data, .pinned], laidTests := true, laidLooks := .later }
def OpsTextsUptoCardSaid : Prop := Claim7.holds Tryz.pinned (.plain (OpenSpec.upto opsTextsSpec)) opsTextsUptoCard
end Rows
end Go.Proofs.YtdbipccopijgeaaGreatDoor
