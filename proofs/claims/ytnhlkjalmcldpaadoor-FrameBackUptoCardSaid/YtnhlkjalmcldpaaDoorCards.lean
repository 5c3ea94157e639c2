/-
  DERIVED. GIVEN WITH THE SEED: THE CARDS: each row of YtnhlkjalmcldpaaDoorRows.lean that lists a variable, with what it lists TIED to the program's text (the seventh form; the later family's looks); each row that meets fmt, with fmt's text TOLD by the authors' own Lean function (tested against real Go, not proved from fmt's source: count such statements apart). THE CARD IS WHAT COUNTS. Prove the row's statement (the work); the ties are given (YtnhlkjalmcldpaaDoorTie.lean); close each card by the builder's one call (the guide's Derived/Test/ToyasCard.lean, 'card_holds'). Laid BY PROGRAM, IN A SANDBOX (cutbox-door.mjs). By AI agents, Wed Nov 11 2026. No macro, syntax, notation, axiom, sorry.
-/
import Derived.Test.YtnhlkjalmcldpaaDoorRows
import GoSem.ClaimSeven
namespace Go.Proofs.YtnhlkjalmcldpaaDoor
namespace Rows

/-- THE TIED CARD OF 'wickkeep.NetsRanges'. -/
def netsRangesCard : Claim7 := { stood := { row := netsRangesRow, standIns := [], harness := (true, "8f2d178d8a60cf3cc1b0af1683c52a57a336191faacec8e3a91eacb6bdd88efe"), looks := false }, kinds := [], alts := [], laidByText := true, laidKinds := [.data, .pinned], laidTests := true, laidLooks := .later }
def NetsRangesCardSaid : Prop := Claim7.holds Tryd.pinned (.plain (OpenSpec.ofChange netsRangesSpec)) netsRangesCard

/-- THE TIED CARD OF 'wickkeep.ArgsJoins'. -/
def argsJoinsCard : Claim7 := { stood := { row := argsJoinsRow, standIns := [], harness := (true, "8f2d178d8a60cf3cc1b0af1683c52a57a336191faacec8e3a91eacb6bdd88efe"), looks := false }, kinds := [], alts := [], laidByText := true, laidKinds := [.data, .pinned], laidTests := true, laidLooks := .later }
def ArgsJoinsCardSaid : Prop := Claim7.holds Tryd.pinned (.plain (OpenSpec.ofChange argsJoinsSpec)) argsJoinsCard

/-- THE TIED CARD OF 'wickkeep.CleanPaths'. -/
def cleanPathsCard : Claim7 := { stood := { row := cleanPathsRow, standIns := [], harness := (true, "8f2d178d8a60cf3cc1b0af1683c52a57a336191faacec8e3a91eacb6bdd88efe"), looks := false }, kinds := [], alts := [], laidByText := true, laidKinds := [.data, .pinned], laidTests := true, laidLooks := .later }
def CleanPathsCardSaid : Prop := Claim7.holds Tryd.pinned (.plain (OpenSpec.ofChange cleanPathsSpec)) cleanPathsCard

/-- THE TIED CARD OF 'wickkeep.PipeBack'. -/
def pipeBackCard : Claim7 := { stood := { row := pipeBackRow, standIns := [], harness := (true, "8f2d178d8a60cf3cc1b0af1683c52a57a336191faacec8e3a91eacb6bdd88efe"), looks := false }, kinds := [], alts := [], laidByText := true, laidKinds := [.data, .pinned], laidTests := true, laidLooks := .later }
def PipeBackCardSaid : Prop := Claim7.holds Tryd.pinned (.plain (OpenSpec.ofChange pipeBackSpec)) pipeBackCard

/-- THE TIED CARD OF 'wickkeep.OctetBack'. -/
def octetBackCard : Claim7 := { stood := { row := octetBackRow, standIns := [], harness := (true, "8f2d178d8a60cf3cc1b0af1683c52a57a336191faacec8e3a91eacb6bdd88efe"), looks := false }, kinds := [], alts := [], laidByText := true, laidKinds := [.data, .data, .data], laidTests := true, laidLooks := .later }
def OctetBackCardSaid : Prop := Claim7.holds Tryd.pinned (.plain (OpenSpec.ofChange octetBackSpec)) octetBackCard

/-- THE TIED CARD OF 'wickkeep.FrameBack'. -/
def frameBackCard : Claim7 := { stood := { row := frameBackRow, standIns := [], harness := (true, "8f2d178d8a60cf3cc1b0af1683c52a57a336191faacec8e3a91eacb6bdd88efe"), looks := false }, kinds := [], alts := [], laidByText := true, laidKinds := [.data, .data, .data], laidTests := true, laidLooks := .later }
def FrameBackCardSaid : Prop := Claim7.holds Tryd.pinned (.plain (OpenSpec.ofChange frameBackSpec)) frameBackCard

/-- THE SECOND FORM's CARD OF 'wickkeep.NetsRanges'. -/
def netsRangesUptoCard : Claim7 := { stood := { row := netsRangesUptoRow, standIns := [], harness := (true, "8f2d178d8a60cf3cc1b0af1683c52a57a336191faacec8e3a91eacb6bdd88efe"), looks := false }, kinds := [], alts := [], laidByText := true, laidKinds := [.data, .pinned], laidTests := true, laidLooks := .later }
def NetsRangesUptoCardSaid : Prop := Claim7.holds Tryd.pinned (.plain (OpenSpec.upto netsRangesSpec)) netsRangesUptoCard

/-- THE SECOND FORM's CARD OF 'wickkeep.ArgsJoins'. -/
def argsJoinsUptoCard : Claim7 := { stood := { row := argsJoinsUptoRow, standIns := [], harness := (true, "8f2d178d8a60cf3cc1b0af1683c52a57a336191faacec8e3a91eacb6bdd88efe"), looks := false }, kinds := [], alts := [], laidByText := true, laidKinds := [.data, .pinned], laidTests := true, laidLooks := .later }
def ArgsJoinsUptoCardSaid : Prop := Claim7.holds Tryd.pinned (.plain (OpenSpec.upto argsJoinsSpec)) argsJoinsUptoCard

/-- THE SECOND FORM's CARD OF 'wickkeep.CleanPaths'. -/
def cleanPathsUptoCard : Claim7 := { stood := { row := cleanPathsUptoRow, standIns := [], harness := (true, "8f2d178d8a60cf3cc1b0af1683c52a57a336191faacec8e3a91eacb6bdd88efe"), looks := false }, kinds := [], alts := [], laidByText := true, laidKinds := [.data, .pinned], laidTests := true, laidLooks := .later }
def CleanPathsUptoCardSaid : Prop := Claim7.holds Tryd.pinned (.plain (OpenSpec.upto cleanPathsSpec)) cleanPathsUptoCard

/-- THE SECOND FORM's CARD OF 'wickkeep.PipeBack'. -/
def pipeBackUptoCard : Claim7 := { stood := { row := pipeBackUptoRow, standIns := [], harness := (true, "8f2d178d8a60cf3cc1b0af1683c52a57a336191faacec8e3a91eacb6bdd88efe"), looks := false }, kinds := [], alts := [], laidByText := true, laidKinds := [.data, .pinned], laidTests := true, laidLooks := .later }
def PipeBackUptoCardSaid : Prop := Claim7.holds Tryd.pinned (.plain (OpenSpec.upto pipeBackSpec)) pipeBackUptoCard

/-- THE SECOND FORM's CARD OF 'wickkeep.OctetBack'. -/
def octetBackUptoCard : Claim7 := { stood := { row := octetBackUptoRow, standIns := [], harness := (true, "8f2d178d8a60cf3cc1b0af1683c52a57a336191faacec8e3a91eacb6bdd88efe"), looks := false }, kinds := [], alts := [], laidByText := true, laidKinds := [.data, .data, .data], laidTests := true, laidLooks := .later }
def OctetBackUptoCardSaid : Prop := Claim7.holds Tryd.pinned (.plain (OpenSpec.upto octetBackSpec)) octetBackUptoCard

/-- THE SECOND FORM's CARD OF 'wickkeep.FrameBack'. -/
def frameBackUptoCard : Claim7 := { stood := { row := frameBackUptoRow, standIns := [], harness := (true, "8f2d178d8a60cf3cc1b0af1683c52a57a336191faacec8e3a91eacb6bdd88efe"), looks := false }, kinds := [], alts := [], laidByText := true, laidKinds := [.data, .data, .data], laidTests := true, laidLooks := .later }
def FrameBackUptoCardSaid : Prop := Claim7.holds Tryd.pinned (.plain (OpenSpec.upto frameBackSpec)) frameBackUptoCard
end Rows
end Go.Proofs.YtnhlkjalmcldpaaDoor
