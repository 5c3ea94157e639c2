/-
  DERIVED. GIVEN WITH THE SEED: THE CARDS: each row of YtdkbfljhfhjofaaGreatDoorRows.lean that lists a variable, with what it lists TIED to the program's text (the seventh form; the later family's looks); each row that meets fmt, with fmt's text TOLD by the authors' own Lean function (tested against real Go, not proved from fmt's source: count such statements apart). THE CARD IS WHAT COUNTS. Prove the row's statement (the work); the ties are given (YtdkbfljhfhjofaaGreatDoorTie.lean); close each card by the builder's one call (the guide's Derived/Test/ToyasCard.lean, 'card_holds'). Laid BY PROGRAM, IN A SANDBOX (cutbox-door.mjs). By AI agents, Wed Nov 11 2026. No macro, syntax, notation, axiom, sorry.
-/
import Derived.Test.YtdkbfljhfhjofaaGreatDoorRows
import GoSem.ClaimSeven
namespace Go.Proofs.YtdkbfljhfhjofaaGreatDoor
namespace Rows

/-- THE TIED CARD OF 'wickkeep.RulesBack'. -/
def rulesBackCard : Claim7 := { stood := { row := rulesBackRow, standIns := [], harness := (true, "841dcc153d02ab8be78f4240098dd92004c5f256838a871032e2baa30ed89827"), looks := false }, kinds := [], alts := [], laidByText := true, laidKinds := [.data, .data, .data, .data, .pinned], laidTests := true, laidLooks := .later }
def RulesBackCardSaid : Prop := Claim7.holds Tryz.pinned (.plain (OpenSpec.ofChange rulesBackSpec)) rulesBackCard

/-- THE TIED CARD OF 'wickkeep.RulesAgain'. -/
def rulesAgainCard : Claim7 := { stood := { row := rulesAgainRow, standIns := [], harness := (true, "841dcc153d02ab8be78f4240098dd92004c5f256838a871032e2baa30ed89827"), looks := false }, kinds := [], alts := [], laidByText := true, laidKinds := [.data, .data, .data, .data, .pinned], laidTests := true, laidLooks := .later }
def RulesAgainCardSaid : Prop := Claim7.holds Tryz.pinned (.plain (OpenSpec.ofChange rulesAgainSpec)) rulesAgainCard

/-- THE TIED CARD OF 'wickkeep.EngineNot'. -/
def engineNotCard : Claim7 := { stood := { row := engineNotRow, standIns := [], harness := (true, "841dcc153d02ab8be78f4240098dd92004c5f256838a871032e2baa30ed89827"), looks := false }, kinds := [], alts := [], laidByText := true, laidKinds := [.data, .data, .data, .data, .pinned], laidTests := true, laidLooks := .later }
def EngineNotCardSaid : Prop := Claim7.holds Tryz.pinned (.plain (OpenSpec.ofChange engineNotSpec)) engineNotCard

/-- THE TIED CARD OF 'wickkeep.EngineMore'. -/
def engineMoreCard : Claim7 := { stood := { row := engineMoreRow, standIns := [], harness := (true, "841dcc153d02ab8be78f4240098dd92004c5f256838a871032e2baa30ed89827"), looks := false }, kinds := [], alts := [], laidByText := true, laidKinds := [.data, .data, .data, .data, .pinned], laidTests := true, laidLooks := .later }
def EngineMoreCardSaid : Prop := Claim7.holds Tryz.pinned (.plain (OpenSpec.ofChange engineMoreSpec)) engineMoreCard

/-- THE SECOND FORM's CARD OF 'wickkeep.RulesBack'. -/
def rulesBackUptoCard : Claim7 := { stood := { row := rulesBackUptoRow, standIns := [], harness := (true, "841dcc153d02ab8be78f4240098dd92004c5f256838a871032e2baa30ed89827"), looks := false }, kinds := [], alts := [], laidByText := true, laidKinds := [.data, .data, .data, .data, .pinned], laidTests := true, laidLooks := .later }
def RulesBackUptoCardSaid : Prop := Claim7.holds Tryz.pinned (.plain (OpenSpec.upto rulesBackSpec)) rulesBackUptoCard

/-- THE SECOND FORM's CARD OF 'wickkeep.RulesAgain'. -/
def rulesAgainUptoCard : Claim7 := { stood := { row := rulesAgainUptoRow, standIns := [], harness := (true, "841dcc153d02ab8be78f4240098dd92004c5f256838a871032e2baa30ed89827"), looks := false }, kinds := [], alts := [], laidByText := true, laidKinds := [.data, .data, .data, .data, .pinned], laidTests := true, laidLooks := .later }
def RulesAgainUptoCardSaid : Prop := Claim7.holds Tryz.pinned (.plain (OpenSpec.upto rulesAgainSpec)) rulesAgainUptoCard

/-- THE SECOND FORM's CARD OF 'wickkeep.EngineNot'. -/
def engineNotUptoCard : Claim7 := { stood := { row := engineNotUptoRow, standIns := [], harness := (true, "841dcc153d02ab8be78f4240098dd92004c5f256838a871032e2baa30ed89827"), looks := false }, kinds := [], alts := [], laidByText := true, laidKinds := [.data, .data, .data, .data, .pinned], laidTests := true, laidLooks := .later }
def EngineNotUptoCardSaid : Prop := Claim7.holds Tryz.pinned (.plain (OpenSpec.upto engineNotSpec)) engineNotUptoCard

/-- THE SECOND FORM's CARD OF 'wickkeep.EngineMore'. -/
def engineMoreUptoCard : Claim7 := { stood := { row := engineMoreUptoRow, standIns := [], harness := (true, "841dcc153d02ab8be78f4240098dd92004c5f256838a871032e2baa30ed89827"), looks := false }, kinds := [], alts := [], laidByText := true, laidKinds := [.data, .data, .data, .data, .pinned], laidTests := true, laidLooks := .later }
def EngineMoreUptoCardSaid : Prop := Claim7.holds Tryz.pinned (.plain (OpenSpec.upto engineMoreSpec)) engineMoreUptoCard
end Rows
end Go.Proofs.YtdkbfljhfhjofaaGreatDoor
