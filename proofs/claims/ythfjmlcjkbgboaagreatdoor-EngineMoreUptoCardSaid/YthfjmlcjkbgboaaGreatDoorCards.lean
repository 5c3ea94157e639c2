/-
  DERIVED. GIVEN WITH THE SEED: THE CARDS: each row of YthfjmlcjkbgboaaGreatDoorRows.lean that lists a variable, with what it lists TIED to the program's text (the seventh form; the later family's looks); each row that meets fmt, with fmt's text TOLD by the authors' own Lean function (tested against real Go, not proved from fmt's source: count such statements apart). THE CARD IS WHAT COUNTS. Prove the row's statement (the work); the ties are given (YthfjmlcjkbgboaaGreatDoorTie.lean); close each card by the builder's one call (the guide's Derived/Test/ToyasCard.lean, 'card_holds'). Laid BY PROGRAM, IN A SANDBOX (cutbox-door.mjs). By AI agents, Wed Nov 11 2026. No macro, syntax, notation, axiom, sorry.
-/
import Derived.Test.YthfjmlcjkbgboaaGreatDoorRows
import GoSem.ClaimSeven
namespace Go.Proofs.YthfjmlcjkbgboaaGreatDoor
namespace Rows

/-- THE TIED CARD OF 'wickkeep.EngineNot'. -/
def engineNotCard : Claim7 := { stood := { row := engineNotRow, standIns := [], harness := (true, "2a07d97d55455564cf3a092bc7e4ac08ca6a8d4bc1c8e7bca1b69a8104aed01d"), looks := false }, kinds := [], alts := [], laidByText := true, laidKinds := [.data, .data, .data, .data, .pinned], laidTests := true, laidLooks := .later }
def EngineNotCardSaid : Prop := Claim7.holds Tryz.pinned (.plain (OpenSpec.ofChange engineNotSpec)) engineNotCard

/-- THE TIED CARD OF 'wickkeep.EngineMore'. -/
def engineMoreCard : Claim7 := { stood := { row := engineMoreRow, standIns := [], harness := (true, "2a07d97d55455564cf3a092bc7e4ac08ca6a8d4bc1c8e7bca1b69a8104aed01d"), looks := false }, kinds := [], alts := [], laidByText := true, laidKinds := [.data, .data, .data, .data, .pinned], laidTests := true, laidLooks := .later }
def EngineMoreCardSaid : Prop := Claim7.holds Tryz.pinned (.plain (OpenSpec.ofChange engineMoreSpec)) engineMoreCard

/-- THE TIED CARD OF 'wickkeep.EnginePass'. -/
def enginePassCard : Claim7 := { stood := { row := enginePassRow, standIns := [], harness := (true, "2a07d97d55455564cf3a092bc7e4ac08ca6a8d4bc1c8e7bca1b69a8104aed01d"), looks := false }, kinds := [], alts := [], laidByText := true, laidKinds := [.data, .data, .data, .data, .pinned], laidTests := true, laidLooks := .later }
def EnginePassCardSaid : Prop := Claim7.holds Tryz.pinned (.plain (OpenSpec.ofChange enginePassSpec)) enginePassCard

/-- THE TIED CARD OF 'wickkeep.EngineEmpty'. -/
def engineEmptyCard : Claim7 := { stood := { row := engineEmptyRow, standIns := [], harness := (true, "2a07d97d55455564cf3a092bc7e4ac08ca6a8d4bc1c8e7bca1b69a8104aed01d"), looks := false }, kinds := [], alts := [], laidByText := true, laidKinds := [.data, .data, .data, .data, .pinned], laidTests := true, laidLooks := .later }
def EngineEmptyCardSaid : Prop := Claim7.holds Tryz.pinned (.plain (OpenSpec.ofChange engineEmptySpec)) engineEmptyCard

/-- THE TIED CARD OF 'wickkeep.JudgeUp'. -/
def judgeUpCard : Claim7 := { stood := { row := judgeUpRow, standIns := [], harness := (true, "2a07d97d55455564cf3a092bc7e4ac08ca6a8d4bc1c8e7bca1b69a8104aed01d"), looks := false }, kinds := [], alts := [], laidByText := true, laidKinds := [.data, .data, .data, .data, .pinned], laidTests := true, laidLooks := .later }
def JudgeUpCardSaid : Prop := Claim7.holds Tryz.pinned (.plain (OpenSpec.ofChange judgeUpSpec)) judgeUpCard

/-- THE TIED CARD OF 'wickkeep.JudgeCuts'. -/
def judgeCutsCard : Claim7 := { stood := { row := judgeCutsRow, standIns := [], harness := (true, "2a07d97d55455564cf3a092bc7e4ac08ca6a8d4bc1c8e7bca1b69a8104aed01d"), looks := false }, kinds := [], alts := [], laidByText := true, laidKinds := [.data, .data, .data, .data, .pinned], laidTests := true, laidLooks := .later }
def JudgeCutsCardSaid : Prop := Claim7.holds Tryz.pinned (.plain (OpenSpec.ofChange judgeCutsSpec)) judgeCutsCard

/-- THE SECOND FORM's CARD OF 'wickkeep.EngineNot'. -/
def engineNotUptoCard : Claim7 := { stood := { row := engineNotUptoRow, standIns := [], harness := (true, "2a07d97d55455564cf3a092bc7e4ac08ca6a8d4bc1c8e7bca1b69a8104aed01d"), looks := false }, kinds := [], alts := [], laidByText := true, laidKinds := [.data, .data, .data, .data, .pinned], laidTests := true, laidLooks := .later }
def EngineNotUptoCardSaid : Prop := Claim7.holds Tryz.pinned (.plain (OpenSpec.upto engineNotSpec)) engineNotUptoCard

/-- THE SECOND FORM's CARD OF 'wickkeep.EngineMore'. -/
def engineMoreUptoCard : Claim7 := { stood := { row := engineMoreUptoRow, standIns := [], harness := (true, "2a07d97d55455564cf3a092bc7e4ac08ca6a8d4bc1c8e7bca1b69a8104aed01d"), looks := false }, kinds := [], alts := [], laidByText := true, laidKinds := [.data, .data, .data, .data, .pinned], laidTests := true, laidLooks := .later }
def EngineMoreUptoCardSaid : Prop := Claim7.holds Tryz.pinned (.plain (OpenSpec.upto engineMoreSpec)) engineMoreUptoCard

/-- THE SECOND FORM's CARD OF 'wickkeep.EnginePass'. -/
def enginePassUptoCard : Claim7 := { stood := { row := enginePassUptoRow, standIns := [], harness := (true, "2a07d97d55455564cf3a092bc7e4ac08ca6a8d4bc1c8e7bca1b69a8104aed01d"), looks := false }, kinds := [], alts := [], laidByText := true, laidKinds := [.data, .data, .data, .data, .pinned], laidTests := true, laidLooks := .later }
def EnginePassUptoCardSaid : Prop := Claim7.holds Tryz.pinned (.plain (OpenSpec.upto enginePassSpec)) enginePassUptoCard

/-- THE SECOND FORM's CARD OF 'wickkeep.EngineEmpty'. -/
def engineEmptyUptoCard : Claim7 := { stood := { row := engineEmptyUptoRow, standIns := [], harness := (true, "2a07d97d55455564cf3a092bc7e4ac08ca6a8d4bc1c8e7bca1b69a8104aed01d"), looks := false }, kinds := [], alts := [], laidByText := true, laidKinds := [.data, .data, .data, .data, .pinned], laidTests := true, laidLooks := .later }
def EngineEmptyUptoCardSaid : Prop := Claim7.holds Tryz.pinned (.plain (OpenSpec.upto engineEmptySpec)) engineEmptyUptoCard

/-- THE SECOND FORM's CARD OF 'wickkeep.JudgeUp'. -/
def judgeUpUptoCard : Claim7 := { stood := { row := judgeUpUptoRow, standIns := [], harness := (true, "2a07d97d55455564cf3a092bc7e4ac08ca6a8d4bc1c8e7bca1b69a8104aed01d"), looks := false }, kinds := [], alts := [], laidByText := true, laidKinds := [.data, .data, .data, .data, .pinned], laidTests := true, laidLooks := .later }
def JudgeUpUptoCardSaid : Prop := Claim7.holds Tryz.pinned (.plain (OpenSpec.upto judgeUpSpec)) judgeUpUptoCard

/-- THE SECOND FORM's CARD OF 'wickkeep.JudgeCuts'. -/
def judgeCutsUptoCard : Claim7 := { stood := { row := judgeCutsUptoRow, standIns := [], harness := (true, "2a07d97d55455564cf3a092bc7e4ac08ca6a8d4bc1c8e7bca1b69a8104aed01d"), looks := false }, kinds := [], alts := [], laidByText := true, laidKinds := [.data, .data, .data, .data, .pinned], laidTests := true, laidLooks := .later }
def JudgeCutsUptoCardSaid : Prop := Claim7.holds Tryz.pinned (.plain (OpenSpec.upto judgeCutsSpec)) judgeCutsUptoCard
end Rows
end Go.Proofs.YthfjmlcjkbgboaaGreatDoor
