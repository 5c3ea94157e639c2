/-
  DERIVED. GIVEN WITH THE SEED: THE CARDS: each row of YtnnokglddolglaaGreatDoorRows.lean that lists a variable, with what it lists TIED to the program's text (the seventh form; the later family's looks); each row that meets fmt, with fmt's text TOLD by the authors' own Lean function (tested against real Go, not proved from fmt's source: count such statements apart). THE CARD IS WHAT COUNTS. Prove the row's statement (the work); the ties are given (YtnnokglddolglaaGreatDoorTie.lean); close each card by the builder's one call (the guide's Derived/Test/ToyasCard.lean, 'card_holds'). Laid BY PROGRAM, IN A SANDBOX (cutbox-door.mjs). By AI agents, Wed Nov 11 2026. No macro, syntax, notation, axiom, sorry.
-/
import Derived.Test.YtnnokglddolglaaGreatDoorRows
import GoSem.ClaimSeven
namespace Go.Proofs.YtnnokglddolglaaGreatDoor
namespace Rows

/-- THE TIED CARD OF 'wickkeep.EnginePass'. -/
def enginePassCard : Claim7 := { stood := { row := enginePassRow, standIns := [], harness := (true, "3214035a018ec162fd9530aafbb32cd3f0dd44d319766f07e20dd975c02a5259"), looks := false }, kinds := [], alts := [], laidByText := true, laidKinds := [.data, .data, .data, .data, .pinned], laidTests := true, laidLooks := .later }
def EnginePassCardSaid : Prop := Claim7.holds Tryz.pinned (.plain (OpenSpec.ofChange enginePassSpec)) enginePassCard

/-- THE TIED CARD OF 'wickkeep.EngineEmpty'. -/
def engineEmptyCard : Claim7 := { stood := { row := engineEmptyRow, standIns := [], harness := (true, "3214035a018ec162fd9530aafbb32cd3f0dd44d319766f07e20dd975c02a5259"), looks := false }, kinds := [], alts := [], laidByText := true, laidKinds := [.data, .data, .data, .data, .pinned], laidTests := true, laidLooks := .later }
def EngineEmptyCardSaid : Prop := Claim7.holds Tryz.pinned (.plain (OpenSpec.ofChange engineEmptySpec)) engineEmptyCard

/-- THE TIED CARD OF 'wickkeep.JudgeUp'. -/
def judgeUpCard : Claim7 := { stood := { row := judgeUpRow, standIns := [], harness := (true, "3214035a018ec162fd9530aafbb32cd3f0dd44d319766f07e20dd975c02a5259"), looks := false }, kinds := [], alts := [], laidByText := true, laidKinds := [.data, .data, .data, .data, .pinned], laidTests := true, laidLooks := .later }
def JudgeUpCardSaid : Prop := Claim7.holds Tryz.pinned (.plain (OpenSpec.ofChange judgeUpSpec)) judgeUpCard

/-- THE TIED CARD OF 'wickkeep.JudgeCuts'. -/
def judgeCutsCard : Claim7 := { stood := { row := judgeCutsRow, standIns := [], harness := (true, "3214035a018ec162fd9530aafbb32cd3f0dd44d319766f07e20dd975c02a5259"), looks := false }, kinds := [], alts := [], laidByText := true, laidKinds := [.data, .data, .data, .data, .pinned], laidTests := true, laidLooks := .later }
def JudgeCutsCardSaid : Prop := Claim7.holds Tryz.pinned (.plain (OpenSpec.ofChange judgeCutsSpec)) judgeCutsCard

/-- THE SECOND FORM's CARD OF 'wickkeep.EnginePass'. -/
def enginePassUptoCard : Claim7 := { stood := { row := enginePassUptoRow, standIns := [], harness := (true, "3214035a018ec162fd9530aafbb32cd3f0dd44d319766f07e20dd975c02a5259"), looks := false }, kinds := [], alts := [], laidByText := true, laidKinds := [.data, .data, .data, .data, .pinned], laidTests := true, laidLooks := .later }
def EnginePassUptoCardSaid : Prop := Claim7.holds Tryz.pinned (.plain (OpenSpec.upto enginePassSpec)) enginePassUptoCard

/-- THE SECOND FORM's CARD OF 'wickkeep.EngineEmpty'. -/
def engineEmptyUptoCard : Claim7 := { stood := { row := engineEmptyUptoRow, standIns := [], harness := (true, "3214035a018ec162fd9530aafbb32cd3f0dd44d319766f07e20dd975c02a5259"), looks := false }, kinds := [], alts := [], laidByText := true, laidKinds := [.data, .data, .data, .data, .pinned], laidTests := true, laidLooks := .later }
def EngineEmptyUptoCardSaid : Prop := Claim7.holds Tryz.pinned (.plain (OpenSpec.upto engineEmptySpec)) engineEmptyUptoCard

/-- THE SECOND FORM's CARD OF 'wickkeep.JudgeUp'. -/
def judgeUpUptoCard : Claim7 := { stood := { row := judgeUpUptoRow, standIns := [], harness := (true, "3214035a018ec162fd9530aafbb32cd3f0dd44d319766f07e20dd975c02a5259"), looks := false }, kinds := [], alts := [], laidByText := true, laidKinds := [.data, .data, .data, .data, .pinned], laidTests := true, laidLooks := .later }
def JudgeUpUptoCardSaid : Prop := Claim7.holds Tryz.pinned (.plain (OpenSpec.upto judgeUpSpec)) judgeUpUptoCard

/-- THE SECOND FORM's CARD OF 'wickkeep.JudgeCuts'. -/
def judgeCutsUptoCard : Claim7 := { stood := { row := judgeCutsUptoRow, standIns := [], harness := (true, "3214035a018ec162fd9530aafbb32cd3f0dd44d319766f07e20dd975c02a5259"), looks := false }, kinds := [], alts := [], laidByText := true, laidKinds := [.data, .data, .data, .data, .pinned], laidTests := true, laidLooks := .later }
def JudgeCutsUptoCardSaid : Prop := Claim7.holds Tryz.pinned (.plain (OpenSpec.upto judgeCutsSpec)) judgeCutsUptoCard
end Rows
end Go.Proofs.YtnnokglddolglaaGreatDoor
