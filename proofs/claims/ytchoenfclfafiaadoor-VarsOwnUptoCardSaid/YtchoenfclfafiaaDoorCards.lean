/-
  DERIVED. GIVEN WITH THE SEED: THE CARDS: each row of YtchoenfclfafiaaDoorRows.lean that lists a variable, with what it lists TIED to the program's text (the seventh form; the later family's looks); each row that meets fmt, with fmt's text TOLD by the authors' own Lean function (tested against real Go, not proved from fmt's source: count such statements apart). THE CARD IS WHAT COUNTS. Prove the row's statement (the work); the ties are given (YtchoenfclfafiaaDoorTie.lean); close each card by the builder's one call (the guide's Derived/Test/ToyasCard.lean, 'card_holds'). Laid BY PROGRAM, IN A SANDBOX (cutbox-door.mjs). By AI agents, Wed Nov 11 2026. No macro, syntax, notation, axiom, sorry.
-/
import Derived.Test.YtchoenfclfafiaaDoorRows
import GoSem.ClaimSeven
namespace Go.Proofs.YtchoenfclfafiaaDoor
namespace Rows

/-- THE TIED CARD OF 'wickkeep.VarsOwn'. -/
def varsOwnCard : Claim7 := { stood := { row := varsOwnRow, standIns := [], harness := (true, "db82323098484ca53c38cfa6dfba6a7b47bc172d44d80a2788d43703b50e5dc5"), looks := false }, kinds := [], alts := [], laidByText := true, laidKinds := [.data, .data, .data], laidTests := true, laidLooks := .later }
def VarsOwnCardSaid : Prop := Claim7.holds Tryd.pinned (.plain (OpenSpec.ofChange varsOwnSpec)) varsOwnCard

/-- THE TIED CARD OF 'wickkeep.OneCuts'. -/
def oneCutsCard : Claim7 := { stood := { row := oneCutsRow, standIns := [], harness := (true, "db82323098484ca53c38cfa6dfba6a7b47bc172d44d80a2788d43703b50e5dc5"), looks := false }, kinds := [], alts := [], laidByText := true, laidKinds := [.data, .pinned], laidTests := true, laidLooks := .later }
def OneCutsCardSaid : Prop := Claim7.holds Tryd.pinned (.plain (OpenSpec.ofChange oneCutsSpec)) oneCutsCard

/-- THE TIED CARD OF 'wickkeep.HeadOwn'. -/
def headOwnCard : Claim7 := { stood := { row := headOwnRow, standIns := [], harness := (true, "db82323098484ca53c38cfa6dfba6a7b47bc172d44d80a2788d43703b50e5dc5"), looks := false }, kinds := [], alts := [], laidByText := true, laidKinds := [.data, .data, .data, .data, .pinned], laidTests := true, laidLooks := .later }
def HeadOwnCardSaid : Prop := Claim7.holds Tryd.pinned (.plain (OpenSpec.ofChange headOwnSpec)) headOwnCard

/-- THE SECOND FORM's CARD OF 'wickkeep.VarsOwn'. -/
def varsOwnUptoCard : Claim7 := { stood := { row := varsOwnUptoRow, standIns := [], harness := (true, "db82323098484ca53c38cfa6dfba6a7b47bc172d44d80a2788d43703b50e5dc5"), looks := false }, kinds := [], alts := [], laidByText := true, laidKinds := [.data, .data, .data], laidTests := true, laidLooks := .later }
def VarsOwnUptoCardSaid : Prop := Claim7.holds Tryd.pinned (.plain (OpenSpec.upto varsOwnSpec)) varsOwnUptoCard

/-- THE SECOND FORM's CARD OF 'wickkeep.OneCuts'. -/
def oneCutsUptoCard : Claim7 := { stood := { row := oneCutsUptoRow, standIns := [], harness := (true, "db82323098484ca53c38cfa6dfba6a7b47bc172d44d80a2788d43703b50e5dc5"), looks := false }, kinds := [], alts := [], laidByText := true, laidKinds := [.data, .pinned], laidTests := true, laidLooks := .later }
def OneCutsUptoCardSaid : Prop := Claim7.holds Tryd.pinned (.plain (OpenSpec.upto oneCutsSpec)) oneCutsUptoCard

/-- THE SECOND FORM's CARD OF 'wickkeep.HeadOwn'. -/
def headOwnUptoCard : Claim7 := { stood := { row := headOwnUptoRow, standIns := [], harness := (true, "db82323098484ca53c38cfa6dfba6a7b47bc172d44d80a2788d43703b50e5dc5"), looks := false }, kinds := [], alts := [], laidByText := true, laidKinds := [.data, .data, .data, .data, .pinned], laidTests := true, laidLooks := .later }
def HeadOwnUptoCardSaid : Prop := Claim7.holds Tryd.pinned (.plain (OpenSpec.upto headOwnSpec)) headOwnUptoCard
end Rows
end Go.Proofs.YtchoenfclfafiaaDoor
