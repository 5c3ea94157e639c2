/-
  DERIVED. GIVEN WITH THE SEED: THE CARDS: each row of YtnpopobeinbplaaDoorRows.lean that lists a variable, with what it lists TIED to the program's text (the seventh form; the later family's looks); each row that meets fmt, with fmt's text TOLD by the authors' own Lean function (tested against real Go, not proved from fmt's source: count such statements apart). THE CARD IS WHAT COUNTS. Prove the row's statement (the work); the ties are given (YtnpopobeinbplaaDoorTie.lean); close each card by the builder's one call (the guide's Derived/Test/ToyasCard.lean, 'card_holds'). Laid BY PROGRAM, IN A SANDBOX (cutbox-door.mjs). By AI agents, Wed Nov 11 2026. No macro, syntax, notation, axiom, sorry.
-/
import Derived.Test.YtnpopobeinbplaaDoorRows
import GoSem.ClaimSeven
namespace Go.Proofs.YtnpopobeinbplaaDoor
namespace Rows

/-- THE TIED CARD OF 'wickkeep.NetsOne'. -/
def netsOneCard : Claim7 := { stood := { row := netsOneRow, standIns := [], harness := (true, "de30f3d91ba3a41d783108a7f676f23d7335c656bd8f69f19538803b1286de7b"), looks := false }, kinds := [], alts := [], laidByText := true, laidKinds := [.data, .data, .data, .data, .pinned], laidTests := true, laidLooks := .later }
def NetsOneCardSaid : Prop := Claim7.holds Tryd.pinned (.plain (OpenSpec.ofChange netsOneSpec)) netsOneCard

/-- THE TIED CARD OF 'wickkeep.OneCuts'. -/
def oneCutsCard : Claim7 := { stood := { row := oneCutsRow, standIns := [], harness := (true, "de30f3d91ba3a41d783108a7f676f23d7335c656bd8f69f19538803b1286de7b"), looks := false }, kinds := [], alts := [], laidByText := true, laidKinds := [.data, .pinned], laidTests := true, laidLooks := .later }
def OneCutsCardSaid : Prop := Claim7.holds Tryd.pinned (.plain (OpenSpec.ofChange oneCutsSpec)) oneCutsCard

/-- THE TIED CARD OF 'wickkeep.OneBack'. -/
def oneBackCard : Claim7 := { stood := { row := oneBackRow, standIns := [], harness := (true, "de30f3d91ba3a41d783108a7f676f23d7335c656bd8f69f19538803b1286de7b"), looks := false }, kinds := [], alts := [], laidByText := true, laidKinds := [.data, .data, .data, .data, .pinned], laidTests := true, laidLooks := .later }
def OneBackCardSaid : Prop := Claim7.holds Tryd.pinned (.plain (OpenSpec.ofChange oneBackSpec)) oneBackCard

/-- THE TIED CARD OF 'wickkeep.VarsNames'. -/
def varsNamesCard : Claim7 := { stood := { row := varsNamesRow, standIns := [], harness := (true, "de30f3d91ba3a41d783108a7f676f23d7335c656bd8f69f19538803b1286de7b"), looks := false }, kinds := [], alts := [], laidByText := true, laidKinds := [.data, .data, .data], laidTests := true, laidLooks := .later }
def VarsNamesCardSaid : Prop := Claim7.holds Tryd.pinned (.plain (OpenSpec.ofChange varsNamesSpec)) varsNamesCard

/-- THE TIED CARD OF 'wickkeep.VarsCounts'. -/
def varsCountsCard : Claim7 := { stood := { row := varsCountsRow, standIns := [], harness := (true, "de30f3d91ba3a41d783108a7f676f23d7335c656bd8f69f19538803b1286de7b"), looks := false }, kinds := [], alts := [], laidByText := true, laidKinds := [.data, .data, .data], laidTests := true, laidLooks := .later }
def VarsCountsCardSaid : Prop := Claim7.holds Tryd.pinned (.plain (OpenSpec.ofChange varsCountsSpec)) varsCountsCard

/-- THE TIED CARD OF 'wickkeep.VarsOwn'. -/
def varsOwnCard : Claim7 := { stood := { row := varsOwnRow, standIns := [], harness := (true, "de30f3d91ba3a41d783108a7f676f23d7335c656bd8f69f19538803b1286de7b"), looks := false }, kinds := [], alts := [], laidByText := true, laidKinds := [.data, .data, .data], laidTests := true, laidLooks := .later }
def VarsOwnCardSaid : Prop := Claim7.holds Tryd.pinned (.plain (OpenSpec.ofChange varsOwnSpec)) varsOwnCard

/-- THE TIED CARD OF 'wickkeep.HeadOwn'. -/
def headOwnCard : Claim7 := { stood := { row := headOwnRow, standIns := [], harness := (true, "de30f3d91ba3a41d783108a7f676f23d7335c656bd8f69f19538803b1286de7b"), looks := false }, kinds := [], alts := [], laidByText := true, laidKinds := [.data, .data, .data, .data, .pinned], laidTests := true, laidLooks := .later }
def HeadOwnCardSaid : Prop := Claim7.holds Tryd.pinned (.plain (OpenSpec.ofChange headOwnSpec)) headOwnCard

/-- THE TIED CARD OF 'wickkeep.SerialOne'. -/
def serialOneCard : Claim7 := { stood := { row := serialOneRow, standIns := [], harness := (true, "de30f3d91ba3a41d783108a7f676f23d7335c656bd8f69f19538803b1286de7b"), looks := false }, kinds := [], alts := [], laidByText := true, laidKinds := [.data, .data, .data, .data, .pinned], laidTests := true, laidLooks := .later }
def SerialOneCardSaid : Prop := Claim7.holds Tryd.pinned (.plain (OpenSpec.ofChange serialOneSpec)) serialOneCard

/-- THE TIED CARD OF 'wickkeep.SerialAgain'. -/
def serialAgainCard : Claim7 := { stood := { row := serialAgainRow, standIns := [], harness := (true, "de30f3d91ba3a41d783108a7f676f23d7335c656bd8f69f19538803b1286de7b"), looks := false }, kinds := [], alts := [], laidByText := true, laidKinds := [.data, .data, .data, .data, .pinned], laidTests := true, laidLooks := .later }
def SerialAgainCardSaid : Prop := Claim7.holds Tryd.pinned (.plain (OpenSpec.ofChange serialAgainSpec)) serialAgainCard

/-- THE SECOND FORM's CARD OF 'wickkeep.NetsOne'. -/
def netsOneUptoCard : Claim7 := { stood := { row := netsOneUptoRow, standIns := [], harness := (true, "de30f3d91ba3a41d783108a7f676f23d7335c656bd8f69f19538803b1286de7b"), looks := false }, kinds := [], alts := [], laidByText := true, laidKinds := [.data, .data, .data, .data, .pinned], laidTests := true, laidLooks := .later }
def NetsOneUptoCardSaid : Prop := Claim7.holds Tryd.pinned (.plain (OpenSpec.upto netsOneSpec)) netsOneUptoCard

/-- THE SECOND FORM's CARD OF 'wickkeep.OneCuts'. -/
def oneCutsUptoCard : Claim7 := { stood := { row := oneCutsUptoRow, standIns := [], harness := (true, "de30f3d91ba3a41d783108a7f676f23d7335c656bd8f69f19538803b1286de7b"), looks := false }, kinds := [], alts := [], laidByText := true, laidKinds := [.data, .pinned], laidTests := true, laidLooks := .later }
def OneCutsUptoCardSaid : Prop := Claim7.holds Tryd.pinned (.plain (OpenSpec.upto oneCutsSpec)) oneCutsUptoCard

/-- THE SECOND FORM's CARD OF 'wickkeep.OneBack'. -/
def oneBackUptoCard : Claim7 := { stood := { row := oneBackUptoRow, standIns := [], harness := (true, "de30f3d91ba3a41d783108a7f676f23d7335c656bd8f69f19538803b1286de7b"), looks := false }, kinds := [], alts := [], laidByText := true, laidKinds := [.data, .data, .data, .data, .pinned], laidTests := true, laidLooks := .later }
def OneBackUptoCardSaid : Prop := Claim7.holds Tryd.pinned (.plain (OpenSpec.upto oneBackSpec)) oneBackUptoCard

/-- THE SECOND FORM's CARD OF 'wickkeep.VarsNames'. -/
def varsNamesUptoCard : Claim7 := { stood := { row := varsNamesUptoRow, standIns := [], harness := (true, "de30f3d91ba3a41d783108a7f676f23d7335c656bd8f69f19538803b1286de7b"), looks := false }, kinds := [], alts := [], laidByText := true, laidKinds := [.data, .data, .data], laidTests := true, laidLooks := .later }
def VarsNamesUptoCardSaid : Prop := Claim7.holds Tryd.pinned (.plain (OpenSpec.upto varsNamesSpec)) varsNamesUptoCard

/-- THE SECOND FORM's CARD OF 'wickkeep.VarsCounts'. -/
def varsCountsUptoCard : Claim7 := { stood := { row := varsCountsUptoRow, standIns := [], harness := (true, "de30f3d91ba3a41d783108a7f676f23d7335c656bd8f69f19538803b1286de7b"), looks := false }, kinds := [], alts := [], laidByText := true, laidKinds := [.data, .data, .data], laidTests := true, laidLooks := .later }
def VarsCountsUptoCardSaid : Prop := Claim7.holds Tryd.pinned (.plain (OpenSpec.upto varsCountsSpec)) varsCountsUptoCard

/-- THE SECOND FORM's CARD OF 'wickkeep.VarsOwn'. -/
def varsOwnUptoCard : Claim7 := { stood := { row := varsOwnUptoRow, standIns := [], harness := (true, "de30f3d91ba3a41d783108a7f676f23d7335c656bd8f69f19538803b1286de7b"), looks := false }, kinds := [], alts := [], laidByText := true, laidKinds := [.data, .data, .data], laidTests := true, laidLooks := .later }
def VarsOwnUptoCardSaid : Prop := Claim7.holds Tryd.pinned (.plain (OpenSpec.upto varsOwnSpec)) varsOwnUptoCard

/-- THE SECOND FORM's CARD OF 'wickkeep.HeadOwn'. -/
def headOwnUptoCard : Claim7 := { stood := { row := headOwnUptoRow, standIns := [], harness := (true, "de30f3d91ba3a41d783108a7f676f23d7335c656bd8f69f19538803b1286de7b"), looks := false }, kinds := [], alts := [], laidByText := true, laidKinds := [.data, .data, .data, .data, .pinned], laidTests := true, laidLooks := .later }
def HeadOwnUptoCardSaid : Prop := Claim7.holds Tryd.pinned (.plain (OpenSpec.upto headOwnSpec)) headOwnUptoCard

/-- THE SECOND FORM's CARD OF 'wickkeep.SerialOne'. -/
def serialOneUptoCard : Claim7 := { stood := { row := serialOneUptoRow, standIns := [], harness := (true, "de30f3d91ba3a41d783108a7f676f23d7335c656bd8f69f19538803b1286de7b"), looks := false }, kinds := [], alts := [], laidByText := true, laidKinds := [.data, .data, .data, .data, .pinned], laidTests := true, laidLooks := .later }
def SerialOneUptoCardSaid : Prop := Claim7.holds Tryd.pinned (.plain (OpenSpec.upto serialOneSpec)) serialOneUptoCard

/-- THE SECOND FORM's CARD OF 'wickkeep.SerialAgain'. -/
def serialAgainUptoCard : Claim7 := { stood := { row := serialAgainUptoRow, standIns := [], harness := (true, "de30f3d91ba3a41d783108a7f676f23d7335c656bd8f69f19538803b1286de7b"), looks := false }, kinds := [], alts := [], laidByText := true, laidKinds := [.data, .data, .data, .data, .pinned], laidTests := true, laidLooks := .later }
def SerialAgainUptoCardSaid : Prop := Claim7.holds Tryd.pinned (.plain (OpenSpec.upto serialAgainSpec)) serialAgainUptoCard
end Rows
end Go.Proofs.YtnpopobeinbplaaDoor
