/-
  DERIVED. GIVEN WITH THE SEED: THE CARDS: each row of YtjnfddibmijdkaaDoorRows.lean that lists a variable, with what it lists TIED to the program's text (the seventh form; the later family's looks); each row that meets fmt, with fmt's text TOLD by the authors' own Lean function (tested against real Go, not proved from fmt's source: count such statements apart). THE CARD IS WHAT COUNTS. Prove the row's statement (the work); the ties are given (YtjnfddibmijdkaaDoorTie.lean); close each card by the builder's one call (the guide's Derived/Test/ToyasCard.lean, 'card_holds'). Laid BY PROGRAM, IN A SANDBOX (cutbox-door.mjs). By AI agents, Wed Nov 11 2026. No macro, syntax, notation, axiom, sorry.
-/
import Derived.Test.YtjnfddibmijdkaaDoorRows
import GoSem.ClaimSeven
namespace Go.Proofs.YtjnfddibmijdkaaDoor
namespace Rows

/-- THE TIED CARD OF 'wickkeep.HeadBack'. -/
def headBackCard : Claim7 := { stood := { row := headBackRow, standIns := [], harness := (true, "3cad7e213ac15a08fd4ce8310f1d1c5841c09d836cb85125429b6546a3f767e9"), looks := false }, kinds := [], alts := [], laidByText := true, laidKinds := [.data, .pinned], laidTests := true, laidLooks := .later }
def HeadBackCardSaid : Prop := Claim7.holds Tryd.pinned (.plain (OpenSpec.ofChange headBackSpec)) headBackCard

/-- THE TIED CARD OF 'wickkeep.HeadOnce'. -/
def headOnceCard : Claim7 := { stood := { row := headOnceRow, standIns := [], harness := (true, "3cad7e213ac15a08fd4ce8310f1d1c5841c09d836cb85125429b6546a3f767e9"), looks := false }, kinds := [], alts := [], laidByText := true, laidKinds := [.data, .pinned], laidTests := true, laidLooks := .later }
def HeadOnceCardSaid : Prop := Claim7.holds Tryd.pinned (.plain (OpenSpec.ofChange headOnceSpec)) headOnceCard

/-- THE TIED CARD OF 'wickkeep.NetsBack'. -/
def netsBackCard : Claim7 := { stood := { row := netsBackRow, standIns := [], harness := (true, "3cad7e213ac15a08fd4ce8310f1d1c5841c09d836cb85125429b6546a3f767e9"), looks := false }, kinds := [], alts := [], laidByText := true, laidKinds := [.data, .data, .data, .data, .pinned], laidTests := true, laidLooks := .later }
def NetsBackCardSaid : Prop := Claim7.holds Tryd.pinned (.plain (OpenSpec.ofChange netsBackSpec)) netsBackCard

/-- THE TIED CARD OF 'wickkeep.NetsOne'. -/
def netsOneCard : Claim7 := { stood := { row := netsOneRow, standIns := [], harness := (true, "3cad7e213ac15a08fd4ce8310f1d1c5841c09d836cb85125429b6546a3f767e9"), looks := false }, kinds := [], alts := [], laidByText := true, laidKinds := [.data, .data, .data, .data, .pinned], laidTests := true, laidLooks := .later }
def NetsOneCardSaid : Prop := Claim7.holds Tryd.pinned (.plain (OpenSpec.ofChange netsOneSpec)) netsOneCard

/-- THE TIED CARD OF 'wickkeep.OneMore'. -/
def oneMoreCard : Claim7 := { stood := { row := oneMoreRow, standIns := [], harness := (true, "3cad7e213ac15a08fd4ce8310f1d1c5841c09d836cb85125429b6546a3f767e9"), looks := false }, kinds := [], alts := [], laidByText := true, laidKinds := [.data, .pinned], laidTests := true, laidLooks := .later }
def OneMoreCardSaid : Prop := Claim7.holds Tryd.pinned (.plain (OpenSpec.ofChange oneMoreSpec)) oneMoreCard

/-- THE SECOND FORM's CARD OF 'wickkeep.HeadBack'. -/
def headBackUptoCard : Claim7 := { stood := { row := headBackUptoRow, standIns := [], harness := (true, "3cad7e213ac15a08fd4ce8310f1d1c5841c09d836cb85125429b6546a3f767e9"), looks := false }, kinds := [], alts := [], laidByText := true, laidKinds := [.data, .pinned], laidTests := true, laidLooks := .later }
def HeadBackUptoCardSaid : Prop := Claim7.holds Tryd.pinned (.plain (OpenSpec.upto headBackSpec)) headBackUptoCard

/-- THE SECOND FORM's CARD OF 'wickkeep.HeadOnce'. -/
def headOnceUptoCard : Claim7 := { stood := { row := headOnceUptoRow, standIns := [], harness := (true, "3cad7e213ac15a08fd4ce8310f1d1c5841c09d836cb85125429b6546a3f767e9"), looks := false }, kinds := [], alts := [], laidByText := true, laidKinds := [.data, .pinned], laidTests := true, laidLooks := .later }
def HeadOnceUptoCardSaid : Prop := Claim7.holds Tryd.pinned (.plain (OpenSpec.upto headOnceSpec)) headOnceUptoCard

/-- THE SECOND FORM's CARD OF 'wickkeep.NetsBack'. -/
def netsBackUptoCard : Claim7 := { stood := { row := netsBackUptoRow, standIns := [], harness := (true, "3cad7e213ac15a08fd4ce8310f1d1c5841c09d836cb85125429b6546a3f767e9"), looks := false }, kinds := [], alts := [], laidByText := true, laidKinds := [.data, .data, .data, .data, .pinned], laidTests := true, laidLooks := .later }
def NetsBackUptoCardSaid : Prop := Claim7.holds Tryd.pinned (.plain (OpenSpec.upto netsBackSpec)) netsBackUptoCard

/-- THE SECOND FORM's CARD OF 'wickkeep.NetsOne'. -/
def netsOneUptoCard : Claim7 := { stood := { row := netsOneUptoRow, standIns := [], harness := (true, "3cad7e213ac15a08fd4ce8310f1d1c5841c09d836cb85125429b6546a3f767e9"), looks := false }, kinds := [], alts := [], laidByText := true, laidKinds := [.data, .data, .data, .data, .pinned], laidTests := true, laidLooks := .later }
def NetsOneUptoCardSaid : Prop := Claim7.holds Tryd.pinned (.plain (OpenSpec.upto netsOneSpec)) netsOneUptoCard

/-- THE SECOND FORM's CARD OF 'wickkeep.OneMore'. -/
def oneMoreUptoCard : Claim7 := { stood := { row := oneMoreUptoRow, standIns := [], harness := (true, "3cad7e213ac15a08fd4ce8310f1d1c5841c09d836cb85125429b6546a3f767e9"), looks := false }, kinds := [], alts := [], laidByText := true, laidKinds := [.data, .pinned], laidTests := true, laidLooks := .later }
def OneMoreUptoCardSaid : Prop := Claim7.holds Tryd.pinned (.plain (OpenSpec.upto oneMoreSpec)) oneMoreUptoCard
end Rows
end Go.Proofs.YtjnfddibmijdkaaDoor
