/-
  DERIVED. GIVEN WITH THE SEED: THE CARDS: each row of YtfhaojhofiocaaaGreatDoorRows.lean that lists a variable, with what it lists TIED to the program's text (the seventh form; the later family's looks); each row that meets fmt, with fmt's text TOLD by the authors' own Lean function (tested against real Go, not proved from fmt's source: count such statements apart). THE CARD IS WHAT COUNTS. Prove the row's statement (the work); the ties are given (YtfhaojhofiocaaaGreatDoorTie.lean); close each card by the builder's one call (the guide's Derived/Test/ToyasCard.lean, 'card_holds'). Laid BY PROGRAM, IN A SANDBOX (cutbox-door.mjs). By AI agents, Wed Nov 11 2026. No macro, syntax, notation, axiom, sorry.
-/
import Derived.Test.YtfhaojhofiocaaaGreatDoorRows
import GoSem.ClaimSeven
namespace Go.Proofs.YtfhaojhofiocaaaGreatDoor
namespace Rows

/-- THE TIED CARD OF 'wickkeep.ConnEnds'. -/
def connEndsCard : Claim7 := { stood := { row := connEndsRow, standIns := [], harness := (true, "a00c9f15ac8b60ca0c31b8d1d3409295e02cf64a3fd1112efea0a46afb454fb7"), looks := false }, kinds := [], alts := [], laidByText := true, laidKinds := [.data, .data, .data, .data, .pinned], laidTests := true, laidLooks := .later }
def ConnEndsCardSaid : Prop := Claim7.holds Tryz.pinned (.plain (OpenSpec.ofChange connEndsSpec)) connEndsCard

/-- THE SECOND FORM's CARD OF 'wickkeep.ConnEnds'. -/
def connEndsUptoCard : Claim7 := { stood := { row := connEndsUptoRow, standIns := [], harness := (true, "a00c9f15ac8b60ca0c31b8d1d3409295e02cf64a3fd1112efea0a46afb454fb7"), looks := false }, kinds := [], alts := [], laidByText := true, laidKinds := [.data, .data, .data, .data, .pinned], laidTests := true, laidLooks := .later }
def ConnEndsUptoCardSaid : Prop := Claim7.holds Tryz.pinned (.plain (OpenSpec.upto connEndsSpec)) connEndsUptoCard
end Rows
end Go.Proofs.YtfhaojhofiocaaaGreatDoor
