/-
  DERIVED. GIVEN WITH THE SEED: THE CARDS: each row of YtcjilojkhmondaaGreatDoorRows.lean that lists a variable, with what it lists TIED to the program's text (the seventh form; the later family's looks); each row that meets fmt, with fmt's text TOLD by the authors' own Lean function (tested against real Go, not proved from fmt's source: count such statements apart). THE CARD IS WHAT COUNTS. Prove the row's statement (the work); the ties are given (YtcjilojkhmondaaGreatDoorTie.lean); close each card by the builder's one call (the guide's Derived/Test/ToyasCard.lean, 'card_holds'). Laid BY PROGRAM, IN A SANDBOX (cutbox-door.mjs). By AI agents, Wed Nov 11 2026. No macro, syntax, notation, axiom, sorry.
-/
import Derived.Test.YtcjilojkhmondaaGreatDoorRows
import GoSem.ClaimSeven
namespace Go.Proofs.YtcjilojkhmondaaGreatDoor
namespace Rows

/-- THE TIED CARD OF 'cofferkeep.CellsSame'. -/
def cellsSameCard : Claim7 := { stood := { row := cellsSameRow, standIns := [], harness := (true, "f8837a107e4d86402d21fd9bfdc3e6d61d004531acc66b3ebc426fe5225be50b"), looks := true }, kinds := [], alts := [], laidByText := true, laidKinds := [.data, .handle, .pinned], laidTests := true, laidLooks := .later }
def CellsSameCardSaid : Prop := Claim7.holds Tryz.pinned (.plain (OpenSpec.ofChange cellsSameSpec)) cellsSameCard

/-- THE SECOND FORM's CARD OF 'cofferkeep.CellsSame'. -/
def cellsSameUptoCard : Claim7 := { stood := { row := cellsSameUptoRow, standIns := [], harness := (true, "f8837a107e4d86402d21fd9bfdc3e6d61d004531acc66b3ebc426fe5225be50b"), looks := true }, kinds := [], alts := [], laidByText := true, laidKinds := [.data, .handle, .pinned], laidTests := true, laidLooks := .later }
def CellsSameUptoCardSaid : Prop := Claim7.holds Tryz.pinned (.plain (OpenSpec.upto cellsSameSpec)) cellsSameUptoCard
end Rows
end Go.Proofs.YtcjilojkhmondaaGreatDoor
