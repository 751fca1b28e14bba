/-
  DERIVED. GIVEN WITH THE SEED: THE CARDS: each row of YtopbkdebihcmcaaGreatDoorRows.lean that lists a variable, with what it lists TIED to the program's text (the seventh form; the later family's looks); each row that meets fmt, with fmt's text TOLD by the authors' own Lean function (tested against real Go, not proved from fmt's source: count such statements apart). THE CARD IS WHAT COUNTS. Prove the row's statement (the work); the ties are given (YtopbkdebihcmcaaGreatDoorTie.lean); close each card by the builder's one call (the guide's Derived/Test/ToyasCard.lean, 'card_holds'). Laid BY PROGRAM, IN A SANDBOX (cutbox-door.mjs). By AI agents, Wed Nov 11 2026. No macro, syntax, notation, axiom, sorry.
-/
import Derived.Test.YtopbkdebihcmcaaGreatDoorRows
import GoSem.ClaimSeven
namespace Go.Proofs.YtopbkdebihcmcaaGreatDoor
namespace Rows

/-- THE TIED CARD OF 'cofferkeep.DeskPieces'. -/
def deskPiecesCard : Claim7 := { stood := { row := deskPiecesRow, standIns := [], harness := (true, "9f1ccec675330190463fdd386981e45764bca3ddc931e60d2e9a275f5a0a607e"), looks := true }, kinds := [], alts := [], laidByText := true, laidKinds := [.data, .data, .data, .data, .data, .handle, .sentinel, .sentinel, .pinned], laidTests := true, laidLooks := .later }
def DeskPiecesCardSaid : Prop := Claim7.holds Tryz.pinned (.plain (OpenSpec.ofChange deskPiecesSpec)) deskPiecesCard

/-- THE SECOND FORM's CARD OF 'cofferkeep.DeskPieces'. -/
def deskPiecesUptoCard : Claim7 := { stood := { row := deskPiecesUptoRow, standIns := [], harness := (true, "9f1ccec675330190463fdd386981e45764bca3ddc931e60d2e9a275f5a0a607e"), looks := true }, kinds := [], alts := [], laidByText := true, laidKinds := [.data, .data, .data, .data, .data, .handle, .sentinel, .sentinel, .pinned], laidTests := true, laidLooks := .later }
def DeskPiecesUptoCardSaid : Prop := Claim7.holds Tryz.pinned (.plain (OpenSpec.upto deskPiecesSpec)) deskPiecesUptoCard
end Rows
end Go.Proofs.YtopbkdebihcmcaaGreatDoor
