/-
  DERIVED. GIVEN WITH THE SEED: THE CARDS: each row of YtnmhgehpddipdaaGreatDoorRows.lean that lists a variable, with what it lists TIED to the program's text (the seventh form; the later family's looks); each row that meets fmt, with fmt's text TOLD by the authors' own Lean function (tested against real Go, not proved from fmt's source: count such statements apart). THE CARD IS WHAT COUNTS. Prove the row's statement (the work); the ties are given (YtnmhgehpddipdaaGreatDoorTie.lean); close each card by the builder's one call (the guide's Derived/Test/ToyasCard.lean, 'card_holds'). Laid BY PROGRAM, IN A SANDBOX (cutbox-door.mjs). By AI agents, Wed Nov 11 2026. No macro, syntax, notation, axiom, sorry.
-/
import Derived.Test.YtnmhgehpddipdaaGreatDoorRows
import GoSem.ClaimSeven
namespace Go.Proofs.YtnmhgehpddipdaaGreatDoor
namespace Rows

/-- THE TIED CARD OF 'cofferkeep.DeskOld'. -/
def deskOldCard : Claim7 := { stood := { row := deskOldRow, standIns := [], harness := (true, "fc04ed118bd424435e90bee5f46c05d649655b78a92023556e87e4b74dddf379"), looks := true }, kinds := [], alts := [], laidByText := true, laidKinds := [.data, .data, .data, .data, .data, .handle, .sentinel, .sentinel, .pinned], laidTests := true, laidLooks := .later }
def DeskOldCardSaid : Prop := Claim7.holds Tryz.pinned (.plain (OpenSpec.ofChange deskOldSpec)) deskOldCard

/-- THE SECOND FORM's CARD OF 'cofferkeep.DeskOld'. -/
def deskOldUptoCard : Claim7 := { stood := { row := deskOldUptoRow, standIns := [], harness := (true, "fc04ed118bd424435e90bee5f46c05d649655b78a92023556e87e4b74dddf379"), looks := true }, kinds := [], alts := [], laidByText := true, laidKinds := [.data, .data, .data, .data, .data, .handle, .sentinel, .sentinel, .pinned], laidTests := true, laidLooks := .later }
def DeskOldUptoCardSaid : Prop := Claim7.holds Tryz.pinned (.plain (OpenSpec.upto deskOldSpec)) deskOldUptoCard
end Rows
end Go.Proofs.YtnmhgehpddipdaaGreatDoor
