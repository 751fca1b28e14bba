/-
  DERIVED. GIVEN WITH THE SEED: THE CARDS: each row of YtbcmmbeadgiiiaaGreatDoorRows.lean that lists a variable, with what it lists TIED to the program's text (the seventh form; the later family's looks); each row that meets fmt, with fmt's text TOLD by the authors' own Lean function (tested against real Go, not proved from fmt's source: count such statements apart). THE CARD IS WHAT COUNTS. Prove the row's statement (the work); the ties are given (YtbcmmbeadgiiiaaGreatDoorTie.lean); close each card by the builder's one call (the guide's Derived/Test/ToyasCard.lean, 'card_holds'). Laid BY PROGRAM, IN A SANDBOX (cutbox-door.mjs). By AI agents, Wed Nov 11 2026. No macro, syntax, notation, axiom, sorry.
-/
import Derived.Test.YtbcmmbeadgiiiaaGreatDoorRows
import GoSem.ClaimSeven
namespace Go.Proofs.YtbcmmbeadgiiiaaGreatDoor
namespace Rows

/-- THE TIED CARD OF 'cofferlaw.BaseKeeps'. -/
def baseKeepsCard : Claim7 := { stood := { row := baseKeepsRow, standIns := [], harness := (true, "149524f9f1209f005ca5964ec384150d9e7be3487fdd2baa550f02d5ac44254c"), looks := true }, kinds := [], alts := [], laidByText := true, laidKinds := [.data, .data, .data, .data, .data, .handle, .sentinel, .sentinel, .pinned], laidTests := true, laidLooks := .later }
def BaseKeepsCardSaid : Prop := Claim7.holds Tryz.pinned (.plain (OpenSpec.ofChange baseKeepsSpec)) baseKeepsCard

/-- THE SECOND FORM's CARD OF 'cofferlaw.BaseKeeps'. -/
def baseKeepsUptoCard : Claim7 := { stood := { row := baseKeepsUptoRow, standIns := [], harness := (true, "149524f9f1209f005ca5964ec384150d9e7be3487fdd2baa550f02d5ac44254c"), looks := true }, kinds := [], alts := [], laidByText := true, laidKinds := [.data, .data, .data, .data, .data, .handle, .sentinel, .sentinel, .pinned], laidTests := true, laidLooks := .later }
def BaseKeepsUptoCardSaid : Prop := Claim7.holds Tryz.pinned (.plain (OpenSpec.upto baseKeepsSpec)) baseKeepsUptoCard
end Rows
end Go.Proofs.YtbcmmbeadgiiiaaGreatDoor
