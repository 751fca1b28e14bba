/-
  DERIVED. GIVEN WITH THE SEED: THE CARDS: each row of YtncdopmjnficmaaGreatDoorRows.lean that lists a variable, with what it lists TIED to the program's text (the seventh form; the later family's looks); each row that meets fmt, with fmt's text TOLD by the authors' own Lean function (tested against real Go, not proved from fmt's source: count such statements apart). THE CARD IS WHAT COUNTS. Prove the row's statement (the work); the ties are given (YtncdopmjnficmaaGreatDoorTie.lean); close each card by the builder's one call (the guide's Derived/Test/ToyasCard.lean, 'card_holds'). Laid BY PROGRAM, IN A SANDBOX (cutbox-door.mjs). By AI agents, Wed Nov 11 2026. No macro, syntax, notation, axiom, sorry.
-/
import Derived.Test.YtncdopmjnficmaaGreatDoorRows
import GoSem.ClaimSeven
namespace Go.Proofs.YtncdopmjnficmaaGreatDoor
namespace Rows

/-- THE TIED CARD OF 'cofferkeep.VaultQuiet'. -/
def vaultQuietCard : Claim7 := { stood := { row := vaultQuietRow, standIns := [], harness := (true, "5a24cb56f0780c2f5425efbed2634d90c44e40b2e247f23e73850da6b4b1f73e"), looks := true }, kinds := [], alts := [], laidByText := true, laidKinds := [.data, .data, .pinned], laidTests := true, laidLooks := .later }
def VaultQuietCardSaid : Prop := Claim7.holds Tryz.pinned (.plain (OpenSpec.ofChange vaultQuietSpec)) vaultQuietCard

/-- THE TIED CARD OF 'cofferlaw.VaultRefuses'. -/
def vaultRefusesCard : Claim7 := { stood := { row := vaultRefusesRow, standIns := [], harness := (true, "5a24cb56f0780c2f5425efbed2634d90c44e40b2e247f23e73850da6b4b1f73e"), looks := true }, kinds := [], alts := [], laidByText := true, laidKinds := [.data, .data, .handle, .pinned], laidTests := true, laidLooks := .later }
def VaultRefusesCardSaid : Prop := Claim7.holds Tryz.pinned (.plain (OpenSpec.ofChange vaultRefusesSpec)) vaultRefusesCard

/-- THE TIED CARD OF 'cofferkeep.VaultWhole'. -/
def vaultWholeCard : Claim7 := { stood := { row := vaultWholeRow, standIns := [], harness := (true, "5a24cb56f0780c2f5425efbed2634d90c44e40b2e247f23e73850da6b4b1f73e"), looks := true }, kinds := [], alts := [], laidByText := true, laidKinds := [.data, .data, .handle, .pinned], laidTests := true, laidLooks := .later }
def VaultWholeCardSaid : Prop := Claim7.holds Tryz.pinned (.plain (OpenSpec.ofChange vaultWholeSpec)) vaultWholeCard

/-- THE TIED CARD OF 'cofferkeep.VaultOld'. -/
def vaultOldCard : Claim7 := { stood := { row := vaultOldRow, standIns := [], harness := (true, "5a24cb56f0780c2f5425efbed2634d90c44e40b2e247f23e73850da6b4b1f73e"), looks := true }, kinds := [], alts := [], laidByText := true, laidKinds := [.data, .data, .handle, .pinned], laidTests := true, laidLooks := .later }
def VaultOldCardSaid : Prop := Claim7.holds Tryz.pinned (.plain (OpenSpec.ofChange vaultOldSpec)) vaultOldCard

/-- THE SECOND FORM's CARD OF 'cofferkeep.VaultQuiet'. -/
def vaultQuietUptoCard : Claim7 := { stood := { row := vaultQuietUptoRow, standIns := [], harness := (true, "5a24cb56f0780c2f5425efbed2634d90c44e40b2e247f23e73850da6b4b1f73e"), looks := true }, kinds := [], alts := [], laidByText := true, laidKinds := [.data, .data, .pinned], laidTests := true, laidLooks := .later }
def VaultQuietUptoCardSaid : Prop := Claim7.holds Tryz.pinned (.plain (OpenSpec.upto vaultQuietSpec)) vaultQuietUptoCard

/-- THE SECOND FORM's CARD OF 'cofferlaw.VaultRefuses'. -/
def vaultRefusesUptoCard : Claim7 := { stood := { row := vaultRefusesUptoRow, standIns := [], harness := (true, "5a24cb56f0780c2f5425efbed2634d90c44e40b2e247f23e73850da6b4b1f73e"), looks := true }, kinds := [], alts := [], laidByText := true, laidKinds := [.data, .data, .handle, .pinned], laidTests := true, laidLooks := .later }
def VaultRefusesUptoCardSaid : Prop := Claim7.holds Tryz.pinned (.plain (OpenSpec.upto vaultRefusesSpec)) vaultRefusesUptoCard

/-- THE SECOND FORM's CARD OF 'cofferkeep.VaultWhole'. -/
def vaultWholeUptoCard : Claim7 := { stood := { row := vaultWholeUptoRow, standIns := [], harness := (true, "5a24cb56f0780c2f5425efbed2634d90c44e40b2e247f23e73850da6b4b1f73e"), looks := true }, kinds := [], alts := [], laidByText := true, laidKinds := [.data, .data, .handle, .pinned], laidTests := true, laidLooks := .later }
def VaultWholeUptoCardSaid : Prop := Claim7.holds Tryz.pinned (.plain (OpenSpec.upto vaultWholeSpec)) vaultWholeUptoCard

/-- THE SECOND FORM's CARD OF 'cofferkeep.VaultOld'. -/
def vaultOldUptoCard : Claim7 := { stood := { row := vaultOldUptoRow, standIns := [], harness := (true, "5a24cb56f0780c2f5425efbed2634d90c44e40b2e247f23e73850da6b4b1f73e"), looks := true }, kinds := [], alts := [], laidByText := true, laidKinds := [.data, .data, .handle, .pinned], laidTests := true, laidLooks := .later }
def VaultOldUptoCardSaid : Prop := Claim7.holds Tryz.pinned (.plain (OpenSpec.upto vaultOldSpec)) vaultOldUptoCard
end Rows
end Go.Proofs.YtncdopmjnficmaaGreatDoor
