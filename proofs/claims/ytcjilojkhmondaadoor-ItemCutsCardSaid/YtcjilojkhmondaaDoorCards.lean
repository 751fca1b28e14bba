/-
  DERIVED. GIVEN WITH THE SEED: THE CARDS: each row of YtcjilojkhmondaaDoorRows.lean that lists a variable, with what it lists TIED to the program's text (the seventh form; the later family's looks); each row that meets fmt, with fmt's text TOLD by the authors' own Lean function (tested against real Go, not proved from fmt's source: count such statements apart). THE CARD IS WHAT COUNTS. Prove the row's statement (the work); the ties are given (YtcjilojkhmondaaDoorTie.lean); close each card by the builder's one call (the guide's Derived/Test/ToyasCard.lean, 'card_holds'). Laid BY PROGRAM, IN A SANDBOX (cutbox-door.mjs). By AI agents, Wed Nov 11 2026. No macro, syntax, notation, axiom, sorry.
-/
import Derived.Test.YtcjilojkhmondaaDoorRows
import GoSem.ClaimSeven
namespace Go.Proofs.YtcjilojkhmondaaDoor
namespace Rows

/-- THE TIED CARD OF 'cofferkeep.NearMoved'. -/
def nearMovedCard : Claim7 := { stood := { row := nearMovedRow, standIns := [], harness := (true, "7a340717b06e583dbe50eaa1474d7c371b7f3a76b9d59b19a9f1fe873d59eef3"), looks := true }, kinds := [], alts := [], laidByText := true, laidKinds := [.data, .pinned], laidTests := true, laidLooks := .later }
def NearMovedCardSaid : Prop := Claim7.holds Tryd.pinned (.plain (OpenSpec.ofChange nearMovedSpec)) nearMovedCard

/-- THE TIED CARD OF 'cofferkeep.NearOrder'. -/
def nearOrderCard : Claim7 := { stood := { row := nearOrderRow, standIns := [], harness := (true, "7a340717b06e583dbe50eaa1474d7c371b7f3a76b9d59b19a9f1fe873d59eef3"), looks := true }, kinds := [], alts := [], laidByText := true, laidKinds := [.data, .pinned], laidTests := true, laidLooks := .later }
def NearOrderCardSaid : Prop := Claim7.holds Tryd.pinned (.plain (OpenSpec.ofChange nearOrderSpec)) nearOrderCard

/-- THE TIED CARD OF 'cofferlaw.NearFinds'. -/
def nearFindsCard : Claim7 := { stood := { row := nearFindsRow, standIns := [], harness := (true, "7a340717b06e583dbe50eaa1474d7c371b7f3a76b9d59b19a9f1fe873d59eef3"), looks := true }, kinds := [], alts := [], laidByText := true, laidKinds := [.handle], laidTests := true, laidLooks := .later }
def NearFindsCardSaid : Prop := Claim7.holds Tryd.pinned (.plain (OpenSpec.ofChange nearFindsSpec)) nearFindsCard

/-- THE TIED CARD OF 'cofferkeep.ItemBack'. -/
def itemBackCard : Claim7 := { stood := { row := itemBackRow, standIns := [], harness := (true, "7a340717b06e583dbe50eaa1474d7c371b7f3a76b9d59b19a9f1fe873d59eef3"), looks := true }, kinds := [], alts := [], laidByText := true, laidKinds := [.data, .data, .data, .data, .sentinel, .sentinel, .pinned], laidTests := true, laidLooks := .later }
def ItemBackCardSaid : Prop := Claim7.holds Tryd.pinned (.plain (OpenSpec.ofChange itemBackSpec)) itemBackCard

/-- THE TIED CARD OF 'cofferkeep.ItemCuts'. -/
def itemCutsCard : Claim7 := { stood := { row := itemCutsRow, standIns := [], harness := (true, "7a340717b06e583dbe50eaa1474d7c371b7f3a76b9d59b19a9f1fe873d59eef3"), looks := true }, kinds := [], alts := [], laidByText := true, laidKinds := [.data, .data, .data, .data, .sentinel, .sentinel, .pinned], laidTests := true, laidLooks := .later }
def ItemCutsCardSaid : Prop := Claim7.holds Tryd.pinned (.plain (OpenSpec.ofChange itemCutsSpec)) itemCutsCard

/-- THE SECOND FORM's CARD OF 'cofferkeep.NearMoved'. -/
def nearMovedUptoCard : Claim7 := { stood := { row := nearMovedUptoRow, standIns := [], harness := (true, "7a340717b06e583dbe50eaa1474d7c371b7f3a76b9d59b19a9f1fe873d59eef3"), looks := true }, kinds := [], alts := [], laidByText := true, laidKinds := [.data, .pinned], laidTests := true, laidLooks := .later }
def NearMovedUptoCardSaid : Prop := Claim7.holds Tryd.pinned (.plain (OpenSpec.upto nearMovedSpec)) nearMovedUptoCard

/-- THE SECOND FORM's CARD OF 'cofferkeep.NearOrder'. -/
def nearOrderUptoCard : Claim7 := { stood := { row := nearOrderUptoRow, standIns := [], harness := (true, "7a340717b06e583dbe50eaa1474d7c371b7f3a76b9d59b19a9f1fe873d59eef3"), looks := true }, kinds := [], alts := [], laidByText := true, laidKinds := [.data, .pinned], laidTests := true, laidLooks := .later }
def NearOrderUptoCardSaid : Prop := Claim7.holds Tryd.pinned (.plain (OpenSpec.upto nearOrderSpec)) nearOrderUptoCard

/-- THE SECOND FORM's CARD OF 'cofferlaw.NearFinds'. -/
def nearFindsUptoCard : Claim7 := { stood := { row := nearFindsUptoRow, standIns := [], harness := (true, "7a340717b06e583dbe50eaa1474d7c371b7f3a76b9d59b19a9f1fe873d59eef3"), looks := true }, kinds := [], alts := [], laidByText := true, laidKinds := [.handle], laidTests := true, laidLooks := .later }
def NearFindsUptoCardSaid : Prop := Claim7.holds Tryd.pinned (.plain (OpenSpec.upto nearFindsSpec)) nearFindsUptoCard

/-- THE SECOND FORM's CARD OF 'cofferkeep.ItemBack'. -/
def itemBackUptoCard : Claim7 := { stood := { row := itemBackUptoRow, standIns := [], harness := (true, "7a340717b06e583dbe50eaa1474d7c371b7f3a76b9d59b19a9f1fe873d59eef3"), looks := true }, kinds := [], alts := [], laidByText := true, laidKinds := [.data, .data, .data, .data, .sentinel, .sentinel, .pinned], laidTests := true, laidLooks := .later }
def ItemBackUptoCardSaid : Prop := Claim7.holds Tryd.pinned (.plain (OpenSpec.upto itemBackSpec)) itemBackUptoCard

/-- THE SECOND FORM's CARD OF 'cofferkeep.ItemCuts'. -/
def itemCutsUptoCard : Claim7 := { stood := { row := itemCutsUptoRow, standIns := [], harness := (true, "7a340717b06e583dbe50eaa1474d7c371b7f3a76b9d59b19a9f1fe873d59eef3"), looks := true }, kinds := [], alts := [], laidByText := true, laidKinds := [.data, .data, .data, .data, .sentinel, .sentinel, .pinned], laidTests := true, laidLooks := .later }
def ItemCutsUptoCardSaid : Prop := Claim7.holds Tryd.pinned (.plain (OpenSpec.upto itemCutsSpec)) itemCutsUptoCard
end Rows
end Go.Proofs.YtcjilojkhmondaaDoor
