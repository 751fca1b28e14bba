/-
  DERIVED. GIVEN WITH THE SEED: THE CARDS: each row of YtkjjpcebjcaadaaGreatDoorRows.lean that lists a variable, with what it lists TIED to the program's text (the seventh form; the later family's looks); each row that meets fmt, with fmt's text TOLD by the authors' own Lean function (tested against real Go, not proved from fmt's source: count such statements apart). THE CARD IS WHAT COUNTS. Prove the row's statement (the work); the ties are given (YtkjjpcebjcaadaaGreatDoorTie.lean); close each card by the builder's one call (the guide's Derived/Test/ToyasCard.lean, 'card_holds'). Laid BY PROGRAM, IN A SANDBOX (cutbox-door.mjs). By AI agents, Wed Nov 11 2026. No macro, syntax, notation, axiom, sorry.
-/
import Derived.Test.YtkjjpcebjcaadaaGreatDoorRows
import GoSem.ClaimSeven
namespace Go.Proofs.YtkjjpcebjcaadaaGreatDoor
namespace Rows

/-- THE TIED CARD OF 'cofferkeep.BaseCrashes'. -/
def baseCrashesCard : Claim7 := { stood := { row := baseCrashesRow, standIns := [], harness := (true, "6e65d219ed18ff95a42e297465b6dab755ca3f51c85a39f2050f6eb41777885c"), looks := true }, kinds := [], alts := [], laidByText := true, laidKinds := [.data, .data, .data, .data, .data, .handle, .sentinel, .sentinel, .pinned], laidTests := true, laidLooks := .later }
def BaseCrashesCardSaid : Prop := Claim7.holds Tryz.pinned (.plain (OpenSpec.ofChange baseCrashesSpec)) baseCrashesCard

/-- THE TIED CARD OF 'cofferkeep.BaseWaits'. -/
def baseWaitsCard : Claim7 := { stood := { row := baseWaitsRow, standIns := [], harness := (true, "6e65d219ed18ff95a42e297465b6dab755ca3f51c85a39f2050f6eb41777885c"), looks := true }, kinds := [], alts := [], laidByText := true, laidKinds := [.data, .data, .data, .data, .data, .handle, .sentinel, .sentinel, .pinned], laidTests := true, laidLooks := .later }
def BaseWaitsCardSaid : Prop := Claim7.holds Tryz.pinned (.plain (OpenSpec.ofChange baseWaitsSpec)) baseWaitsCard

/-- THE TIED CARD OF 'cofferkeep.BaseFinds'. -/
def baseFindsCard : Claim7 := { stood := { row := baseFindsRow, standIns := [], harness := (true, "6e65d219ed18ff95a42e297465b6dab755ca3f51c85a39f2050f6eb41777885c"), looks := true }, kinds := [], alts := [], laidByText := true, laidKinds := [.data, .data, .data, .data, .data, .handle, .sentinel, .sentinel, .pinned], laidTests := true, laidLooks := .later }
def BaseFindsCardSaid : Prop := Claim7.holds Tryz.pinned (.plain (OpenSpec.ofChange baseFindsSpec)) baseFindsCard

/-- THE TIED CARD OF 'cofferlaw.BaseKeeps'. -/
def baseKeepsCard : Claim7 := { stood := { row := baseKeepsRow, standIns := [], harness := (true, "6e65d219ed18ff95a42e297465b6dab755ca3f51c85a39f2050f6eb41777885c"), looks := true }, kinds := [], alts := [], laidByText := true, laidKinds := [.data, .data, .data, .data, .data, .handle, .sentinel, .sentinel, .pinned], laidTests := true, laidLooks := .later }
def BaseKeepsCardSaid : Prop := Claim7.holds Tryz.pinned (.plain (OpenSpec.ofChange baseKeepsSpec)) baseKeepsCard

/-- THE SECOND FORM's CARD OF 'cofferkeep.BaseCrashes'. -/
def baseCrashesUptoCard : Claim7 := { stood := { row := baseCrashesUptoRow, standIns := [], harness := (true, "6e65d219ed18ff95a42e297465b6dab755ca3f51c85a39f2050f6eb41777885c"), looks := true }, kinds := [], alts := [], laidByText := true, laidKinds := [.data, .data, .data, .data, .data, .handle, .sentinel, .sentinel, .pinned], laidTests := true, laidLooks := .later }
def BaseCrashesUptoCardSaid : Prop := Claim7.holds Tryz.pinned (.plain (OpenSpec.upto baseCrashesSpec)) baseCrashesUptoCard

/-- THE SECOND FORM's CARD OF 'cofferkeep.BaseWaits'. -/
def baseWaitsUptoCard : Claim7 := { stood := { row := baseWaitsUptoRow, standIns := [], harness := (true, "6e65d219ed18ff95a42e297465b6dab755ca3f51c85a39f2050f6eb41777885c"), looks := true }, kinds := [], alts := [], laidByText := true, laidKinds := [.data, .data, .data, .data, .data, .handle, .sentinel, .sentinel, .pinned], laidTests := true, laidLooks := .later }
def BaseWaitsUptoCardSaid : Prop := Claim7.holds Tryz.pinned (.plain (OpenSpec.upto baseWaitsSpec)) baseWaitsUptoCard

/-- THE SECOND FORM's CARD OF 'cofferkeep.BaseFinds'. -/
def baseFindsUptoCard : Claim7 := { stood := { row := baseFindsUptoRow, standIns := [], harness := (true, "6e65d219ed18ff95a42e297465b6dab755ca3f51c85a39f2050f6eb41777885c"), looks := true }, kinds := [], alts := [], laidByText := true, laidKinds := [.data, .data, .data, .data, .data, .handle, .sentinel, .sentinel, .pinned], laidTests := true, laidLooks := .later }
def BaseFindsUptoCardSaid : Prop := Claim7.holds Tryz.pinned (.plain (OpenSpec.upto baseFindsSpec)) baseFindsUptoCard

/-- THE SECOND FORM's CARD OF 'cofferlaw.BaseKeeps'. -/
def baseKeepsUptoCard : Claim7 := { stood := { row := baseKeepsUptoRow, standIns := [], harness := (true, "6e65d219ed18ff95a42e297465b6dab755ca3f51c85a39f2050f6eb41777885c"), looks := true }, kinds := [], alts := [], laidByText := true, laidKinds := [.data, .data, .data, .data, .data, .handle, .sentinel, .sentinel, .pinned], laidTests := true, laidLooks := .later }
def BaseKeepsUptoCardSaid : Prop := Claim7.holds Tryz.pinned (.plain (OpenSpec.upto baseKeepsSpec)) baseKeepsUptoCard
end Rows
end Go.Proofs.YtkjjpcebjcaadaaGreatDoor
