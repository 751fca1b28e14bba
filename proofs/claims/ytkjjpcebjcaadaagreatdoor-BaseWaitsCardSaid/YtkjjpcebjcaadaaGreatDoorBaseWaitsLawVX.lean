import Derived.Test.YtkjjpcebjcaadaaGreatDoorBaseWaitsL2VX
import Derived.Test.YtkjjpcebjcaadaaGreatDoorTie
import Derived.Test.YtkjjpcebjcaadaaGreatDoorCards
import Derived.SevenTiedAt
set_option linter.unusedSimpArgs false
namespace Go.Proofs.YtkjjpcebjcaadaaGreatDoor.baseWaits
open Go.ChangeShapes Go.WideShapes Go.ChangeAt Go.RowKit Go.Cof
open Go.ChangeMaps (open_string shut_string)
set_option linter.unusedVariables false
theorem fact1 : Rows.baseWaitsRow.wfByText (OpenSpec.ofChange Rows.baseWaitsSpec) = true := by kernel_rfl
theorem fact2 : Tryz.pinned.checked.prog.mainIs = some (((true, "6e65d219ed18ff95a42e297465b6dab755ca3f51c85a39f2050f6eb41777885c") : Bool × String).1, ((true, "6e65d219ed18ff95a42e297465b6dab755ca3f51c85a39f2050f6eb41777885c") : Bool × String).2.toList) := by kernel_rfl
theorem fact3 : true = Tryz.pinned.checked.prog.looks [] := by kernel_rfl
theorem fact4 : false = Rows.baseWaitsRow.goesBy Tryz.pinned.checked.prog := by kernel_rfl
theorem proved : Rows.BaseWaitsCardSaid :=
 Claim7.holds_tied_plain_at .later [] [.data, .data, .data, .data, .data, .handle, .sentinel, .sentinel, .pinned] true (true, "6e65d219ed18ff95a42e297465b6dab755ca3f51c85a39f2050f6eb41777885c") true
  over (fun _ h => by cases h) fact1 (fun _ h => by cases h) baseWaits_row_tie rfl ⟨rfl, rfl⟩ fact2 rfl
  (fun f fn hf hfn => by
   obtain rfl : f = 4 := Option.some.inj ((show Tryz.prog.funcNamed "coffer/cofferkeep.BaseWaits" = some 4 by kernel_rfl).symm.trans hf) |>.symm
   obtain rfl : fn = Tryz.f4 := (Option.some.inj (Tryz.func4.symm.trans hfn)).symm
   exact ⟨fact3, fun j t ht => by
    rw [Tryz.params4] at ht
    have hall : ∀ t ∈ [22], Tryz.prog.wantsStandIn t = false := by
     intro t ht
     simp only [List.mem_cons, List.not_mem_nil, or_false] at ht
     subst ht
     kernel_rfl
    exact hall t (List.mem_of_getElem? (by simpa using ht))⟩)
  fact4
end Go.Proofs.YtkjjpcebjcaadaaGreatDoor.baseWaits
