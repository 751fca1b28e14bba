/-
  DERIVED. BaseCrashes: all of it, or nothing: a Commit, or a Turn, that is cut off at any write, whatever is lost then, is done, or was never; and what is found is what there is. For every input; no condition but the row's own (the tables and errors of sum, strconv, utf8 and errors as their texts lay them).
-/
import Derived.Test.YtkjjpcebjcaadaaGreatDoorBaseCrashesL2ZzX
import Derived.Test.YtkjjpcebjcaadaaGreatDoorTie
import Derived.Test.YtkjjpcebjcaadaaGreatDoorCards
import Derived.SevenTiedAt
set_option linter.unusedSimpArgs false
namespace Go.Proofs.YtkjjpcebjcaadaaGreatDoor.baseCrashes
open Go.ChangeShapes Go.WideShapes Go.ChangeAt Go.RowKit Go.Cof
open Go.ChangeMaps (open_string shut_string)
set_option linter.unusedVariables false
theorem fact1:Rows.baseCrashesRow.wfByText (OpenSpec.ofChange Rows.baseCrashesSpec)=true:=by kernel_rfl
theorem fact2:Tryz.pinned.checked.prog.mainIs=some (((true, "6e65d219ed18ff95a42e297465b6dab755ca3f51c85a39f2050f6eb41777885c"):Bool×String).1,((true, "6e65d219ed18ff95a42e297465b6dab755ca3f51c85a39f2050f6eb41777885c"):Bool×String).2.toList):=by kernel_rfl
theorem fact3:true=Tryz.pinned.checked.prog.looks []:=by kernel_rfl
theorem fact4:false=Rows.baseCrashesRow.goesBy Tryz.pinned.checked.prog:=by kernel_rfl
theorem proved:Rows.BaseCrashesCardSaid:=
 Claim7.holds_tied_plain_at .later [] [.data,.data,.data,.data,.data,.handle,.sentinel,.sentinel,.pinned] true (true, "6e65d219ed18ff95a42e297465b6dab755ca3f51c85a39f2050f6eb41777885c") true
  over (λ_ h=>by cases h) fact1 (λ_ h=>by cases h) baseCrashes_row_tie rfl ⟨rfl,rfl⟩ fact2 rfl
  (λf fn hf hfn=>by
   obtain rfl:f=3:=Option.some.inj ((show Tryz.prog.funcNamed "coffer/cofferkeep.BaseCrashes" =some 3 by kernel_rfl).symm.trans hf)|>.symm
   obtain rfl:fn=Tryz.f3:=(Option.some.inj (Tryz.func3.symm.trans hfn)).symm
   exact⟨fact3,λj t ht=>by
    rw[Tryz.params3]at ht
    have hall:∀t∈ [22,3,23,24],Tryz.prog.wantsStandIn t=false:=by
     intro t ht
     simp only[List.mem_cons,List.not_mem_nil,or_false]at ht
     rcases ht with rfl|rfl|rfl|rfl<;>kernel_rfl
    exact hall t (List.mem_of_getElem? (by simpa using ht))⟩)
  fact4
end Go.Proofs.YtkjjpcebjcaadaaGreatDoor.baseCrashes
