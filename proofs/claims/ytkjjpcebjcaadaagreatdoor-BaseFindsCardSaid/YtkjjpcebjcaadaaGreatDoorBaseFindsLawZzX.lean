/-
  DERIVED. BaseFinds: what is found is there: whatever is put, taken away, told, what a base finds is what is nearest of what there is; and told again it finds the same. For every input; no condition but the row's own (the tables and errors of sum, strconv, utf8 and errors as their texts lay them).
-/
import Derived.Test.YtkjjpcebjcaadaaGreatDoorBaseFindsL2ZzX
import Derived.Test.YtkjjpcebjcaadaaGreatDoorTie
import Derived.Test.YtkjjpcebjcaadaaGreatDoorCards
import Derived.SevenTiedAt
set_option linter.unusedSimpArgs false
namespace Go.Proofs.YtkjjpcebjcaadaaGreatDoor.baseFinds
open Go.ChangeShapes Go.WideShapes Go.ChangeAt Go.RowKit Go.Cof
open Go.ChangeMaps (open_string shut_string)
set_option linter.unusedVariables false
theorem fact1:Rows.baseFindsRow.wfByText (OpenSpec.ofChange Rows.baseFindsSpec)=true:=by kernel_rfl
theorem fact2:Tryz.pinned.checked.prog.mainIs=some (((true, "6e65d219ed18ff95a42e297465b6dab755ca3f51c85a39f2050f6eb41777885c"):Bool×String).1,((true, "6e65d219ed18ff95a42e297465b6dab755ca3f51c85a39f2050f6eb41777885c"):Bool×String).2.toList):=by kernel_rfl
theorem fact3:true=Tryz.pinned.checked.prog.looks []:=by kernel_rfl
theorem fact4:false=Rows.baseFindsRow.goesBy Tryz.pinned.checked.prog:=by kernel_rfl
theorem proved:Rows.BaseFindsCardSaid:=
 Claim7.holds_tied_plain_at .later [] [.data,.data,.data,.data,.data,.handle,.sentinel,.sentinel,.pinned] true (true, "6e65d219ed18ff95a42e297465b6dab755ca3f51c85a39f2050f6eb41777885c") true
  over (λ_ h=>by cases h) fact1 (λ_ h=>by cases h) baseFinds_row_tie rfl ⟨rfl,rfl⟩ fact2 rfl
  (λf fn hf hfn=>by
   obtain rfl:f=5:=Option.some.inj ((show Tryz.prog.funcNamed "coffer/cofferkeep.BaseFinds" =some 5 by kernel_rfl).symm.trans hf)|>.symm
   obtain rfl:fn=Tryz.f5:=(Option.some.inj (Tryz.func5.symm.trans hfn)).symm
   exact⟨fact3,λj t ht=>by
    rw[Tryz.params5]at ht
    have hall:∀t∈ [22,24,3,9],Tryz.prog.wantsStandIn t=false:=by
     intro t ht
     simp only[List.mem_cons,List.not_mem_nil,or_false]at ht
     rcases ht with rfl|rfl|rfl|rfl<;>kernel_rfl
    exact hall t (List.mem_of_getElem? (by simpa using ht))⟩)
  fact4
end Go.Proofs.YtkjjpcebjcaadaaGreatDoor.baseFinds
