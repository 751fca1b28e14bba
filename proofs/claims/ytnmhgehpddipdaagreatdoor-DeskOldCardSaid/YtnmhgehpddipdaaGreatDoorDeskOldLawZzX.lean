/-
  DERIVED. DeskOld: a desk that is taken back notices: a session that goes back to an image behind which anything was told is told so. For every input; no condition but the row's own (the tables and errors of sum, strconv, utf8 and errors as their texts lay them).
-/
import Derived.Test.YtnmhgehpddipdaaGreatDoorDeskOldL2ZzX
import Derived.Test.YtnmhgehpddipdaaGreatDoorTie
import Derived.Test.YtnmhgehpddipdaaGreatDoorCards
import Derived.SevenTiedAt
set_option linter.unusedSimpArgs false
namespace Go.Proofs.YtnmhgehpddipdaaGreatDoor.deskOld
open Go.ChangeShapes Go.WideShapes Go.ChangeAt Go.RowKit Go.Cof
open Go.ChangeMaps (open_string shut_string)
set_option linter.unusedVariables false
theorem fact1:Rows.deskOldRow.wfByText (OpenSpec.ofChange Rows.deskOldSpec)=true:=by kernel_rfl
theorem fact2:Tryz.pinned.checked.prog.mainIs=some (((true, "fc04ed118bd424435e90bee5f46c05d649655b78a92023556e87e4b74dddf379"):Bool×String).1,((true, "fc04ed118bd424435e90bee5f46c05d649655b78a92023556e87e4b74dddf379"):Bool×String).2.toList):=by kernel_rfl
theorem fact3:true=Tryz.pinned.checked.prog.looks []:=by kernel_rfl
theorem fact4:false=Rows.deskOldRow.goesBy Tryz.pinned.checked.prog:=by kernel_rfl
theorem proved:Rows.DeskOldCardSaid:=
 Claim7.holds_tied_plain_at .later [] [.data,.data,.data,.data,.data,.handle,.sentinel,.sentinel,.pinned] true (true, "fc04ed118bd424435e90bee5f46c05d649655b78a92023556e87e4b74dddf379") true
  over (λ_ h=>by cases h) fact1 (λ_ h=>by cases h) deskOld_row_tie rfl ⟨rfl,rfl⟩ fact2 rfl
  (λf fn hf hfn=>by
   obtain rfl:f=3:=Option.some.inj ((show Tryz.prog.funcNamed "coffer/cofferkeep.DeskOld" =some 3 by kernel_rfl).symm.trans hf)|>.symm
   obtain rfl:fn=Tryz.f3:=(Option.some.inj (Tryz.func3.symm.trans hfn)).symm
   exact⟨fact3,λj t ht=>by
    rw[Tryz.params3]at ht
    have hall:∀t∈ [9,3],Tryz.prog.wantsStandIn t=false:=by
     intro t ht
     simp only[List.mem_cons,List.not_mem_nil,or_false]at ht
     rcases ht with rfl|rfl<;>kernel_rfl
    exact hall t (List.mem_of_getElem? (by simpa using ht))⟩)
  fact4
end Go.Proofs.YtnmhgehpddipdaaGreatDoor.deskOld
