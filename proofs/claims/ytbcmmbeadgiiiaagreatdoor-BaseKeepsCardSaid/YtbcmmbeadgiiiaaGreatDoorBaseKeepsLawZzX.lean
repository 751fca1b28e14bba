/-
  DERIVED. BaseKeeps: whatever is put, taken away, told, and opened again, what a base has, and finds, is what the reference has, and finds. For every input; no condition but the row's own (the tables and errors of sum, strconv, utf8 and errors as their texts lay them).
-/
import Derived.Test.YtbcmmbeadgiiiaaGreatDoorBaseKeepsL2ZzX
import Derived.Test.YtbcmmbeadgiiiaaGreatDoorTie
import Derived.Test.YtbcmmbeadgiiiaaGreatDoorCards
set_option linter.all false
namespace Go.Proofs.YtbcmmbeadgiiiaaGreatDoor.Ld
open Go.ChangeShapes Go.WideShapes Go.ChangeAt Go.RowKit
open Go.ChangeMaps (open_string shut_string)
set_option linter.unusedVariables false
theorem zyD:Rows.baseKeepsRow.wfByText (OpenSpec.ofChange Rows.baseKeepsSpec)=true:=by kernel_rfl
theorem zyC:Tryz.pinned.checked.prog.mainIs=some (((true, "149524f9f1209f005ca5964ec384150d9e7be3487fdd2baa550f02d5ac44254c"):Bool×String).1,((true, "149524f9f1209f005ca5964ec384150d9e7be3487fdd2baa550f02d5ac44254c"):Bool×String).2.toList):=by kernel_rfl
theorem zyB:true=Tryz.pinned.checked.prog.looks []:=by kernel_rfl
theorem zyA:false=Rows.baseKeepsRow.goesBy Tryz.pinned.checked.prog:=by kernel_rfl
theorem proved:Rows.BaseKeepsCardSaid:=
 Claim7.holds_tied_plain_at .later [] [.data,.data,.data,.data,.data,.handle,.sentinel,.sentinel,.pinned] true (true, "149524f9f1209f005ca5964ec384150d9e7be3487fdd2baa550f02d5ac44254c") true
  over (λ_ h=>by cases h) zyD (λ_ h=>by cases h) baseKeeps_row_tie rfl ⟨rfl,rfl⟩ zyC rfl
  (λf fn hf hfn=>by
   obtain rfl:f=3:=aU ((show Tryz.prog.funcNamed "coffer/cofferlaw.BaseKeeps" =some 3 by kernel_rfl).s.t hf)|>.symm;obtain rfl:fn=Tryz.f3:=(aU (Tryz.func3.s.t hfn)).s;exact⟨zyB,λj t ht=>by
    rw[Tryz.params3]at ht;have vz:∀t∈ [22,23,3,9],Tryz.prog.wantsStandIn t=false:=by intro t ht;simp only[dO,iT,lN]at ht;rcases ht with rfl|rfl|rfl|rfl<;>kernel_rfl
    exact vz t (bG (by simpa using ht))⟩)
  zyA
