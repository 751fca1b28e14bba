/-
  DERIVED. DeskPieces: the answers to the first lines of a session are the beginning of the answers to all. For every input; no condition but the row's own (the tables and errors of sum, strconv, utf8 and errors as their texts lay them).
-/
import Derived.Test.YtopbkdebihcmcaaGreatDoorDeskPiecesL2ZzX
import Derived.Test.YtopbkdebihcmcaaGreatDoorTie
import Derived.Test.YtopbkdebihcmcaaGreatDoorCards
set_option linter.unusedSimpArgs false
namespace Go.Proofs.YtopbkdebihcmcaaGreatDoor.deskPieces
open Go.ChangeShapes Go.WideShapes Go.ChangeAt Go.RowKit
open Go.ChangeMaps (open_string shut_string)
set_option linter.unusedVariables false
theorem zn4:Rows.deskPiecesRow.wfByText (OpenSpec.ofChange Rows.deskPiecesSpec)=true:=by kernel_rfl
theorem zn3:Tryz.pinned.checked.prog.mainIs=some (((true, "9f1ccec675330190463fdd386981e45764bca3ddc931e60d2e9a275f5a0a607e"):Bool×String).1,((true, "9f1ccec675330190463fdd386981e45764bca3ddc931e60d2e9a275f5a0a607e"):Bool×String).2.toList):=by kernel_rfl
theorem zn2:true=Tryz.pinned.checked.prog.looks []:=by kernel_rfl
theorem zn1:false=Rows.deskPiecesRow.goesBy Tryz.pinned.checked.prog:=by kernel_rfl
theorem proved:Rows.DeskPiecesCardSaid:=
 Claim7.holds_tied_plain_at .later [] [.data,.data,.data,.data,.data,.handle,.sentinel,.sentinel,.pinned] true (true, "9f1ccec675330190463fdd386981e45764bca3ddc931e60d2e9a275f5a0a607e") true
  over (λ_ h=>by cases h) zn4 (λ_ h=>by cases h) deskPieces_row_tie rfl ⟨rfl,rfl⟩ zn3 rfl
  (λf fn hf hfn=>by
   obtain rfl:f=3:=aH ((show Tryz.prog.funcNamed "coffer/cofferkeep.DeskPieces" =some 3 by kernel_rfl).symm.trans hf)|>.symm;obtain rfl:fn=Tryz.f3:=(aH (Tryz.func3.symm.trans hfn)).symm;exact⟨zn2,λj t ht=>by
    rw[Tryz.params3]at ht;have hall:∀t∈ [9,9],Tryz.prog.wantsStandIn t=false:=by intro t ht;simp only[bK,iJ,jY]at ht;rcases ht with rfl|rfl<;>kernel_rfl
    exact hall t (bg (by simpa using ht))⟩)
  zn1
end Go.Proofs.YtopbkdebihcmcaaGreatDoor.deskPieces
