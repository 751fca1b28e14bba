/-
  DERIVED. (The row itself; its closed facts one by one.) DeskPieces: the answers to the first lines of a session are the beginning of the answers to all. For every input; no condition but the row's own (the tables and errors of sum, strconv, utf8 and errors as their texts lay them).
-/
import Derived.Test.YtopbkdebihcmcaaGreatDoorDeskPiecesL1ZzX
set_option linter.unusedSimpArgs false
namespace Go.Proofs.YtopbkdebihcmcaaGreatDoor.deskPieces
open Go.ChangeShapes Go.WideShapes Go.ChangeAt Go.RowKit
open Go.ChangeMaps (open_string shut_string)
set_option linter.unusedVariables false
theorem zlr:(Rows.deskPiecesRow.inPlace==Tryz.pinned.checked.prog.inPlace 3)=true:=by kernel_rfl
theorem zlq:(Rows.deskPiecesRow.unfollowed==Tryz.pinned.checked.prog.unfollowed 3)=true:=by kernel_rfl
theorem zlp:(Rows.deskPiecesRow.recurses==Tryz.pinned.checked.prog.recurses 3)=true:=by kernel_rfl
theorem zlo:(Rows.deskPiecesRow.named==Tryz.pinned.checked.prog.varsNamed 3)=true:=by kernel_rfl
theorem closed:joinedFacts Tryz.pinned.checked.prog 3 Tryz.f3 Rows.deskPiecesSpec Rows.deskPiecesRow=true:=by unfold joinedFacts;rw[zlr,zlq,zlp,zlo];kernel_rfl
theorem over:Rows.DeskPiecesSaid:=
 OpenClaim.holds_of_wide 3 Tryz.f3 rfl rfl rfl rfl rfl rfl rfl ⟨rfl,rfl,rfl,rfl,rfl⟩ rfl rfl rfl rfl rfl (by kernel_rfl) Tryz.func3 closed
  (gy (by kernel_rfl)) (by unfold Func.isWrapper;first|(rw[aP (by decide+kernel)];kernel_rfl)|(rw[aB (by decide+kernel)];exact⟨rfl,rfl⟩))
  (λos started H enc _=>lifted os started H enc)
end Go.Proofs.YtopbkdebihcmcaaGreatDoor.deskPieces
