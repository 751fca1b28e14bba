/-
  DERIVED. (The row itself; its closed facts one by one.) DeskOld: a desk that is taken back notices: a session that goes back to an image behind which anything was told is told so. For every input; no condition but the row's own (the tables and errors of sum, strconv, utf8 and errors as their texts lay them).
-/
import Derived.Test.YtnmhgehpddipdaaGreatDoorDeskOldL1ZzX
set_option linter.unusedSimpArgs false
namespace Go.Proofs.YtnmhgehpddipdaaGreatDoor.deskOld
open Go.ChangeShapes Go.WideShapes Go.ChangeAt Go.RowKit Go.Cof
open Go.ChangeMaps (open_string shut_string)
set_option linter.unusedVariables false
theorem reach1:(Rows.deskOldRow.inPlace==Tryz.pinned.checked.prog.inPlace 3)=true:=by kernel_rfl
theorem reach2:(Rows.deskOldRow.unfollowed==Tryz.pinned.checked.prog.unfollowed 3)=true:=by kernel_rfl
theorem reach3:(Rows.deskOldRow.recurses==Tryz.pinned.checked.prog.recurses 3)=true:=by kernel_rfl
theorem reach4:(Rows.deskOldRow.named==Tryz.pinned.checked.prog.varsNamed 3)=true:=by kernel_rfl
theorem closed:joinedFacts Tryz.pinned.checked.prog 3 Tryz.f3 Rows.deskOldSpec Rows.deskOldRow=true:=by
 unfold joinedFacts
 rw[reach1,reach2,reach3,reach4]
 kernel_rfl
theorem over:Rows.DeskOldSaid:=
 OpenClaim.holds_of_wide 3 Tryz.f3 rfl rfl rfl rfl rfl rfl rfl ⟨rfl,rfl,rfl,rfl,rfl⟩ rfl rfl rfl rfl rfl (by kernel_rfl) Tryz.func3 closed
  (of_decide_eq_true (by kernel_rfl)) (by unfold Func.isWrapper;first|(rw[if_pos (by decide+kernel)];kernel_rfl)|(rw[if_neg (by decide+kernel)];exact⟨rfl,rfl⟩))
  (λos started H enc _=>lifted os started H enc)
end Go.Proofs.YtnmhgehpddipdaaGreatDoor.deskOld
