/-
  DERIVED. (The row itself; its closed facts one by one.) BaseKeeps: whatever is put, taken away, told, and opened again, what a base has, and finds, is what the reference has, and finds. For every input; no condition but the row's own (the tables and errors of sum, strconv, utf8 and errors as their texts lay them).
-/
import Derived.Test.YtbcmmbeadgiiiaaGreatDoorBaseKeepsL1ZzX
set_option linter.all false
namespace Go.Proofs.YtbcmmbeadgiiiaaGreatDoor.Ld
open Go.ChangeShapes Go.WideShapes Go.ChangeAt Go.RowKit
open Go.ChangeMaps (open_string shut_string)
set_option linter.unusedVariables false
theorem zuV:(Rows.baseKeepsRow.inPlace==Tryz.pinned.checked.prog.inPlace 3)=true:=by kernel_rfl
theorem zuU:(Rows.baseKeepsRow.unfollowed==Tryz.pinned.checked.prog.unfollowed 3)=true:=by kernel_rfl
theorem zuT:(Rows.baseKeepsRow.recurses==Tryz.pinned.checked.prog.recurses 3)=true:=by kernel_rfl
theorem zuS:(Rows.baseKeepsRow.named==Tryz.pinned.checked.prog.varsNamed 3)=true:=by kernel_rfl
theorem closed:joinedFacts Tryz.pinned.checked.prog 3 Tryz.f3 Rows.baseKeepsSpec Rows.baseKeepsRow=true:=by unfold joinedFacts;rw[zuV,zuU,zuT,zuS];kernel_rfl
theorem over:Rows.BaseKeepsSaid:=
 OpenClaim.holds_of_wide 3 Tryz.f3 rfl rfl rfl rfl rfl rfl rfl ⟨rfl,rfl,rfl,rfl,rfl⟩ rfl rfl rfl rfl rfl (by kernel_rfl) Tryz.func3 closed
  (fM (by kernel_rfl)) (by unfold Func.isWrapper;first|(rw[bu (by decide+kernel)];kernel_rfl)|(rw[aV (by decide+kernel)];exact⟨rfl,rfl⟩))
  (λos started H enc _=>lifted os started H enc)
