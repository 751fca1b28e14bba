import Derived.Test.YtkjjpcebjcaadaaGreatDoorBaseWaitsL1VX
set_option linter.unusedSimpArgs false
namespace Go.Proofs.YtkjjpcebjcaadaaGreatDoor.baseWaits
open Go.ChangeShapes Go.WideShapes Go.ChangeAt Go.RowKit Go.Cof
open Go.ChangeMaps (open_string shut_string)
set_option linter.unusedVariables false
theorem reach1 : (Rows.baseWaitsRow.inPlace == Tryz.pinned.checked.prog.inPlace 4) = true := by kernel_rfl
theorem reach2 : (Rows.baseWaitsRow.unfollowed == Tryz.pinned.checked.prog.unfollowed 4) = true := by kernel_rfl
theorem reach3 : (Rows.baseWaitsRow.recurses == Tryz.pinned.checked.prog.recurses 4) = true := by kernel_rfl
theorem reach4 : (Rows.baseWaitsRow.named == Tryz.pinned.checked.prog.varsNamed 4) = true := by kernel_rfl
theorem closed : joinedFacts Tryz.pinned.checked.prog 4 Tryz.f4 Rows.baseWaitsSpec Rows.baseWaitsRow = true := by
 unfold joinedFacts
 rw [reach1, reach2, reach3, reach4]
 kernel_rfl
theorem over : Rows.BaseWaitsSaid :=
 OpenClaim.holds_of_wide 4 Tryz.f4 rfl rfl rfl rfl rfl rfl rfl ⟨rfl, rfl, rfl, rfl, rfl⟩ rfl rfl rfl rfl rfl (by kernel_rfl) Tryz.func4 closed
  (of_decide_eq_true (by kernel_rfl)) (by unfold Func.isWrapper; first | (rw [if_pos (by decide +kernel)]; kernel_rfl) | (rw [if_neg (by decide +kernel)]; exact ⟨rfl, rfl⟩))
  (fun os started H enc _ => lifted os started H enc)
end Go.Proofs.YtkjjpcebjcaadaaGreatDoor.baseWaits
