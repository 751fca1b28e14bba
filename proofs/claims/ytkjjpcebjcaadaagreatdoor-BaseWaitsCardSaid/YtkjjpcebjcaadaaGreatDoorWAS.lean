import Derived.Test.YtkjjpcebjcaadaaGreatDoorWAK
import Derived.Test.YtkjjpcebjcaadaaGreatDoorWAQ
import Derived.Lib.LaidTab
import Derived.Stop.LaidErr
import Derived.Lay
import Derived.LaidMore
import Derived.MakeChecks
set_option linter.unusedSimpArgs false
set_option linter.unusedVariables false
namespace Go.Proofs.YtkjjpcebjcaadaaGreatDoor
open Go.ChangeShapes Go.WideShapes Go.RowKit Go.Cof
theorem rounds_laidT : Rows.laid_coffer_sum_rounds (H := Unit) = Lib.tabData .u32 (roundsK.map fun (n : Nat) => (n : Int)) := rfl
theorem rounds_of_laid {W : World} {r : List (String × DataW Unit)} (h : laidMet Tryz.prog (("coffer/sum.rounds", Rows.laid_coffer_sum_rounds) :: r) W) : RoundsVar W := by
 have t : Lib.TabIs Tryz.prog W "coffer/sum.rounds" .u32 (roundsK.map fun (n : Nat) => (n : Int)) :=
  Lib.tabIs_of_head (g := 1) (t := 145) (e := 143) (n := 64) (by kernel_rfl) (by kernel_rfl) Tryz.underlying145 Tryz.underlying143 (by kernel_rfl) (by kernel_rfl) (by rw [rounds_laidT] at h; exact h)
 intro i hi
 have hl : roundsK.length = 64 := rfl
 have c := t.cell (g := 1) (by kernel_rfl) i (by rw [List.length_map, hl]; exact hi)
 rw [c, List.getD_eq_getElem?_getD, List.getElem?_map, List.getD_eq_getElem?_getD, List.getElem?_eq_getElem (by rw [hl]; exact hi)]
 rfl
end Go.Proofs.YtkjjpcebjcaadaaGreatDoor
