/-
  DERIVED. Joined texts: LaidZ.
-/
import Derived.Test.YtncdopmjnficmaaGreatDoorVKAH
import Derived.Test.YtncdopmjnficmaaGreatDoorVKAQ
import Derived.Lib.LaidTab
import Derived.Stop.LaidErr
import Derived.Lay
import Derived.LaidMore
import Derived.MakeChecks
/-! LaidZ -/
set_option linter.unusedVariables false
set_option linter.unusedSimpArgs false
namespace Go.Proofs.YtncdopmjnficmaaGreatDoor
open Go.ChangeShapes Go.WideShapes Go.RowKit Go.Cof
def laidT : List (String × DataW Unit) := [("coffer/sum.rounds", Rows.laid_coffer_sum_rounds), ("unicode/utf8.acceptRanges", Rows.laid_unicode_utf8_acceptRanges), ("unicode/utf8.first", Rows.laid_unicode_utf8_first)]
def laidZ : List (String × DataW Unit) := [("coffer/sum.rounds", Rows.laid_coffer_sum_rounds), ("unicode/utf8.acceptRanges", Rows.laid_unicode_utf8_acceptRanges), ("errors.errorType", Rows.laid_errors_errorType), ("unicode/utf8.first", Rows.laid_unicode_utf8_first)]
theorem rounds_laidT : Rows.laid_coffer_sum_rounds (H := Unit) = Lib.tabData .u32 (roundsK.map fun (n : Nat) => (n : Int)) := rfl
theorem rounds_of_laid {W : World} {r : List (String × DataW Unit)} (h : laidMet Tryz.prog (("coffer/sum.rounds", Rows.laid_coffer_sum_rounds) :: r) W) : RoundsVar W := by
  have t : Lib.TabIs Tryz.prog W "coffer/sum.rounds" .u32 (roundsK.map fun (n : Nat) => (n : Int)) :=
    Lib.tabIs_of_head (g := 1) (t := 182) (e := 135) (n := 64) (by kernel_rfl) (by kernel_rfl) Tryz.underlying182 Tryz.underlying135 (by kernel_rfl) (by kernel_rfl) (by rw [rounds_laidT] at h; exact h)
  intro i hi
  have hl : roundsK.length = 64 := rfl
  have c := t.cell (g := 1) (by kernel_rfl) i (by rw [List.length_map, hl]; exact hi)
  rw [c, List.getD_eq_getElem?_getD, List.getElem?_map, List.getD_eq_getElem?_getD, List.getElem?_eq_getElem (by rw [hl]; exact hi)]
  rfl
theorem vars_of_laidT {W : World} (h : laidMetH Tryz.prog laidT W) : RoundsVar W := by
  have h' : laidMet Tryz.prog laidT W := h
  exact rounds_of_laid h'
theorem vars_of_laidZ {W : World} (h : laidMetH Tryz.prog laidZ W) : RoundsVar W ∧ ErrVar W := by
  have h' : laidMet Tryz.prog laidT W ∧ handlesMet Tryz.prog [("errors.errorType", Rows.laid_errors_errorType)] W := h
  exact ⟨rounds_of_laid h'.1, errVar_of_handle h'.2 (List.mem_singleton.2 rfl)⟩
/-- Worlds that meet the conditions. -/
noncomputable def laidWorldT (os : Os) : World := World.laidAll Tryz.prog os laidT
theorem laidWorldT_met (os : Os) (args : Array Value) : laidMetH Tryz.prog laidT ((laidWorldT os).forCall (fun _ _ => 0) ⟨#[], args, []⟩).memory :=
  laidMetH_of_parts (laidMet_of_run' 8 (by kernel_rfl) (by kernel_rfl)) (by kernel_rfl)
noncomputable def laidWorldZ (os : Os) : World :=
  let w0 := World.laidAll Tryz.prog os laidT
  { w0 with heap := w0.heap.modify 0 fun
      | .cells _ t frozen => .cells #[.iface 150 (.agg #[.pointer (some ⟨5, 36, none⟩)])] t frozen
      | o => o }
theorem laidWorldZ_met (os : Os) (args : Array Value) : laidMetH Tryz.prog laidZ ((laidWorldZ os).forCall (fun _ _ => 0) ⟨#[], args, []⟩).memory :=
  laidMetH_of_parts (laidMet_of_run' 8 (by kernel_rfl) (by kernel_rfl)) (by kernel_rfl)
end Go.Proofs.YtncdopmjnficmaaGreatDoor
