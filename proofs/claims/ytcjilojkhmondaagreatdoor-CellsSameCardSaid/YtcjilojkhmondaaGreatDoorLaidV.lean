/-
  DERIVED. What a row that lists utf8's tables and errors.errorType gives a walk; a world that meets it.
-/
import Derived.Test.YtcjilojkhmondaaGreatDoorLaid
import Derived.Lib.LaidTab
import Derived.Stop.LaidErr
import Derived.Lay
import Derived.LaidMore
import Derived.MakeChecks
set_option linter.unusedVariables false
set_option linter.unusedSimpArgs false
namespace Go.Proofs.YtcjilojkhmondaaGreatDoor
open Go.ChangeShapes Go.WideShapes Go.RowKit Go.Cof
def laidV : List (String × DataW Unit) := [("unicode/utf8.acceptRanges", Rows.laid_unicode_utf8_acceptRanges), ("errors.errorType", Rows.laid_errors_errorType), ("unicode/utf8.first", Rows.laid_unicode_utf8_first)]
theorem errVar_of_laidV {W : World} (h : laidMetH Tryz.prog laidV W) : ErrVar W := by
  have h' : laidMet Tryz.prog [("unicode/utf8.acceptRanges", Rows.laid_unicode_utf8_acceptRanges), ("unicode/utf8.first", Rows.laid_unicode_utf8_first)] W ∧ handlesMet Tryz.prog [("errors.errorType", Rows.laid_errors_errorType)] W := h
  exact errVar_of_handle h'.2 (List.mem_singleton.2 rfl)
/-- A world that meets the condition. -/
noncomputable def laidWorldV (os : Os) : World :=
  let w0 := World.laidAll Tryz.prog os [("unicode/utf8.acceptRanges", Rows.laid_unicode_utf8_acceptRanges), ("unicode/utf8.first", Rows.laid_unicode_utf8_first)]
  { w0 with heap := w0.heap.modify 0 fun
      | .cells _ t frozen => .cells #[.iface 111 (.agg #[.pointer (some ⟨4, 29, none⟩)])] t frozen
      | o => o }
theorem laidWorldV_met (os : Os) (args : Array Value) : laidMetH Tryz.prog laidV ((laidWorldV os).forCall (fun _ _ => 0) ⟨#[], args, []⟩).memory :=
  laidMetH_of_parts (laidMet_of_run' 8 (by kernel_rfl) (by kernel_rfl)) (by kernel_rfl)
end Go.Proofs.YtcjilojkhmondaaGreatDoor
