/-
  DERIVED. What a row that lists sum.rounds, utf8's tables and errors.errorType gives a walk; a world that meets it.
-/
import Derived.Test.YtndcaaikjcicgaaDoorLaid
import Derived.Test.YtndcaaikjcicgaaDoorSumBlock
import Derived.Lib.LaidTab
import Derived.Stop.LaidErr
import Derived.Lay
import Derived.LaidMore
import Derived.MakeChecks
set_option linter.unusedVariables false
set_option linter.unusedSimpArgs false
namespace Go.Proofs.YtndcaaikjcicgaaDoor
open Go.ChangeShapes Go.WideShapes Go.RowKit Go.Cof
def laidS : List (String × DataW Unit) := [("coffer/sum.rounds", Rows.laid_coffer_sum_rounds), ("unicode/utf8.acceptRanges", Rows.laid_unicode_utf8_acceptRanges), ("errors.errorType", Rows.laid_errors_errorType), ("unicode/utf8.first", Rows.laid_unicode_utf8_first)]
theorem rounds_laidS : Rows.laid_coffer_sum_rounds (H := Unit) = Lib.tabData .u32 (roundsK.map fun (n : Nat) => (n : Int)) := rfl
theorem vars_of_laidS {W : World} (h : laidMetH Tryd.prog laidS W) : RoundsVar W ∧ ErrVar W := by
  have h' : laidMet Tryd.prog [("coffer/sum.rounds", Rows.laid_coffer_sum_rounds), ("unicode/utf8.acceptRanges", Rows.laid_unicode_utf8_acceptRanges), ("unicode/utf8.first", Rows.laid_unicode_utf8_first)] W ∧ handlesMet Tryd.prog [("errors.errorType", Rows.laid_errors_errorType)] W := h
  refine ⟨?_, errVar_of_handle h'.2 (List.mem_singleton.2 rfl)⟩
  have t : Lib.TabIs Tryd.prog W "coffer/sum.rounds" .u32 (roundsK.map fun (n : Nat) => (n : Int)) :=
    Lib.tabIs_of_head (g := 0) (t := 98) (e := 96) (n := 64) (by kernel_rfl) (by kernel_rfl) Tryd.underlying98 Tryd.underlying96 (by kernel_rfl) (by kernel_rfl) (by have h3 := h'.1; rw [rounds_laidS] at h3; exact h3)
  intro i hi
  have hl : roundsK.length = 64 := rfl
  have c := t.cell (g := 0) (by kernel_rfl) i (by rw [List.length_map, hl]; exact hi)
  rw [c, List.getD_eq_getElem?_getD, List.getElem?_map, List.getD_eq_getElem?_getD, List.getElem?_eq_getElem (by rw [hl]; exact hi)]
  rfl
/-- A world that meets the condition. -/
noncomputable def laidWorldS (os : Os) : World :=
  let w0 := World.laidAll Tryd.prog os [("coffer/sum.rounds", Rows.laid_coffer_sum_rounds), ("unicode/utf8.acceptRanges", Rows.laid_unicode_utf8_acceptRanges), ("unicode/utf8.first", Rows.laid_unicode_utf8_first)]
  { w0 with heap := w0.heap.modify 1 fun
      | .cells _ t frozen => .cells #[.iface 196 (.agg #[.pointer (some ⟨8, 35, none⟩)])] t frozen
      | o => o }
theorem laidWorldS_met (os : Os) (args : Array Value) : laidMetH Tryd.prog laidS ((laidWorldS os).forCall (fun _ _ => 0) ⟨#[], args, []⟩).memory :=
  laidMetH_of_parts (laidMet_of_run' 8 (by kernel_rfl) (by kernel_rfl)) (by kernel_rfl)
end Go.Proofs.YtndcaaikjcicgaaDoor
