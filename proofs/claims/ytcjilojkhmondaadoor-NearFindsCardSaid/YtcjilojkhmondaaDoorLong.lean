/-
  DERIVED. cofferlaw.long.
-/
import Derived.Test.YtcjilojkhmondaaDoorProg
import Derived.Test.YtcjilojkhmondaaDoorBase
set_option linter.unusedVariables false
set_option linter.unusedSimpArgs false
namespace Go.Proofs.YtcjilojkhmondaaDoor
open Go.RowKit Go.Cof
theorem long_any (s : ByteArray) (b : Bool) (hb : b = decide (60 < s.size)) (w : World) : Calls Tryd.prog 27 #[.string s] w fun e w' => e = .returned (.bool b) ∧ w' = w := by
  subst hb
  go_enter Tryd.func27, Tryd.ntmps27
  go_wp2
  go_ret
  exact ⟨congrArg (fun b => Ending.returned (.bool b)) (by simp only [decide_eq_decide]; omega), rfl⟩
end Go.Proofs.YtcjilojkhmondaaDoor
