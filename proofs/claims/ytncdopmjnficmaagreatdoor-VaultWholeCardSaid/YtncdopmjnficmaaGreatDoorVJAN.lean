/-
  DERIVED. Joined texts: SupR.
-/
import Derived.Test.YtncdopmjnficmaaGreatDoorVJAD
import Derived.Test.YtncdopmjnficmaaGreatDoorVJAM
/-! SupR -/
set_option linter.unusedVariables false
set_option linter.unusedSimpArgs false
namespace Go.Proofs.YtncdopmjnficmaaGreatDoor
open Go.RowKit Go.Cof
end Go.Proofs.YtncdopmjnficmaaGreatDoor
