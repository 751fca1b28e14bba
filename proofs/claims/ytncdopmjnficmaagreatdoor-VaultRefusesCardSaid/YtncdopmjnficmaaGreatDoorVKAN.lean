/-
  DERIVED. Joined texts: SupR.
-/
import Derived.Test.YtncdopmjnficmaaGreatDoorVKAD
import Derived.Test.YtncdopmjnficmaaGreatDoorVKAM
/-! SupR -/
set_option linter.unusedVariables false
set_option linter.unusedSimpArgs false
namespace Go.Proofs.YtncdopmjnficmaaGreatDoor
open Go.RowKit Go.Cof
end Go.Proofs.YtncdopmjnficmaaGreatDoor
