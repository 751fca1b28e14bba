import Derived.Test.YtkjjpcebjcaadaaGreatDoorWAD
import Derived.WideMake
import Derived.MapKept
set_option linter.unusedSimpArgs false
set_option linter.unusedVariables false
namespace Go.Cof
open Go.RowKit
section
variable {P : Program} {w : World}
end
end Go.Cof
