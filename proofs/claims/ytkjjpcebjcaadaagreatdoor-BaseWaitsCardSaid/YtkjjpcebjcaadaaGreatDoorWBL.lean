import Derived.Test.YtkjjpcebjcaadaaGreatDoorWBJ
import Derived.Lib.SlKept
set_option linter.unusedSimpArgs false
set_option linter.unusedVariables false
namespace Go.Cof
open Go.RowKit
section
variable {w : World} {base : Nat} {e : TypeId} {size : Nat} {v : Value} {n : Nat} {xs : List Value}
end
section
variable {α : Type} {enc : α → List Value}
end
end Go.Cof
namespace Go.Proofs.YtkjjpcebjcaadaaGreatDoor
open Go.RowKit Go.Cof Go.Sort Go.Shelf
end Go.Proofs.YtkjjpcebjcaadaaGreatDoor
