/-
  DERIVED. A number out of so many.
-/
import Derived.Test.YtcjilojkhmondaaGreatDoorBase
import Derived.Test.YtcjilojkhmondaaGreatDoorProg
import Derived.Lib.Hide
set_option linter.unusedVariables false
set_option linter.unusedSimpArgs false
namespace Go.Proofs.YtcjilojkhmondaaGreatDoor
open Go.RowKit Go.Cof
/-- A number below n, out of any. -/
def pickN (a : Int) (n : Nat) : Nat := (a % 18446744073709551616 % (n : Int)).toNat
theorem pickN_lt (a : Int) (n : Nat) (hn : 0 < n) : pickN a n < n := by
  have h1 := Int.emod_lt_of_pos (a % 18446744073709551616) (show (0 : Int) < n by omega)
  have h2 := Int.emod_nonneg (a % 18446744073709551616) (show (n : Int) ≠ 0 by omega)
  rw [pickN]; omega
end Go.Proofs.YtcjilojkhmondaaGreatDoor
