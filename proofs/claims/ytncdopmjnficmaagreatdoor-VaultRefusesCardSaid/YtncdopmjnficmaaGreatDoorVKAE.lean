/-
  DERIVED. Joined texts: Pick.
-/
import Derived.Test.YtncdopmjnficmaaGreatDoorVKAC
import Derived.Test.YtncdopmjnficmaaGreatDoorProg
import Derived.Lib.Hide
/-! Pick -/
set_option linter.unusedVariables false
set_option linter.unusedSimpArgs false
namespace Go.Proofs.YtncdopmjnficmaaGreatDoor
open Go.RowKit Go.Cof
/-- A number below n, out of any. -/
def pickN (a : Int) (n : Nat) : Nat := (a % 18446744073709551616 % (n : Int)).toNat
theorem pickN_lt (a : Int) (n : Nat) (hn : 0 < n) : pickN a n < n := by
  have h1 := Int.emod_lt_of_pos (a % 18446744073709551616) (show (0 : Int) < n by omega)
  have h2 := Int.emod_nonneg (a % 18446744073709551616) (show (n : Int) ≠ 0 by omega)
  rw [pickN]; omega
theorem pick_any (a : Int) (i : Int) (n : Nat) (hi : i = n) (hn : 0 < n) (hn2 : n ≤ 1000000) (w : World) : Calls Tryz.prog 23 #[.int .i64 a, .int .i64 i] w fun e w' => e = .returned (.int .i64 (pickN a n)) ∧ w' = w := by
  subst hi
  have h2 := Int.emod_nonneg (a % 18446744073709551616) (show (n : Int) ≠ 0 by omega)
  have h1 := Int.emod_lt_of_pos (a % 18446744073709551616) (show (0 : Int) < n by omega)
  have hp : ((pickN a n : Nat) : Int) = a % 18446744073709551616 % (n : Int) := by rw [pickN]; omega
  rw [hp]
  have hn0 : (n : Int) ≠ 0 := by omega
  go_enter Tryz.func23, Tryz.ntmps23
  go_wp2_with fail
  go_ret
  refine ⟨congrArg (fun x => Ending.returned (.int .i64 x)) ?_, rfl⟩
  rw [IntKind.wrap_u64, Int.tmod_eq_emod_of_nonneg (Int.emod_nonneg _ (by decide))]
  unfold wrap64
  omega
end Go.Proofs.YtncdopmjnficmaaGreatDoor
