/-
  DERIVED. Joined texts: TreeR.
-/
import Derived.Test.YtncdopmjnficmaaGreatDoorVKAH
import Derived.Test.YtncdopmjnficmaaGreatDoorVKAI
import Derived.IntWalk
import Derived.Deep.CutBlock
import Derived.Deep.DeepCutAuto
import Derived.Deep.RegionHeld3
/-! TreeR -/
set_option linter.unusedVariables false
set_option linter.unusedSimpArgs false
namespace Go.Proofs.YtncdopmjnficmaaGreatDoor
open Go.RowKit Go.Cof
theorem besideI (k : Nat) : (k % 2 = 1 ∧ beside k + 1 = k) ∨ (k % 2 = 0 ∧ beside k = k + 1) := by
  unfold beside
  split
  · left; omega
  · right; omega
theorem verB_no {root m : ByteArray} {k : Int} {path : List ByteArray} (h : ¬ (m.size = 16 ∧ (0 ≤ k ∧ k ≤ 31) ∧ rightB path 5 = true)) : verB root m k path = false := by
  rw [Bool.eq_false_iff]
  intro hv
  apply h
  simp only [verB, Bool.and_eq_true, decide_eq_true_eq] at hv
  exact ⟨hv.1.1.1, hv.1.1.2, hv.1.2⟩
theorem verB_yes {root m : ByteArray} {k : Int} {path : List ByteArray} (h1 : m.size = 16) (h2 : 0 ≤ k ∧ k ≤ 31) (h3 : rightB path 5 = true) : verB root m k path = decide (foldV path k.toNat m = root) := by
  simp [verB, h1, h2, h3]
end Go.Proofs.YtncdopmjnficmaaGreatDoor
