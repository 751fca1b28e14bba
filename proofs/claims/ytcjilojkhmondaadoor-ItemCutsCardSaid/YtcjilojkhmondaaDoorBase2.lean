/-
  DERIVED. More of rows.
-/
import Derived.Test.YtcjilojkhmondaaDoorBase
set_option linter.unusedVariables false
set_option linter.unusedSimpArgs false
namespace Go.Cof
open Go.RowKit
theorem cellsOf_one (k : IntKind) (l : List Nat) : ∀ u ∈ cellsOf k l, u.oneCell' = true := by
  intro u hu
  simp only [cellsOf, List.mem_map] at hu
  obtain ⟨n, _, rfl⟩ := hu
  rfl
theorem PRow.cells {w : World} {B : Nat} {E : TypeId} {k : IntKind} {l : List Nat} (h : PRow w B E k l) (j : Nat) (u : Value) (hj : (cellsOf k l)[j]? = some u) : w.cell? ((⟨B, 0, none⟩ : Addr).add j) = some u := by
  have hlt : j < l.length := by
    have := (List.getElem?_eq_some_iff.mp hj).1
    rwa [cellsOf_len] at this
  rw [cellsOf_get k l j hlt] at hj
  have hadd : (⟨B, 0, none⟩ : Addr).add j = ⟨B, j, none⟩ := by unfold Addr.add; split <;> simp_all
  rw [hadd, h.cell j hlt, hj]
end Go.Cof
