/-
  DERIVED. A slice that reads as numbers.
-/
import Derived.Test.YtcjilojkhmondaaDoorBase
set_option linter.unusedVariables false
set_option linter.unusedSimpArgs false
namespace Go.Cof
open Go.RowKit
/-- A slice that reads as numbers. -/
def Nums (w : World) (v : Value) (l : List Int) : Prop :=
  (l = [] ∧ ∃ p c, v = .slice p 0 c) ∨ ∃ B off c, v = .slice (some ⟨B, off, none⟩) l.length c ∧ B < w.heap.size ∧ ∀ i, i < l.length → w.cell? ⟨B, off + i, none⟩ = some (.int .i64 (l.getD i 0))
theorem Nums.len {w : World} {v : Value} {l : List Int} (h : Nums w v l) : ∃ p c, v = .slice p l.length c := by
  rcases h with ⟨rfl, p, c, hv⟩ | ⟨B, off, c, hv, _⟩
  · exact ⟨p, c, hv⟩
  · exact ⟨_, c, hv⟩
theorem Nums.at {w : World} {p : Option Addr} {n c : Nat} {l : List Int} (h : Nums w (.slice p n c) l) (hl : 0 < l.length) : ∃ B off, p = some ⟨B, off, none⟩ ∧ n = l.length ∧ B < w.heap.size ∧ ∀ i, i < l.length → w.cell? ⟨B, off + i, none⟩ = some (.int .i64 (l.getD i 0)) := by
  rcases h with ⟨rfl, _⟩ | ⟨B, off, c, hv, hB, hc⟩
  · simp at hl
  · cases hv
    exact ⟨B, off, rfl, rfl, hB, hc⟩
theorem Nums.keep {w w' : World} {v : Value} {l : List Int} (h : Nums w v l) {S : Nat → Prop} (hk : Keep S w w') (hn : ∀ b, v.ownBlock = some b → ¬ S b) : Nums w' v l := by
  rcases h with h | ⟨B, off, c, hv, hB, hc⟩
  · exact .inl h
  · refine .inr ⟨B, off, c, hv, Nat.lt_of_lt_of_le hB hk.size, fun i hi => ?_⟩
    rw [hk.cell (p := ⟨B, off + i, none⟩) hB (hn B (by rw [hv]; rfl))]
    exact hc i hi
theorem Nums.lit {w : World} {E : TypeId} (l : List Int) : Nums (w.alloc (.cells (l.map (Value.int .i64)).toArray E)) (.slice (some ⟨w.heap.size, 0, none⟩) l.length l.length) l := by
  refine .inr ⟨w.heap.size, 0, l.length, rfl, by simp, fun i hi => ?_⟩
  rw [Nat.zero_add, cell_of_row _ _ i _ E (0, 0) (heap_alloc_new w _)]
  simp [hi]
end Go.Cof
