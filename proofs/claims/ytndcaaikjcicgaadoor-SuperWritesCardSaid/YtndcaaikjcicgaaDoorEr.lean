/-
  DERIVED. A region that draws its order: what may be taken ahead of all is; the others come up in one order only.
-/
import Derived.Test.YtndcaaikjcicgaaDoorQt
set_option linter.unusedVariables false
set_option linter.unusedSimpArgs false
namespace Go.Cof
section
variable {P : Program} {md : Region.Mode} {ops : Array Oper}
/-- These numbers come up one behind the other, each alone; then none is left. -/
def rowB (md : Region.Mode) (ops : Array Oper) : List Nat → Array Bool → Bool
  | [], done => (Region.ready md ops done).isEmpty
  | i :: r, done => decide (Region.ready md ops done = [i]) && rowB md ops r (done.setIfInBounds i true)
theorem wpAny_of_row {Q : Exit → Act → World → Prop} : ∀ (R : List Nat) (done : Array Bool) (a : Act) (w : World), rowB md ops R done = true → wpList P ops Q (pickL ops R) a w → wpAny P md ops Q R.length done a w
  | [], _, _, _, hB, h => ⟨by simpa [rowB] using hB, h⟩
  | i :: R, done, a, w, hB, h => by
    simp only [rowB, Bool.and_eq_true, decide_eq_true_eq] at hB
    have hi : i ∈ Region.ready md ops done := by rw [hB.1]; simp
    obtain ⟨_, o, h0, _⟩ := mem_ready.1 hi
    simp only [pickL, h0] at h
    refine ⟨fun h1 => (by rw [hB.1] at h1; cases h1), fun j hj => ?_⟩
    rw [hB.1] at hj
    have hji : j = i := by simpa using hj
    subst hji
    have hw : wpOp P ops Q j (wpList P ops Q (pickL ops R)) a w := by unfold wpOp; simp only [h0]; exact h
    exact wpOp_mono (fun a' w' h' => wpAny_of_row R _ a' w' hB.2 h') hw
def erB (md : Region.Mode) (ops : Array Oper) (S R : List Nat) : Bool :=
  Region.noSelect ops && earlyOk md ops S (Array.replicate ops.size false) && rowB md ops R (marked S (Array.replicate ops.size false)) && decide (S.length + R.length = ops.size)
/-- What may be taken ahead of all is taken first; then a row. -/
theorem wp_region_er {id : Nat} {Q : Exit → Act → World → Prop} {a : Act} {w : World} {l : List Oper} (S R : List Nat) (hm : P.follows .mixedOrders = true) (hB : erB .any l.toArray S R = true)
    (hQ : ∀ c (a : Act) d v w, Q (.panic c) (a.put d v) w → Q (.panic c) a w)
    (h : wpEarly P l.toArray (fun a' => wpList P l.toArray Q (pickL l.toArray R) a' w.drew) (pickL l.toArray S) a) : (Code.region id l.toArray true).wp P Q a w := by
  simp only [erB, Bool.and_eq_true, decide_eq_true_eq] at hB
  obtain ⟨⟨⟨hns, he⟩, hr⟩, hl⟩ := hB
  refine wp_region_any hm ?_
  have mono : ∀ (L : List Oper) (Z Z' : Act → Prop) (a : Act), (∀ a, Z a → Z' a) → wpEarly P l.toArray Z L a → wpEarly P l.toArray Z' L a := by
    intro L
    induction L with
    | nil => intro Z Z' a hz h; exact hz a h
    | cons o L ih =>
      intro Z Z' a hz h
      unfold wpEarly at h ⊢
      split at h
      · rename_i hw
        rw [if_pos hw]
        obtain ⟨v, hv, hk⟩ := h
        exact ⟨v, hv, ih Z Z' _ hz hk⟩
      · rename_i hw
        rw [if_neg hw]
        exact ih Z Z' _ hz h
  have H := wpAny_early (md := .any) (P := P) (ops := l.toArray) (Q := Q) (w := w.drew) hns hQ (g := R.length) S (Array.replicate l.toArray.size false) a he (mono _ _ _ a (fun a' h' => wpAny_of_row R _ a' _ hr h') h)
  rw [hl] at H
  exact H
end
end Go.Cof
