/-
  DERIVED. Picking the least, one by one, in plain Lean: it is the first of those that are sorted.
-/
import Derived.Test.YtcjilojkhmondaaDoorRefNear
import Derived.Test.YtcjilojkhmondaaDoorOwnRow
set_option linter.unusedVariables false
set_option linter.unusedSimpArgs false
namespace Go.Cof
open Go.RowKit Go.Sort Go.Shelf Go.Proofs.YtcjilojkhmondaaDoor
open Go.Proofs (ltOf)
/-- Where the least of the first i stands (the first such). -/
def bestK (l : List FoundV) : Nat → Nat
  | 0 => 0
  | i + 1 => if aheadB (l.getD i (⟨#[]⟩, 0)) (l.getD (bestK l i) (⟨#[]⟩, 0)) then i else bestK l i
theorem bestK_lt (l : List FoundV) : ∀ i, 0 < i → i ≤ l.length → bestK l i < i
  | 0, h, _ => by omega
  | i + 1, _, h => by
    rw [bestK]
    split
    · omega
    · rcases Nat.eq_zero_or_pos i with rfl | hi
      · show 0 < 1; omega
      · have := bestK_lt l i hi (by omega); omega
theorem not_ltF_trans {a b c : FoundV} (h1 : ¬ ltF b a) (h2 : ¬ ltF c b) : ¬ ltF c a := by
  have e1 : (!(ltOf cmpF) b a) = true := by rw [Bool.not_eq_true', ltOf_cmpF_false]; exact h1
  have e2 : (!(ltOf cmpF) c b) = true := by rw [Bool.not_eq_true', ltOf_cmpF_false]; exact h2
  have := leF_trans a b c e1 e2
  rwa [Bool.not_eq_true', ltOf_cmpF_false] at this
theorem not_ltF_asymm {a b : FoundV} (h : ltF a b) : ¬ ltF b a := by
  intro h2
  have e := leF_total a b
  rw [Bool.or_eq_true, Bool.not_eq_true', Bool.not_eq_true', ltOf_cmpF_false, ltOf_cmpF_false] at e
  rcases e with e | e
  · exact e h2
  · exact e h
theorem bestK_min (l : List FoundV) : ∀ i, i ≤ l.length → ∀ j, j < i → ¬ ltF (l.getD j (⟨#[]⟩, 0)) (l.getD (bestK l i) (⟨#[]⟩, 0))
  | 0, _, j, h => by omega
  | i + 1, hi, j, hj => by
    rw [bestK]
    by_cases hb : aheadB (l.getD i (⟨#[]⟩, 0)) (l.getD (bestK l i) (⟨#[]⟩, 0)) = true
    · rw [if_pos hb]
      have hlt := (aheadB_iff _ _).1 hb
      by_cases e : j = i
      · subst e; exact fun h => not_ltF_asymm h h
      · exact not_ltF_trans (not_ltF_asymm hlt) (bestK_min l i (by omega) j (by omega))
    · rw [if_neg hb]
      by_cases e : j = i
      · subst e; exact fun h => hb ((aheadB_iff _ _).2 h)
      · exact bestK_min l i (by omega) j (by omega)
def selNext (l : List FoundV) : FoundV := l.getD (bestK l l.length) (⟨#[]⟩, 0)
def selRest (l : List FoundV) : List FoundV := l.take (bestK l l.length) ++ l.drop (bestK l l.length + 1)
theorem sel_perm (l : List FoundV) (h : l ≠ []) : (selNext l :: selRest l).Perm l := by
  have hl : 0 < l.length := List.length_pos_iff.2 h
  have hb := bestK_lt l l.length hl (Nat.le_refl _)
  have e : l = l.take (bestK l l.length) ++ selNext l :: l.drop (bestK l l.length + 1) := by
    have := (List.take_append_drop (bestK l l.length) l).symm
    rw [List.drop_eq_getElem_cons hb] at this
    rw [selNext, List.getD_eq_getElem?_getD, List.getElem?_eq_getElem hb]
    exact this
  have e2 : (selNext l :: selRest l).Perm (l.take (bestK l l.length) ++ selNext l :: l.drop (bestK l l.length + 1)) := by
    rw [selRest]
    exact List.perm_middle.symm
  rw [← e] at e2
  exact e2
theorem sel_sort (l : List FoundV) (h : l ≠ []) : sortF l = selNext l :: sortF (selRest l) := by
  rw [sortF_perm (sel_perm l h).symm]
  have hp : List.Pairwise (fun a b => (!(ltOf cmpF) b a) = true) (selNext l :: sortF (selRest l)) := by
    refine List.pairwise_cons.2 ⟨fun b hb => ?_, sortF_pair _⟩
    rw [mem_sortF] at hb
    have hbl : b ∈ l := (sel_perm l h).mem_iff.1 (List.mem_cons_of_mem _ hb)
    obtain ⟨j, hj, rfl⟩ := List.getElem_of_mem hbl
    have := bestK_min l l.length (Nat.le_refl _) j hj
    rw [List.getD_eq_getElem?_getD, List.getElem?_eq_getElem hj] at this
    rw [Bool.not_eq_true', ltOf_cmpF_false]
    exact this
  have e : sortF (selNext l :: selRest l) = sortF (selNext l :: sortF (selRest l)) := sortF_perm ((sortF_perm_self _).symm.cons _)
  rw [e]
  exact sortF_of_pair hp
/-- What is picked, and what is left, of so many. -/
def selK (l : List FoundV) : Nat → List FoundV × List FoundV
  | 0 => ([], l)
  | i + 1 => if (selK l i).2 = [] then selK l i else ((selK l i).1 ++ [selNext (selK l i).2], selRest (selK l i).2)
theorem selK_inv (l : List FoundV) : ∀ i, sortF l = (selK l i).1 ++ sortF (selK l i).2
  | 0 => by rw [selK]; rfl
  | i + 1 => by
    have ih := selK_inv l i
    rw [selK]
    split
    · exact ih
    · rename_i h
      rw [ih, sel_sort _ h]
      simp
theorem selRest_len (l : List FoundV) (h : l ≠ []) : (selRest l).length + 1 = l.length := by
  have := (sel_perm l h).length_eq
  simpa using this
end Go.Cof
