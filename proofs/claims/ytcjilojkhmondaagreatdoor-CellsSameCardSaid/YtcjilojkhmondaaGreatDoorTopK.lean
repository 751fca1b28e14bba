/-
  DERIVED. The first k of a sorted list, in plain Lean: what cannot be among them may be left out.
-/
import Derived.Sort.LotA
set_option linter.unusedVariables false
set_option linter.unusedSimpArgs false
namespace Go.Cof
section
variable {α : Type} {le : α → α → Bool}
/-- A total order. -/
structure Tot (le : α → α → Bool) : Prop where
  trans : ∀ a b c, le a b = true → le b c = true → le a c = true
  total : ∀ a b, (le a b || le b a) = true
  anti : ∀ a b, le a b = true → le b a = true → a = b
theorem Tot.refl (T : Tot le) (a : α) : le a a = true := by simpa using T.total a a
theorem Tot.sorted (T : Tot le) (l : List α) : List.Pairwise (fun a b => le a b = true) (l.mergeSort le) := List.pairwise_mergeSort T.trans T.total l
theorem Tot.uniq (T : Tot le) {l l' : List α} (h : l.Perm l') (h1 : List.Pairwise (fun a b => le a b = true) l) (h2 : List.Pairwise (fun a b => le a b = true) l') : l = l' :=
  List.Perm.eq_of_pairwise (fun a b _ _ => T.anti a b) h1 h2 h
theorem Tot.perm (T : Tot le) {l l' : List α} (h : l.Perm l') : l.mergeSort le = l'.mergeSort le :=
  T.uniq (((List.mergeSort_perm l le).trans h).trans (List.mergeSort_perm l' le).symm) (T.sorted l) (T.sorted l')
/-- What is not ahead of the k-th one. -/
theorem Tot.absorb (T : Tot le) (X R : List α) (k : Nat) (hk : k ≤ X.length) (h : ∀ x ∈ (X.mergeSort le).take k, ∀ r ∈ R, le x r = true) :
    ((X ++ R).mergeSort le).take k = (X.mergeSort le).take k := by
  obtain ⟨S, hS⟩ : ∃ S, S = X.mergeSort le := ⟨_, rfl⟩
  rw [← hS] at h ⊢
  have hsp : List.Pairwise (fun a b => le a b = true) S := by rw [hS]; exact T.sorted X
  have hpm : S.Perm X := by rw [hS]; exact List.mergeSort_perm X le
  have hlen : S.length = X.length := hpm.length_eq
  have e : (X ++ R).mergeSort le = S.take k ++ ((S.drop k ++ R).mergeSort le) := by
    refine T.uniq ?_ (T.sorted _) ?_
    · refine (List.mergeSort_perm _ le).trans ?_
      refine ((hpm.symm.append_right R).trans ?_)
      have h1 : S ++ R = S.take k ++ (S.drop k ++ R) := by rw [← List.append_assoc, List.take_append_drop]
      rw [h1]
      exact (List.mergeSort_perm _ le).symm.append_left _
    · rw [List.pairwise_append]
      refine ⟨hsp.sublist (List.take_sublist _ _), T.sorted _, fun a ha b hb => ?_⟩
      have hb2 := (List.mergeSort_perm (S.drop k ++ R) le).mem_iff.1 hb
      rcases List.mem_append.1 hb2 with hb2 | hb2
      · have h2 := hsp
        rw [← List.take_append_drop k S, List.pairwise_append] at h2
        exact h2.2.2 a ha b hb2
      · exact h a ha b hb2
  rw [e, List.take_append_of_le_length (by rw [List.length_take]; omega), List.take_take, Nat.min_self]
theorem Tot.count (T : Tot le) (l : List α) (r : α) (k : Nat) (hs : List.Pairwise (fun a b => le a b = true) l) (hc : k ≤ l.countP (fun x => le x r)) : ∀ x ∈ l.take k, le x r = true := by
  induction l generalizing k with
  | nil => intro x hx; simp at hx
  | cons y l ih =>
    intro x hx
    cases k with
    | zero => simp at hx
    | succ k =>
      have hs2 := List.pairwise_cons.1 hs
      have hy : le y r = true := by
        cases hyr : le y r with
        | true => rfl
        | false =>
          have h0 : l.countP (fun x => le x r) = 0 := by
            rw [List.countP_eq_zero]
            intro z hz hzr
            have := T.trans y z r (hs2.1 z hz) hzr
            rw [hyr] at this
            cases this
          rw [List.countP_cons, h0, if_neg (by rw [hyr]; decide)] at hc
          omega
      rw [List.take_succ_cons] at hx
      rcases List.mem_cons.1 hx with rfl | hx
      · exact hy
      · refine ih k hs2.2 ?_ x hx
        rw [List.countP_cons, if_pos hy] at hc
        omega
/-- The first k of some may stand for them. -/
theorem Tot.first (T : Tot le) (A B : List α) (k : Nat) : (((A.mergeSort le).take k ++ B).mergeSort le).take k = ((A ++ B).mergeSort le).take k := by
  obtain ⟨S, hS⟩ : ∃ S, S = A.mergeSort le := ⟨_, rfl⟩
  rw [← hS]
  have hsp : List.Pairwise (fun a b => le a b = true) S := by rw [hS]; exact T.sorted A
  have hpm : S.Perm A := by rw [hS]; exact List.mergeSort_perm A le
  have hlen : S.length = A.length := hpm.length_eq
  by_cases hk : k ≤ S.length
  · have hp : (A ++ B).Perm ((S.take k ++ B) ++ S.drop k) := by
      refine (hpm.symm.append_right B).trans ?_
      have h1 : (S.take k ++ S.drop k) ++ B = S ++ B := by rw [List.take_append_drop]
      rw [← h1, List.append_assoc, List.append_assoc]
      exact (List.perm_append_comm).append_left _
    rw [T.perm hp]
    refine (T.absorb _ _ k (by rw [List.length_append, List.length_take]; omega) fun x hx r hr => ?_).symm
    refine T.count _ r k (T.sorted _) ?_ x hx
    rw [(List.mergeSort_perm (S.take k ++ B) le).countP_eq, List.countP_append]
    have h2 := hsp
    rw [← List.take_append_drop k S, List.pairwise_append] at h2
    have h3 : (S.take k).countP (fun x => le x r) = (S.take k).length := by
      rw [List.countP_eq_length]
      exact fun a ha => h2.2.2 a ha r hr
    rw [h3, List.length_take]
    omega
  · rw [List.take_of_length_le (show S.length ≤ k by omega), T.perm (hpm.append_right B)]
end
end Go.Cof
