/-
  DERIVED. What is nearest, in plain Lean.
-/
import Derived.Test.YtcjilojkhmondaaGreatDoorTop
set_option linter.unusedVariables false
set_option linter.unusedSimpArgs false
namespace Go.Cof
open Go.RowKit Go.Sort Go.Shelf
open Go.Proofs (ltOf)
theorem leF_trans (a b c : FoundV) (h1 : (!(ltOf cmpF) b a) = true) (h2 : (!(ltOf cmpF) c b) = true) : (!(ltOf cmpF) c a) = true := by
  rw [Bool.not_eq_true'] at h1 h2 ⊢
  exact swo_cmpF.ntrans c b a h2 h1
theorem leF_total (a b : FoundV) : ((!(ltOf cmpF) b a) || (!(ltOf cmpF) a b)) = true := by
  cases h : ltOf cmpF b a with
  | false => rfl
  | true =>
    have : ltOf cmpF a b = false := by
      cases h2 : ltOf cmpF a b with
      | false => rfl
      | true =>
        have := swo_cmpF.trans a b a h2 h
        rw [swo_cmpF.irrefl] at this
        cases this
    rw [this]; rfl
theorem sortF_perm_self (l : List FoundV) : (sortF l).Perm l := List.mergeSort_perm _ _
theorem sortF_pair (l : List FoundV) : List.Pairwise (fun a b => (!(ltOf cmpF) b a) = true) (sortF l) := List.pairwise_mergeSort leF_trans leF_total l
theorem sortF_perm {l l' : List FoundV} (h : l.Perm l') : sortF l = sortF l' := by
  refine List.Perm.eq_of_pairwise ?_ (sortF_pair l) (sortF_pair l') (((sortF_perm_self l).trans h).trans (sortF_perm_self l').symm)
  intro a b _ _ h1 h2
  rw [Bool.not_eq_true'] at h1 h2
  exact total_cmpF a b h2 h1
theorem sortF_of_pair {l : List FoundV} (h : List.Pairwise (fun a b => (!(ltOf cmpF) b a) = true) l) : sortF l = l := List.mergeSort_of_pairwise h
theorem sortF_len (l : List FoundV) : (sortF l).length = l.length := (sortF_perm_self l).length_eq
theorem mem_sortF {x : FoundV} {l : List FoundV} : x ∈ sortF l ↔ x ∈ l := (sortF_perm_self l).mem_iff
/-- Each is ahead of all behind it. -/
theorem sortF_strict {l : List FoundV} (hn : l.Nodup) : List.Pairwise ltF (sortF l) := by
  have hn2 : (sortF l).Nodup := (sortF_perm_self l).nodup_iff.2 hn
  have h := (sortF_pair l).and hn2
  refine h.imp ?_
  rintro a b ⟨h1, h2⟩
  rw [Bool.not_eq_true', ltOf_cmpF_false] at h1
  by_cases h3 : ltF a b
  · exact h3
  · exact absurd (total_cmpF a b ((ltOf_cmpF_false _ _).2 h3) ((ltOf_cmpF_false _ _).2 h1)) h2
theorem cmpF_pos (x y : FoundV) : 0 < cmpF x y ↔ ltF y x := by
  have h1 := cmpF_neg x y
  have h2 := cmpF_neg y x
  constructor
  · intro h
    by_cases h3 : ltF y x
    · exact h3
    · have n1 : ¬ ltF x y := fun e => by have := h1.2 e; omega
      have e := total_cmpF x y ((ltOf_cmpF_false _ _).2 n1) ((ltOf_cmpF_false _ _).2 h3)
      subst e
      have h0 : cmpF x x = 0 := by
        unfold cmpF
        rw [if_neg (fun e => e ((cmpI_zero _ _).2 rfl))]
        unfold cmpS
        rw [if_neg (by rw [less_eq]; simp), if_pos rfl]
      omega
  · intro h
    have n1 : ¬ ltF x y := fun e => by
      have := swo_cmpF.trans x y x ((ltOf_cmpF _ _).2 e) ((ltOf_cmpF _ _).2 h)
      rw [swo_cmpF.irrefl] at this
      cases this
    have n2 : ¬ cmpF x y < 0 := fun e => n1 (h1.1 e)
    have n3 : cmpF x y ≠ 0 := by
      intro e0
      unfold cmpF at e0
      split at e0
      · rename_i hc; exact hc e0
      · rename_i hc
        have e2 : x.2 = y.2 := (cmpI_zero _ _).1 (by simpa using hc)
        unfold cmpS at e0
        split at e0
        · cases e0
        · split at e0
          · rename_i h5
            have : x = y := Prod.ext h5 e2
            subst this
            rcases h with h | h
            · omega
            · exact str_irrefl _ h.2
          · cases e0
    omega
/-- What is found but is not among the first is behind the last one. -/
theorem top_rest {l : List FoundV} (hn : l.Nodup) {f : FoundV} (hf : f ∈ l) (k : Nat) (hk : 1 ≤ k) : f ∈ (sortF l).take k ∨ (k ≤ l.length ∧ ∃ y, ((sortF l).take k)[k - 1]? = some y ∧ 0 < cmpF f y) := by
  have hfs := (mem_sortF (l := l)).2 hf
  by_cases h : f ∈ (sortF l).take k
  · exact .inl h
  · right
    obtain ⟨i, hi, he⟩ := List.getElem_of_mem hfs
    have hik : k ≤ i := by
      rcases Nat.lt_or_ge i k with h2 | h2
      · exfalso
        refine h ?_
        rw [← he]
        exact List.mem_of_getElem? (i := i) (by rw [List.getElem?_take, if_pos h2, List.getElem?_eq_getElem hi])
      · exact h2
    rw [sortF_len] at hi
    refine ⟨by omega, (sortF l)[k - 1]'(by rw [sortF_len]; omega), ?_, ?_⟩
    · rw [List.getElem?_take, if_pos (by omega), List.getElem?_eq_getElem (by rw [sortF_len]; omega)]
    · rw [cmpF_pos, ← he]
      exact List.pairwise_iff_getElem.1 (sortF_strict hn) (k - 1) i (by rw [sortF_len]; omega) (by rw [sortF_len]; omega) (by omega)
theorem foundL_nodup (l : List ItemV) (at_ : List Int) (tag : ByteArray) (h : (l.map (·.name)).Nodup) : (foundL l at_ tag).Nodup := by
  have h1 : ((foundL l at_ tag).map (·.1)).Nodup := by
    rw [foundL, List.map_map]
    have : (l.filter (tagB tag)).map ((·.1) ∘ foundV at_) = (l.filter (tagB tag)).map (·.name) := rfl
    rw [this]
    exact h.sublist ((List.filter_sublist).map _)
  exact List.Pairwise.imp (fun h e => h (congrArg _ e)) (List.pairwise_map.1 h1)
theorem foundL_perm {l l' : List ItemV} (h : l.Perm l') (at_ : List Int) (tag : ByteArray) : (foundL l at_ tag).Perm (foundL l' at_ tag) := (h.filter _).map _
theorem topV_perm {l l' : List ItemV} (h : l.Perm l') (at_ : List Int) (k : Int) (tag : ByteArray) : topV l at_ k tag = topV l' at_ k tag := by rw [topV, topV, sortF_perm (foundL_perm h at_ tag)]
end Go.Cof
