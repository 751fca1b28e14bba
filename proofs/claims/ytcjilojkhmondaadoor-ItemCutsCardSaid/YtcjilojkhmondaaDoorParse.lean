/-
  DERIVED. item.Parse. (Under way.)
-/
import Derived.Test.YtcjilojkhmondaaDoorOne2
set_option linter.unusedVariables false
set_option linter.unusedSimpArgs false
namespace Go.Cof
open Go.Lib Go.Proofs.YtcjilojkhmondaaDoor
theorem allNums_len : ∀ (l : List (List UInt8)) (ns : List Int), allNums l = some ns → ns.length = l.length
  | [], ns, h => by
    obtain rfl : [] = ns := by simpa [allNums] using h
    rfl
  | t :: l, ns, h => by
    rw [allNums] at h
    cases ht : numT t with
    | none => rw [ht] at h; cases h
    | some n =>
      rw [ht] at h
      cases hl : allNums l with
      | none => rw [hl] at h; cases h
      | some ms =>
        rw [hl] at h
        obtain rfl : n :: ms = ns := by simpa using h
        rw [List.length_cons, List.length_cons, allNums_len l ms hl]
theorem oneT_len {t : List UInt8} {x : PItem} (h : oneT t = some x) : x.2.2.length ≤ t.length := by
  have hl := pieces_len 32 t
  have hc : t.count 32 ≤ t.length := List.count_le_length
  rw [oneT] at h
  split at h
  · rename_i a b c r hp
    cases hn : allNums (c :: r) with
    | none => rw [hn] at h; cases h
    | some ns =>
      rw [hn] at h
      have h2 := allNums_len _ _ hn
      have h3 : x.2.2 = ns := by rw [← Option.some.inj h]
      rw [hp] at hl
      simp only [List.length_cons] at hl h2
      rw [h3, h2]
      omega
  · cases h
theorem allOnes_none : ∀ (l : List (List UInt8)) (k : Nat) (t : List UInt8), l[k]? = some t → oneT t = none → allOnes l = none
  | [], k, t, h, _ => by simp at h
  | x :: l, 0, t, h, hn => by
    obtain rfl : x = t := by simpa using h
    rw [allOnes, hn]
  | x :: l, k + 1, t, h, hn => by
    rw [allOnes]
    cases oneT x with
    | none => rfl
    | some n =>
      have := allOnes_none l k t (by simpa using h) hn
      simp [this]
theorem allOnes_snoc : ∀ (l : List (List UInt8)) (t : List UInt8) (ns : List PItem) (n : PItem), allOnes l = some ns → oneT t = some n → allOnes (l ++ [t]) = some (ns ++ [n])
  | [], t, ns, n, h, hn => by
    obtain rfl : [] = ns := by simpa [allOnes] using h
    simp [allOnes, hn]
  | x :: l, t, ns, n, h, hn => by
    rw [allOnes] at h
    rw [List.cons_append, allOnes]
    cases hx : oneT x with
    | none => rw [hx] at h; cases h
    | some v =>
      rw [hx] at h
      cases hl : allOnes l with
      | none => rw [hl] at h; cases h
      | some ms =>
        rw [hl] at h
        obtain rfl : v :: ms = ns := by simpa using h
        rw [allOnes_snoc l t ms n hl hn]
        rfl
end Go.Cof
namespace Go.Proofs.YtcjilojkhmondaaDoor
open Go.RowKit Go.Cof
theorem one_any (s : ByteArray) (w : World) (hs : s.size ≤ 1000000) (V : ItemVars w) :
    Calls Tryd.prog 67 #[.string s] w fun e w' => OneSaid s w' e ∧ Keep NoB w w' := by
  by_cases hf : (pieces 32 s.data.toList).length < 3
  · refine (one_few s w hs V hf).mono ?_
    rintro e w' ⟨rfl, K⟩
    have hone : oneT s.data.toList = none := by
      rw [oneT]
      match hp : pieces 32 s.data.toList, hf with
      | [], _ => rfl
      | [_], _ => rfl
      | [_, _], _ => rfl
      | _ :: _ :: _ :: _, h => simp at h; omega
    exact ⟨⟨_, _, _, _, _, false, rfl, by rw [hone]⟩, K⟩
  · exact one_more s w hs V (by omega)
end Go.Proofs.YtcjilojkhmondaaDoor
