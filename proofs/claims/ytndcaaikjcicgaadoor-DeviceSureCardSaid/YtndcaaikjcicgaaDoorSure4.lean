/-
  DERIVED. The walk of the law DeviceSure.
-/
import Derived.Test.YtndcaaikjcicgaaDoorSure3
set_option linter.unusedVariables false
set_option linter.unusedSimpArgs false
namespace Go.Proofs.YtndcaaikjcicgaaDoor
open Go.RowKit Go.Cof
set_option maxRecDepth 100000 in
set_option maxHeartbeats 4000000 in
theorem sure_no (v0 v1 v2 v3 : Value) (l more : List ByteArray) (ats : List Int) (keeps : List Bool) (w : World) (T : Strs w v0 l) (M : Strs w v1 more) (N : Nums w v2 ats) (B : ∃ p c, v3 = .slice p keeps.length c)
    (hl : l.length ≤ maxLen) (hm : more.length ≤ maxLen) (ha : ats.length ≤ maxLen) (hk : keeps.length ≤ maxLen) (h : restsAsk l more ats keeps = false) :
    Calls Tryd.prog 7 #[v0, v1, v2, v3] w fun e w' => e = .returned (.bool true) ∧ Keep NoB w w' := by
  obtain ⟨p2, c2, rfl⟩ := N.len
  obtain ⟨p3, c3, rfl⟩ := B
  have hf0 := few_any v0 l w T hl
  have hf1 := few_any v1 more w M hm
  have hw1 : Keep NoB w w := Keep.refl _ _
  unfold maxLen at ha hk
  obtain ⟨n, hn⟩ : ∃ n, n = ats.length := ⟨_, rfl⟩
  obtain ⟨m, hkm⟩ : ∃ n, n = keeps.length := ⟨_, rfl⟩
  rw [← hn] at ha
  rw [← hkm] at hk
  rw [restsAsk, ← hn, ← hkm] at h
  rw [← hn, ← hkm]
  clear hn hkm N T M
  cases h0 : fewB l with
  | false =>
    rw [h0] at hf0
    clear h h0
    go_enter Tryd.func7, Tryd.ntmps7
    go_wp2_with fail
    refine hf0.mono ?_
    rintro e w' ⟨rfl, hw⟩
    subst w'
    go_wp2_with fail
    go_ret
    exact ⟨rfl, hw1⟩
  | true =>
    rw [h0] at hf0 h
    cases h1 : fewB more with
    | false =>
      rw [h1] at hf1
      clear h h0 h1
      go_enter Tryd.func7, Tryd.ntmps7
      go_wp2_with fail
      refine hf0.mono ?_
      rintro e w' ⟨rfl, hw⟩
      subst w'
      go_wp2_with fail
      refine hf1.mono ?_
      rintro e w' ⟨rfl, hw⟩
      subst w'
      go_wp2_with fail
      go_ret
      exact ⟨rfl, hw1⟩
    | true =>
      rw [h1] at hf1 h
      clear h0 h1
      by_cases e0 : n = 0
      · have d0 : ((n : Int) == 0) = true := by simp [e0]
        subst e0
        clear h
        go_enter Tryd.func7, Tryd.ntmps7
        go_wp2_with fail
        refine hf0.mono ?_
        rintro e w' ⟨rfl, hw⟩
        subst w'
        go_wp2_with fail
        refine hf1.mono ?_
        rintro e w' ⟨rfl, hw⟩
        subst w'
        go_wp2_with fail
        go_ret
        exact ⟨rfl, hw1⟩
      · have d0 : ((n : Int) == 0) = false := by simp; omega
        have q0 : decide (n = 0) = false := by simpa using e0
        by_cases e1 : 20 < n
        · have d1 : decide ((20 : Int) < n) = true := by simp; omega
          clear h q0
          go_enter Tryd.func7, Tryd.ntmps7
          go_wp2_with fail
          refine hf0.mono ?_
          rintro e w' ⟨rfl, hw⟩
          subst w'
          go_wp2_with fail
          refine hf1.mono ?_
          rintro e w' ⟨rfl, hw⟩
          subst w'
          go_wp2_with fail
          go_ret
          exact ⟨rfl, hw1⟩
        · have d1 : decide ((20 : Int) < n) = false := by simp; omega
          have q1 : decide (20 < n) = false := by simpa using e1
          have d2 : decide ((30 : Int) < m) = true := by
            rw [q0, q1] at h
            simp only [Bool.not_false, Bool.and_true, Bool.true_and, Bool.not_eq_false', decide_eq_true_eq] at h
            simp only [decide_eq_true_eq]
            omega
          clear h q0 q1
          go_enter Tryd.func7, Tryd.ntmps7
          go_wp2_with fail
          refine hf0.mono ?_
          rintro e w' ⟨rfl, hw⟩
          subst w'
          go_wp2_with fail
          refine hf1.mono ?_
          rintro e w' ⟨rfl, hw⟩
          subst w'
          go_wp2_with fail
          go_ret
          exact ⟨rfl, hw1⟩
theorem deviceSure_any (v0 v1 v2 v3 : Value) (l more : List ByteArray) (ats : List Int) (keeps : List Bool) (w : World) (hg : ErrVar w) (T : Strs w v0 l) (M : Strs w v1 more) (N : Nums w v2 ats) (B : Bools w v3 keeps)
    (hl : l.length ≤ maxLen) (hm : more.length ≤ maxLen) (ha : ats.length ≤ maxLen) (hk : keeps.length ≤ maxLen) :
    Calls Tryd.prog 7 #[v0, v1, v2, v3] w fun e w' => e = .returned (.bool true) ∧ Keep NoB w w' := by
  cases h : restsAsk l more ats keeps with
  | false => exact sure_no v0 v1 v2 v3 l more ats keeps w T M N B.len hl hm ha hk h
  | true =>
    simp only [restsAsk, Bool.and_eq_true, Bool.not_eq_true', decide_eq_false_iff_not] at h
    obtain ⟨⟨⟨⟨h0, h1⟩, h2⟩, h3⟩, h4⟩ := h
    obtain ⟨p2, c2, rfl⟩ := N.len
    exact sure_yes v0 v1 p2 c2 v3 l more ats keeps _ rfl w T M N B hg h0 h1 (by omega) (by omega) (by omega)
end Go.Proofs.YtndcaaikjcicgaaDoor
