/-
  DERIVED. The walk of the law DeviceRests.
-/
import Derived.Test.YtndcaaikjcicgaaDoorPut
set_option linter.unusedVariables false
set_option linter.unusedSimpArgs false
namespace Go.Cof
open Go.RowKit
def All256 (l : List ByteArray) : Prop := ∀ s ∈ l, s.size = 256
theorem applyW_256 (l : List (Nat × ByteArray)) : ∀ sure : List ByteArray, All256 sure → (∀ p ∈ l, p.2.size = 256) → All256 (applyW sure l) := by
  induction l with
  | nil => intro sure h _; exact h
  | cons p l ih =>
    intro sure h hp
    rw [applyW, List.foldl_cons, ← applyW]
    refine ih _ ?_ (fun q hq => hp q (List.mem_cons_of_mem _ hq))
    intro s hs
    rcases List.mem_or_eq_of_mem_set hs with hs | rfl
    · exact h s hs
    · exact hp p (List.mem_cons_self ..)
theorem extract_all (s : ByteArray) (h : s.size = 256) : (s ++ zeroB).extract 0 256 = s := by
  apply bs_inj
  rw [bs_extract, List.drop_zero, bs_append, List.take_append_of_le_length (by rw [bs_len]; omega), List.take_of_length_le (by rw [bs_len]; omega)]
theorem layP_self (l : List ByteArray) (hl : l.length = 66) (h : All256 l) : layP l = l := by
  apply List.ext_getElem?
  intro i
  rw [layP, List.getElem?_map]
  by_cases hi : i < 66
  · rw [List.getElem?_range hi]
    have hi2 : i < l.length := by omega
    show some (laidAt l i) = _
    rw [laidAt, if_pos hi2, List.getD_eq_getElem?_getD, List.getElem?_eq_getElem hi2]
    show some ((l[i] ++ zeroB).extract 0 256) = _
    rw [extract_all _ (h _ (List.getElem_mem _))]
  · rw [List.getElem?_eq_none (by rw [List.length_range]; omega), List.getElem?_eq_none (by omega)]; rfl
end Go.Cof
namespace Go.Proofs.YtndcaaikjcicgaaDoor
open Go.RowKit Go.Cof
theorem sure0_256 : All256 sure0 := fun s hs => by rw [(List.mem_replicate.1 hs).2]; exact zeroB_size
theorem putsOf_256 (ats : List Int) (l : List ByteArray) (k : Nat) (hk : k ≤ l.length) (h : ∀ s ∈ l, s.size ≤ 256) : ∀ p ∈ putsOf ats l k, p.2.size = 256 := by
  intro p hp
  simp only [putsOf, List.mem_map, List.mem_range] at hp
  obtain ⟨i, hi, rfl⟩ := hp
  refine padB_size _ (h _ ?_)
  rw [List.getD_eq_getElem?_getD, List.getElem?_eq_getElem (by omega)]
  exact List.getElem_mem _
section
variable {w0 w : World} {D S : Nat} {wv : Value} {sure : List ByteArray} {wait : List (Nat × ByteArray)} {fuse : Int}
theorem lay_N (h : DevN w0 w D S wv sure wait fuse) (v : Value) (l : List ByteArray) (T : Strs w v l) (hl : l.length ≤ 1000000) (hs : ∀ s ∈ l, s.size ≤ 1000000) (hB : ∀ b, v.ownBlock = some b → ¬ DevB D S wv b) :
    Calls Tryd.prog 42 #[.pointer (some ⟨D, 0, none⟩), v] w fun e w' => e = .returned (.tuple #[]) ∧ DevN w0 w' D S (.slice none 0 0) (layP l) [] fuse ∧ Keep (DevB D S wv) w w' :=
  (lay_any h.dev v l T hl hs hB).mono fun _ _ ⟨he, hd, hK⟩ => ⟨he, h.step hd (.inr (fun b hb => by cases hb)) hK, hK⟩
theorem one_dev {w w' : World} (h : Keep (OneB D) w w') : Keep (DevB D S wv) w w' := h.mono fun _ _ hb => Or.inl hb
theorem fuse_N (h : DevN w0 w D S wv sure wait fuse) (n : Int) (hn : n ≤ 9223372036854775807) :
    Calls Tryd.prog 43 #[.pointer (some ⟨D, 0, none⟩), .int .i64 n] w fun e w' => e = .returned (.tuple #[]) ∧ DevN w0 w' D S wv sure wait (max n (-1)) ∧ Keep (DevB D S wv) w w' :=
  (fuse_any h.dev n hn).mono fun _ _ ⟨he, hd, hK⟩ => ⟨he, h.step hd (.inl rfl) (one_dev hK), one_dev hK⟩
theorem writeSpent_N (h : DevN w0 w D S wv sure wait 0) (k : Nat) (s : ByteArray) (hk : k < 66) (hs : s.size ≤ 256) :
    Calls Tryd.prog 36 #[.pointer (some ⟨D, 0, none⟩), .int .i64 k, .string s] w fun e w' => e = .returned (.iface 37 (.int .i64 14)) ∧ DevN w0 w' D S wv sure wait 0 ∧ Keep (DevB D S wv) w w' :=
  (write_spent h.dev k s hk hs).mono fun _ _ ⟨he, hd, hK⟩ => ⟨he, h.step hd (.inl rfl) (one_dev hK), one_dev hK⟩
theorem syncSpent_N (h : DevN w0 w D S wv sure wait 0) :
    Calls Tryd.prog 38 #[.pointer (some ⟨D, 0, none⟩)] w fun e w' => e = .returned (.iface 37 (.int .i64 14)) ∧ DevN w0 w' D S wv sure wait 0 ∧ Keep (DevB D S wv) w w' :=
  (sync_spent h.dev).mono fun _ _ ⟨he, hd, hK⟩ => ⟨he, h.step hd (.inl rfl) (one_dev hK), one_dev hK⟩
end
theorem Bools.len2 {w : World} {v : Value} {l : List Bool} (h : Bools w v l) : ∃ p c, v = .slice p l.length c := h.len
/-- fewB's two sides. -/
theorem fewB_yes {l : List ByteArray} (h : fewB l = true) : l.length ≤ 20 ∧ ∀ s ∈ l, s.size ≤ 256 := by
  simp only [fewB, Bool.and_eq_true, decide_eq_true_eq, Bool.not_eq_true', List.any_eq_false] at h
  refine ⟨h.1, fun s hs => ?_⟩
  have := h.2 s hs
  omega
/-- What a law asks ahead of all: texts that are few, places, keeps. -/
def restsAsk (l more : List ByteArray) (ats : List Int) (keeps : List Bool) : Bool := fewB l && fewB more && !decide (ats.length = 0) && !decide (20 < ats.length) && !decide (30 < keeps.length)
set_option maxRecDepth 100000 in
set_option maxHeartbeats 4000000 in
theorem rests_no (v0 v1 v2 v3 : Value) (l more : List ByteArray) (ats : List Int) (keeps : List Bool) (w : World) (T : Strs w v0 l) (M : Strs w v1 more) (N : Nums w v2 ats) (B : ∃ p c, v3 = .slice p keeps.length c)
    (hl : l.length ≤ maxLen) (hm : more.length ≤ maxLen) (ha : ats.length ≤ maxLen) (hk : keeps.length ≤ maxLen) (h : restsAsk l more ats keeps = false) :
    Calls Tryd.prog 6 #[v0, v1, v2, v3] w fun e w' => e = .returned (.bool true) ∧ Keep NoB w w' := by
  obtain ⟨p2, c2, rfl⟩ := N.len
  obtain ⟨p3, c3, rfl⟩ := B
  have f0 := fun X : World => few_any v0 l X
  have hw1 : Keep NoB w (w.alloc (.cells #[.slice p2 ats.length c2] 30)) := (Keep.refl NoB w).alloc _
  have hf0 := few_any v0 l _ (T.keep hw1 (fun _ _ x => x)) hl
  have hf1 := few_any v1 more _ (M.keep hw1 (fun _ _ x => x)) hm
  unfold maxLen at ha hk
  obtain ⟨n, hn⟩ : ∃ n, n = ats.length := ⟨_, rfl⟩
  obtain ⟨m, hkm⟩ : ∃ n, n = keeps.length := ⟨_, rfl⟩
  rw [← hn] at ha hf0 hf1 hw1
  rw [← hkm] at hk
  rw [restsAsk, ← hn, ← hkm] at h
  rw [← hn, ← hkm]
  clear hn hkm N T M
  cases h0 : fewB l with
  | false =>
    rw [h0] at hf0
    clear h h0
    go_enter Tryd.func6, Tryd.ntmps6
    go_wp2_with fail
    refine hf0.mono ?_
    rintro e w' ⟨rfl, hw⟩
    subst w'
    go_wp2_with fail
    go_ret
    exact ⟨rfl, hw1⟩
  | true =>
    rw [h0] at hf0 h
    cases h1 : fewB more with
    | false =>
      rw [h1] at hf1
      clear h h0 h1
      go_enter Tryd.func6, Tryd.ntmps6
      go_wp2_with fail
      refine hf0.mono ?_
      rintro e w' ⟨rfl, hw⟩
      subst w'
      go_wp2_with fail
      refine hf1.mono ?_
      rintro e w' ⟨rfl, hw⟩
      subst w'
      go_wp2_with fail
      go_ret
      exact ⟨rfl, hw1⟩
    | true =>
      rw [h1] at hf1 h
      clear h0 h1
      by_cases e0 : n = 0
      · have d0 : ((n : Int) == 0) = true := by simp [e0]
        subst e0
        clear h
        go_enter Tryd.func6, Tryd.ntmps6
        go_wp2_with fail
        refine hf0.mono ?_
        rintro e w' ⟨rfl, hw⟩
        subst w'
        go_wp2_with fail
        refine hf1.mono ?_
        rintro e w' ⟨rfl, hw⟩
        subst w'
        go_wp2_with fail
        go_ret
        exact ⟨rfl, hw1⟩
      · have d0 : ((n : Int) == 0) = false := by simp; omega
        have q0 : decide (n = 0) = false := by simpa using e0
        by_cases e1 : 20 < n
        · have d1 : decide ((20 : Int) < n) = true := by simp; omega
          clear h q0
          go_enter Tryd.func6, Tryd.ntmps6
          go_wp2_with fail
          refine hf0.mono ?_
          rintro e w' ⟨rfl, hw⟩
          subst w'
          go_wp2_with fail
          refine hf1.mono ?_
          rintro e w' ⟨rfl, hw⟩
          subst w'
          go_wp2_with fail
          go_ret
          exact ⟨rfl, hw1⟩
        · have d1 : decide ((20 : Int) < n) = false := by simp; omega
          have q1 : decide (20 < n) = false := by simpa using e1
          have d2 : decide ((30 : Int) < m) = true := by
            rw [q0, q1] at h
            simp only [Bool.not_false, Bool.and_true, Bool.true_and, Bool.not_eq_false', decide_eq_true_eq] at h
            simp only [decide_eq_true_eq]
            omega
          clear h q0 q1
          go_enter Tryd.func6, Tryd.ntmps6
          go_wp2_with fail
          refine hf0.mono ?_
          rintro e w' ⟨rfl, hw⟩
          subst w'
          go_wp2_with fail
          refine hf1.mono ?_
          rintro e w' ⟨rfl, hw⟩
          subst w'
          go_wp2_with fail
          go_ret
          exact ⟨rfl, hw1⟩
end Go.Proofs.YtndcaaikjcicgaaDoor
