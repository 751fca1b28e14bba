/-
  DERIVED. The walk of sameTexts; both devices side by side.
-/
import Derived.Test.YtndcaaikjcicgaaDoorRDev5
import Derived.Test.YtndcaaikjcicgaaDoorRead
import Derived.Test.YtndcaaikjcicgaaDoorTell
set_option linter.unusedVariables false
set_option linter.unusedSimpArgs false
namespace Go.Cof
open Go.RowKit
theorem sameTexts_take (a b : List ByteArray) (k : Nat) (h : ∀ i, i < k → a.getD i ⟨#[]⟩ = b.getD i ⟨#[]⟩) (ha : a.length = k) (hb : b.length = k) : a = b := by
  apply List.ext_getElem (by omega)
  intro i h1 h2
  have := h i (by omega)
  rwa [List.getD_eq_getElem?_getD, List.getD_eq_getElem?_getD, List.getElem?_eq_getElem h1, List.getElem?_eq_getElem h2] at this
end Go.Cof
namespace Go.Proofs.YtndcaaikjcicgaaDoor
open Go.RowKit Go.Cof
set_option maxRecDepth 100000 in
set_option maxHeartbeats 4000000 in
theorem sameTexts_any (v v' : Value) (a b : List ByteArray) (w : World) (A : Strs w v a) (B : Strs w v' b) (ha : a.length ≤ 1000000) (hb : b.length ≤ 1000000) :
    Calls Tryd.prog 30 #[v, v'] w fun e w' => e = .returned (.bool (decide (a = b))) ∧ Keep NoB w w' := by
  obtain ⟨pa, ca, rfl⟩ := A.len
  obtain ⟨pb, cb, rfl⟩ := B.len
  obtain ⟨n, hn⟩ : ∃ n, n = a.length := ⟨_, rfl⟩
  obtain ⟨m, hm⟩ : ∃ m, m = b.length := ⟨_, rfl⟩
  rw [← hn] at A ha ⊢
  rw [← hm] at B hb ⊢
  have Hn := Lib.hid hn
  have Hm := Lib.hid hm
  clear hn hm
  by_cases hne : n = m
  · subst hne
    go_enter Tryd.func30, Tryd.ntmps30
    go_wp2_with fail
    go_loopw [5] (fun i wr => ∃ k : Nat, k ≤ n ∧ i = .int .i64 k ∧ (∀ j, j < k → a.getD j ⟨#[]⟩ = b.getD j ⟨#[]⟩) ∧ Keep NoB w wr) (fun i _ => n - (intOf i).toNat)
    case atStart => exact ⟨0, by omega, rfl, fun j hj => by omega, Keep.refl _ _⟩
    case round =>
      obtain ⟨k, hk, rfl, hrun, K⟩ := hrel
      by_cases hlt : k < n
      · have j1 : (k : Int) < n := by omega
        have A2 := A.keep K (fun _ _ x => x)
        have B2 := B.keep K (fun _ _ x => x)
        obtain ⟨b1, o1, rfl, -, _, hc1⟩ := A2.at (by have := Hn.out; omega)
        obtain ⟨b2, o2, rfl, -, _, hc2⟩ := B2.at (by have := Hm.out; omega)
        have hx := hc1 k (by have := Hn.out; omega)
        have hy := hc2 k (by have := Hm.out; omega)
        clear hc1 hc2 A2 B2
        obtain ⟨s, hs⟩ : ∃ s, s = a.getD k ⟨#[]⟩ := ⟨_, rfl⟩
        obtain ⟨t, ht⟩ : ∃ t, t = b.getD k ⟨#[]⟩ := ⟨_, rfl⟩
        rw [← hs] at hx
        rw [← ht] at hy
        have Hs := Lib.hid hs
        have Ht := Lib.hid ht
        clear hs ht
        go_wp2_with fail
        refine wp_region_qt_drew 8 (by kernel_rfl) (by kernel_rfl) ?_
        simp only [List.take_succ_cons, List.take_zero, List.drop_succ_cons, List.drop_zero]
        repeat (quiet_step (fail))
        refine wpQuiet_nil ?_
        intro nq
        by_cases hst : s = t
        · have hnext : ∀ j, j < k + 1 → a.getD j ⟨#[]⟩ = b.getD j ⟨#[]⟩ := by
            intro j hj
            rcases Nat.lt_succ_iff_lt_or_eq.1 hj with h | rfl
            · exact hrun j h
            · rw [← Hs.out, ← Ht.out, hst]
          go_wp2_with fail
          exact ⟨⟨k + 1, by omega, by go_num, hnext, K.drewN nq⟩, by simp [intOf]; omega⟩
        · have hne : (!s.toList == t.toList) = true := by
            have : s.toList ≠ t.toList := fun e => hst (by rw [ByteArray.toList_eq, ByteArray.toList_eq] at e; exact bs_inj (by rw [bs, bs, e]))
            simpa using this
          have hab : ¬ a = b := fun e => hst (by rw [Hs.out, Ht.out, e])
          have hda := decide_eq_false hab
          go_wp2_with fail
          go_ret
          rw [hda]
          exact ⟨rfl, K.drewN nq⟩
      · obtain rfl : k = n := by omega
        have hab := sameTexts_take a b k hrun Hn.out.symm Hm.out.symm
        have hda := decide_eq_true hab
        go_wp2_with fail
        go_ret
        rw [hda]
        exact ⟨rfl, K⟩
  · have j1 : ¬ ((n : Int) = m) := by omega
    have hd : decide (a = b) = false := by
      rw [decide_eq_false_iff_not]
      intro e
      apply hne
      rw [Hn.out, Hm.out, e]
    rw [hd]
    go_enter Tryd.func30, Tryd.ntmps30
    go_wp2_with fail
    go_ret
    exact ⟨rfl, Keep.refl _ _⟩
end Go.Proofs.YtndcaaikjcicgaaDoor
