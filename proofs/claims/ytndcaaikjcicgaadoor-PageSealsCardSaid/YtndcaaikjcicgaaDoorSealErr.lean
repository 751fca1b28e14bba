/-
  DERIVED. The refusals of page.Seal and of the reference's.
-/
import Derived.Test.YtndcaaikjcicgaaDoorSeal
import Derived.Test.YtndcaaikjcicgaaDoorRefWords
set_option linter.unusedVariables false
set_option linter.unusedSimpArgs false
namespace Go.Proofs.YtndcaaikjcicgaaDoor
open Go.RowKit Go.Cof
set_option maxRecDepth 100000 in
set_option maxHeartbeats 4000000 in
theorem seal_arg (key : ByteArray) (id ver : Int) (text : ByteArray) (h : ¬ (key.size = 32 ∧ 0 ≤ id ∧ id < 32 ∧ 1 ≤ ver ∧ ver ≤ 1099511627776)) (w : World) :
    Calls Tryd.prog 57 #[.string key, .int .i64 id, .int .i64 ver, .string text] w fun e w' => e = .returned (.tuple #[.string ⟨#[]⟩, .iface 37 (.int .i64 1)]) ∧ w' = w := by
  by_cases h1 : key.size = 32
  · have b1 : ((key.size : Int) != 32) = false := by rw [h1]; rfl
    have H1 := Lib.hid h1
    by_cases h2 : 0 ≤ id
    · have b2 : decide (id < 0) = false := by simpa using h2
      by_cases h3 : id < 32
      · have b3 : decide (32 ≤ id) = false := by simpa using h3
        by_cases h4 : 1 ≤ ver
        · have b4 : decide (ver < 1) = false := by simpa using h4
          have b5 : decide (1099511627776 < ver) = true := by
            have := H1.out
            simp only [decide_eq_true_eq]; omega
          clear h h1 h2 h3 h4
          go_enter Tryd.func57, Tryd.ntmps57
          go_wp2
          go_ret2
          exact ⟨rfl, rfl⟩
        · have b4 : decide (ver < 1) = true := by simp; omega
          clear h h1 h2 h3 h4
          go_enter Tryd.func57, Tryd.ntmps57
          go_wp2
          go_ret2
          exact ⟨rfl, rfl⟩
      · have b3 : decide (32 ≤ id) = true := by simp; omega
        clear h h1 h2 h3
        go_enter Tryd.func57, Tryd.ntmps57
        go_wp2
        go_ret2
        exact ⟨rfl, rfl⟩
    · have b2 : decide (id < 0) = true := by simp; omega
      clear h h1 h2
      go_enter Tryd.func57, Tryd.ntmps57
      go_wp2
      go_ret2
      exact ⟨rfl, rfl⟩
  · have b1 : ((key.size : Int) != 32) = true := by simp; omega
    clear h h1
    go_enter Tryd.func57, Tryd.ntmps57
    go_wp2
    go_ret2
    exact ⟨rfl, rfl⟩
theorem seal_limit (key : ByteArray) (id ver : Int) (text : ByteArray) (hk : key.size = 32) (hi0 : 0 ≤ id) (hi1 : id < 32) (hv0 : 1 ≤ ver) (hv1 : ver ≤ 1099511627776) (ht : 200 < text.size) (w : World) :
    Calls Tryd.prog 57 #[.string key, .int .i64 id, .int .i64 ver, .string text] w fun e w' => e = .returned (.tuple #[.string ⟨#[]⟩, .iface 37 (.int .i64 4)]) ∧ w' = w := by
  have b1 : ((key.size : Int) != 32) = false := by rw [hk]; rfl
  have b2 : decide (id < 0) = false := by simpa using hi0
  have b3 : decide (32 ≤ id) = false := by simpa using hi1
  have b4 : decide (ver < 1) = false := by simpa using hv0
  have b5 : decide (1099511627776 < ver) = false := by simpa using hv1
  have b6 : decide ((200 : Int) < text.size) = true := by simp; omega
  clear hk hi0 hi1 hv0 hv1 ht
  go_enter Tryd.func57, Tryd.ntmps57
  go_wp2
  go_ret2
  exact ⟨rfl, rfl⟩
set_option maxRecDepth 100000 in
set_option maxHeartbeats 4000000 in
theorem refSeal_arg (RB : Nat) (key : ByteArray) (id ver : Int) (text : ByteArray) (h : ¬ (key.size = 32 ∧ 0 ≤ id ∧ id < 32 ∧ 1 ≤ ver ∧ ver ≤ 1099511627776)) (w : World) :
    Calls Tryd.prog 56 #[.pointer (some ⟨RB, 0, none⟩), .string key, .int .i64 id, .int .i64 ver, .string text] w fun e w' => e = .returned (.tuple #[.string ⟨#[]⟩, .int .i64 1]) ∧ w' = w := by
  by_cases h1 : key.size = 32
  · have b1 : ((key.size : Int) != 32) = false := by rw [h1]; rfl
    have H1 := Lib.hid h1
    by_cases h2 : 0 ≤ id ∧ id ≤ 31
    · have h3 : ¬ (1 ≤ ver ∧ ver ≤ 1099511627776) := fun e => h ⟨h1, h2.1, by omega, e.1, e.2⟩
      clear h h1
      go_enter Tryd.func56, Tryd.ntmps56
      go_wp2_with fail
      refine (in_yes id 0 31 h2.1 h2.2 w).mono ?_
      rintro e w1 ⟨rfl, hw1⟩
      subst w1
      go_wp2_with fail
      refine (in_no ver 1 1099511627776 h3 w).mono ?_
      rintro e w1 ⟨rfl, hw1⟩
      subst w1
      go_wp2
      go_ret2
      exact ⟨rfl, rfl⟩
    · clear h h1
      go_enter Tryd.func56, Tryd.ntmps56
      go_wp2_with fail
      refine (in_no id 0 31 h2 w).mono ?_
      rintro e w1 ⟨rfl, hw1⟩
      subst w1
      go_wp2
      go_ret2
      exact ⟨rfl, rfl⟩
  · have b1 : ((key.size : Int) != 32) = true := by simp; omega
    clear h h1
    go_enter Tryd.func56, Tryd.ntmps56
    go_wp2
    go_ret2
    exact ⟨rfl, rfl⟩
theorem refSeal_limit (RB : Nat) (key : ByteArray) (id ver : Int) (text : ByteArray) (hk : key.size = 32) (hi0 : 0 ≤ id) (hi1 : id < 32) (hv0 : 1 ≤ ver) (hv1 : ver ≤ 1099511627776) (ht : 200 < text.size) (w : World) :
    Calls Tryd.prog 56 #[.pointer (some ⟨RB, 0, none⟩), .string key, .int .i64 id, .int .i64 ver, .string text] w fun e w' => e = .returned (.tuple #[.string ⟨#[]⟩, .int .i64 4]) ∧ w' = w := by
  have b1 : ((key.size : Int) != 32) = false := by rw [hk]; rfl
  have b6 : decide ((200 : Int) < text.size) = true := by simp; omega
  clear hk ht
  go_enter Tryd.func56, Tryd.ntmps56
  go_wp2_with fail
  refine (in_yes id 0 31 hi0 (by omega) w).mono ?_
  rintro e w1 ⟨rfl, hw1⟩
  subst w1
  go_wp2_with fail
  refine (in_yes ver 1 1099511627776 hv0 hv1 w).mono ?_
  rintro e w1 ⟨rfl, hw1⟩
  subst w1
  go_wp2
  go_ret2
  exact ⟨rfl, rfl⟩
end Go.Proofs.YtndcaaikjcicgaaDoor
