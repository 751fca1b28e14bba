/-
  DERIVED. The walk of the law StreamBlocks.
-/
import Derived.Test.YtndcoegbdkbfkaaDoorRefXor
import Derived.Test.YtndcoegbdkbfkaaDoorTell
namespace Go.Proofs.YtndcoegbdkbfkaaDoor
open Go.RowKit Go.Cof

theorem long_any (s : ByteArray) (b : Bool) (hb : b = decide (60 < s.size)) (w : World) : Calls Tryd.prog 13 #[.string s] w fun e w' => e = .returned (.bool b) ∧ w' = w := by
  subst hb
  go_enter Tryd.func13, Tryd.ntmps13
  go_wp2
  go_ret
  exact ⟨congrArg (fun b => Ending.returned (.bool b)) (by simp only [decide_eq_decide]; omega), rfl⟩
theorem block_both (key nonce : ByteArray) (n : Int) : ∃ (T : ByteArray) (k : Int),
    (∀ w, Calls Tryd.prog 14 #[.string key, .int .i64 n, .string nonce] w fun e w' => e = .returned (.tuple #[.string T, .int .i64 k]) ∧ Keep NoB w w') ∧
    (∀ w, Calls Tryd.prog 15 #[.string key, .int .i64 n, .string nonce] w fun e w' => e = .returned (.tuple #[.string T, errVal k]) ∧ Keep NoB w w') := by
  by_cases h : key.size = 32 ∧ nonce.size = 12 ∧ 0 ≤ n ∧ n < 4294967296
  · obtain ⟨h1, h2, h3, h4⟩ := h
    refine ⟨_, 0, fun w => refBlock_at key nonce n n.toNat (by omega) h1 h2 (by omega) w, fun w => block_at key nonce n n.toNat (by omega) h1 h2 (by omega) w⟩
  · exact ⟨_, 1, fun w => refBlock_err key nonce n h w, fun w => block_err key nonce n h w⟩
theorem xor_both (key nonce s : ByteArray) (hs : s.size ≤ 1000000) : ∃ (T : ByteArray) (k : Int),
    (∀ w, Calls Tryd.prog 17 #[.string key, .string nonce, .string s] w fun e w' => e = .returned (.tuple #[.string T, .int .i64 k]) ∧ Keep NoB w w') ∧
    (∀ w, Calls Tryd.prog 18 #[.string key, .string nonce, .string s] w fun e w' => e = .returned (.tuple #[.string T, errVal k]) ∧ Keep NoB w w') := by
  by_cases h : key.size = 32 ∧ nonce.size = 12
  · exact ⟨_, 0, fun w => refXor_any key nonce s h.1 h.2 hs w, fun w => xor_any key nonce s h.1 h.2 hs w⟩
  · exact ⟨_, 1, fun w => refXor_err key nonce s h w, fun w => xor_err key nonce s h w⟩
set_option maxRecDepth 100000 in
set_option maxHeartbeats 4000000 in
theorem streamBlocks_any (key : ByteArray) (n : Int) (nonce s : ByteArray) (w : World) (hg : ErrVar w) :
    Calls Tryd.prog 3 #[.string key, .int .i64 n, .string nonce, .string s] w fun e w' => e = .returned (.bool true) ∧ Keep NoB w w' := by
  by_cases h1 : 60 < key.size
  · go_enter Tryd.func3, Tryd.ntmps3
    go_wp2_with fail
    refine (long_any key true (by simp; omega) w).mono ?_
    rintro e w2 ⟨rfl, rfl⟩
    go_wp2_with fail
    go_ret
    exact ⟨rfl, Keep.refl _ _⟩
  by_cases h2 : 60 < nonce.size
  · go_enter Tryd.func3, Tryd.ntmps3
    go_wp2_with fail
    refine (long_any key false (by simp; omega) w).mono ?_
    rintro e w2 ⟨rfl, rfl⟩
    go_wp2_with fail
    refine (long_any nonce true (by simp; omega) w2).mono ?_
    rintro e w3 ⟨rfl, rfl⟩
    go_wp2_with fail
    go_ret
    exact ⟨rfl, Keep.refl _ _⟩
  by_cases h3 : 300 < s.size
  · have d3 : (300 : Int) < s.size := by omega
    go_enter Tryd.func3, Tryd.ntmps3
    go_wp2_with fail
    refine (long_any key false (by simp; omega) w).mono ?_
    rintro e w2 ⟨rfl, rfl⟩
    go_wp2_with fail
    refine (long_any nonce false (by simp; omega) w2).mono ?_
    rintro e w3 ⟨rfl, rfl⟩
    go_wp2_with fail
    go_ret
    exact ⟨rfl, Keep.refl _ _⟩
  have d3 : decide ((300 : Int) < s.size) = false := by simp; omega
  obtain ⟨T1, k1, hr1, hp1⟩ := block_both key nonce n
  obtain ⟨T2, k2, hr2, hp2⟩ := xor_both key nonce s (by omega)
  go_enter Tryd.func3, Tryd.ntmps3
  go_wp2_with fail
  refine (long_any key false (by simp; omega) w).mono ?_
  rintro e w2 ⟨rfl, rfl⟩
  go_wp2_with fail
  refine (long_any nonce false (by simp; omega) w2).mono ?_
  rintro e w3 ⟨rfl, rfl⟩
  go_wp2_with fail
  refine (hr1 w3).mono ?_
  rintro e w4 ⟨rfl, K4⟩
  go_wp2_with fail
  refine (hp1 w4).mono ?_
  rintro e w5 ⟨rfl, K5⟩
  have K5' := K4.thenN K5
  go_wp2_with fail
  refine (bare_any k1 k1 w5 (hg.keep K5' (fun x => x))).mono ?_
  rintro e w6 ⟨rfl, K6⟩
  have K6' := K5'.thenN K6
  have b1 : (k1 == k1) = true := by simp
  rw [b1]
  clear b1
  go_wp2_with fail
  refine (hr2 w6).mono ?_
  rintro e w7 ⟨rfl, K7⟩
  go_wp2_with fail
  refine (hp2 w7).mono ?_
  rintro e w8 ⟨rfl, K8⟩
  have K8' := (K6'.thenN K7).thenN K8
  go_wp2_with fail
  refine (bare_any k2 k2 w8 (hg.keep K8' (fun x => x))).mono ?_
  rintro e w9 ⟨rfl, K9⟩
  have K9' := K8'.thenN K9
  have b1 : (k2 == k2) = true := by simp
  rw [b1]
  clear b1
  go_wp2_with fail
  go_ret
  exact ⟨rfl, K9'⟩
end Go.Proofs.YtndcoegbdkbfkaaDoor
