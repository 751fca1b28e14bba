/-
  DERIVED. The walk of the law TreeBinds.
-/
import Derived.Test.YtndcaaikjcicgaaDoorTreeP
import Derived.Test.YtndcaaikjcicgaaDoorLong
set_option linter.unusedVariables false
set_option linter.unusedSimpArgs false
namespace Go.Proofs.YtndcaaikjcicgaaDoor
open Go.RowKit Go.Cof
set_option maxRecDepth 100000 in
set_option maxHeartbeats 8000000 in
theorem treeBinds_any (p : Option Addr) (n c : Nat) (k : Int) (root m : ByteArray) (v2 : Value) (w : World) (V : RoundsVar w) (hg : ErrVar w) (l path : List ByteArray) (T : Strs w (.slice p n c) l) (hnc : n ≤ c) (T2 : Strs w v2 path) (hn9 : n ≤ 9223372036854775807) (hp9 : path.length ≤ 9223372036854775807) :
    Calls Tryd.prog 5 #[.slice p n c, .int .i64 k, .string root, .string m, v2] w fun e w' => e = .returned (.bool true) ∧ Keep NoB w w' := by
  have hnl : n = l.length := by
    obtain ⟨p', c', hv⟩ := T.len
    cases hv
    rfl
  obtain ⟨p2, c2, rfl⟩ := T2.len
  obtain ⟨n2, hn2⟩ : ∃ n2, n2 = path.length := ⟨_, rfl⟩
  rw [← hn2] at T2 hp9 ⊢
  have Hn := Lib.hid hnl
  have Hn2 := Lib.hid hn2
  clear hnl hn2
  have hlr := fun w => long_any root (decide (60 < root.size)) rfl w
  have hlm := fun w => long_any m (decide (60 < m.size)) rfl w
  by_cases h1 : n ≤ 40
  · have j1 : ¬ ((40 : Int) < n) := by omega
    by_cases h2 : 60 < root.size
    · rw [decide_eq_true h2] at hlr
      go_enter Tryd.func5, Tryd.ntmps5
      go_wp2_with (go_at_call 11; refine (hlr _).mono ?_; rintro e w2 ⟨rfl, hw2⟩; subst w2)
      go_ret
      exact ⟨rfl, Keep.refl _ _⟩
    rw [decide_eq_false h2] at hlr
    by_cases h3 : 60 < m.size
    · rw [decide_eq_true h3] at hlm
      go_enter Tryd.func5, Tryd.ntmps5
      go_wp2_with (first | (go_at_call 11; refine (hlr _).mono ?_; rintro e w2 ⟨rfl, hw2⟩; subst w2) | (go_at_call 11; refine (hlm _).mono ?_; rintro e w2 ⟨rfl, hw2⟩; subst w2))
      go_ret
      exact ⟨rfl, Keep.refl _ _⟩
    rw [decide_eq_false h3] at hlm
    by_cases h4 : n2 ≤ 10
    · have j4 : ¬ ((10 : Int) < n2) := by omega
      obtain ⟨i0, hi0, hz0, hz1, hz2⟩ := info_parts info_string
      have hll : l.length ≤ 1000000 := by have := Hn.out; omega
      have hpl : path.length ≤ 1000000 := by have := Hn2.out; omega
      have H1 := Lib.hid (show n = 0 + l.length by have := Hn.out; omega)
      obtain ⟨N, hN⟩ : ∃ N, N = n + n2 := ⟨_, rfl⟩
      have H2 := Lib.hid (show N = n + path.length by have := Hn2.out; omega)
      have hN50 : N ≤ 50 := by omega
      clear hN
      go_enter Tryd.func5, Tryd.ntmps5
      go_wp2_with (first | (go_at_call 11; refine (hlr _).mono ?_; rintro e w2 ⟨rfl, hw2⟩; subst w2) | (go_at_call 11; refine (hlm _).mono ?_; rintro e w2 ⟨rfl, hw2⟩; subst w2) | (refine wpList_append_t rfl (.tmp 36) (.tmp 37) 22 rfl w.heap.size 9 i0 Tryd.underlying22 hi0 hz0 hz1 hz2 w.heap.size 0 0 [] l rfl (OwnsN.lit w w.heap.size 9 1 #[] 0 (Nat.le_refl _) (Nat.zero_le _) rfl) _ rfl (T.keep ((Keep.refl NoB w).alloc _) (fun _ _ x => x)) n H1.out (by omega) (by simp) ?_; intro g1 cap1 w1 own1 hk1 wh1; rw [List.nil_append] at own1; have hg1 : w.heap.size ≤ g1 := (own1.lt g1 rfl).1; have K1 : Keep NoB w w1 := ((Keep.refl NoB w).alloc (.cells #[] 9)).trans hk1 (fun i hi hx => absurd (show i = w.heap.size from hx) (by omega)); clear hk1 wh1) | (refine wpList_append_t rfl (.tmp 38) (.tmp 39) 22 rfl w.heap.size 9 i0 Tryd.underlying22 hi0 hz0 hz1 hz2 g1 n cap1 l path rfl own1 _ rfl (T2.keep K1 (fun _ _ x => x)) N H2.out (by omega) (by have := K1.size; omega) ?_; intro g2 cap2 w2 own2 hk2 wh2; have K2 : Keep NoB w w2 := K1.trans hk2 (fun i hi hx => absurd (show i = g1 from hx) (by omega)); clear hk2 wh2))
      have T3 : Strs w2 (.slice (some ⟨g2, 0, none⟩) N cap2) (l ++ path) := strs_ofN (by rw [List.length_append, ← Hn.out, ← H2.out]; exact own2)
      clear own1 own2 K1 hlr hlm H1
      go_loopw [12] (fun i wr => ∃ j : Nat, j ≤ N ∧ i = .int .i64 j ∧ Keep NoB w2 wr) (fun i _ => N - (intOf i).toNat)
      case atStart => exact ⟨0, by omega, rfl, Keep.refl _ _⟩
      case round =>
        obtain ⟨j, hj, rfl, K⟩ := hrel
        by_cases hlt : j < N
        · have j5 : (j : Int) < N := by omega
          obtain ⟨_, _, hv, -, hb3, hc3⟩ := (T3.keep K (fun _ _ x => x)).at (by rw [List.length_append, ← Hn.out, ← H2.out]; omega)
          cases hv
          have hcx := hc3 j (by rw [List.length_append, ← Hn.out, ← H2.out]; exact hlt)
          rw [Nat.zero_add] at hcx
          obtain ⟨x, hx⟩ : ∃ x, x = (l ++ path).getD j ⟨#[]⟩ := ⟨_, rfl⟩
          rw [← hx] at hcx
          clear hc3 hx
          have hlx := fun w => long_any x (decide (60 < x.size)) rfl w
          by_cases hl60 : 60 < x.size
          · rw [decide_eq_true hl60] at hlx
            go_wp2_with (go_at_call 11; refine (hlx _).mono ?_; rintro e w3 ⟨rfl, hw3⟩; subst w3)
            go_ret
            exact ⟨rfl, K2.thenN K⟩
          · rw [decide_eq_false hl60] at hlx
            go_wp2_with (go_at_call 11; refine (hlx _).mono ?_; rintro e w3 ⟨rfl, hw3⟩; subst w3)
            exact ⟨⟨j + 1, by omega, by go_num, K⟩, by simp [intOf]; omega⟩
        · obtain rfl : j = N := by omega
          have K3 := K2.thenN K
          clear K K2 T3
          have b1 : (rootE l == rootE l) = true := by simp
          have b2 : (pathE l k == pathE l k) = true := by simp
          obtain ⟨RV, hRV⟩ : ∃ x, x = rootV l := ⟨_, rfl⟩
          have b3 : (RV.toList == RV.toList) = true := by simp
          obtain ⟨RE, hRE⟩ : ∃ x, x = rootE l := ⟨_, rfl⟩
          obtain ⟨PE, hPE⟩ : ∃ x, x = pathE l k := ⟨_, rfl⟩
          obtain ⟨PV, hPV⟩ : ∃ x, x = pathV l k := ⟨_, rfl⟩
          have hPVl : PV.length ≤ 1000000 := by
            rw [hPV, pathV]
            split
            · rw [pathL_len]; omega
            · exact Nat.zero_le _
          rw [← hRE] at b1
          rw [← hPE] at b2
          have HRV := Lib.hid hRV
          have HRE := Lib.hid hRE
          have HPE := Lib.hid hPE
          have HPV := Lib.hid hPV
          obtain ⟨q1, hq1⟩ : ∃ x, x = verB root m k path := ⟨_, rfl⟩
          obtain ⟨q2, hq2⟩ : ∃ x, x = verB RV m k PV := ⟨_, rfl⟩
          have b4 : (q1 == q1) = true := by simp
          have b5 : (q2 == q2) = true := by simp
          have HQ1 := Lib.hid hq1
          have HQ2 := Lib.hid hq2
          clear hRV hRE hPE hPV hq1 hq2
          go_wp2_with (first
            | (go_at_call 12; refine (new_any _).mono ?_; rintro e w4 ⟨rfl, RR, K4⟩; have K4' := K3.thenN K4)
            | (go_at_call 25; refine (refRoot_any _ _ l _ RR (T.keep K4' (fun _ _ x => x)) hll).mono ?_; rw [← HRV.out, ← HRE.out]; rintro e w5 ⟨rfl, K5⟩; have K5' := K4'.thenN K5; have RR5 := RR.keep K5 (fun x => x))
            | (go_at_call 26; refine (treeRoot_any p n c l _ (V.keep K5' (fun x => x)) (T.keep K5' (fun _ _ x => x)) hnc hll).mono ?_; rw [← HRV.out, ← HRE.out]; rintro e w6 ⟨rfl, K6⟩; have K6' := K5'.thenN K6; have RR6 := RR5.keep K6 (fun x => x); have hg6 := hg.keep K6' (fun x => x))
            | (go_at_call 27; refine (bare_any RE RE _ hg6).mono ?_; rintro e w7 ⟨rfl, K7⟩; have K7' := K6'.thenN K7; have RR7 := RR6.keep K7 (fun x => x); clear hg6)
            | (go_at_call 28; refine (refPath_any _ _ l k _ RR7 (T.keep K7' (fun _ _ x => x)) hll).mono ?_; rw [← HPE.out, ← HPV.out]; rintro e w8 ⟨v8, rfl, T8, K8⟩; have K8' := K7'.thenN K8; have RR8 := RR7.keep K8 (fun x => x))
            | (go_at_call 29; refine (treePath_any p n c l k _ (V.keep K8' (fun x => x)) (T.keep K8' (fun _ _ x => x)) hnc hll).mono ?_; rw [← HPE.out, ← HPV.out]; rintro e w9 ⟨v9, rfl, T9, K9⟩; have K9' := K8'.thenN K9; have RR9 := RR8.keep K9 (fun x => x); have T89 := T8.keep K9 (fun _ _ x => x); have hg9 := hg.keep K9' (fun x => x))
            | (go_at_call 27; refine (bare_any PE PE _ hg9).mono ?_; rintro e w10 ⟨rfl, K10⟩; have K10' := K9'.thenN K10; have RR10 := RR9.keep K10 (fun x => x); have T810 := T89.keep K10 (fun _ _ x => x); have T910 := T9.keep K10 (fun _ _ x => x); clear hg9)
            | (go_at_call 30; refine (sameTexts_any _ _ PV PV _ T910 T810 hPVl hPVl).mono ?_; rw [decide_eq_true (rfl : PV = PV)]; rintro e w11 ⟨rfl, K11⟩; have K11' := K10'.thenN K11; have RR11 := RR10.keep K11 (fun x => x); have T11 := T810.keep K11 (fun _ _ x => x); clear T910))
          refine (treeVerify_any root m k _ path _ (V.keep K11' (fun x => x)) (T2.keep K11' (fun _ _ x => x)) hpl).mono ?_
          rw [← HQ1.out]
          rintro e w12 ⟨rfl, K12⟩
          have K12' := K11'.thenN K12
          have RR12 := RR11.keep K12 (fun x => x)
          have T12 := T11.keep K12 (fun _ _ x => x)
          go_wp2_with fail
          refine (refVerify_any _ root m k _ path _ RR12 (T2.keep K12' (fun _ _ x => x)) hpl).mono ?_
          rw [← HQ1.out]
          rintro e w13 ⟨rfl, K13⟩
          have K13' := K12'.thenN K13
          have RR13 := RR12.keep K13 (fun x => x)
          have T13 := T12.keep K13 (fun _ _ x => x)
          go_wp2_with fail
          refine (treeVerify_any RV m k _ PV _ (V.keep K13' (fun x => x)) T13 hPVl).mono ?_
          rw [← HQ2.out]
          rintro e w14 ⟨rfl, K14⟩
          have K14' := K13'.thenN K14
          have RR14 := RR13.keep K14 (fun x => x)
          have T14 := T13.keep K14 (fun _ _ x => x)
          go_wp2_with fail
          refine (refVerify_any _ RV m k _ PV _ RR14 T14 hPVl).mono ?_
          rw [← HQ2.out]
          rintro e w15 ⟨rfl, K15⟩
          have K15' := K14'.thenN K15
          go_wp2_with fail
          go_ret
          exact ⟨rfl, K15'⟩
    · have j4 : (10 : Int) < n2 := by omega
      go_enter Tryd.func5, Tryd.ntmps5
      go_wp2_with (first | (go_at_call 11; refine (hlr _).mono ?_; rintro e w2 ⟨rfl, hw2⟩; subst w2) | (go_at_call 11; refine (hlm _).mono ?_; rintro e w2 ⟨rfl, hw2⟩; subst w2))
      go_ret
      exact ⟨rfl, Keep.refl _ _⟩
  · have j1 : (40 : Int) < n := by omega
    go_enter Tryd.func5, Tryd.ntmps5
    go_wp2_with fail
    go_ret
    exact ⟨rfl, Keep.refl _ _⟩
end Go.Proofs.YtndcaaikjcicgaaDoor
