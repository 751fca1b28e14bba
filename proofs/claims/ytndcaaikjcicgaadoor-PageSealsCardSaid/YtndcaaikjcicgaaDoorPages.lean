/-
  DERIVED. The walk of the law PageSeals.
-/
import Derived.Test.YtndcaaikjcicgaaDoorRefSeal
import Derived.Test.YtndcaaikjcicgaaDoorSealErr
import Derived.Test.YtndcaaikjcicgaaDoorUnseal
import Derived.Test.YtndcaaikjcicgaaDoorTell
import Derived.Test.YtndcaaikjcicgaaDoorNew
import Derived.Test.YtndcaaikjcicgaaDoorLong
set_option linter.unusedVariables false
set_option linter.unusedSimpArgs false
namespace Go.Proofs.YtndcaaikjcicgaaDoor
open Go.RowKit Go.Cof
theorem sealP_len (key : List Nat) (id ver : Int) (text : List Nat) (h : text.length ≤ 200) : (sealP key id ver text).length = 237 := by
  rw [sealP, sealedP, List.length_append, List.length_append, List.length_append, be64_len, nonceP_len, xor_len, bodyP_len text h, tagP_len]
theorem seal_both (key : ByteArray) (id ver : Int) (text : ByteArray) : ∃ (T : ByteArray) (k : Int), T.size ≤ 237 ∧
    (∀ w RB, RefR w RB → Calls Tryd.prog 56 #[.pointer (some ⟨RB, 0, none⟩), .string key, .int .i64 id, .int .i64 ver, .string text] w fun e w' => e = .returned (.tuple #[.string T, .int .i64 k]) ∧ Keep NoB w w') ∧
    (∀ w, RoundsVar w → Calls Tryd.prog 57 #[.string key, .int .i64 id, .int .i64 ver, .string text] w fun e w' => e = .returned (.tuple #[.string T, errVal k]) ∧ Keep NoB w w') := by
  by_cases h : key.size = 32 ∧ 0 ≤ id ∧ id < 32 ∧ 1 ≤ ver ∧ ver ≤ 1099511627776
  · obtain ⟨h1, h2, h3, h4, h5⟩ := h
    by_cases ht : text.size ≤ 200
    · refine ⟨_, 0, ?_, fun w RB RR => refSeal_ok RB key id ver text h1 h2 h3 h4 h5 ht w RR, fun w V => seal_ok key id ver text h1 h2 h3 h4 h5 ht w V⟩
      rw [txt_size, sealP_len _ _ _ _ (by rw [bs_len]; exact ht)]
      exact Nat.le_refl _
    · exact ⟨_, 4, Nat.zero_le _, fun w RB RR => (refSeal_limit RB key id ver text h1 h2 h3 h4 h5 (by omega) w).mono fun _ _ ⟨he, hw⟩ => ⟨he, hw ▸ Keep.refl _ _⟩, fun w V => (seal_limit key id ver text h1 h2 h3 h4 h5 (by omega) w).mono fun _ _ ⟨he, hw⟩ => ⟨he, hw ▸ Keep.refl _ _⟩⟩
  · exact ⟨_, 1, Nat.zero_le _, fun w RB RR => (refSeal_arg RB key id ver text h w).mono fun _ _ ⟨he, hw⟩ => ⟨he, hw ▸ Keep.refl _ _⟩, fun w V => (seal_arg key id ver text h w).mono fun _ _ ⟨he, hw⟩ => ⟨he, hw ▸ Keep.refl _ _⟩⟩
theorem open_both (key : ByteArray) (id : Int) (s : ByteArray) (hs : s.size ≤ 1000) : ∃ (n : Int) (T : ByteArray) (k : Int),
    (∀ w RB, RefR w RB → Calls Tryd.prog 60 #[.pointer (some ⟨RB, 0, none⟩), .string key, .int .i64 id, .string s] w fun e w' => e = .returned (.tuple #[.int .i64 n, .string T, .int .i64 k]) ∧ Keep NoB w w') ∧
    (∀ w, RoundsVar w → Calls Tryd.prog 61 #[.string key, .int .i64 id, .string s] w fun e w' => e = .returned (.tuple #[.int .i64 n, .string T, errVal k]) ∧ Keep NoB w w') := by
  by_cases hk : key.size = 32
  · by_cases h7 : 237 ≤ s.size
    · by_cases hb : openB (bs key) id (bs s)
      · exact ⟨_, _, 0, fun w RB RR => unseal_ok RB key id s hk h7 hs hb w RR, fun w V => open_ok key id s hk h7 hs hb w V⟩
      · exact ⟨_, _, 15, fun w RB RR => unseal_bad RB key id s hk h7 hs hb w RR, fun w V => open_bad key id s hk h7 hs hb w V⟩
    · exact ⟨_, _, 15, fun w RB RR => unseal_short RB key id s hk (by omega) w, fun w V => open_short key id s hk (by omega) w⟩
  · exact ⟨_, _, 1, fun w RB RR => (unseal_arg RB key id s hk w).mono fun _ _ ⟨he, hw⟩ => ⟨he, hw ▸ Keep.refl _ _⟩, fun w V => (open_arg key id s hk w).mono fun _ _ ⟨he, hw⟩ => ⟨he, hw ▸ Keep.refl _ _⟩⟩
set_option maxRecDepth 100000 in
set_option maxHeartbeats 4000000 in
theorem pageSeals_any (key : ByteArray) (id ver : Int) (text s : ByteArray) (w : World) (hg : ErrVar w) (V : RoundsVar w) :
    Calls Tryd.prog 9 #[.string key, .int .i64 id, .int .i64 ver, .string text, .string s] w fun e w' => e = .returned (.bool true) ∧ Keep NoB w w' := by
  by_cases h1 : 60 < key.size
  · go_enter Tryd.func9, Tryd.ntmps9
    go_wp2_with fail
    refine (long_any key true (by simp; omega) w).mono ?_
    rintro e w2 ⟨rfl, hw⟩
    subst w2
    go_wp2_with fail
    go_ret
    exact ⟨rfl, Keep.refl _ _⟩
  have hlk := long_any key false (by simp; omega)
  by_cases h2 : 260 < text.size
  · have d2 : decide ((260 : Int) < text.size) = true := by simp; omega
    go_enter Tryd.func9, Tryd.ntmps9
    go_wp2_with fail
    refine (hlk w).mono ?_
    rintro e w2 ⟨rfl, hw⟩
    subst w2
    go_wp2_with fail
    go_ret
    exact ⟨rfl, Keep.refl _ _⟩
  have d2 : decide ((260 : Int) < text.size) = false := by simp; omega
  by_cases h3 : 300 < s.size
  · have d3 : decide ((300 : Int) < s.size) = true := by simp; omega
    go_enter Tryd.func9, Tryd.ntmps9
    go_wp2_with fail
    refine (hlk w).mono ?_
    rintro e w2 ⟨rfl, hw⟩
    subst w2
    go_wp2_with fail
    go_ret
    exact ⟨rfl, Keep.refl _ _⟩
  have d3 : decide ((300 : Int) < s.size) = false := by simp; omega
  obtain ⟨T, k, hT, hr, hp⟩ := seal_both key id ver text
  have hcatx : ¬ (9223372036854775807 < T.size + 1) := by omega
  obtain ⟨Tx, hTx⟩ : ∃ Tx, Tx = T ++ ⟨#[120]⟩ := ⟨_, rfl⟩
  have hTxs : Tx.size ≤ 238 := by rw [hTx, ByteArray.size_append]; show T.size + 1 ≤ 238; omega
  have HTx := Lib.hid hTx
  have hs3 : s.size ≤ 300 := by omega
  clear hTx
  have hm1 := pageMark_any id ver text (by omega)
  have hm2 := fun RB => refPageMark_any RB id ver text (by omega)
  clear h1 h2 h3
  go_enter Tryd.func9, Tryd.ntmps9
  go_wp2_with fail
  refine (hlk w).mono ?_
  rintro e w2 ⟨rfl, hw⟩
  subst w2
  clear hlk
  go_wp2_with fail
  refine (new_any w).mono ?_
  rintro e w2 ⟨rfl, R2, K2⟩
  obtain ⟨RB, hRB⟩ : ∃ RB, RB = w.heap.size := ⟨_, rfl⟩
  rw [← hRB] at R2
  rw [← hRB]
  clear hRB d2 d3
  go_wp2_with fail
  refine (hr w2 RB R2).mono ?_
  rintro e w3 ⟨rfl, K3⟩
  have R3 : RefR w3 RB := Keep.heap K3 R2 (fun x => x)
  have K3' := K2.thenN K3
  clear hr K2 K3 R2
  go_wp2_with fail
  refine (hp w3 (V.keep K3' (fun x => x))).mono ?_
  rintro e w4 ⟨rfl, K4⟩
  have R4 : RefR w4 RB := Keep.heap K4 R3 (fun x => x)
  have K4' := K3'.thenN K4
  clear hp K3' K4 R3
  go_wp2_with fail
  refine (bare_any k k w4 (hg.keep K4' (fun x => x))).mono ?_
  rintro e w5 ⟨rfl, K5⟩
  have R5 : RefR w5 RB := Keep.heap K5 R4 (fun x => x)
  have K5' := K4'.thenN K5
  have b1 : (k == k) = true := by simp
  rw [b1]
  clear b1 K4' K5 R4
  go_wp2_with fail
  refine (hm1 w5 (V.keep K5' (fun x => x))).mono ?_
  rintro e w6 ⟨rfl, K6⟩
  have R6 : RefR w6 RB := Keep.heap K6 R5 (fun x => x)
  have K6' := K5'.thenN K6
  clear hm1 K5' K6 R5
  go_wp2_with fail
  refine (hm2 RB w6 R6).mono ?_
  rintro e w7 ⟨rfl, K7⟩
  have R7 : RefR w7 RB := Keep.heap K7 R6 (fun x => x)
  have K7' := K6'.thenN K7
  clear hm2 K6' K7 R6
  go_wp2_with fail
  rw [← HTx.out]
  refine wp_world (fun w8 => Strs w8 (.slice (some ⟨w7.heap.size, 0, none⟩) 3 3) [s, T, Tx] ∧ RefR w8 RB ∧ Keep NoB w w8) ⟨Strs.lit (w := w7) [s, T, Tx], Keep.heap ((Keep.refl NoB w7).alloc _) R7 (fun x => x), K7'.alloc _⟩ ?_
  obtain ⟨B, hB⟩ : ∃ B, B = w7.heap.size := ⟨_, rfl⟩
  rw [← hB]
  clear hB
  intro w8 hw8
  obtain ⟨S8, R8, K8⟩ := hw8
  clear R7 K7'
  go_loopw [81] (fun i wr => ∃ j : Nat, j ≤ 3 ∧ i = .int .i64 j ∧ Keep NoB w8 wr) (fun i _ => 3 - (intOf i).toNat)
  case atStart => exact ⟨0, by omega, rfl, Keep.refl _ _⟩
  case round =>
    obtain ⟨j, hj, rfl, K⟩ := hrel
    by_cases hlt : j < 3
    · have j1 : (j : Int) < 3 := by omega
      obtain ⟨q, hq⟩ : ∃ q, q = [s, T, Tx].getD j ⟨#[]⟩ := ⟨_, rfl⟩
      have hqs : q.size ≤ 300 := by
        have : j = 0 ∨ j = 1 ∨ j = 2 := by omega
        rcases this with rfl | rfl | rfl <;> rw [hq]
        · exact hs3
        · show T.size ≤ 300; omega
        · show Tx.size ≤ 300; omega
      have Sr := S8.keep K (fun _ _ x => x)
      obtain ⟨B', off, hBo, _, _, hc⟩ := Sr.at (by simp)
      cases hBo
      have hcj := hc j (by simpa using hlt)
      rw [← hq, Nat.zero_add] at hcj
      obtain ⟨n, U, kk, hr, hp⟩ := open_both key id q (by omega)
      clear hc Sr hq
      have Rr : RefR wr RB := Keep.heap K R8 (fun x => x)
      have K9 := K8.thenN K
      go_wp2_with fail
      refine (hr wr RB Rr).mono ?_
      rintro e w9 ⟨rfl, K1⟩
      have K10 := K9.thenN K1
      clear hr
      go_wp2_with fail
      refine (hp w9 (V.keep K10 (fun x => x))).mono ?_
      rintro e w10 ⟨rfl, K2⟩
      have K11 := K10.thenN K2
      clear hp
      go_wp2_with fail
      refine (bare_any kk kk w10 (hg.keep K11 (fun x => x))).mono ?_
      rintro e w11 ⟨rfl, K3⟩
      have b1 : (kk == kk) = true := by simp
      rw [b1]
      clear b1
      have K12 := ((K.thenN K1).thenN K2).thenN K3
      clear K9 K10 K11 K1 K2 K3
      go_wp2_with fail
      exact ⟨⟨j + 1, by omega, by go_num, K12⟩, by simp [intOf]; omega⟩
    · obtain rfl : j = 3 := by omega
      go_wp2_with fail
      go_ret
      exact ⟨rfl, K8.thenN K⟩
end Go.Proofs.YtndcaaikjcicgaaDoor
