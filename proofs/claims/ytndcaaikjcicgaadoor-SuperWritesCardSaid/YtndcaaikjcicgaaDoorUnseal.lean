/-
  DERIVED. The walks of the reference's number and Unseal.
-/
import Derived.Test.YtndcaaikjcicgaaDoorOpen
import Derived.Test.YtndcaaikjcicgaaDoorEr
import Derived.Test.YtndcaaikjcicgaaDoorRefXor
set_option linter.unusedVariables false
set_option linter.unusedSimpArgs false
namespace Go.Proofs.YtndcaaikjcicgaaDoor
open Go.RowKit Go.Cof
set_option maxRecDepth 100000 in
set_option maxHeartbeats 4000000 in
theorem refNumber_any (s : ByteArray) (hs : 8 ≤ s.size) (hs2 : s.size ≤ 1000000) (w : World) :
    Calls Tryd.prog 102 #[.string s] w fun e w' => e = .returned (.int .i64 (openVer (bs s))) ∧ w' = w := by
  go_enter Tryd.func102, Tryd.ntmps102
  go_wp2_with fail
  go_loop [3, 5] (fun v i => ∃ (k N : Nat), k ≤ 8 ∧ i = .int .i64 k ∧ v = .int .u64 (N : Int) ∧ Hid (N = numN ((bs s).take k))) (fun _ i => 8 - (intOf i).toNat)
  case atStart => exact ⟨0, 0, by omega, rfl, rfl, by show 0 = _; rw [List.take_zero]; rfl⟩
  case round =>
    obtain ⟨k, N, hk, rfl, rfl, hN⟩ := hrel
    by_cases hlt : k < 8
    · have j1 : (k : Int) < 8 := by omega
      have hks : k < s.size := by omega
      have hki : (k : Int) < s.size := by omega
      have hb8 := s_byte_lt s k hks
      have hN7 : N < 72057594037927936 := by
        have h1 := numN_lt (bs s) (bs_bytes s) k (by rw [bs_len]; omega)
        rw [← hN.out] at h1
        have h2 : 256 ^ k ≤ 256 ^ 7 := Nat.pow_le_pow_right (by omega) (by omega)
        have h3 : (256 : Nat) ^ 7 = 72057594037927936 := by decide
        omega
      have hstep := numN_step (bs s) k (by rw [bs_len]; exact hks)
      rw [bs_getD s k hks, ← hN.out] at hstep
      have Hst : Hid (N * 256 + s[k].toNat = numN ((bs s).take (k + 1))) := hstep.symm
      clear hstep
      go_wp2_with fail
      exact ⟨⟨k + 1, N * 256 + s[k].toNat, by omega, by go_num, by congr 1, Hst⟩, by simp [intOf]; omega⟩
    · obtain rfl : k = 8 := by omega
      go_wp2_with fail
      go_ret
      refine ⟨?_, rfl⟩
      rw [openVer, numI, ← hN.out]
      try rfl
theorem unseal_arg (RB : Nat) (key : ByteArray) (id : Int) (s : ByteArray) (hk : key.size ≠ 32) (w : World) :
    Calls Tryd.prog 60 #[.pointer (some ⟨RB, 0, none⟩), .string key, .int .i64 id, .string s] w fun e w' => e = .returned (.tuple #[.int .i64 0, .string ⟨#[]⟩, .int .i64 1]) ∧ w' = w := by
  have b1 : ((key.size : Int) != 32) = true := by simp; omega
  clear hk
  go_enter Tryd.func60, Tryd.ntmps60
  go_wp2
  go_ret3
  exact ⟨rfl, rfl⟩
set_option maxRecDepth 100000 in
set_option maxHeartbeats 1000000 in
theorem unseal_short (RB : Nat) (key : ByteArray) (id : Int) (s : ByteArray) (hk : key.size = 32) (hs : s.size < 237) (w : World) :
    Calls Tryd.prog 60 #[.pointer (some ⟨RB, 0, none⟩), .string key, .int .i64 id, .string s] w fun e w' => e = .returned (.tuple #[.int .i64 0, .string ⟨#[]⟩, .int .i64 15]) ∧ Keep NoB w w' := by
  have b1 : ((key.size : Int) != 32) = false := by rw [hk]; rfl
  have b2 : decide ((s.size : Int) < 237) = true := by simp; omega
  clear hk
  go_enter Tryd.func60, Tryd.ntmps60
  go_wp2_with fail
  go_quiet (fail)
  go_wp2
  go_ret3
  exact ⟨rfl, (Keep.refl _ _).drewN _⟩
set_option maxRecDepth 100000 in
set_option maxHeartbeats 4000000 in
theorem unseal_bad (RB : Nat) (key : ByteArray) (id : Int) (s : ByteArray) (hk : key.size = 32) (hs : 237 ≤ s.size) (hs2 : s.size ≤ 1000) (hb : ¬ openB (bs key) id (bs s)) (w : World) (RR : RefR w RB) :
    Calls Tryd.prog 60 #[.pointer (some ⟨RB, 0, none⟩), .string key, .int .i64 id, .string s] w fun e w' => e = .returned (.tuple #[.int .i64 0, .string ⟨#[]⟩, .int .i64 15]) ∧ Keep NoB w w' := by
  have b1 : ((key.size : Int) != 32) = false := by rw [hk]; rfl
  have b2 : decide ((s.size : Int) < 237) = false := by simp; omega
  have b3 : (221 : Int) ≤ s.size := by omega
  have b4 : (237 : Int) ≤ s.size := by omega
  obtain ⟨C, hC⟩ : ∃ C, C = s.extract 0 221 := ⟨_, rfl⟩
  obtain ⟨M, hM⟩ : ∃ M, M = s.extract 221 237 := ⟨_, rfl⟩
  obtain ⟨A, hA⟩ : ∃ A, A = txt (be64 (u64n id)) := ⟨_, rfl⟩
  have bA : bs A = be64 (u64n id) := by rw [hA, bs_txt (be64_bytes _)]
  have hCs : C.size ≤ 1000 := by rw [hC, ByteArray.size_extract]; omega
  have hl2 : (markText 103 ([key, A, C].map bs)).length ≤ 100000 := by
    simp only [List.map_cons, List.map_nil, bA, markText, List.foldl_cons, List.foldl_nil, List.length_append, List.length_cons, List.length_nil, be64_len, bs_len]; omega
  obtain ⟨G, hG⟩ : ∃ G, G = txt (Cof.mark 103 ([key, A, C].map bs)) := ⟨_, rfl⟩
  have hGt : bs G = tagP (bs key) id (bs C) := by rw [hG, bs_txt (mark_bytes _ _), tagP]; simp only [List.map_cons, List.map_nil, bA]
  have hne : G ≠ M := fun e => hb (by
    have := congrArg bs e
    rw [hGt, hC, hM, bs_extract, bs_extract, List.drop_zero] at this
    exact this)
  have hnA : ∀ w, Calls Tryd.prog 18 #[.int .i64 id] w fun e w' => e = .returned (.string A) ∧ Keep NoB w w' := by
    rw [hA]; exact refNum_int id
  have HC := Lib.hid hC
  have HM := Lib.hid hM
  have HG := Lib.hid hG
  have HL := Lib.hid hl2
  clear hM hG hk hb bA hGt hA hl2
  subst hC
  go_enter Tryd.func60, Tryd.ntmps60
  go_wp2_with fail
  refine wp_region_er [0, 1, 2, 3, 4, 5, 6, 8, 9, 12, 13] [7, 10, 11, 14, 15] (by kernel_rfl) (by kernel_rfl) (fun c a d v w h => by cases d <;> exact h) ?_
  simp only [pickL, List.getElem?_toArray, List.getElem?_cons_succ, List.getElem?_cons_zero]
  repeat (refine wpEarly_step (fun K hK => ?_); go_simp; refine hK _ ?_; clear hK K)
  refine wpEarly_nil ?_
  go_wp2_with fail
  refine (hnA _).mono ?_
  rintro e w1 ⟨rfl, K1⟩
  go_wp2_with fail
  have K1' := (Keep.refl NoB w).drew.thenN K1
  refine (refMark_any RB 103 (by decide) _ [key, A, s.extract 0 221] _ (Keep.heap (K1'.alloc _) RR (fun x => x)) (Strs.lit (w := w1) [key, A, s.extract 0 221]) HL.out (by simp)).mono ?_
  rw [← HG.out]
  rintro e w2 ⟨rfl, K2⟩
  rw [← HM.out]
  have hb2 := toList_ne hne
  unfold sameB at hb2
  go_wp2_with fail
  go_ret3
  exact ⟨rfl, (K1'.alloc _).thenN K2⟩
set_option maxRecDepth 100000 in
set_option maxHeartbeats 4000000 in
theorem unseal_ok (RB : Nat) (key : ByteArray) (id : Int) (s : ByteArray) (hk : key.size = 32) (hs : 237 ≤ s.size) (hs2 : s.size ≤ 1000) (hb : openB (bs key) id (bs s)) (w : World) (RR : RefR w RB) :
    Calls Tryd.prog 60 #[.pointer (some ⟨RB, 0, none⟩), .string key, .int .i64 id, .string s] w fun e w' => e = .returned (.tuple #[.int .i64 (openVer (bs s)), .string (txt (openText (bs key) (bs s))), .int .i64 0]) ∧ Keep NoB w w' := by
  have b1 : ((key.size : Int) != 32) = false := by rw [hk]; rfl
  have b2 : decide ((s.size : Int) < 237) = false := by simp; omega
  have b3 : (221 : Int) ≤ s.size := by omega
  have b4 : (237 : Int) ≤ s.size := by omega
  have b5 : (20 : Int) ≤ s.size := by omega
  obtain ⟨C, hC⟩ : ∃ C, C = s.extract 0 221 := ⟨_, rfl⟩
  obtain ⟨M, hM⟩ : ∃ M, M = s.extract 221 237 := ⟨_, rfl⟩
  obtain ⟨NN, hNN⟩ : ∃ N, N = s.extract 8 20 := ⟨_, rfl⟩
  obtain ⟨XX, hXX⟩ : ∃ N, N = s.extract 20 221 := ⟨_, rfl⟩
  obtain ⟨A, hA⟩ : ∃ A, A = txt (be64 (u64n id)) := ⟨_, rfl⟩
  obtain ⟨T, hT⟩ : ∃ T, T = txt (xor (bs key) (bs NN) (bs XX)) := ⟨_, rfl⟩
  have bA : bs A = be64 (u64n id) := by rw [hA, bs_txt (be64_bytes _)]
  have hCs : C.size ≤ 1000 := by rw [hC, ByteArray.size_extract]; omega
  have hXs : XX.size = 201 := by rw [hXX, ByteArray.size_extract]; omega
  have hTs : T.size = 201 := by rw [hT, txt_size, xor_len, bs_len, hXs]
  have hTe : bs T = openT (bs key) (bs s) := by rw [hT, bs_txt (xor_bytes _ _ _ (bs_bytes _)), hNN, hXX, bs_extract, bs_extract, openT]
  have hl2 : (markText 103 ([key, A, C].map bs)).length ≤ 100000 := by
    simp only [List.map_cons, List.map_nil, bA, markText, List.foldl_cons, List.foldl_nil, List.length_append, List.length_cons, List.length_nil, be64_len, bs_len]; omega
  obtain ⟨G, hG⟩ : ∃ G, G = txt (Cof.mark 103 ([key, A, C].map bs)) := ⟨_, rfl⟩
  have hGt : bs G = tagP (bs key) id (bs C) := by rw [hG, bs_txt (mark_bytes _ _), tagP]; simp only [List.map_cons, List.map_nil, bA]
  have heq : G = M := bs_inj (by rw [hGt, hC, hM, bs_extract, bs_extract, List.drop_zero]; exact hb)
  have hnA : ∀ w, Calls Tryd.prog 18 #[.int .i64 id] w fun e w' => e = .returned (.string A) ∧ Keep NoB w w' := by
    rw [hA]; exact refNum_int id
  have hx := refXor_any key NN XX hk (by rw [hNN, ByteArray.size_extract]; omega) (by omega)
  rw [← hT] at hx
  have hnum := refNumber_any s (by omega) (by omega)
  have HG := Lib.hid hG
  have HL := Lib.hid hl2
  have HT := Lib.hid hTe
  have HTs := Lib.hid hTs
  rw [hNN, hXX] at hx
  have hM2 := hM
  rw [← heq] at hM2
  have HM2 := Lib.hid hM2
  clear hM hG hk hb bA hGt hA hl2 hNN hXX hT hTe heq hM2 hTs hXs
  subst hC
  go_enter Tryd.func60, Tryd.ntmps60
  go_wp2_with fail
  refine wp_region_er [0, 1, 2, 3, 4, 5, 6, 8, 9, 12, 13] [7, 10, 11, 14, 15] (by kernel_rfl) (by kernel_rfl) (fun c a d v w h => by cases d <;> exact h) ?_
  simp only [pickL, List.getElem?_toArray, List.getElem?_cons_succ, List.getElem?_cons_zero]
  repeat (refine wpEarly_step (fun K hK => ?_); go_simp; refine hK _ ?_; clear hK K)
  refine wpEarly_nil ?_
  go_wp2_with fail
  refine (hnA _).mono ?_
  rintro e w1 ⟨rfl, K1⟩
  go_wp2_with fail
  have K1' := (Keep.refl NoB w).drew.thenN K1
  refine (refMark_any RB 103 (by decide) _ [key, A, s.extract 0 221] _ (Keep.heap (K1'.alloc _) RR (fun x => x)) (Strs.lit (w := w1) [key, A, s.extract 0 221]) HL.out (by simp)).mono ?_
  rw [← HG.out]
  rintro e w2 ⟨rfl, K2⟩
  rw [← HM2.out]
  have K2' := (K1'.alloc _).thenN K2
  clear K1 K1' K2 hnA
  go_wp2_with fail
  have hq := fun X : Ext w2 => hx (w2.ext X)
  clear hx
  refine wp_region_q_ext (by kernel_rfl) (by kernel_rfl) ?_
  repeat (quiet_step ((go_at_call 98; exact quiet_ext _ (hq _))))
  refine wpQuiet_nil ?_
  intro X
  clear hq
  have t1 : (0 : Int) < T.size := by rw [HTs.out]; decide
  have t2 : 0 < T.size := by rw [HTs.out]; decide
  obtain ⟨b0, hb0⟩ : ∃ b, b = T[0].toNat := ⟨_, rfl⟩
  have hb1 : b0 < 256 := by rw [hb0]; exact T[0].toNat_lt
  obtain ⟨m, hm⟩ : ∃ m, m = min b0 200 := ⟨_, rfl⟩
  have hm1 : m ≤ 200 := by omega
  have hm3 : (1 : Int) + (m : Int) ≤ T.size := by rw [HTs.out]; omega
  have hbT : bs T = openT (bs key) (bs s) := HT.out
  have hfin : T.extract 1 (1 + m) = txt (openText (bs key) (bs s)) := by
    apply bs_inj
    rw [bs_extract, hbT, openText, bs_txt (bytes_take (bytes_drop (by rw [← hbT]; exact bs_bytes T) _) _), ← hbT, bs_getD T 0 t2, ← hb0, ← hm]
    congr 1
    omega
  have Hfin := Lib.hid hfin
  have hb0' : T[0].toNat = b0 := hb0.symm
  have e0 : IntKind.i64.wrap (b0 : Int) = (b0 : Int) := IntWalk.i64_in _ (by omega)
  have e1 : IntKind.i64.wrap (1 + (m : Int)) = 1 + (m : Int) := IntWalk.i64_in _ (by omega)
  have e2 : (1 + (m : Int)).toNat = 1 + m := by omega
  have e3 : (1 : Int) ≤ 1 + (m : Int) := by omega
  have e4 : (0 : Int) ≤ 1 + (m : Int) := by omega
  have KX := K2'.thenN (ext_keep w2 X)
  have hn3 := fun Y : Ext (w2.ext X) => hnum ((w2.ext X).ext Y)
  clear hfin hbT hb0 hnum
  by_cases hbig : b0 ≤ 200
  · obtain rfl : m = b0 := by omega
    have d1 : decide ((200 : Int) < (m : Int)) = false := by simp; omega
    clear hm
    go_wp2_with fail
    refine wp_region_q_ext (by kernel_rfl) (by kernel_rfl) ?_
    repeat (quiet_step ((go_at_call 102; exact quiet_ext_same _ (hn3 _))))
    refine wpQuiet_nil ?_
    intro Y
    go_wp2_with fail
    go_ret3
    refine ⟨?_, KX.thenN (ext_keep _ Y)⟩
    rw [← Hfin.out]
    rfl
  · obtain rfl : m = 200 := by omega
    have d1 : decide ((200 : Int) < (b0 : Int)) = true := by simp; omega
    have e5 : IntKind.i64.wrap 201 = 201 := IntWalk.i64_in _ (by omega)
    have e6 : (201 : Int) ≤ T.size := by rw [HTs.out]; decide
    clear hm
    go_wp2_with fail
    refine wp_region_q_ext (by kernel_rfl) (by kernel_rfl) ?_
    repeat (quiet_step ((go_at_call 102; exact quiet_ext_same _ (hn3 _))))
    refine wpQuiet_nil ?_
    intro Y
    go_wp2_with fail
    go_ret3
    refine ⟨?_, KX.thenN (ext_keep _ Y)⟩
    rw [← Hfin.out]
    rfl
end Go.Proofs.YtndcaaikjcicgaaDoor
