/-
  DERIVED. The walks of cofferkeep.StreamTwice.
-/
import Derived.Test.YtndcoegbdkbfkaaXor
import Derived.Test.YtndcoegbdkbfkaaHex
namespace Go.Proofs.Ytndcoegbdkbfkaa
open Go.RowKit Go.Cof

/-- What 'pick' takes. -/
def pickN (a : Int) (n : Nat) : Nat := (a % 18446744073709551616).toNat % n
theorem pickN_lt (a : Int) (n : Nat) (h : 0 < n) : pickN a n < n := Nat.mod_lt _ h
set_option maxRecDepth 100000 in
theorem pick_any (a : Int) (n : Nat) (hn : 0 < n) (hn2 : n ≤ 1000000) (w : World) :
    Calls Try.prog 6 #[.int .i64 a, .int .i64 n] w fun e w' => e = .returned (.int .i64 (pickN a n : Nat)) ∧ w' = w := by
  have hz : ((n : Int) == 0) = false := by simp; omega
  go_enter Try.func6, Try.ntmps6
  go_wp2
  go_ret
  refine ⟨?_, rfl⟩
  have hm : 0 ≤ a % 18446744073709551616 := Int.emod_nonneg _ (by omega)
  have hlt := pickN_lt a n hn
  have e : ((IntKind.u64.wrap a).tmod (n : Int)) = ((pickN a n : Nat) : Int) := by
    rw [IntKind.wrap_u64, Int.tmod_eq_emod_of_nonneg hm, pickN, Int.natCast_emod, Int.toNat_of_nonneg hm]
  show Ending.returned (.int .i64 (wrap64 ((IntKind.u64.wrap a).tmod (n : Int)))) = _
  rw [e, IntWalk.wrap64_in _ (by omega)]
theorem hex_is (s r : ByteArray) (hs : s.size ≤ 1000000) (hr : txt (hex (bs s)) = r) (w : World) :
    Calls Try.prog 8 #[.string s] w fun e w' => e = .returned (.string r) ∧ Keep NoB w w' := by
  subst hr
  exact hex_any s hs w
theorem hexA : txt (hex ((block (List.range 32) 1 [0, 0, 0, 9, 0, 0, 0, 74, 0, 0, 0, 0]).take 16)) = ⟨#[49, 48, 102, 49, 101, 55, 101, 52, 100, 49, 51, 98, 53, 57, 49, 53, 53, 48, 48, 102, 100, 100, 49, 102, 97, 51, 50, 48, 55, 49, 99, 52]⟩ := by
  have : hex ((block (List.range 32) 1 [0, 0, 0, 9, 0, 0, 0, 74, 0, 0, 0, 0]).take 16) = [49, 48, 102, 49, 101, 55, 101, 52, 100, 49, 51, 98, 53, 57, 49, 53, 53, 48, 48, 102, 100, 100, 49, 102, 97, 51, 50, 48, 55, 49, 99, 52] := by decide +kernel
  rw [this]; rfl
theorem hexB : txt (hex ((block (List.range 32) 1 [0, 0, 0, 9, 0, 0, 0, 74, 0, 0, 0, 0]).drop 60)) = ⟨#[97, 50, 53, 48, 51, 99, 52, 101]⟩ := by
  have : hex ((block (List.range 32) 1 [0, 0, 0, 9, 0, 0, 0, 74, 0, 0, 0, 0]).drop 60) = [97, 50, 53, 48, 51, 99, 52, 101] := by decide +kernel
  rw [this]; rfl
set_option maxRecDepth 100000 in
set_option maxHeartbeats 4000000 in
theorem streamed_any (w : World) : Calls Try.prog 4 #[] w fun e w' => e = .returned (.bool true) ∧ Keep NoB w w' := by
  go_enter Try.func4, Try.ntmps4
  go_wp2
  go_loopw [1, 5] (fun v i wr => ∃ k : Nat, k ≤ 32 ∧ i = .int .i64 k ∧ v = .string (txt (List.range k)) ∧ Keep NoB w wr) (fun _ i _ => 32 - (intOf i).toNat)
  case atStart => exact ⟨0, by omega, rfl, rfl, Keep.refl _ _⟩
  case round =>
    obtain ⟨k, hk, rfl, rfl, K⟩ := hrel
    by_cases hlt : k < 32
    · have j1 : (k:Int) < 32 := by omega
      have hcat : (txt (List.range k)).size + (txt [k]).size ≤ 9223372036854775807 := by simp only [txt_size, List.length_range, List.length_cons, List.length_nil]; omega
      have hcv := run_string_one (P := Try.prog) wr Try.underlying29 Try.underlying5 Try.underlying9 (k : Int) k rfl
      go_wp2
      have e : txt (List.range k) ++ txt [k] = txt (List.range (k + 1)) := by rw [txt_append, List.range_succ]
      have e' := Lib.hid e
      clear e hcv
      have K2 : Keep NoB w (wr.alloc (.cells #[.int .u8 (k : Int)] 5)) := K.alloc _
      go_roundw
      case rel => first | exact ⟨k + 1, by omega, by go_num, by rw [← e'.out], K2⟩ | ((repeat apply Exists.intro); exact ⟨⟨k + 1, by omega, by go_num, by rw [← e'.out], K2⟩, rfl⟩)
      case measure => simp [intOf]; omega
    · obtain rfl : k = 32 := by omega
      have hkb : bs (txt (List.range 32)) = List.range 32 := bs_txt (fun x hx => by have := List.mem_range.1 hx; omega)
      obtain ⟨key, hkey⟩ : ∃ s, s = txt (List.range 32) := ⟨_, rfl⟩
      rw [← hkey] at hkb ⊢
      have Hkb := Lib.hid hkb
      have Hks : Hid (key.size = 32) := by show key.size = 32; rw [hkey, txt_size]; rfl
      clear hkb hkey
      go_wp2_with fail
      refine (block_is _ _ _ 1 rfl Hks.out rfl (by omega) _).mono ?_
      rintro e w2 ⟨T, rfl, HT, K2⟩
      have K3 := K.thenN K2
      clear K K2
      have hTb : bs T = block (List.range 32) 1 [0, 0, 0, 9, 0, 0, 0, 74, 0, 0, 0, 0] := by rw [HT.out, Hkb.out]; rfl
      have Hts : Hid (T.size = 64) := by
        have := congrArg List.length hTb
        rw [bs_len, block_len] at this
        exact this
      have HTb := Lib.hid hTb
      clear hTb
      have ht1 : ((T.size : Int) == 64) = true := by rw [Hts.out]; rfl
      have ht2 : (16 : Int) ≤ T.size := by rw [Hts.out]; omega
      have ht3 : (60 : Int) ≤ T.size := by rw [Hts.out]; omega
      have ex1 : T.extract 0 16 = txt ((block (List.range 32) 1 [0, 0, 0, 9, 0, 0, 0, 74, 0, 0, 0, 0]).take 16) := bs_eq_txt (by rw [bs_extract, HTb.out]; rfl)
      have ex2 : T.extract 60 T.size = txt ((block (List.range 32) 1 [0, 0, 0, 9, 0, 0, 0, 74, 0, 0, 0, 0]).drop 60) := bs_eq_txt (by rw [bs_extract, HTb.out, Hts.out, List.take_of_length_le (by rw [List.length_drop, block_len]; omega)])
      have Ex1 := Lib.hid ex1
      have Ex2 := Lib.hid ex2
      clear ex1 ex2
      have hs1 : (T.extract 0 16).size ≤ 1000000 := by rw [ByteArray.size_extract, Hts.out]; omega
      have hs2 : (T.extract 60 T.size).size ≤ 1000000 := by rw [ByteArray.size_extract, Hts.out]; omega
      go_wp2_with fail
      refine (hex_is _ _ hs1 (by rw [Ex1.out, bs_txt (bytes_take (block_bytes _ _ _) _), hexA]) _).mono ?_
      rintro e w3 ⟨rfl, K4⟩
      go_wp2_with fail
      refine (hex_is _ _ hs2 (by rw [Ex2.out, bs_txt (bytes_drop (block_bytes _ _ _) _), hexB]) _).mono ?_
      rintro e w4 ⟨rfl, K5⟩
      go_wp2
      go_ret
      exact ⟨rfl, (K3.thenN K4).thenN K5⟩
theorem xor_bytes (key nonce s : List Nat) (hs : Bytes s) : Bytes (xor key nonce s) := by
  intro x hx
  obtain ⟨i, hi, rfl⟩ := List.getElem_of_mem hx
  have := xorTo_lt key nonce s hs s.length i
  rw [List.getD_eq_getElem?_getD] at this
  have e : (xor key nonce s)[i]? = some (xor key nonce s)[i] := List.getElem?_eq_getElem hi
  unfold Go.Cof.xor at e ⊢
  rw [e] at this
  exact this
theorem ext_getD {a b : List Nat} (hl : a.length = b.length) (h : ∀ i, i < a.length → a.getD i 0 = b.getD i 0) : a = b := by
  apply List.ext_getElem hl
  intro i h1 h2
  have := h i h1
  simpa [List.getD_eq_getElem?_getD, List.getElem?_eq_getElem h1, List.getElem?_eq_getElem h2] using this
theorem xor_twice (key nonce s : List Nat) : xor key nonce (xor key nonce s) = s := by
  apply ext_getD (by rw [xor_len, xor_len])
  intro i hi
  rw [xor_len, xor_len] at hi
  rw [xor_getD _ _ _ _ (by rw [xor_len]; exact hi), xor_getD _ _ _ _ hi, Nat.xor_assoc, Nat.xor_self, Nat.xor_zero]
theorem xor_take (key nonce s : List Nat) (c : Nat) (hc : c ≤ s.length) : xor key nonce (s.take c) = (xor key nonce s).take c := by
  apply ext_getD (by rw [xor_len, List.length_take, List.length_take, xor_len])
  intro i hi
  rw [xor_len, List.length_take] at hi
  rw [xor_getD _ _ _ _ (by rw [List.length_take]; exact hi)]
  have e : ∀ l : List Nat, (l.take c).getD i 0 = l.getD i 0 := fun l => by
    simp only [List.getD_eq_getElem?_getD, List.getElem?_take]
    rw [if_pos (by omega)]
  rw [e, e, xor_getD _ _ _ _ (by omega)]
theorem xor_differ (key nonce s t : List Nat) (i : Nat) (hs : i < s.length) (ht : i < t.length) : (xor key nonce s).getD i 0 ^^^ (xor key nonce t).getD i 0 = s.getD i 0 ^^^ t.getD i 0 := by
  rw [xor_getD _ _ _ _ hs, xor_getD _ _ _ _ ht]
  have key3 : ∀ a b p : Nat, (a ^^^ p) ^^^ (b ^^^ p) = a ^^^ b := fun a b p => by
    rw [Nat.xor_comm b p, Nat.xor_assoc, ← Nat.xor_assoc p p b, Nat.xor_self, Nat.zero_xor]
  exact key3 _ _ _
theorem bs_xor (k n : List Nat) (s : ByteArray) : bs (txt (xor k n (bs s))) = xor k n (bs s) := bs_txt (xor_bytes _ _ _ (bs_bytes s))
set_option maxRecDepth 100000 in
set_option maxHeartbeats 8000000 in
theorem twice_long (key nonce s t : ByteArray) (cut : Int) (h : 40 < key.size ∨ 40 < nonce.size ∨ 300 < s.size ∨ 300 < t.size) (w : World) :
    Calls Try.prog 3 #[.string key, .string nonce, .string s, .string t, .int .i64 cut] w fun e w' => e = .returned (.bool true) ∧ Keep NoB w w' := by
  by_cases h1 : 40 < key.size
  · have d1 : (40 : Int) < key.size := by omega
    go_enter Try.func3, Try.ntmps3
    go_wp2
    go_ret
    exact ⟨rfl, Keep.refl _ _⟩
  · have d1 : (key.size : Int) ≤ 40 := by omega
    by_cases h2 : 40 < nonce.size
    · have d2 : (40 : Int) < nonce.size := by omega
      go_enter Try.func3, Try.ntmps3
      go_wp2
      go_ret
      exact ⟨rfl, Keep.refl _ _⟩
    · have d2 : (nonce.size : Int) ≤ 40 := by omega
      by_cases h3 : 300 < s.size
      · have d3 : (300 : Int) < s.size := by omega
        go_enter Try.func3, Try.ntmps3
        go_wp2
        go_ret
        exact ⟨rfl, Keep.refl _ _⟩
      · have d3 : (s.size : Int) ≤ 300 := by omega
        have d4 : (300 : Int) < t.size := by omega
        go_enter Try.func3, Try.ntmps3
        go_wp2
        go_ret
        exact ⟨rfl, Keep.refl _ _⟩
set_option maxRecDepth 100000 in
set_option maxHeartbeats 8000000 in
theorem twice_bad (key nonce s t : ByteArray) (cut : Int) (d1 : (key.size : Int) ≤ 40) (d2 : (nonce.size : Int) ≤ 40) (d3 : (s.size : Int) ≤ 300) (d4 : (t.size : Int) ≤ 300) (h : ¬ (key.size = 32 ∧ nonce.size = 12)) (w : World) :
    Calls Try.prog 3 #[.string key, .string nonce, .string s, .string t, .int .i64 cut] w fun e w' => e = .returned (.bool true) ∧ Keep NoB w w' := by
  have hp : ((key.size : Int) != 32) = true ∨ (((key.size : Int) != 32) = false ∧ ((nonce.size : Int) != 12) = true) := by simp; omega
  have H := Lib.hid h
  clear h
  rcases hp with hp | ⟨hp, hq⟩
  all_goals
    go_enter Try.func3, Try.ntmps3
    go_wp2_with fail
    refine (streamed_any _).mono ?_
    rintro e w1 ⟨rfl, K1⟩
    go_wp2_with fail
    refine (xor_err key nonce s H.out _).mono ?_
    rintro e w2 ⟨rfl, K2⟩
    go_wp2_with fail
    refine (xor_err key nonce t H.out _).mono ?_
    rintro e w3 ⟨rfl, K3⟩
    go_wp2
    go_ret
    exact ⟨rfl, (K1.thenN K2).thenN K3⟩
set_option maxRecDepth 100000 in
set_option maxHeartbeats 8000000 in
theorem twice_good (key nonce s t : ByteArray) (cut : Int) (d1 : (key.size : Int) ≤ 40) (d2 : (nonce.size : Int) ≤ 40) (d3 : (s.size : Int) ≤ 300) (d4 : (t.size : Int) ≤ 300) (hk0 : key.size = 32) (hn0 : nonce.size = 12) (w : World) :
    Calls Try.prog 3 #[.string key, .string nonce, .string s, .string t, .int .i64 cut] w fun e w' => e = .returned (.bool true) ∧ Keep NoB w w' := by
  have Hk := Lib.hid hk0
  have Hn := Lib.hid hn0
  clear hk0 hn0
  obtain ⟨A, hA⟩ : ∃ a, a = txt (xor (bs key) (bs nonce) (bs s)) := ⟨_, rfl⟩
  obtain ⟨B, hB⟩ : ∃ a, a = txt (xor (bs key) (bs nonce) (bs t)) := ⟨_, rfl⟩
  have bA : bs A = xor (bs key) (bs nonce) (bs s) := by rw [hA]; exact bs_xor _ _ s
  have bB : bs B = xor (bs key) (bs nonce) (bs t) := by rw [hB]; exact bs_xor _ _ t
  have sA : A.size = s.size := by rw [← bs_len, bA, xor_len, bs_len]
  have sB : B.size = t.size := by rw [← bs_len, bB, xor_len, bs_len]
  have C1 : txt (xor (bs key) (bs nonce) (bs A)) = s := by rw [bA, xor_twice, txt_bs]
  have HA := Lib.hid hA
  have HB := Lib.hid hB
  have HbA := Lib.hid bA
  have HbB := Lib.hid bB
  have HsA := Lib.hid sA
  have HsB := Lib.hid sB
  have HC := Lib.hid C1
  clear hA hB bA bB sA sB C1
  have b1 : decide (40 < (key.size : Int)) = false := by simp; omega
  have b2 : decide (40 < (nonce.size : Int)) = false := by simp; omega
  have b3 : decide (300 < (s.size : Int)) = false := by simp; omega
  have b4 : decide (300 < (t.size : Int)) = false := by simp; omega
  have nA : ((A.size : Int) != s.size) = false := by rw [HsA.out]; simp
  have eA : (s.toList == s.toList) = true := by simp
  go_enter Try.func3, Try.ntmps3
  go_wp2_with fail
  refine (streamed_any _).mono ?_
  rintro e w1 ⟨rfl, K1⟩
  go_wp2_with fail
  refine (xor_any key nonce s Hk.out Hn.out (by omega) _).mono ?_
  rw [← HA.out]
  rintro e w2 ⟨rfl, K2⟩
  go_wp2_with fail
  refine (xor_any key nonce t Hk.out Hn.out (by omega) _).mono ?_
  rw [← HB.out]
  rintro e w3 ⟨rfl, K3⟩
  go_wp2_with fail
  refine (xor_any key nonce A Hk.out Hn.out (by rw [HsA.out]; omega) _).mono ?_
  rw [HC.out]
  rintro e w4 ⟨rfl, K4⟩
  have K := ((K1.thenN K2).thenN K3).thenN K4
  clear K1 K2 K3 K4
  go_wp2_with fail
  go_loopw [17] (fun i wr => ∃ k : Nat, k ≤ s.size ∧ k ≤ t.size ∧ i = .int .i64 k ∧ Keep NoB w wr) (fun i _ => s.size - (intOf i).toNat)
  case atStart => exact ⟨0, by omega, by omega, rfl, K⟩
  case round =>
    clear K
    obtain ⟨k, hk1, hk2, rfl, K⟩ := hrel
    by_cases hin : k < s.size ∧ k < t.size
    · obtain ⟨hs1, ht1⟩ := hin
      have j1 : (k : Int) < s.size := by omega
      have j2 : (k : Int) < t.size := by omega
      have j3 : (k : Int) < A.size := by rw [HsA.out]; omega
      have j4 : (k : Int) < B.size := by rw [HsB.out]; omega
      have j5 : k < A.size := by omega
      have j6 : k < B.size := by omega
      have hx : bits .xor .u8 (A[k].toNat : Int) (B[k].toNat : Int) = bits .xor .u8 (s[k].toNat : Int) (t[k].toNat : Int) := by
        rw [xor_u8 _ _ A[k].toNat_lt B[k].toNat_lt, xor_u8 _ _ s[k].toNat_lt t[k].toNat_lt, ← bs_getD A k j5, ← bs_getD B k j6, ← bs_getD s k hs1, ← bs_getD t k ht1, HbA.out, HbB.out,
          xor_differ _ _ _ _ _ (by rw [bs_len]; exact hs1) (by rw [bs_len]; exact ht1)]
      go_wp2_with fail
      go_quiet (fail)
      go_wp2
      have K2 : Keep NoB w (wr.drewN nq) := K.drewN nq
      clear hx
      go_roundw
      case rel => first | exact ⟨k + 1, by omega, by omega, by go_num, K2⟩ | ((repeat apply Exists.intro); exact ⟨⟨k + 1, by omega, by omega, by go_num, K2⟩, rfl⟩)
      case measure => simp [intOf]; omega
    · have hd : ((s.size : Int) ≤ k) ∨ ((k : Int) < s.size ∧ (t.size : Int) ≤ k) := by omega
      clear hin
      have hcut := pickN_lt cut (s.size + 1) (by omega)
      obtain ⟨c, hc⟩ : ∃ c, c = pickN cut (s.size + 1) := ⟨_, rfl⟩
      rw [← hc] at hcut
      have Hc := Lib.hid hc
      clear hc
      have hcs : (c : Int) ≤ s.size := by omega
      have hcA : (c : Int) ≤ A.size := by rw [HsA.out]; omega
      have hD : txt (xor (bs key) (bs nonce) (bs (s.extract 0 c))) = A.extract 0 c := by
        apply bs_inj
        rw [bs_extract, bs_extract, List.drop_zero, List.drop_zero, Nat.sub_zero, HbA.out, xor_take _ _ _ _ (by rw [bs_len]; omega), bs_txt]
        exact bytes_take (xor_bytes _ _ _ (bs_bytes s)) _
      have HD := Lib.hid hD
      have hes : (s.extract 0 c).size ≤ 1000000 := by rw [ByteArray.size_extract]; omega
      clear hD
      rcases hd with hd | ⟨hd, hd2⟩
      all_goals
        go_wp2_with fail
        refine (pick_any cut (s.size + 1) (by omega) (by omega) _).mono ?_
        rw [← Hc.out]
        rintro e w5 ⟨rfl, rfl⟩
        go_wp2_with fail
        refine (xor_any key nonce _ Hk.out Hn.out hes _).mono ?_
        rw [HD.out]
        rintro e w6 ⟨rfl, K6⟩
        go_wp2
        go_ret
        exact ⟨rfl, K.thenN K6⟩
theorem twice_any (key nonce s t : ByteArray) (cut : Int) (w : World) :
    Calls Try.prog 3 #[.string key, .string nonce, .string s, .string t, .int .i64 cut] w fun e w' => e = .returned (.bool true) ∧ Keep NoB w w' := by
  by_cases h : 40 < key.size ∨ 40 < nonce.size ∨ 300 < s.size ∨ 300 < t.size
  · exact twice_long key nonce s t cut h w
  · by_cases hg : key.size = 32 ∧ nonce.size = 12
    · exact twice_good key nonce s t cut (by omega) (by omega) (by omega) (by omega) hg.1 hg.2 w
    · exact twice_bad key nonce s t cut (by omega) (by omega) (by omega) (by omega) hg w
end Go.Proofs.Ytndcoegbdkbfkaa
