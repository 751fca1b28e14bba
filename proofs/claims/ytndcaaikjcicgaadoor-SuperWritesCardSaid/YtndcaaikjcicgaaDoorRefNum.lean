/-
  DERIVED. The walks of the reference's Num, of sum.Num at any number.
-/
import Derived.Test.YtndcaaikjcicgaaDoorNew
set_option linter.unusedVariables false
set_option linter.unusedSimpArgs false
namespace Go.Cof
open Go.RowKit
/-- A number's bits, read without a sign. -/
def u64n (i : Int) : Nat := (i % 18446744073709551616).toNat
theorem u64n_lt (i : Int) : u64n i < 18446744073709551616 := by unfold u64n; omega
theorem u64n_cast (i : Int) : i % 18446744073709551616 = (u64n i : Int) := by unfold u64n; omega
theorem u64n_nat (n : Nat) (h : n < 18446744073709551616) : u64n n = n := by unfold u64n; omega
/-- The last k of eight bytes, the greatest first. -/
def lowBytes (n : Nat) : Nat → List Nat
  | 0 => []
  | k + 1 => n / 256 ^ k % 256 :: lowBytes n k
theorem pow256 (k : Nat) : 256 ^ k = 2 ^ (8 * k) := by rw [Nat.pow_mul]
theorem be64To_low (n : Nat) : ∀ k j, k + j = 8 → be64To n k ++ lowBytes n j = be64To n 8 := by
  intro k j h
  induction j generalizing k with
  | zero => obtain rfl : k = 8 := by omega
            rw [lowBytes, List.append_nil]
  | succ j ih =>
    rw [← ih (k + 1) (by omega), lowBytes, be64To, List.append_assoc, pow256, show 7 - k = j by omega]; rfl
theorem lowBytes_eight (n : Nat) : lowBytes n 8 = be64 n := by
  have := be64To_low n 0 8 rfl
  rw [be64To, List.nil_append] at this
  exact this
theorem lowBytes_len (n k : Nat) : (lowBytes n k).length = k := by
  induction k with
  | zero => rfl
  | succ k ih => rw [lowBytes, List.length_cons, ih]
end Go.Cof
namespace Go.Proofs.YtndcaaikjcicgaaDoor
open Go.RowKit Go.Cof
set_option maxRecDepth 100000 in
set_option maxHeartbeats 4000000 in
theorem num_int (i : Int) (w : World) :
    Calls Tryd.prog 17 #[.int .i64 i] w fun e w' => e = .returned (.string (txt (be64 (u64n i)))) ∧ Keep NoB w w' := by
  obtain ⟨i0, hi0, hz0, hz1, hz2⟩ := info_parts info_u8
  have hu : IntKind.u64.wrap i = (u64n i : Int) := by rw [IntKind.wrap_u64]; exact u64n_cast i
  obtain ⟨n, hn⟩ : ∃ n, n = u64n i := ⟨_, rfl⟩
  rw [← hn]
  rw [← hn] at hu
  clear hn
  go_enter Tryd.func17, Tryd.ntmps17
  go_wp2
  go_loopw [3, 4] (fun v i wr => ∃ k : Nat, k ≤ 8 ∧ i = .int .i64 (7 - (k : Int)) ∧ Keep NoB w wr ∧ wr.ownsRow w.heap.size 5 1 v (be64To n k).length (u8s (be64To n k))) (fun _ i _ => (intOf i + 1).toNat)
  case atStart => exact ⟨0, by omega, rfl, Keep.refl _ _, World.ownsRow_nil _ _ _ _⟩
  case round =>
    obtain ⟨k, hk, rfl, K, hown⟩ := hrel
    by_cases hlt : k < 8
    · have j1 : (0 : Int) ≤ 7 - k := by omega
      obtain ⟨q, hq⟩ : ∃ q, q = 7 - k := ⟨_, rfl⟩
      have hq2 : (7 : Int) - k = q := by omega
      rw [hq2]
      have hq3 : (0 : Int) ≤ q := by omega
      have hq4 : (q : Int) ≤ 7 := by omega
      have hq5 : (8 * (q : Int)).toNat = 8 * q := by omega
      clear hq2 j1
      have Hq := Lib.hid hq
      clear hq
      have hlen : (be64To n k).length = k := be64To_len _ _
      have Hlen := Lib.hid hlen
      clear hlen
      go_wp2_with (first | (at_builtin; refine wpList_append_own _ rfl _ _ 104 rfl w.heap.size 5 i0 (.int .u8 0) 1 1 Tryd.underlying104 hi0 hz0 hz1 hz2 rfl (by decide) u3 _ _ rfl (hown.alloc _) ⟨wr.heap.size, 0, none⟩ 1 1 _ rfl rfl (cells_new _ _ _) (ones1 _ _) (by rw [Hlen.out]; unfold maxLen; omega) (by rw [Hlen.out]; omega) (by have := K.size; simp; omega) ?_; intro v' w' hown' hgrow _))
      have e2 : u8s (be64To n k) ++ [Value.int .u8 ((n : Int) / 2 ^ (8 * q) % 256)] = u8s (be64To n (k + 1)) := by
        rw [Hq.out, shr_byte, be64To_snoc]
      have e3 : (be64To n k).length + 1 = (be64To n (k + 1)).length := by rw [be64To, List.length_append]; rfl
      rw [e2, e3] at hown'
      have K2 : Keep NoB w w' := (K.alloc _).grown hgrow (fun b hb => .inr (hown.lt b hb).1)
      have hq6 : (q : Int) - 1 = 7 - ((k + 1 : Nat) : Int) := by rw [Hq.out]; omega
      clear e2 e3 hgrow hown hq3 hq5
      refine ⟨⟨k + 1, by omega, by rw [hq6], K2, hown'⟩, by simp [intOf]⟩
    · obtain rfl : k = 8 := by omega
      have hcv := run_string_own (P := Tryd.prog) hown Tryd.underlying104 Tryd.underlying5 Tryd.underlying9
      go_wp2_with fail
      go_ret
      exact ⟨rfl, K⟩
set_option maxRecDepth 100000 in
set_option maxHeartbeats 4000000 in
theorem refNum_int (i : Int) (w : World) :
    Calls Tryd.prog 18 #[.int .i64 i] w fun e w' => e = .returned (.string (txt (be64 (u64n i)))) ∧ Keep NoB w w' := by
  have hu : IntKind.u64.wrap i = (u64n i : Int) := by rw [IntKind.wrap_u64]; exact u64n_cast i
  obtain ⟨n, hn⟩ : ∃ n, n = u64n i := ⟨_, rfl⟩
  have hnl : n < 18446744073709551616 := by rw [hn]; exact u64n_lt i
  rw [← hn]
  rw [← hn] at hu
  clear hn
  go_enter Tryd.func18, Tryd.ntmps18
  go_wp2
  go_loopw [3, 4, 7] (fun s u i wr => ∃ (k m : Nat) (A : ByteArray), k ≤ 8 ∧ i = .int .i64 k ∧ u = .int .u64 m ∧ Hid (m = n / 256 ^ k) ∧ s = .string A ∧ Hid (bs A = lowBytes n k) ∧ Keep NoB w wr) (fun _ _ i _ => 8 - (intOf i).toNat)
  case atStart => exact ⟨0, n, _, by omega, rfl, rfl, by show n = n / 256 ^ 0; rw [Nat.pow_zero, Nat.div_one], rfl, rfl, Keep.refl _ _⟩
  case round =>
    clear hu
    obtain ⟨k, m, A, hk, rfl, rfl, hm, rfl, hA, K⟩ := hrel
    have hml : (m : Int) < 18446744073709551616 := by
      have := Nat.div_le_self n (256 ^ k)
      rw [← hm.out] at this
      omega
    by_cases hlt : k < 8
    · have j1 : (k : Int) < 8 := by omega
      obtain ⟨b, hb⟩ : ∃ b, b = m % 256 := ⟨_, rfl⟩
      have e1 : (m : Int) % 256 = (b : Int) := by omega
      have hb256 : b < 256 := by omega
      obtain ⟨m2, hm2⟩ : ∃ m2, m2 = m / 256 := ⟨_, rfl⟩
      have e2 : (m : Int) / 256 = (m2 : Int) := by omega
      have Hm2 : Hid (m2 = n / 256 ^ (k + 1)) := by show _ = _; rw [hm2, hm.out, Nat.div_div_eq_div_mul, Nat.pow_succ]
      have hA2 : Hid (bs (txt [b] ++ A) = lowBytes n (k + 1)) := by
        show bs _ = _
        rw [bs_append, bs_txt (fun y hy => by obtain rfl := List.mem_singleton.1 hy; exact hb256), hA.out, lowBytes, ← hm.out, ← hb]; rfl
      have hcat : ¬ (9223372036854775807 < (txt [b]).size + A.size) := by
        have hAs : A.size = k := by rw [← bs_len, hA.out, lowBytes_len]
        rw [txt_size, hAs]; simp; omega
      have hso := fun w => run_string_one (P := Tryd.prog) w (E := 5) Tryd.underlying104 Tryd.underlying5 Tryd.underlying9 (b : Int) b rfl
      have hbi : (b : Int) ≤ 255 := by omega
      clear hb hm2 hb256
      go_wp2_with fail
      exact ⟨⟨k + 1, m2, _, by omega, by go_num, rfl, Hm2, rfl, hA2, K.alloc _⟩, by simp [intOf]; omega⟩
    · have hk8 : k = 8 := by omega
      have j1 : decide ((k : Int) < 8) = false := by simp; omega
      have hfin : A = txt (be64 n) := by
        apply bs_inj
        rw [hA.out, hk8, lowBytes_eight, bs_txt (show Bytes (be64 n) from be64To_bytes _ _)]
      have Hfin := Lib.hid hfin
      clear hk8 hlt hk hfin
      go_wp2_with fail
      go_ret
      exact ⟨congrArg (fun t => Ending.returned (.string t)) Hfin.out, K⟩
end Go.Proofs.YtndcaaikjcicgaaDoor
