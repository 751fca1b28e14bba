/-
  DERIVED. The walk of stream.Xor.
-/
import Derived.Test.YtndcaaikjcicgaaDoorStream
import Derived.WideLaws
set_option linter.unusedVariables false
set_option linter.unusedSimpArgs false
namespace Go.Proofs.YtndcaaikjcicgaaDoor
open Go.RowKit Go.Cof

set_option maxRecDepth 100000 in
set_option maxHeartbeats 4000000 in
theorem block_err (key nonce : ByteArray) (n : Int) (h : ¬ (key.size = 32 ∧ nonce.size = 12 ∧ 0 ≤ n ∧ n < 4294967296)) (w : World) :
    Calls Tryd.prog 123 #[.string key, .int .i64 n, .string nonce] w fun e w' => e = .returned (.tuple #[.string (txt []), (.iface 37 (.int .i64 1))]) ∧ Keep NoB w w' := by
  have hp : (n < 0 ∨ 4294967296 ≤ n) ∨ (0 ≤ n ∧ n < 4294967296) := by omega
  by_cases h1 : key.size = 32
  · have b1 : ((key.size : Int) != 32) = false := by rw [h1]; rfl
    have H1 := Lib.hid h1
    by_cases h2 : nonce.size = 12
    · have b2 : ((nonce.size : Int) != 12) = false := by rw [h2]; rfl
      by_cases h3 : n < 0
      · have b3 : decide (n < 0) = true := by simp; omega
        clear h h1 h2 hp
        go_enter Tryd.func123, Tryd.ntmps123
        go_wp2
        go_ret2
        exact ⟨rfl, Keep.refl _ _⟩
      · have b3 : decide (n < 0) = false := by simp; omega
        have b4 : decide (4294967296 ≤ n) = true := by simp; omega
        clear h h1 h2 hp
        go_enter Tryd.func123, Tryd.ntmps123
        go_wp2
        go_ret2
        exact ⟨rfl, Keep.refl _ _⟩
    · have b2 : ((nonce.size : Int) != 12) = true := by simp; omega
      clear h h1 h2 hp
      go_enter Tryd.func123, Tryd.ntmps123
      go_wp2
      go_ret2
      exact ⟨rfl, Keep.refl _ _⟩
  · have b1 : ((key.size : Int) != 32) = true := by simp; omega
    clear h h1 hp
    go_enter Tryd.func123, Tryd.ntmps123
    go_wp2
    go_ret2
    exact ⟨rfl, Keep.refl _ _⟩
theorem block_at (key nonce : ByteArray) (i : Int) (n : Nat) (hi : i = n) (hk : key.size = 32) (hn : nonce.size = 12) (h1 : n < 4294967296) (w : World) :
    Calls Tryd.prog 123 #[.string key, .int .i64 i, .string nonce] w fun e w' => e = .returned (.tuple #[.string (txt (block (bs key) n (bs nonce))), .nilIface]) ∧ Keep NoB w w' := by
  subst hi
  exact block_any key nonce n hk hn h1 w
theorem block_len (key : List Nat) (n : Nat) (nonce : List Nat) : (block key n nonce).length = 64 := outTo_len _ _ 16
theorem xorTo_ge (key nonce s : List Nat) (k : Nat) (h : s.length ≤ k) : xorTo key nonce s k = xor key nonce s := by
  induction k with
  | zero =>
    have : s = [] := List.eq_nil_of_length_eq_zero (by omega)
    subst this; rfl
  | succ k ih =>
    by_cases hk : s.length ≤ k
    · have e : xorTo key nonce s (k + 1) = xorStep key nonce k (xorTo key nonce s k) := rfl
      rw [e, xorStep, List.set_eq_of_length_le (by rw [xorTo_len]; exact hk), ih hk]
    · have : k + 1 = s.length := by omega
      rw [this]; rfl
theorem xor_u8 (a b : Nat) (ha : a < 256) (hb : b < 256) : bits .xor .u8 (a : Int) (b : Int) = ((a ^^^ b : Nat) : Int) := by
  have h8 : ∀ c : Nat, c < 256 → (BitVec.ofInt 8 (c : Int)).toNat = c := fun c hc => by
    rw [BitVec.ofInt_natCast, BitVec.toNat_ofNat]; exact Nat.mod_eq_of_lt (by omega)
  have hx : a ^^^ b < 2 ^ 8 := Nat.xor_lt_two_pow (by omega) (by omega)
  show IntKind.u8.wrap ((BitVec.ofInt 8 (a : Int) ^^^ BitVec.ofInt 8 (b : Int)).toNat : Int) = _
  rw [BitVec.toNat_xor, h8 a ha, h8 b hb, IntKind.wrap_u8]
  omega
theorem word4_bytes (x : Nat) : Bytes (word4 x) := by
  intro y hy
  simp only [word4, List.mem_cons, List.not_mem_nil, or_false] at hy
  rcases hy with rfl | rfl | rfl | rfl <;> exact Nat.mod_lt _ (by omega)
theorem outTo_bytes (t s : List Nat) (k : Nat) : Bytes (outTo t s k) := by
  induction k with
  | zero => intro x hx; simp [outTo, times] at hx
  | succ k ih =>
    rw [outTo_succ]
    intro x hx
    rcases List.mem_append.1 hx with h | h
    · exact ih x h
    · exact word4_bytes _ x h
theorem block_bytes (key : List Nat) (n : Nat) (nonce : List Nat) : Bytes (block key n nonce) := outTo_bytes _ _ 16
theorem padAt_lt (key nonce : List Nat) (i : Nat) : padAt key nonce i < 256 := bytes_getD (block_bytes _ _ _) _
theorem xorTo_lt (key nonce s : List Nat) (hs : Bytes s) (k i : Nat) : (xorTo key nonce s k).getD i 0 < 256 := by
  rw [xorTo_getD]
  split
  · have h1 := bytes_getD hs i
    have h2 := padAt_lt key nonce i
    have := Nat.xor_lt_two_pow (n := 8) (x := s.getD i 0) (y := padAt key nonce i) (by omega) (by omega)
    omega
  · exact bytes_getD hs i
set_option maxRecDepth 100000 in
set_option maxHeartbeats 4000000 in
theorem xor_err (key nonce s : ByteArray) (h : ¬ (key.size = 32 ∧ nonce.size = 12)) (w : World) :
    Calls Tryd.prog 100 #[.string key, .string nonce, .string s] w fun e w' => e = .returned (.tuple #[.string (txt []), (.iface 37 (.int .i64 1))]) ∧ Keep NoB w w' := by
  have hcv := Lib.run_convert_string_bytes (P := Tryd.prog) w 9 104 5 s Tryd.underlying9 Tryd.underlying104 Tryd.underlying5
  go_enter Tryd.func100, Tryd.ntmps100
  go_wp2_with fail
  refine wp_world (fun w1 => Keep NoB w w1) ((Keep.refl _ _).bytesWorld _ _) ?_
  intro w1 K
  clear hcv
  refine wp_loop_rounds 1 ?_
  rw [rounds_succ]
  by_cases h0 : 0 < s.size
  all_goals
    go_wp2_with fail
    refine (block_err key nonce 1 (fun hh => h ⟨hh.1, hh.2.1⟩) _).mono ?_
    rintro e w2 ⟨rfl, K2⟩
    go_wp2
    go_ret2
    exact ⟨rfl, K.thenN K2⟩
theorem block_is (key nonce : ByteArray) (i : Int) (n : Nat) (hi : i = n) (hk : key.size = 32) (hn : nonce.size = 12) (h1 : n < 4294967296) (w : World) :
    Calls Tryd.prog 123 #[.string key, .int .i64 i, .string nonce] w fun e w' => ∃ T, e = .returned (.tuple #[.string T, .nilIface]) ∧ Hid (bs T = block (bs key) n (bs nonce)) ∧ Keep NoB w w' :=
  (block_at key nonce i n hi hk hn h1 w).mono fun _ _ ⟨he, hK⟩ => ⟨_, he, bs_txt (block_bytes _ _ _), hK⟩
set_option maxRecDepth 100000 in
set_option maxHeartbeats 4000000 in
theorem xor_pos (key nonce s : ByteArray) (hk0 : key.size = 32) (hn0 : nonce.size = 12) (hpos : 0 < s.size) (hs : s.size ≤ 1000000) (w : World) :
    Calls Tryd.prog 100 #[.string key, .string nonce, .string s] w fun e w' => e = .returned (.tuple #[.string (txt (xor (bs key) (bs nonce) (bs s))), .nilIface]) ∧ Keep NoB w w' := by
  have Hk := Lib.hid hk0
  have Hn := Lib.hid hn0
  clear hk0 hn0
  have hcv := Lib.run_convert_string_bytes (P := Tryd.prog) w 9 104 5 s Tryd.underlying9 Tryd.underlying104 Tryd.underlying5
  go_enter Tryd.func100, Tryd.ntmps100
  go_wp2_with fail
  obtain ⟨cap, hcap⟩ : ∃ c, c = grownCap w s.size 0 5 := ⟨_, rfl⟩
  rw [← hcap]
  refine wp_world (fun w1 => Keep NoB w w1 ∧ BRow w1 w.heap.size 5 (xorTo (bs key) (bs nonce) (bs s) 0)) ⟨(Keep.refl _ _).bytesWorld _ _, BRow.ofBytes w _ s⟩ ?_
  clear hcv hcap
  intro w1 hw1
  obtain ⟨K, R⟩ := hw1
  go_loopw [9] (fun i wr => ∃ m : Nat, 64 * m < s.size + 64 ∧ i = .int .i64 (64 * (m : Int)) ∧ BRow wr w.heap.size 5 (xorTo (bs key) (bs nonce) (bs s) (64 * m)) ∧ Keep NoB w wr) (fun i _ => s.size + 64 - (intOf i).toNat)
  case atStart => exact ⟨0, by omega, rfl, R, K⟩
  case round =>
    clear R K w1
    obtain ⟨m, hm, rfl, R, K⟩ := hrel
    have hmb : (64 * m : Nat) ≤ 2000000 := by omega
    by_cases hgo : 64 * m < s.size
    · have hd : 64 * (m : Int) < (s.size : Int) := by omega
      go_wp2_with fail
      refine (block_is key nonce _ (1 + m) (by omega) Hk.out Hn.out (by omega) _).mono ?_
      rintro e w2 ⟨T, rfl, HT, K2⟩
      have R2 := R.keep K2 (fun x => x)
      have K3 := K.thenN K2
      have HTs : Hid (T.size = 64) := by
        have := congrArg List.length HT.out
        rw [bs_len, block_len] at this
        exact this
      clear R K K2
      go_wp2_with fail
      refine wp_world (fun w1 => BRow w1 w.heap.size 5 (xorTo (bs key) (bs nonce) (bs s) (64 * m)) ∧ Keep NoB w w1) ⟨R2, K3⟩ ?_
      clear R2 K3 w2 wr
      intro w1 hw1
      obtain ⟨R, K⟩ := hw1
      go_loopw [12] (fun kv wr => ∃ j : Nat, 64 * m ≤ j ∧ j ≤ 64 * m + 64 ∧ j ≤ s.size ∧ kv = .int .i64 j ∧ BRow wr w.heap.size 5 (xorTo (bs key) (bs nonce) (bs s) j) ∧ Keep NoB w wr) (fun kv _ => 64 * m + 64 - (intOf kv).toNat)
      case atStart => exact ⟨64 * m, by omega, by omega, by omega, by go_num, R, K⟩
      case round =>
        clear R K w1
        obtain ⟨j, hj1, hj2, hj3, rfl, R, K⟩ := hrel
        by_cases hin : j < s.size ∧ j < 64 * m + 64
        · obtain ⟨hjs, hj64⟩ := hin
          have d1 : (j : Int) < s.size := by omega
          have d2 : (j : Int) < 64 * (m : Int) + 64 := by omega
          obtain ⟨q, hq⟩ : ∃ q, j = 64 * m + q := ⟨j - 64 * m, by omega⟩
          have Hq := Lib.hid hq
          clear hq
          have d3 : IntKind.i64.wrap ((j : Int) - 64 * (m : Int)) = (q : Int) := by rw [IntWalk.i64_in _ (by omega)]; have := Hq.out; omega
          have d4 : q < T.size := by rw [HTs.out]; have := Hq.out; omega
          have c1 := R.cell j (by rw [xorTo_len, bs_len]; omega)
          have f1 := R.free j (by rw [xorTo_len, bs_len]; omega)
          go_wp2_with fail
          refine wp_region_qt_drew 11 (by kernel_rfl) (by kernel_rfl) ?_
          simp only [List.take_succ_cons, List.take_zero, List.drop_succ_cons, List.drop_zero]
          repeat (quiet_step (fail))
          refine wpQuiet_nil ?_
          intro nq
          go_wp2
          have hT : T[q].toNat = padAt (bs key) (bs nonce) j := by
            rw [← bs_getD T q d4, HT.out]
            unfold padAt
            have e := Hq.out
            rw [show j / 64 = m by omega, show j % 64 = q by omega]
          have hx : bits .xor .u8 (((xorTo (bs key) (bs nonce) (bs s) j).getD j 0 : Nat) : Int) (T[q].toNat : Int) = (((xorTo (bs key) (bs nonce) (bs s) j).getD j 0 ^^^ padAt (bs key) (bs nonce) j : Nat) : Int) := by
            rw [hT]; exact xor_u8 _ _ (xorTo_lt _ _ _ (bs_bytes s) _ _) (padAt_lt _ _ _)
          simp only [List.getD_eq_getElem?_getD] at hx
          have R' : BRow ((wr.drewN nq).setCell ⟨w.heap.size, j, none⟩ (.int .u8 (bits .xor .u8 (((xorTo (bs key) (bs nonce) (bs s) j)[j]?.getD 0 : Nat) : Int) (T[q].toNat : Int)))) w.heap.size 5 (xorTo (bs key) (bs nonce) (bs s) (j + 1)) :=
            (R.drewN nq).store j (by rw [xorTo_len, bs_len]; omega) hx
          have K' : Keep NoB w ((wr.drewN nq).setCell ⟨w.heap.size, j, none⟩ (.int .u8 (bits .xor .u8 (((xorTo (bs key) (bs nonce) (bs s) j)[j]?.getD 0 : Nat) : Int) (T[q].toNat : Int)))) := (K.drewN nq).setCell (p := ⟨w.heap.size, j, none⟩) (.inr (Nat.le_refl _)) _
          clear hx hT
          go_roundw
          case rel => first | exact ⟨j + 1, by omega, by omega, by omega, by go_num, R', K'⟩ | ((repeat apply Exists.intro); exact ⟨⟨j + 1, by omega, by omega, by omega, by go_num, R', K'⟩, rfl⟩)
          case measure => simp [intOf]; omega
        · have d1 : ((j : Int) < s.size ∧ 64 * (m : Int) + 64 ≤ (j : Int)) ∨ ((s.size : Int) ≤ (j : Int)) := by omega
          clear hin
          have R' : BRow wr w.heap.size 5 (xorTo (bs key) (bs nonce) (bs s) (64 * (m + 1))) := by
            by_cases h : j = 64 * (m + 1)
            · rw [← h]; exact R
            · have e : j = s.size := by omega
              rw [xorTo_ge _ _ _ _ (by rw [bs_len]; omega)]
              rw [xorTo_ge _ _ _ _ (by rw [bs_len]; omega)] at R
              exact R
          clear R
          rcases d1 with ⟨d1, d2⟩ | d1
          all_goals
            go_wp2
            go_roundw
            case rel => first | exact ⟨m + 1, by omega, by go_num, R', K⟩ | ((repeat apply Exists.intro); exact ⟨⟨m + 1, by omega, by go_num, R', K⟩, rfl⟩)
            case measure => simp [intOf]; omega
    · have hd : (s.size : Int) ≤ 64 * (m : Int) := by omega
      have hm0 : (64 * (m : Int) == 0) = false := by simp; omega
      have hm1 : ((m : Int) == 0) = false := by simp; omega
      rw [xorTo_ge _ _ _ _ (by rw [bs_len]; omega)] at R
      have hcv := run_string_row (P := Tryd.prog) (cap := cap) R Tryd.underlying104 Tryd.underlying5 Tryd.underlying9
      rw [xor_len, bs_len] at hcv
      go_wp2
      go_ret2
      exact ⟨rfl, K⟩
set_option maxRecDepth 100000 in
set_option maxHeartbeats 4000000 in
theorem xor_empty (key nonce : ByteArray) (hk0 : key.size = 32) (hn0 : nonce.size = 12) (w : World) :
    Calls Tryd.prog 100 #[.string key, .string nonce, .string ByteArray.empty] w fun e w' => e = .returned (.tuple #[.string (txt []), .nilIface]) ∧ Keep NoB w w' := by
  have Hk := Lib.hid hk0
  have Hn := Lib.hid hn0
  clear hk0 hn0
  have hcv := Lib.run_convert_string_bytes (P := Tryd.prog) w 9 104 5 ByteArray.empty Tryd.underlying9 Tryd.underlying104 Tryd.underlying5
  go_enter Tryd.func100, Tryd.ntmps100
  go_wp2_with fail
  obtain ⟨cap, hcap⟩ : ∃ c, c = grownCap w 0 0 5 := ⟨_, rfl⟩
  rw [← hcap]
  refine wp_world (fun w1 => Keep NoB w w1 ∧ BRow w1 w.heap.size 5 (bs ByteArray.empty)) ⟨(Keep.refl _ _).bytesWorld _ _, BRow.ofBytes w _ _⟩ ?_
  clear hcv hcap
  intro w1 hw1
  obtain ⟨K, R⟩ := hw1
  refine wp_loop_rounds 2 ?_
  rw [rounds_succ]
  go_wp2_with fail
  refine (block_is key nonce _ 1 (by rfl) Hk.out Hn.out (by omega) _).mono ?_
  rintro e w2 ⟨T, rfl, HT, K2⟩
  have R2 := R.keep K2 (fun x => x)
  have K3 := K.thenN K2
  clear R K K2
  go_wp2_with fail
  refine wp_loop_rounds 1 ?_
  rw [rounds_succ]
  go_wp2_with fail
  rw [rounds_succ]
  have hcv := run_string_row (P := Tryd.prog) (cap := cap) R2 Tryd.underlying104 Tryd.underlying5 Tryd.underlying9
  have e0 : (bs ByteArray.empty).length = 0 := rfl
  rw [e0] at hcv
  go_wp2
  go_ret2
  exact ⟨rfl, K3⟩
theorem xor_any (key nonce s : ByteArray) (hk0 : key.size = 32) (hn0 : nonce.size = 12) (hs : s.size ≤ 1000000) (w : World) :
    Calls Tryd.prog 100 #[.string key, .string nonce, .string s] w fun e w' => e = .returned (.tuple #[.string (txt (xor (bs key) (bs nonce) (bs s))), .nilIface]) ∧ Keep NoB w w' := by
  by_cases h : 0 < s.size
  · exact xor_pos key nonce s hk0 hn0 h hs w
  · have hz : bs s = [] := List.eq_nil_of_length_eq_zero (by rw [bs_len]; omega)
    have e : s = ByteArray.empty := bs_inj (by rw [hz]; rfl)
    subst e
    rw [hz]
    exact xor_empty key nonce hk0 hn0 w
end Go.Proofs.YtndcaaikjcicgaaDoor
