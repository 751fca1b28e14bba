/-
  DERIVED. The walk of the reference's Xor.
-/
import Derived.Test.YtndcaaikjcicgaaDoorRefBlock
set_option linter.unusedVariables false
set_option linter.unusedSimpArgs false
namespace Go.Proofs.YtndcaaikjcicgaaDoor
open Go.RowKit Go.Cof

set_option maxRecDepth 100000 in
set_option maxHeartbeats 4000000 in
theorem refBlock_err (key nonce : ByteArray) (n : Int) (h : ¬ (key.size = 32 ∧ nonce.size = 12 ∧ 0 ≤ n ∧ n < 4294967296)) (w : World) :
    Calls Tryd.prog 122 #[.string key, .int .i64 n, .string nonce] w fun e w' => e = .returned (.tuple #[.string (txt []), .int .i64 1]) ∧ Keep NoB w w' := by
  by_cases h1 : key.size = 32
  · have b1 : ((key.size : Int) != 32) = false := by rw [h1]; rfl
    have H1 := Lib.hid h1
    by_cases h2 : nonce.size = 12
    · have b2 : ((nonce.size : Int) != 12) = false := by rw [h2]; rfl
      have h3 : ¬ (0 ≤ n ∧ n ≤ 4294967295) := fun e => h ⟨h1, h2, by omega, by omega⟩
      clear h h1 h2
      go_enter Tryd.func122, Tryd.ntmps122
      go_wp2_with fail
      refine (in_no n 0 4294967295 h3 w).mono ?_
      rintro e w2 ⟨rfl, rfl⟩
      go_wp2
      go_ret2
      exact ⟨rfl, Keep.refl _ _⟩
    · have b2 : ((nonce.size : Int) != 12) = true := by simp; omega
      clear h h1 h2
      go_enter Tryd.func122, Tryd.ntmps122
      go_wp2
      go_ret2
      exact ⟨rfl, Keep.refl _ _⟩
  · have b1 : ((key.size : Int) != 32) = true := by simp; omega
    clear h h1
    go_enter Tryd.func122, Tryd.ntmps122
    go_wp2
    go_ret2
    exact ⟨rfl, Keep.refl _ _⟩
theorem refBlock_at (key nonce : ByteArray) (i : Int) (n : Nat) (hi : i = n) (hk : key.size = 32) (hn : nonce.size = 12) (h1 : n < 4294967296) (w : World) :
    Calls Tryd.prog 122 #[.string key, .int .i64 i, .string nonce] w fun e w' => e = .returned (.tuple #[.string (txt (block (bs key) n (bs nonce))), .int .i64 0]) ∧ Keep NoB w w' := by
  subst hi
  exact refBlock_any key nonce n hk hn h1 w
/-- Blocks, from number 1 on. -/
def blocks (key nonce : List Nat) : Nat → List Nat
  | 0 => []
  | m + 1 => blocks key nonce m ++ block key (1 + m) nonce
theorem blocks_len (key nonce : List Nat) (m : Nat) : (blocks key nonce m).length = 64 * m := by
  induction m with
  | zero => rfl
  | succ m ih => rw [blocks, List.length_append, ih, block_len]; omega
theorem blocks_at (key nonce : List Nat) (m i : Nat) (h : i < 64 * m) : (blocks key nonce m).getD i 0 = padAt key nonce i := by
  induction m with
  | zero => omega
  | succ m ih =>
    rw [blocks, List.getD_eq_getElem?_getD]
    by_cases hi : i < 64 * m
    · rw [List.getElem?_append_left (by rw [blocks_len]; exact hi), ← List.getD_eq_getElem?_getD, ih hi]
    · rw [List.getElem?_append_right (by rw [blocks_len]; omega), blocks_len, ← List.getD_eq_getElem?_getD, padAt, show i / 64 = m by omega, show i % 64 = i - 64 * m by omega]
theorem blocks_bytes (key nonce : List Nat) (m : Nat) : Bytes (blocks key nonce m) := by
  induction m with
  | zero => intro x hx; simp [blocks] at hx
  | succ m ih =>
    rw [blocks]
    intro x hx
    rcases List.mem_append.1 hx with h | h
    · exact ih x h
    · exact block_bytes _ _ _ x h
set_option maxRecDepth 100000 in
set_option maxHeartbeats 4000000 in
theorem refXor_err (key nonce s : ByteArray) (h : ¬ (key.size = 32 ∧ nonce.size = 12)) (w : World) :
    Calls Tryd.prog 98 #[.string key, .string nonce, .string s] w fun e w' => e = .returned (.tuple #[.string (txt []), .int .i64 1]) ∧ Keep NoB w w' := by
  go_enter Tryd.func98, Tryd.ntmps98
  go_wp2_with fail
  refine wp_loop_rounds 1 ?_
  rw [rounds_succ]
  by_cases h0 : 0 < s.size
  all_goals
    go_wp2_with fail
    refine (refBlock_err key nonce 1 (fun hh => h ⟨hh.1, hh.2.1⟩) _).mono ?_
    rintro e w2 ⟨rfl, K2⟩
    go_wp2
    go_ret2
    exact ⟨rfl, K2⟩
set_option maxRecDepth 100000 in
set_option maxHeartbeats 4000000 in
theorem refXor_any (key nonce s : ByteArray) (hk0 : key.size = 32) (hn0 : nonce.size = 12) (hs : s.size ≤ 1000000) (w : World) :
    Calls Tryd.prog 98 #[.string key, .string nonce, .string s] w fun e w' => e = .returned (.tuple #[.string (txt (xor (bs key) (bs nonce) (bs s))), .int .i64 0]) ∧ Keep NoB w w' := by
  have Hk := Lib.hid hk0
  have Hn := Lib.hid hn0
  clear hk0 hn0
  go_enter Tryd.func98, Tryd.ntmps98
  go_wp2_with fail
  go_loopw [8, 9] (fun a i wr => ∃ (m : Nat) (A : ByteArray), 64 * m < s.size + 128 ∧ i = .int .i64 (1 + (m : Int)) ∧ a = .string A ∧ Hid (bs A = blocks (bs key) (bs nonce) m) ∧ Keep NoB w wr) (fun _ i _ => s.size + 128 - 64 * (intOf i).toNat)
  case atStart => exact ⟨0, ⟨#[]⟩, by omega, rfl, rfl, rfl, Keep.refl _ _⟩
  case round =>
    obtain ⟨m, A, hm, rfl, rfl, hA, K⟩ := hrel
    have hsz : A.size = 64 * m := by
      have := congrArg List.length hA.out
      rwa [bs_len, blocks_len] at this
    by_cases hgo : 64 * m < s.size ∨ m = 0
    · have hd : ((A.size : Int) < s.size) ∨ ((s.size : Int) ≤ A.size ∧ (m : Int) = 0) := by omega
      have hm64 : m < 100000 := by omega
      have Hsz := Lib.hid hsz
      clear hsz hgo
      have hA2 : Hid (bs (A ++ txt (block (bs key) (1 + m) (bs nonce))) = blocks (bs key) (bs nonce) (m + 1)) := by
        show bs _ = _
        rw [bs_append, hA.out, bs_txt (block_bytes _ _ _), blocks]
      have hcat : ¬ (9223372036854775807 < A.size + (txt (block (bs key) (1 + m) (bs nonce))).size) := by
        rw [txt_size, block_len, Hsz.out]; omega
      have Hcat := Lib.hid hcat
      clear hcat
      rcases hd with hd | ⟨hd, hd0⟩
      · go_wp2_with fail
        refine (refBlock_at key nonce _ (1 + m) (by omega) Hk.out Hn.out (by omega) _).mono ?_
        rintro e w2 ⟨rfl, K2⟩
        have hcat := Hcat.out
        go_wp2_with fail
        rw [Hsz.out] at hd
        exact ⟨⟨m + 1, _, by omega, by go_num, rfl, hA2, K.thenN K2⟩, by simp [intOf]; omega⟩
      · obtain rfl : m = 0 := by omega
        go_wp2_with fail
        refine (refBlock_at key nonce _ (1 + 0) (by omega) Hk.out Hn.out (by omega) _).mono ?_
        rintro e w2 ⟨rfl, K2⟩
        have hcat := Hcat.out
        go_wp2_with fail
        exact ⟨⟨0 + 1, _, by omega, by go_num, rfl, hA2, K.thenN K2⟩, by simp [intOf]⟩
    · have hd1 : (s.size : Int) ≤ A.size := by omega
      have d0 : decide (A.size < s.size) = false := by simp; omega
      have hd2 : ((1 + (m : Int)) == 1) = false := by simp; omega
      have hcv := Lib.run_convert_string_bytes (P := Tryd.prog) wr 9 104 5 s Tryd.underlying9 Tryd.underlying104 Tryd.underlying5
      have hge : Hid (s.size ≤ 64 * m) := by show _ ≤ _; omega
      have Hsz := Lib.hid hsz
      clear hsz hgo
      go_wp2_with fail
      obtain ⟨cap, hcap⟩ : ∃ c, c = grownCap wr s.size 0 5 := ⟨_, rfl⟩
      rw [← hcap]
      obtain ⟨BT, hBT⟩ : ∃ b, b = wr.heap.size := ⟨_, rfl⟩
      have hge2 : w.heap.size ≤ BT := by rw [hBT]; exact K.size
      refine wp_world (fun w1 => Keep NoB w w1 ∧ BRow w1 BT 5 (xorTo (bs key) (bs nonce) (bs s) 0)) ⟨K.bytesWorld _ _, by rw [hBT]; exact BRow.ofBytes wr _ s⟩ ?_
      rw [← hBT]
      clear hcv hcap hd1 hd2 d0 K hBT
      intro w1 hw1
      obtain ⟨K, R⟩ := hw1
      go_loopw [42] (fun i wr => ∃ j : Nat, j ≤ s.size ∧ i = .int .i64 j ∧ BRow wr BT 5 (xorTo (bs key) (bs nonce) (bs s) j) ∧ Keep NoB w wr) (fun i _ => s.size - (intOf i).toNat)
      case atStart => exact ⟨0, by omega, rfl, R, K⟩
      case round =>
        clear R K w1
        obtain ⟨j, hj, rfl, R, K⟩ := hrel
        by_cases hlt : j < s.size
        · have d1 : (j : Int) < s.size := by omega
          have d2 : j < A.size := by have := Hsz.out; have := hge.out; omega
          have d3 : (j : Int) < A.size := by omega
          have c1 := R.cell j (by rw [xorTo_len, bs_len]; omega)
          have f1 := R.free j (by rw [xorTo_len, bs_len]; omega)
          go_wp2_with fail
          refine wp_region_qt_drew 9 (by kernel_rfl) (by kernel_rfl) ?_
          simp only [List.take_succ_cons, List.take_zero, List.drop_succ_cons, List.drop_zero]
          repeat (quiet_step (fail))
          refine wpQuiet_nil ?_
          intro nq
          go_wp2
          have hT : A[j].toNat = padAt (bs key) (bs nonce) j := by
            have := Hsz.out
            rw [← bs_getD A j d2, hA.out, blocks_at _ _ _ _ (by omega)]
          have hx : bits .xor .u8 (((xorTo (bs key) (bs nonce) (bs s) j).getD j 0 : Nat) : Int) (A[j].toNat : Int) = (((xorTo (bs key) (bs nonce) (bs s) j).getD j 0 ^^^ padAt (bs key) (bs nonce) j : Nat) : Int) := by
            rw [hT]; exact xor_u8 _ _ (xorTo_lt _ _ _ (bs_bytes s) _ _) (padAt_lt _ _ _)
          simp only [List.getD_eq_getElem?_getD] at hx
          have R' : BRow ((wr.drewN nq).setCell ⟨BT, j, none⟩ (.int .u8 (bits .xor .u8 (((xorTo (bs key) (bs nonce) (bs s) j)[j]?.getD 0 : Nat) : Int) (A[j].toNat : Int)))) BT 5 (xorTo (bs key) (bs nonce) (bs s) (j + 1)) :=
            (R.drewN nq).store j (by rw [xorTo_len, bs_len]; omega) hx
          have K' : Keep NoB w ((wr.drewN nq).setCell ⟨BT, j, none⟩ (.int .u8 (bits .xor .u8 (((xorTo (bs key) (bs nonce) (bs s) j)[j]?.getD 0 : Nat) : Int) (A[j].toNat : Int)))) := (K.drewN nq).setCell (p := ⟨BT, j, none⟩) (.inr hge2) _
          clear hx hT
          go_roundw
          case rel => first | exact ⟨j + 1, by omega, by go_num, R', K'⟩ | ((repeat apply Exists.intro); exact ⟨⟨j + 1, by omega, by go_num, R', K'⟩, rfl⟩)
          case measure => simp [intOf]; omega
        · obtain rfl : j = s.size := by omega
          rw [xorTo_ge _ _ _ _ (by rw [bs_len]; omega)] at R
          have hcv := run_string_row (P := Tryd.prog) (cap := cap) R Tryd.underlying104 Tryd.underlying5 Tryd.underlying9
          rw [xor_len, bs_len] at hcv
          go_wp2_with fail
          go_ret2
          exact ⟨rfl, K⟩
end Go.Proofs.YtndcaaikjcicgaaDoor
