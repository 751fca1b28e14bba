/-
  DERIVED. The walk of sum.block.
-/
import Derived.Test.YtndcaaikjcicgaaDoorWord
set_option linter.unusedVariables false
set_option linter.unusedSimpArgs false
namespace Go.Proofs.YtndcaaikjcicgaaDoor
open Go.RowKit Go.Cof

theorem sumTurn_any (x : Int) (X n : Nat) (hx : X < 4294967296) (he : x = X) (hn : n ≤ 32) (w : World) :
    Calls Tryd.prog 107 #[.int .u32 x, .int .i64 n] w fun e w' => e = .returned (.int .u32 (rotr X n)) ∧ ∃ k, w' = w.drewN k := by
  subst he
  go_enter Tryd.func107, Tryd.ntmps107
  go_wp2
  go_quiet (fail)
  go_wp2
  go_ret
  exact ⟨ret_u32' (w32_rotr X n hx), ⟨_, rfl⟩⟩
theorem sumTurn_quiet (x n : Int) (hx0 : 0 ≤ x) (hx : x < 4294967296) (hn0 : 0 ≤ n) (hn : n ≤ 32) (w : World) (k : Nat) :
    Calls Tryd.prog 107 #[.int .u32 x, .int .i64 n] (w.drewN k) fun e w'' => e = .returned (.int .u32 (rotr x.toNat n.toNat : Nat)) ∧ ∃ m, w'' = w.drewN m := by
  obtain ⟨X, rfl⟩ : ∃ X : Nat, x = X := ⟨x.toNat, by omega⟩
  obtain ⟨N, rfl⟩ : ∃ N : Nat, n = N := ⟨n.toNat, by omega⟩
  exact Calls.quiet_of (sumTurn_any _ X N (by omega) rfl (by omega) _)
/-- The sixty-four numbers lie in their variable. -/
def RoundsVar (w : World) : Prop := ∀ i, i < 64 → w.cell? ⟨0, i, none⟩ = some (.int .u32 ((roundsK.getD i 0 : Nat) : Int))
theorem RoundsVar.keep {w w' : World} (h : RoundsVar w) {S : Nat → Prop} (hk : Keep S w w') (hn : ¬ S 0) : RoundsVar w' :=
  fun i hi => by
    have h1 := h i hi
    rw [← h1]
    refine hk.cell ?_ hn
    rcases Nat.lt_or_ge 0 w.heap.size with h' | h'
    · exact h'
    · simp [World.cell?, Array.getElem?_eq_none h'] at h1
theorem rotr_xor (x a b c : Nat) (hx : x < 4294967296) (hc : c < 4294967296) : bits BinOp.xor IntKind.u32 (bits BinOp.xor IntKind.u32 ((rotr x a : Nat) : Int) ((rotr x b : Nat) : Int)) ((c : Nat) : Int) = ((rotr x a ^^^ rotr x b ^^^ c : Nat) : Int) := by
  rw [w32_xor _ _ (rotr_lt x a hx) (rotr_lt x b hx), w32_xor _ _ (w32_lt_xor _ _ (rotr_lt x a hx) (rotr_lt x b hx)) hc]
theorem small0_bits (x : Nat) (hx : x < 4294967296) : bits BinOp.xor IntKind.u32 (bits BinOp.xor IntKind.u32 ((rotr x 7 : Nat) : Int) ((rotr x 18 : Nat) : Int)) ((x : Int) / 8) = ((small0 x : Nat) : Int) := by
  have e : (x : Int) / 8 = ((x / 2 ^ 3 : Nat) : Int) := by omega
  rw [e]
  exact rotr_xor x 7 18 _ hx (Nat.lt_of_le_of_lt (Nat.div_le_self _ _) hx)
theorem small1_bits (x : Nat) (hx : x < 4294967296) : bits BinOp.xor IntKind.u32 (bits BinOp.xor IntKind.u32 ((rotr x 17 : Nat) : Int) ((rotr x 19 : Nat) : Int)) ((x : Int) / 1024) = ((small1 x : Nat) : Int) := by
  have e : (x : Int) / 1024 = ((x / 2 ^ 10 : Nat) : Int) := by omega
  rw [e]
  exact rotr_xor x 17 19 _ hx (Nat.lt_of_le_of_lt (Nat.div_le_self _ _) hx)
theorem bigE_bits (x : Nat) (hx : x < 4294967296) : bits BinOp.xor IntKind.u32 (bits BinOp.xor IntKind.u32 ((rotr x 6 : Nat) : Int) ((rotr x 11 : Nat) : Int)) ((rotr x 25 : Nat) : Int) = ((bigE x : Nat) : Int) :=
  rotr_xor x 6 11 _ hx (rotr_lt x 25 hx)
theorem bigA_bits (x : Nat) (hx : x < 4294967296) : bits BinOp.xor IntKind.u32 (bits BinOp.xor IntKind.u32 ((rotr x 2 : Nat) : Int) ((rotr x 13 : Nat) : Int)) ((rotr x 22 : Nat) : Int) = ((bigA x : Nat) : Int) :=
  rotr_xor x 2 13 _ hx (rotr_lt x 22 hx)
theorem or4be (a b c d : Nat) (ha : a < 256) (hb : b < 256) (hc : c < 256) (hd : d < 256) :
    bits BinOp.or IntKind.u32 (bits BinOp.or IntKind.u32 (bits BinOp.or IntKind.u32 ((a:Int) % 4294967296 * 16777216 % 4294967296) ((b:Int) % 4294967296 * 65536 % 4294967296)) ((c:Int) % 4294967296 * 256 % 4294967296)) ((d:Int) % 4294967296) = ((16777216 * a + 65536 * b + 256 * c + d : Nat) : Int) := by
  have e0 : (a:Int) % 4294967296 * 16777216 % 4294967296 = ((2 ^ 24 * a : Nat) : Int) := by omega
  have e1 : (b:Int) % 4294967296 * 65536 % 4294967296 = ((65536 * b : Nat) : Int) := by omega
  have e2 : (c:Int) % 4294967296 * 256 % 4294967296 = ((256 * c : Nat) : Int) := by omega
  have e3 : (d:Int) % 4294967296 = (d : Nat) := by omega
  have o1 : 2 ^ 24 * a ||| 65536 * b = 2 ^ 16 * (256 * a + b) := by
    rw [← Nat.two_pow_add_eq_or_of_lt (by omega)]; omega
  have o2 : 2 ^ 16 * (256 * a + b) ||| 256 * c = 2 ^ 8 * (65536 * a + 256 * b + c) := by
    rw [← Nat.two_pow_add_eq_or_of_lt (by omega)]; omega
  have o3 : 2 ^ 8 * (65536 * a + 256 * b + c) ||| d = 16777216 * a + 65536 * b + 256 * c + d := by
    rw [← Nat.two_pow_add_eq_or_of_lt (by omega)]; omega
  rw [e0, e1, e2, e3, w32_or _ _ (by omega) (by omega), o1, w32_or _ _ (by omega) (by omega), o2, w32_or _ _ (by omega) (by omega), o3]
theorem add32 (a b : Nat) : ∃ p : Nat, Hid (p = (a + b) % 4294967296) ∧ IntKind.u32.wrap ((a : Int) + (b : Int)) = (p : Int) :=
  ⟨(a + b) % 4294967296, rfl, by rw [IntKind.wrap_u32]; omega⟩
theorem and32 (a b : Nat) (ha : (a : Int) < 4294967296) (hb : (b : Int) < 4294967296) : ∃ p : Nat, Hid (p = a &&& b) ∧ (p : Int) < 4294967296 ∧ bits BinOp.and IntKind.u32 (a : Int) (b : Int) = (p : Int) := by
  have : a &&& b < 4294967296 := Nat.lt_of_le_of_lt Nat.and_le_left (by omega)
  exact ⟨a &&& b, rfl, by omega, w32_and a b (by omega) (by omega)⟩
theorem xor32 (a b : Nat) (ha : (a : Int) < 4294967296) (hb : (b : Int) < 4294967296) : ∃ p : Nat, Hid (p = a ^^^ b) ∧ (p : Int) < 4294967296 ∧ bits BinOp.xor IntKind.u32 (a : Int) (b : Int) = (p : Int) := by
  have : a ^^^ b < 4294967296 := w32_lt_xor a b (by omega) (by omega)
  exact ⟨a ^^^ b, rfl, by omega, w32_xor a b (by omega) (by omega)⟩
theorem compl_eq (a : Nat) (ha : a < 4294967296) : 4294967295 ^^^ a = 4294967295 - a := by
  refine bits_eq fun i => ?_
  rw [Nat.testBit_xor, compl_bit a i ha]
  have h1 : (4294967295 : Nat).testBit i = decide (i < 32) := Nat.testBit_two_pow_sub_one 32 i
  rw [h1]
  by_cases hi : i < 32
  · simp [hi]
  · rw [high_bit a i ha hi]; simp [hi]
theorem not32 (a : Nat) (ha : (a : Int) < 4294967296) : ∃ p : Nat, Hid (p = 4294967295 - a) ∧ (p : Int) < 4294967296 ∧ bits BinOp.xor IntKind.u32 (if IntKind.u32.signed = true then -1 else IntKind.u32.max) (a : Int) = (p : Int) := by
  refine ⟨4294967295 - a, rfl, by omega, ?_⟩
  have h := w32_xor 4294967295 a (by omega) (by omega)
  rw [compl_eq a (by omega)] at h
  exact h
theorem addm32 (a b : Nat) : ∃ p : Nat, Hid (p = (a + b) % 4294967296) ∧ (p : Int) < 4294967296 ∧ ((a : Int) + (b : Int)) % 4294967296 = (p : Int) :=
  ⟨(a + b) % 4294967296, rfl, by omega, by omega⟩
theorem list8 (v : List Nat) (h : v.length = 8) : ∃ x0 x1 x2 x3 x4 x5 x6 x7, v = [x0, x1, x2, x3, x4, x5, x6, x7] := by
  match v, h with
  | [x0, x1, x2, x3, x4, x5, x6, x7], _ => exact ⟨x0, x1, x2, x3, x4, x5, x6, x7, rfl⟩
set_option maxRecDepth 100000 in
set_option maxHeartbeats 8000000 in
theorem sumBlock_any (H : Nat) (h : List Nat) (s : ByteArray) (hs : Hid (s.size = 64)) (hl : Hid (h.length = 8)) (L : W32 h) (w : World) (R : Row w H .u32 97 h) (V : RoundsVar w) (hH : H ≠ 0) :
    Calls Tryd.prog 68 #[.pointer (some ⟨H, 0, none⟩), .string s] w fun e w' => e = .returned (.tuple #[]) ∧ Row w' H .u32 97 (compress h (bs s)) ∧ Keep (OneB H) w w' := by
  go_enter Tryd.func68, Tryd.ntmps68
  go_wp2_with fail
  refine wp_world (fun w1 => Row w1 w.heap.size .u32 98 (sched0 (bs s) 0) ∧ Row w1 H .u32 97 h ∧ Keep NoB w w1) ⟨heap_alloc_new w _, R.keep ((Keep.refl NoB w).alloc _) (fun x => x), (Keep.refl _ _).alloc _⟩ ?_
  have hH2 : H < w.heap.size := R.lt
  clear R
  intro w1 hw1
  go_loopw [16] (fun i wr => ∃ k : Nat, k ≤ 16 ∧ i = .int .i64 k ∧ Row wr w.heap.size .u32 98 (sched0 (bs s) k) ∧ Row wr H .u32 97 h ∧ Keep NoB w wr) (fun i _ => 16 - (intOf i).toNat)
  case atStart => exact ⟨0, by omega, rfl, hw1⟩
  case round =>
    clear hw1 w1
    obtain ⟨k, hk, rfl, RW, RH, K⟩ := hrel
    by_cases hlt : k < 16
    · have j1 : (k:Int) < 16 := by omega
      have j2 : (k:Int) < 64 := by omega
      have f1 := RW.free k
      have c1 := RW.cell k (by rw [sched0_len]; omega)
      obtain ⟨q0, e0⟩ : ∃ q, q = 4 * k := ⟨_, rfl⟩
      obtain ⟨q1, e1⟩ : ∃ q, q = 4 * k + 1 := ⟨_, rfl⟩
      obtain ⟨q2, e2⟩ : ∃ q, q = 4 * k + 2 := ⟨_, rfl⟩
      obtain ⟨q3, e3⟩ : ∃ q, q = 4 * k + 3 := ⟨_, rfl⟩
      have w0 : IntKind.i64.wrap (4 * (k : Int)) = (q0 : Int) := by rw [IntWalk.i64_in _ (by omega)]; omega
      have w1 : IntKind.i64.wrap ((q0 : Int) + 1) = (q1 : Int) := by rw [IntWalk.i64_in _ (by omega)]; omega
      have w2 : IntKind.i64.wrap ((q0 : Int) + 2) = (q2 : Int) := by rw [IntWalk.i64_in _ (by omega)]; omega
      have w3 : IntKind.i64.wrap ((q0 : Int) + 3) = (q3 : Int) := by rw [IntWalk.i64_in _ (by omega)]; omega
      have l0 : q0 < s.size := by rw [hs.out]; omega
      have l1 : q1 < s.size := by rw [hs.out]; omega
      have l2 : q2 < s.size := by rw [hs.out]; omega
      have l3 : q3 < s.size := by rw [hs.out]; omega
      have E0 := Lib.hid e0
      have E1 := Lib.hid e1
      have E2 := Lib.hid e2
      have E3 := Lib.hid e3
      clear e0 e1 e2 e3
      go_wp2_with fail
      refine wp_region_qt_drew 31 (by kernel_rfl) (by kernel_rfl) ?_
      simp only [List.take_succ_cons, List.take_zero, List.drop_succ_cons, List.drop_zero]
      repeat (quiet_step (fail))
      refine wpQuiet_nil ?_
      intro nq
      go_wp2_with fail
      have hv : bits BinOp.or IntKind.u32 (bits BinOp.or IntKind.u32 (bits BinOp.or IntKind.u32 ((s[q0].toNat : Int) % 4294967296 * 16777216 % 4294967296) ((s[q1].toNat : Int) % 4294967296 * 65536 % 4294967296)) ((s[q2].toNat : Int) % 4294967296 * 256 % 4294967296)) ((s[q3].toNat : Int) % 4294967296) = ((be32 (bs s) (4 * k) : Nat) : Int) := by
        rw [be32, ← E0.out, show q0 + 1 = q1 by rw [E0.out, E1.out], show q0 + 2 = q2 by rw [E0.out, E2.out], show q0 + 3 = q3 by rw [E0.out, E3.out], bs_getD s q0 l0, bs_getD s q1 l1, bs_getD s q2 l2, bs_getD s q3 l3]
        exact or4be _ _ _ _ s[q0].toNat_lt s[q1].toNat_lt s[q2].toNat_lt s[q3].toNat_lt
      refine ⟨⟨k + 1, by omega, by go_num, (RW.drewN nq).store k hv, (RH.drewN nq).keep (Keep.set1 (Keep.refl _ _) _ _) (fun e => by simp only [Cof.OneB] at e; omega), (K.drewN nq).setCell (.inr (Nat.le_refl _)) _⟩, by simp [intOf]; omega⟩
    · have j1 : decide ((k:Int) < 16) = false := by simp; omega
      have RW1 : Row wr w.heap.size .u32 98 (sched1 (bs s) 0) := by
        have : k = 16 := by omega
        rw [this] at RW
        exact RW
      clear hlt hk RW
      go_wp2_with fail
      refine wp_world (fun w1 => Row w1 w.heap.size .u32 98 (sched1 (bs s) 0) ∧ Row w1 H .u32 97 h ∧ Keep NoB w w1) ⟨RW1, RH, K⟩ ?_
      clear RW1 RH K wr j1
      intro w1 hw1
      go_loopw [6] (fun i wr => ∃ n : Nat, n ≤ 64 ∧ 16 ≤ n ∧ i = .int .i64 n ∧ Row wr w.heap.size .u32 98 (sched1 (bs s) (n - 16)) ∧ Row wr H .u32 97 h ∧ Keep NoB w wr) (fun i _ => 64 - (intOf i).toNat)
      case atStart => exact ⟨16, by omega, by omega, rfl, hw1⟩
      case round =>
        clear hw1 w1
        obtain ⟨n, hn, hn2, rfl, RW, RH, K⟩ := hrel
        by_cases hlt : n < 64
        · have j1 : (n:Int) < 64 := by omega
          obtain ⟨m, hm⟩ : ∃ m, m = sched1 (bs s) (n - 16) := ⟨_, rfl⟩
          have LM : W32 m := by rw [hm]; exact W32.sched1 _ (bs_lt s) _
          have lm : m.length = 64 := by rw [hm, sched1_len]
          rw [← hm] at RW
          have Hm := Lib.hid hm
          clear hm
          obtain ⟨q1, e1⟩ : ∃ q, q = n - 15 := ⟨_, rfl⟩
          obtain ⟨q2, e2⟩ : ∃ q, q = n - 2 := ⟨_, rfl⟩
          obtain ⟨q0, e0⟩ : ∃ q, q = n - 16 := ⟨_, rfl⟩
          obtain ⟨q7, e7⟩ : ∃ q, q = n - 7 := ⟨_, rfl⟩
          have w1 : IntKind.i64.wrap ((n : Int) - 15) = (q1 : Int) := by rw [IntWalk.i64_in _ (by omega)]; omega
          have w2 : IntKind.i64.wrap ((n : Int) - 2) = (q2 : Int) := by rw [IntWalk.i64_in _ (by omega)]; omega
          have w0 : IntKind.i64.wrap ((n : Int) - 16) = (q0 : Int) := by rw [IntWalk.i64_in _ (by omega)]; omega
          have w7 : IntKind.i64.wrap ((n : Int) - 7) = (q7 : Int) := by rw [IntWalk.i64_in _ (by omega)]; omega
          have l1 : (q1 : Int) < 64 := by omega
          have l2 : (q2 : Int) < 64 := by omega
          have l0 : (q0 : Int) < 64 := by omega
          have l7 : (q7 : Int) < 64 := by omega
          have c1 := RW.cell q1 (by rw [lm]; omega)
          have c2 := RW.cell q2 (by rw [lm]; omega)
          have c0 := RW.cell q0 (by rw [lm]; omega)
          have c7 := RW.cell q7 (by rw [lm]; omega)
          have f1 := RW.free n
          have cn := RW.cell n (by rw [lm]; omega)
          have E0 := Lib.hid e0
          have E1 := Lib.hid e1
          have E2 := Lib.hid e2
          have E7 := Lib.hid e7
          clear e0 e1 e2 e7
          go_wp2_with fail
          have LMi : ∀ q, ((m[q]?.getD 0 : Nat) : Int) < 4294967296 := fun q => by
            have := LM q
            rw [List.getD_eq_getElem?_getD] at this
            omega
          obtain ⟨a1, ha1⟩ : ∃ a, a = small0 (m.getD q1 0) := ⟨_, rfl⟩
          obtain ⟨a2, ha2⟩ : ∃ a, a = small1 (m.getD q2 0) := ⟨_, rfl⟩
          have b1 := small0_bits (m.getD q1 0) (LM q1)
          have b2 := small1_bits (m.getD q2 0) (LM q2)
          rw [← ha1] at b1
          rw [← ha2] at b2
          simp only [List.getD_eq_getElem?_getD] at b1 b2
          have A1 := Lib.hid ha1
          have A2 := Lib.hid ha2
          clear ha1 ha2
          go_quiet ((go_at_call 107; exact sumTurn_quiet _ _ (by omega) (LMi _) (by decide) (by decide) _ _))
          go_wp2_with fail
          refine wp_world (fun w1 => Row w1 w.heap.size .u32 98 m ∧ Row w1 H .u32 97 h ∧ Keep NoB w w1) ⟨RW.drewN nq, RH.drewN nq, K.drewN nq⟩ ?_
          clear RW RH K c1 c2 c0 c7 f1 cn nq wr
          intro wr hwr
          obtain ⟨RW, RH, K⟩ := hwr
          have c1 := RW.cell q1 (by rw [lm]; omega)
          have c2 := RW.cell q2 (by rw [lm]; omega)
          have c0 := RW.cell q0 (by rw [lm]; omega)
          have c7 := RW.cell q7 (by rw [lm]; omega)
          have f1 := RW.free n
          have cn := RW.cell n (by rw [lm]; omega)
          go_quiet ((go_at_call 107; exact sumTurn_quiet _ _ (by omega) (LMi _) (by decide) (by decide) _ _))
          go_wp2_with fail
          refine wp_world (fun w1 => Row w1 w.heap.size .u32 98 m ∧ Row w1 H .u32 97 h ∧ Keep NoB w w1) ⟨RW.drewN nq, RH.drewN nq, K.drewN nq⟩ ?_
          clear RW RH K c1 c2 c0 c7 f1 cn nq wr
          intro wr hwr
          obtain ⟨RW, RH, K⟩ := hwr
          have c1 := RW.cell q1 (by rw [lm]; omega)
          have c2 := RW.cell q2 (by rw [lm]; omega)
          have c0 := RW.cell q0 (by rw [lm]; omega)
          have c7 := RW.cell q7 (by rw [lm]; omega)
          have f1 := RW.free n
          have cn := RW.cell n (by rw [lm]; omega)
          refine wp_region_qt_drew 15 (by kernel_rfl) (by kernel_rfl) ?_
          simp only [List.take_succ_cons, List.take_zero, List.drop_succ_cons, List.drop_zero]
          repeat (quiet_step (fail))
          refine wpQuiet_nil ?_
          intro nq2
          go_wp2_with fail
          have hv : ((m[q0]?.getD 0 : Nat) + (a1 : Int) + (m[q7]?.getD 0 : Nat) + (a2 : Int)) % 4294967296 = (((m.getD q0 0 + a1 + m.getD q7 0 + a2) % 4294967296 : Nat) : Int) := by
            simp only [List.getD_eq_getElem?_getD]; omega
          have hst : m.set n ((m.getD q0 0 + a1 + m.getD q7 0 + a2) % 4294967296) = sched1 (bs s) (n + 1 - 16) := by
            rw [show n + 1 - 16 = (n - 16) + 1 by omega, sched1, times_succ, ← sched1, ← Hm.out, schedStep, A1.out, A2.out, E0.out, E1.out, E2.out, E7.out,
              show 16 + (n - 16) = n by omega, show 1 + (n - 16) = n - 15 by omega, show 9 + (n - 16) = n - 7 by omega, show 14 + (n - 16) = n - 2 by omega]
          refine ⟨⟨n + 1, by omega, by omega, by go_num, ?_, (RH.drewN nq2).keep (Keep.set1 (Keep.refl _ _) _ _) (fun e => by simp only [Cof.OneB] at e; omega), (K.drewN nq2).setCell (.inr (Nat.le_refl _)) _⟩, by simp [intOf]; omega⟩
          rw [← hst]
          exact (RW.drewN nq2).store n hv
        · have j1 : decide ((n:Int) < 64) = false := by simp; omega
          have RW1 : Row wr w.heap.size .u32 98 (sched (bs s)) := by
            have : n = 64 := by omega
            rw [this] at RW
            exact RW
          clear hlt hn hn2 RW
          have hi8 : (Tryd.prog.info? 97).map (·.size) = some (ints .u32 h).size := by rw [ints_size, hl.out]; kernel_rfl
          have Hi8 := Lib.hid hi8
          clear hi8
          have Hs8 : Hid ((ints .u32 h).size = 8) := by show (ints .u32 h).size = 8; rw [ints_size, hl.out]
          go_wp2_with (first | (refine wpList_load_row rfl 97 _ rfl H rfl 97 (ints .u32 h) (0, 0) _ RH Tryd.underlying97 rfl Hi8.out ?_) | (refine wpList_store_whole rfl 97 _ _ rfl wr.heap.size 97 _ (ints .u32 h) rfl rfl (heap_alloc_new wr _) Hi8.out 8 ?_ Hs8.out (ints_one _ _) ?_; exact rfl))
          go_wp2_with fail
          obtain ⟨BT, hBT⟩ : ∃ b, b = wr.heap.size := ⟨_, rfl⟩
          have hlt1 : w.heap.size < BT := by rw [hBT]; exact RW1.lt
          refine wp_world (fun w1 => Row w1 BT .u32 97 (stepsV (sched (bs s)) h 0) ∧ Row w1 w.heap.size .u32 98 (sched (bs s)) ∧ Row w1 H .u32 97 h ∧ Keep NoB w w1) ⟨by rw [hBT]; exact heap_setRow (heap_alloc_new wr _), (RW1.keep ((Keep.refl NoB wr).alloc _) (fun x => x)).keep ((Keep.refl (OneB wr.heap.size) _).setRow (.inl rfl) _) (fun e => by simp only [OneB] at e; omega), (RH.keep ((Keep.refl NoB wr).alloc _) (fun x => x)).keep ((Keep.refl (OneB wr.heap.size) _).setRow (.inl rfl) _) (fun e => by simp only [OneB] at e; omega), (K.alloc _).setRow (.inr (by omega)) _⟩ ?_
          rw [← hBT]
          clear RW1 RH K hBT wr j1 Hi8 Hs8
          have LM : W32 (sched (bs s)) := W32.sched1 _ (bs_lt s) _
          have lm : (sched (bs s)).length = 64 := sched1_len _ _
          generalize hm : sched (bs s) = m at LM lm
          have Hm := Lib.hid hm
          clear hm
          intro w1 hw1
          go_loopw [107] (fun i wr => ∃ j : Nat, j ≤ 64 ∧ i = .int .i64 j ∧ Row wr BT .u32 97 (stepsV m h j) ∧ Row wr w.heap.size .u32 98 m ∧ Row wr H .u32 97 h ∧ Keep NoB w wr) (fun i _ => 64 - (intOf i).toNat)
          case atStart => exact ⟨0, by omega, rfl, hw1⟩
          case round =>
            clear hw1 w1
            obtain ⟨j, hj, rfl, RV, RW, RH, K⟩ := hrel
            by_cases hlt : j < 64
            · have j1 : (j:Int) < 64 := by omega
              obtain ⟨v, hv⟩ : ∃ v, v = stepsV m h j := ⟨_, rfl⟩
              have LV : W32 v := by rw [hv]; exact W32.steps _ L _
              have lv : v.length = 8 := by rw [hv, stepsV_len _ _ hl.out]
              rw [← hv] at RV
              have Hv := Lib.hid hv
              clear hv
              obtain ⟨x0, x1, x2, x3, x4, x5, x6, x7, rfl⟩ : ∃ x0 x1 x2 x3 x4 x5 x6 x7, v = [x0, x1, x2, x3, x4, x5, x6, x7] := list8 v lv
              clear lv
              have b0 : (x0 : Int) < 4294967296 := by have := LV 0; simp at this; omega
              have b1 : (x1 : Int) < 4294967296 := by have := LV 1; simp at this; omega
              have b2 : (x2 : Int) < 4294967296 := by have := LV 2; simp at this; omega
              have b3 : (x3 : Int) < 4294967296 := by have := LV 3; simp at this; omega
              have b4 : (x4 : Int) < 4294967296 := by have := LV 4; simp at this; omega
              have b5 : (x5 : Int) < 4294967296 := by have := LV 5; simp at this; omega
              have b6 : (x6 : Int) < 4294967296 := by have := LV 6; simp at this; omega
              have b7 : (x7 : Int) < 4294967296 := by have := LV 7; simp at this; omega
              have c0 : wr.cell? ⟨BT, 0, none⟩ = some (.int .u32 (x0 : Int)) := RV.cell 0 (by show 0 < 8; omega)
              have c4 : wr.cell? ⟨BT, 4, none⟩ = some (.int .u32 (x4 : Int)) := RV.cell 4 (by show 4 < 8; omega)
              obtain ⟨aE, haE⟩ : ∃ a, a = bigE x4 := ⟨_, rfl⟩
              obtain ⟨aA, haA⟩ : ∃ a, a = bigA x0 := ⟨_, rfl⟩
              have bE := bigE_bits x4 (by omega)
              have bA := bigA_bits x0 (by omega)
              rw [← haE] at bE
              rw [← haA] at bA
              have AE := Lib.hid haE
              have AA := Lib.hid haA
              clear haE haA
              go_wp2_with fail
              go_quiet ((go_at_call 107; exact sumTurn_quiet _ _ (by omega) b4 (by decide) (by decide) _ _))
              go_wp2_with fail
              refine wp_world (fun w1 => Row w1 BT .u32 97 [x0, x1, x2, x3, x4, x5, x6, x7] ∧ Row w1 w.heap.size .u32 98 m ∧ Row w1 H .u32 97 h ∧ Keep NoB w w1) ⟨RV.drewN nq, RW.drewN nq, RH.drewN nq, K.drewN nq⟩ ?_
              clear RV RW RH K c0 c4 nq wr
              intro wr hwr
              obtain ⟨RV, RW, RH, K⟩ := hwr
              obtain ⟨rk, hrk⟩ : ∃ r, r = roundsK.getD j 0 := ⟨_, rfl⟩
              obtain ⟨wk, hwk⟩ : ∃ r, r = m.getD j 0 := ⟨_, rfl⟩
              have cr := (V.keep K (fun x => x)) j hlt
              have cw := RW.cell j (by rw [lm]; omega)
              rw [← hrk] at cr
              rw [← hwk] at cw
              have Hrk := Lib.hid hrk
              have Hwk := Lib.hid hwk
              clear hrk hwk
              have c4 : wr.cell? ⟨BT, 4, none⟩ = some (.int .u32 (x4 : Int)) := RV.cell 4 (by show 4 < 8; omega)
              have c5 : wr.cell? ⟨BT, 5, none⟩ = some (.int .u32 (x5 : Int)) := RV.cell 5 (by show 5 < 8; omega)
              have c6 : wr.cell? ⟨BT, 6, none⟩ = some (.int .u32 (x6 : Int)) := RV.cell 6 (by show 6 < 8; omega)
              have c7 : wr.cell? ⟨BT, 7, none⟩ = some (.int .u32 (x7 : Int)) := RV.cell 7 (by show 7 < 8; omega)
              obtain ⟨p1, P1, e1⟩ := add32 x7 aE
              obtain ⟨q1, Q1, d1, e2⟩ := and32 x4 x5 b4 b5
              obtain ⟨q2, Q2, d2, e3⟩ := not32 x4 b4
              obtain ⟨q3, Q3, d3, e4⟩ := and32 q2 x6 d2 b6
              obtain ⟨q4, Q4, d4, e5⟩ := xor32 q1 q3 d1 d3
              obtain ⟨p2, P2, e6⟩ := add32 p1 q4
              obtain ⟨p3, P3, e7⟩ := add32 p2 rk
              obtain ⟨p4, P4, e8⟩ := add32 p3 wk
              go_quiet (fail)
              clear e1 e2 e3 e4 e5 e6 e7 e8
              go_wp2_with fail
              refine wp_world (fun w1 => Row w1 BT .u32 97 [x0, x1, x2, x3, x4, x5, x6, x7] ∧ Row w1 w.heap.size .u32 98 m ∧ Row w1 H .u32 97 h ∧ Keep NoB w w1) ⟨RV.drewN nq, RW.drewN nq, RH.drewN nq, K.drewN nq⟩ ?_
              clear RV RW RH K c4 c5 c6 c7 cr cw nq wr
              intro wr hwr
              obtain ⟨RV, RW, RH, K⟩ := hwr
              have c0 : wr.cell? ⟨BT, 0, none⟩ = some (.int .u32 (x0 : Int)) := RV.cell 0 (by show 0 < 8; omega)
              go_quiet ((go_at_call 107; exact sumTurn_quiet _ _ (by omega) b0 (by decide) (by decide) _ _))
              have c1 : wr.cell? ⟨BT, 1, none⟩ = some (.int .u32 (x1 : Int)) := RV.cell 1 (by show 1 < 8; omega)
              have c2 : wr.cell? ⟨BT, 2, none⟩ = some (.int .u32 (x2 : Int)) := RV.cell 2 (by show 2 < 8; omega)
              have c3 : wr.cell? ⟨BT, 3, none⟩ = some (.int .u32 (x3 : Int)) := RV.cell 3 (by show 3 < 8; omega)
              have c4 : wr.cell? ⟨BT, 4, none⟩ = some (.int .u32 (x4 : Int)) := RV.cell 4 (by show 4 < 8; omega)
              have c5 : wr.cell? ⟨BT, 5, none⟩ = some (.int .u32 (x5 : Int)) := RV.cell 5 (by show 5 < 8; omega)
              have c6 : wr.cell? ⟨BT, 6, none⟩ = some (.int .u32 (x6 : Int)) := RV.cell 6 (by show 6 < 8; omega)
              obtain ⟨r1, R1, f1, e1⟩ := and32 x0 x1 b0 b1
              obtain ⟨r2, R2, f2, e2⟩ := and32 x0 x2 b0 b2
              obtain ⟨r3, R3, f3, e3⟩ := xor32 r1 r2 f1 f2
              obtain ⟨r4, R4, f4, e4⟩ := and32 x1 x2 b1 b2
              obtain ⟨r5, R5, f5, e5⟩ := xor32 r3 r4 f3 f4
              obtain ⟨t1, T1, g1, e6⟩ := addm32 aA r5
              obtain ⟨t2, T2, g2, e7⟩ := addm32 p4 t1
              obtain ⟨t3, T3, g3, e8⟩ := addm32 x3 p4
              have hi8 : (Tryd.prog.info? 97).map (·.size) = some (ints .u32 [t2, x0, x1, x2, t3, x4, x5, x6]).size := by kernel_rfl
              have Hi8 := Lib.hid hi8
              clear hi8
              go_wp2_with (first | (refine wpList_store_whole rfl 97 _ _ rfl BT 97 _ (ints .u32 [t2, x0, x1, x2, t3, x4, x5, x6]) rfl rfl (RV.drewN nq) Hi8.out 8 rfl rfl (ints_one _ _) ?_))
              have hq : q4 = chs x4 x5 x6 := by rw [Q4.out, Q1.out, Q3.out, Q2.out]; rfl
              have hr : r5 = maj x0 x1 x2 := by rw [R5.out, R3.out, R4.out, R1.out, R2.out]; rfl
              have hp : p4 = (x7 + bigE x4 + chs x4 x5 x6 + roundsK.getD j 0 + m.getD j 0) % 4294967296 := by
                rw [P4.out, P3.out, P2.out, P1.out, hq, ← AE.out, ← Hrk.out, ← Hwk.out]; omega
              have ht : t1 = (bigA x0 + maj x0 x1 x2) % 4294967296 := by rw [T1.out, hr, ← AA.out]
              have hst : [t2, x0, x1, x2, t3, x4, x5, x6] = stepsV m h (j + 1) := by
                rw [stepsV, times_succ, ← stepsV, ← Hv.out, T2.out, T3.out, hp, ht]; rfl
              have hBH : ¬ OneB BT H := fun e => by simp only [OneB] at e; omega
              have hBW : ¬ OneB BT w.heap.size := fun e => by simp only [OneB] at e; omega
              refine ⟨⟨j + 1, by omega, by go_num, ?_, (RW.drewN nq).keep (Keep.setRow (Keep.refl (OneB BT) _) (.inl rfl) _) hBW, (RH.drewN nq).keep (Keep.setRow (Keep.refl (OneB BT) _) (.inl rfl) _) hBH, (K.drewN nq).setRow (.inr (by omega)) _⟩, by simp [intOf]; omega⟩
              rw [← hst]
              exact heap_setRow (RV.drewN nq)
            · have j1 : decide ((j:Int) < 64) = false := by simp; omega
              have RV1 : Row wr BT .u32 97 (stepsV m h 64) := by
                have : j = 64 := by omega
                rw [this] at RV
                exact RV
              clear hlt hj RV RW LM lm
              go_wp2_with fail
              obtain ⟨v, hv⟩ : ∃ v, v = stepsV m h 64 := ⟨_, rfl⟩
              have LV : W32 v := by rw [hv]; exact W32.steps _ L _
              have lv : v.length = 8 := by rw [hv, stepsV_len _ _ hl.out]
              rw [← hv] at RV1
              have Hv := Lib.hid hv
              have Hlv := Lib.hid lv
              clear hv lv
              refine wp_world (fun w1 => Row w1 BT .u32 97 v ∧ Row w1 H .u32 97 (addTo v h 0) ∧ Keep (OneB H) w w1) ⟨RV1, RH, K.ofN⟩ ?_
              clear RV1 RH K wr j1
              intro w1 hw1
              go_loopw [197] (fun i wr => ∃ q : Nat, q ≤ 8 ∧ i = .int .i64 q ∧ Row wr BT .u32 97 v ∧ Row wr H .u32 97 (addTo v h q) ∧ Keep (OneB H) w wr) (fun i _ => 8 - (intOf i).toNat)
              case atStart => exact ⟨0, by omega, rfl, hw1⟩
              case round =>
                clear hw1 w1
                obtain ⟨q, hq, rfl, RV, RH, K⟩ := hrel
                by_cases hlt : q < 8
                · have j1 : (q:Int) < 8 := by omega
                  obtain ⟨g, hg⟩ : ∃ g, g = addTo v h q := ⟨_, rfl⟩
                  have lg : g.length = 8 := by rw [hg, addTo_len, hl.out]
                  rw [← hg] at RH
                  have Hg := Lib.hid hg
                  clear hg
                  have c1 := RH.cell q (by omega)
                  have c2 := RV.cell q (by rw [Hlv.out]; omega)
                  have f1 := RH.free q
                  clear lg
                  obtain ⟨a1, ha1⟩ : ∃ a, a = g.getD q 0 := ⟨_, rfl⟩
                  obtain ⟨a2, ha2⟩ : ∃ a, a = v.getD q 0 := ⟨_, rfl⟩
                  rw [← ha1] at c1
                  rw [← ha2] at c2
                  have A1 := Lib.hid ha1
                  have A2 := Lib.hid ha2
                  clear ha1 ha2
                  obtain ⟨t1, T1, e1⟩ := add32 a1 a2
                  go_wp2_with fail
                  refine wp_region_qt_drew 11 (by kernel_rfl) (by kernel_rfl) ?_
                  simp only [List.take_succ_cons, List.take_zero, List.drop_succ_cons, List.drop_zero]
                  repeat (quiet_step (fail))
                  refine wpQuiet_nil ?_
                  intro nq
                  go_wp2_with fail
                  have hst : g.set q t1 = addTo v h (q + 1) := by
                    rw [addTo, times_succ, ← addTo, ← Hg.out, T1.out, A1.out, A2.out]
                  refine ⟨⟨q + 1, by omega, by go_num, (RV.drewN nq).keep (Keep.set1 (Keep.refl _ _) _ _) (fun e => by simp only [OneB] at e; omega), ?_, (K.drewN nq).set1 _ _⟩, by simp [intOf]; omega⟩
                  rw [← hst]
                  exact (RH.drewN nq).store q rfl
                · have j1 : decide ((q:Int) < 8) = false := by simp; omega
                  have RH1 : Row wr H .u32 97 (compress h (bs s)) := by
                    have : q = 8 := by omega
                    rw [this, Hv.out, ← Hm.out] at RH
                    exact RH
                  clear hlt hq RH
                  go_wp2_with fail
                  go_end0
                  exact ⟨rfl, RH1, K⟩
end Go.Proofs.YtndcaaikjcicgaaDoor
