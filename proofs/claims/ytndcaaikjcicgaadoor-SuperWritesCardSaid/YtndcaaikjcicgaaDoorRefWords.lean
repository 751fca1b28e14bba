/-
  DERIVED. The walks of the reference's words and mix.
-/
import Derived.Test.YtndcaaikjcicgaaDoorStream
import Derived.Test.YtndcaaikjcicgaaDoorTexts
set_option linter.unusedVariables false
set_option linter.unusedSimpArgs false
namespace Go.Proofs.YtndcaaikjcicgaaDoor
open Go.RowKit Go.Cof

/-- A text's words. -/
def wordsOf (l : List Nat) : Nat → List Nat
  | 0 => []
  | m + 1 => wordsOf l m ++ [le32 l (4 * m)]
theorem wordsOf_len (l : List Nat) (m : Nat) : (wordsOf l m).length = m := by
  induction m with
  | zero => rfl
  | succ m ih => rw [wordsOf, List.length_append, ih]; rfl
/-- Bytes taken together, the greatest first: what the inner loop has when k of four are over. -/
def upTo (l : List Nat) (i : Nat) : Nat → Nat
  | 0 => 0
  | k + 1 => upTo l i k * 256 + l.getD (i + (3 - k)) 0
theorem upTo_four (l : List Nat) (i : Nat) : upTo l i 4 = le32 l i := by
  simp only [upTo, le32, Nat.sub_self, Nat.add_zero, Nat.sub_zero, show 3 - 1 = 2 from rfl, show 3 - 2 = 1 from rfl]
  omega
theorem upTo_lt (l : List Nat) (h : ∀ i, l.getD i 0 < 256) (i k : Nat) : upTo l i k < 256 ^ k := by
  induction k with
  | zero => simp [upTo]
  | succ k ih =>
    have := h (i + (3 - k))
    rw [upTo, Nat.pow_succ]
    omega
theorem info_u32 : (Tryd.prog.info? 96).map (fun i => (i.zero, i.size, i.bytes)) = some (some (.int .u32 0), 1, 4) := by kernel_rfl
set_option maxRecDepth 100000 in
set_option maxHeartbeats 4000000 in
theorem words_any (s : ByteArray) (hs : s.size ≤ 1000000) (w : World) :
    Calls Tryd.prog 142 #[.string s] w fun e w' => ∃ v, e = .returned v ∧ w'.ownsRow w.heap.size 96 1 v (s.size / 4) (cellsOf .u32 (wordsOf (bs s) (s.size / 4))) ∧ Keep NoB w w' := by
  obtain ⟨i0, hi0, hz0, hz1, hz2⟩ := info_parts info_u32
  have hlt := bs_lt s
  have Hlt := Lib.hid hlt
  clear hlt
  go_enter Tryd.func142, Tryd.ntmps142
  go_wp2
  go_loopw [3, 4] (fun v i wr => ∃ m : Nat, 4 * m ≤ s.size ∧ i = .int .i64 (4 * (m : Int)) ∧ Keep NoB w wr ∧ wr.ownsRow w.heap.size 96 1 v m (cellsOf .u32 (wordsOf (bs s) m))) (fun _ i _ => s.size - (intOf i).toNat)
  case atStart => exact ⟨0, by omega, rfl, Keep.refl _ _, World.ownsRow_nil _ _ _ _⟩
  case round =>
    obtain ⟨m, hm, rfl, K, hown⟩ := hrel
    by_cases hgo : 4 * m + 4 ≤ s.size
    · have d1 : 4 * (m : Int) + 4 ≤ s.size := by omega
      go_wp2_with fail
      obtain ⟨wo, hwo⟩ : ∃ wo : World, wo = wr := ⟨_, rfl⟩
      subst hwo
      go_loop [5, 6] (fun n k => ∃ j : Nat, j ≤ 4 ∧ k = .int .i64 (3 - (j : Int)) ∧ n = .int .u32 (upTo (bs s) (4 * m) j : Nat)) (fun _ k => (intOf k + 1).toNat)
      case atStart => exact ⟨0, by omega, rfl, rfl⟩
      case round =>
        obtain ⟨j, hj, rfl, rfl⟩ := hrel
        by_cases hj4 : j < 4
        · have e1 : (0 : Int) ≤ 3 - (j : Int) := by omega
          obtain ⟨q, hq⟩ : ∃ q, q = 4 * m + (3 - j) := ⟨_, rfl⟩
          have Hq := Lib.hid hq
          have e2 : 4 * (m : Int) + (3 - (j : Int)) = (q : Int) := by omega
          have e3 : (q : Int) < s.size := by omega
          clear hq
          have hu := upTo_lt (bs s) Hlt.out (4 * m) j
          have hu2 : upTo (bs s) (4 * m) j < 256 ^ 3 := Nat.lt_of_lt_of_le hu (Nat.pow_le_pow_right (by omega) (by omega))
          have hu3 : upTo (bs s) (4 * m) j < 16777216 := by omega
          clear hu hu2
          have hix := fun wx => run_index_text (P := Tryd.prog) Tryd.underlying9 s .i64 (4 * (m : Int) + (3 - (j : Int))) q e2 (by omega) wx
          have hb := Hlt.out q
          clear e2
          go_wp2
          clear hix
          go_round
          case rel => exact ⟨j + 1, by omega, congrArg (Value.int .i64) (by omega), by
            refine congrArg (Value.int .u32) ?_
            rw [upTo, ← Hq.out]
            simp only [List.getD_eq_getElem?_getD] at hb ⊢
            omega⟩
          case measure => simp [intOf]; omega
        · obtain rfl : j = 4 := by omega
          clear hj hj4
          have hle := upTo_four (bs s) (4 * m)
          have e0 : wo.ownsRow w.heap.size 96 1 u3 m (cellsOf .u32 (wordsOf (bs s) m)) := hown
          go_wp2_with (first | (at_builtin; refine wpList_append_own _ rfl _ _ 209 rfl w.heap.size 96 i0 (.int .u32 0) 1 4 Tryd.underlying209 hi0 hz0 hz1 hz2 rfl (by decide) u3 m _ rfl (e0.alloc _) ⟨wo.heap.size, 0, none⟩ 1 1 _ rfl rfl (cells_new _ _ _) (ones1 _ _) (by unfold maxLen; omega) (by omega) (by have := K.size; simp; omega) ?_; intro v' w' hown' hgrow _))
          have K2 : Keep NoB w w' := (K.alloc _).grown hgrow (fun b hb => .inr (hown.lt b hb).1)
          have hown2 : w'.ownsRow w.heap.size 96 1 v' (m + 1) (cellsOf .u32 (wordsOf (bs s) (m + 1))) := by
            rw [wordsOf, cellsOf_append]
            exact hown'
          clear hown' hgrow e0 hown hle
          go_roundw
          case rel => first | exact ⟨m + 1, by omega, congrArg (Value.int .i64) (by omega), K2, hown2⟩ | ((repeat apply Exists.intro); exact ⟨⟨m + 1, by omega, congrArg (Value.int .i64) (by omega), K2, hown2⟩, rfl⟩)
          case measure => simp [intOf]; omega
    · have hmm : m = s.size / 4 := by omega
      have d1 : (s.size : Int) < 4 * (m : Int) + 4 := by omega
      go_wp2
      go_ret
      exact ⟨_, rfl, hmm ▸ hown, K⟩
theorem left_rotl (x n : Nat) (hx : x < 4294967296) (hn : n ≤ 32) : (x * 2 ^ n ||| x * 2 ^ n / 4294967296) % 4294967296 = rotl x n := by
  have h1 : x * 2 ^ n / 4294967296 = x / 2 ^ (32 - n) := by
    have e : 4294967296 = 2 ^ n * 2 ^ (32 - n) := by rw [← Nat.pow_add, show n + (32 - n) = 32 by omega]
    rw [e, ← Nat.div_div_eq_div_mul, Nat.mul_div_cancel _ (Nat.two_pow_pos n)]
  have h2 : x / 2 ^ (32 - n) < 2 ^ 32 := Nat.lt_of_le_of_lt (Nat.div_le_self _ _) hx
  rw [h1, rotl, show (4294967296 : Nat) = 2 ^ 32 from rfl, Nat.or_mod_two_pow, Nat.mod_eq_of_lt h2]
theorem u64_or (a b : Nat) (ha : a < 18446744073709551616) (hb : b < 18446744073709551616) : bits .or .u64 (a : Int) (b : Int) = ((a ||| b : Nat) : Int) := by
  have h6 : ∀ c : Nat, c < 18446744073709551616 → (BitVec.ofInt 64 (c : Int)).toNat = c := fun c hc => by
    rw [BitVec.ofInt_natCast, BitVec.toNat_ofNat]; exact Nat.mod_eq_of_lt (by omega)
  have hx : a ||| b < 2 ^ 64 := Nat.or_lt_two_pow (by omega) (by omega)
  show IntKind.u64.wrap ((BitVec.ofInt 64 (a : Int) ||| BitVec.ofInt 64 (b : Int)).toNat : Int) = _
  rw [BitVec.toNat_or, h6 a ha, h6 b hb, IntKind.wrap_u64]
  omega
theorem left_any (x : Int) (X n : Nat) (hx : X < 4294967296) (he : x = X) (hn : n ≤ 32) (i : Int) (hi : i = n) (w : World) :
    Calls Tryd.prog 155 #[.int .u32 x, .int .u64 i] w fun e w' => e = .returned (.int .u32 (rotl X n)) ∧ w' = w := by
  subst he hi
  have hlt : X * 2 ^ n < 18446744073709551616 := by
    have h1 : 2 ^ n ≤ 2 ^ 32 := Nat.pow_le_pow_right (by omega) hn
    calc X * 2 ^ n ≤ X * 2 ^ 32 := Nat.mul_le_mul_left _ h1
      _ < 4294967296 * 2 ^ 32 := Nat.mul_lt_mul_of_pos_right hx (by omega)
      _ = 18446744073709551616 := by rfl
  go_enter Tryd.func155, Tryd.ntmps155
  go_wp2
  go_ret
  refine ⟨?_, rfl⟩
  have e1 : IntKind.u64.wrap ((X : Int) * 2 ^ n) = ((X * 2 ^ n : Nat) : Int) := by
    rw [IntKind.wrap_u64]
    have : (X : Int) * 2 ^ n = ((X * 2 ^ n : Nat) : Int) := by simp
    rw [this]
    omega
  have e2 : ((X * 2 ^ n : Nat) : Int) / 4294967296 = ((X * 2 ^ n / 4294967296 : Nat) : Int) := by omega
  refine ret_u32 ?_
  show bits BinOp.or IntKind.u64 (IntKind.u64.wrap ((X : Int) * 2 ^ n)) (IntKind.u64.wrap ((X : Int) * 2 ^ n) / 4294967296) % 4294967296 = _
  rw [e1, e2, u64_or _ _ hlt (by omega), ← left_rotl X n hx hn]
  omega
theorem ints4 (a b c d : Nat) (i : Nat) (hi : i < 4) : [Value.int .i64 (a : Int), .int .i64 b, .int .i64 c, .int .i64 d][i]? = some (.int .i64 (([a, b, c, d].getD i 0 : Nat) : Int)) := by
  match i, hi with
  | 0, _ => rfl
  | 1, _ => rfl
  | 2, _ => rfl
  | 3, _ => rfl
/-- One of the two halves of a quarter. -/
def half (k : Nat) (l : List Nat) (a b c d : Nat) : List Nat :=
  rotAt (addAt (rotAt (addAt l a b) d a (16 - 8 * k)) c d) b c (12 - 5 * k)
theorem half_two (l : List Nat) (a b c d : Nat) : half 1 (half 0 l a b c d) a b c d = qr l a b c d := rfl
set_option maxRecDepth 100000 in
set_option maxHeartbeats 8000000 in
theorem mix_any (g cap : Nat) (a b c d : Nat) (l : List Nat) (w : World) (ha : a < 16) (hb : b < 16) (hc : c < 16) (hd : d < 16) (R : PRow w g 96 .u32 l) (L : W16 l) :
    Calls Tryd.prog 143 #[.slice (some ⟨g, 0, none⟩) 16 cap, .agg #[.int .i64 a, .int .i64 b, .int .i64 c, .int .i64 d]] w fun e w' => e = .returned (.tuple #[]) ∧ PRow w' g 96 .u32 (qr l a b c d) ∧ Keep (OneB g) w w' := by
  have ja : (a:Int) < 16 := by omega
  have jb : (b:Int) < 16 := by omega
  have jc : (c:Int) < 16 := by omega
  have jd : (d:Int) < 16 := by omega
  have hgl := R.lt
  go_enter Tryd.func143, Tryd.ntmps143
  go_wp2_with fail
  refine wp_world (fun w1 => PRow w1 g 96 .u32 l ∧ w1.heap[w.heap.size]? = some (.cells #[.int .i64 a, .int .i64 b, .int .i64 c, .int .i64 d] 211 (0, 0)) ∧ Keep (OneB g) w w1) ⟨R.keep ((Keep.refl NoB w).alloc _) (fun x => x), heap_alloc_new w _, (Keep.refl _ _).alloc _⟩ ?_
  clear R
  intro w1 hw1
  obtain ⟨R, A4, K⟩ := hw1
  go_loopw [10] (fun i wr => ∃ k : Nat, k ≤ 2 ∧ i = .int .i64 k ∧ PRow wr g 96 .u32 (times (fun k l => half k l a b c d) k l) ∧ wr.heap[w.heap.size]? = some (.cells #[.int .i64 a, .int .i64 b, .int .i64 c, .int .i64 d] 211 (0, 0)) ∧ Keep (OneB g) w wr) (fun i _ => 2 - (intOf i).toNat)
  case atStart => exact ⟨0, by omega, rfl, R, A4, K⟩
  case round =>
    clear R A4 K w1
    obtain ⟨k, hk, rfl, R, A4, K⟩ := hrel
    have L0 : W16 (times (fun k l => half k l a b c d) k l) := W16.times (fun k l h => ((((h.add _ _).rot _ _ _).add _ _).rot _ _ _)) k L
    clear L
    rcases (show k = 0 ∨ k = 1 ∨ k = 2 by omega) with rfl | rfl | rfl
    · obtain ⟨l0, hl0⟩ : ∃ x, x = times (fun k l => half k l a b c d) 0 l := ⟨_, rfl⟩
      rw [← hl0] at R L0
      have Hl0 := Lib.hid hl0
      clear hl0
      have L := L0
      clear L0
      have p0 := cell_of_row wr w.heap.size 0 _ _ _ A4
      have p1 := cell_of_row wr w.heap.size 1 _ _ _ A4
      have p2 := cell_of_row wr w.heap.size 2 _ _ _ A4
      have p3 := cell_of_row wr w.heap.size 3 _ _ _ A4
      simp only [List.getElem?_toArray, List.getElem?_cons_zero, List.getElem?_cons_succ] at p0 p1 p2 p3
      go_wp2_with fail
      go_quiet (fail)
      go_wp2_with fail
      clear p0 p1 p2 p3
      refine wp_world (fun w1 => PRow w1 g 96 .u32 l0 ∧ w1.heap[w.heap.size]? = some (.cells #[.int .i64 a, .int .i64 b, .int .i64 c, .int .i64 d] 211 (0, 0)) ∧ Keep (OneB g) w w1) ⟨R.drewN nq, A4, K.drewN nq⟩ ?_
      clear R A4 K nq wr
      intro w1 hw1
      obtain ⟨R, A4, K⟩ := hw1

      have c1 := R.cell a (by rw [L.len]; omega)
      have c2 := R.cell b (by rw [L.len]; omega)
      have f1 := R.free a (by rw [L.len]; omega)
      refine wp_region_qt_drew 12 (by kernel_rfl) (by kernel_rfl) ?_
      simp only [List.take_succ_cons, List.take_zero, List.drop_succ_cons, List.drop_zero]
      repeat (quiet_step (fail))
      refine wpQuiet_nil ?_
      intro nq
      go_wp2_with fail
      refine wp_world (fun w1 => PRow w1 g 96 .u32 (addAt l0 a b) ∧ w1.heap[w.heap.size]? = some (.cells #[.int .i64 a, .int .i64 b, .int .i64 c, .int .i64 d] 211 (0, 0)) ∧ Keep (OneB g) w w1) ⟨(R.drewN nq).store a (add_step a b), (Below.heap_setCell _ _ _ _ (by show w.heap.size ≠ g; omega)).trans A4, (K.drewN nq).set1 _ _⟩ ?_
      clear R K A4 c1 c2 f1
      intro w1 hw1
      obtain ⟨R, A4, K⟩ := hw1
      have L := L.add a b

      have c1 := R.cell d (by rw [L.len]; omega)
      have c2 := R.cell a (by rw [L.len]; omega)
      have f1 := R.free d (by rw [L.len]; omega)
      refine wp_region_qt_drew 18 (by kernel_rfl) (by kernel_rfl) ?_
      simp only [List.take_succ_cons, List.take_zero, List.drop_succ_cons, List.drop_zero]
      repeat (quiet_step ((go_at_call 155; exact Calls.quiet_of_same (left_any _ _ (16 - 8 * 0) (xor_lt _ _ (L.lt d) (L.lt a)) (xor_step L d a) (by omega) _ (by decide) _))))
      refine wpQuiet_nil ?_
      intro nq
      go_wp2_with fail
      refine wp_world (fun w1 => PRow w1 g 96 .u32 (rotAt (addAt l0 a b) d a (16 - 8 * 0)) ∧ w1.heap[w.heap.size]? = some (.cells #[.int .i64 a, .int .i64 b, .int .i64 c, .int .i64 d] 211 (0, 0)) ∧ Keep (OneB g) w w1) ⟨(R.drewN nq).store d rfl, (Below.heap_setCell _ _ _ _ (by show w.heap.size ≠ g; omega)).trans A4, (K.drewN nq).set1 _ _⟩ ?_
      clear R K A4 c1 c2 f1
      intro w1 hw1
      obtain ⟨R, A4, K⟩ := hw1
      have L := L.rot d a (16 - 8 * 0)

      have c1 := R.cell c (by rw [L.len]; omega)
      have c2 := R.cell d (by rw [L.len]; omega)
      have f1 := R.free c (by rw [L.len]; omega)
      refine wp_region_qt_drew 12 (by kernel_rfl) (by kernel_rfl) ?_
      simp only [List.take_succ_cons, List.take_zero, List.drop_succ_cons, List.drop_zero]
      repeat (quiet_step (fail))
      refine wpQuiet_nil ?_
      intro nq
      go_wp2_with fail
      refine wp_world (fun w1 => PRow w1 g 96 .u32 (addAt (rotAt (addAt l0 a b) d a (16 - 8 * 0)) c d) ∧ w1.heap[w.heap.size]? = some (.cells #[.int .i64 a, .int .i64 b, .int .i64 c, .int .i64 d] 211 (0, 0)) ∧ Keep (OneB g) w w1) ⟨(R.drewN nq).store c (add_step c d), (Below.heap_setCell _ _ _ _ (by show w.heap.size ≠ g; omega)).trans A4, (K.drewN nq).set1 _ _⟩ ?_
      clear R K A4 c1 c2 f1
      intro w1 hw1
      obtain ⟨R, A4, K⟩ := hw1
      have L := L.add c d

      have c1 := R.cell b (by rw [L.len]; omega)
      have c2 := R.cell c (by rw [L.len]; omega)
      have f1 := R.free b (by rw [L.len]; omega)
      refine wp_region_qt_drew 18 (by kernel_rfl) (by kernel_rfl) ?_
      simp only [List.take_succ_cons, List.take_zero, List.drop_succ_cons, List.drop_zero]
      repeat (quiet_step ((go_at_call 155; exact Calls.quiet_of_same (left_any _ _ (12 - 5 * 0) (xor_lt _ _ (L.lt b) (L.lt c)) (xor_step L b c) (by omega) _ (by decide) _))))
      refine wpQuiet_nil ?_
      intro nq
      go_wp2_with fail
      go_roundw
      case rel => first | exact ⟨0 + 1, by omega, by go_num, (by rw [times_succ, ← Hl0.out]; exact (R.drewN nq).store b rfl), (Below.heap_setCell _ _ _ _ (by show w.heap.size ≠ g; omega)).trans A4, (K.drewN nq).set1 _ _⟩ | ((repeat apply Exists.intro); exact ⟨⟨0 + 1, by omega, by go_num, (by rw [times_succ, ← Hl0.out]; exact (R.drewN nq).store b rfl), (Below.heap_setCell _ _ _ _ (by show w.heap.size ≠ g; omega)).trans A4, (K.drewN nq).set1 _ _⟩, rfl⟩)
      case measure => simp [intOf]
    · obtain ⟨l0, hl0⟩ : ∃ x, x = times (fun k l => half k l a b c d) 1 l := ⟨_, rfl⟩
      rw [← hl0] at R L0
      have Hl0 := Lib.hid hl0
      clear hl0
      have L := L0
      clear L0
      have p0 := cell_of_row wr w.heap.size 0 _ _ _ A4
      have p1 := cell_of_row wr w.heap.size 1 _ _ _ A4
      have p2 := cell_of_row wr w.heap.size 2 _ _ _ A4
      have p3 := cell_of_row wr w.heap.size 3 _ _ _ A4
      simp only [List.getElem?_toArray, List.getElem?_cons_zero, List.getElem?_cons_succ] at p0 p1 p2 p3
      go_wp2_with fail
      go_quiet (fail)
      go_wp2_with fail
      clear p0 p1 p2 p3
      refine wp_world (fun w1 => PRow w1 g 96 .u32 l0 ∧ w1.heap[w.heap.size]? = some (.cells #[.int .i64 a, .int .i64 b, .int .i64 c, .int .i64 d] 211 (0, 0)) ∧ Keep (OneB g) w w1) ⟨R.drewN nq, A4, K.drewN nq⟩ ?_
      clear R A4 K nq wr
      intro w1 hw1
      obtain ⟨R, A4, K⟩ := hw1

      have c1 := R.cell a (by rw [L.len]; omega)
      have c2 := R.cell b (by rw [L.len]; omega)
      have f1 := R.free a (by rw [L.len]; omega)
      refine wp_region_qt_drew 12 (by kernel_rfl) (by kernel_rfl) ?_
      simp only [List.take_succ_cons, List.take_zero, List.drop_succ_cons, List.drop_zero]
      repeat (quiet_step (fail))
      refine wpQuiet_nil ?_
      intro nq
      go_wp2_with fail
      refine wp_world (fun w1 => PRow w1 g 96 .u32 (addAt l0 a b) ∧ w1.heap[w.heap.size]? = some (.cells #[.int .i64 a, .int .i64 b, .int .i64 c, .int .i64 d] 211 (0, 0)) ∧ Keep (OneB g) w w1) ⟨(R.drewN nq).store a (add_step a b), (Below.heap_setCell _ _ _ _ (by show w.heap.size ≠ g; omega)).trans A4, (K.drewN nq).set1 _ _⟩ ?_
      clear R K A4 c1 c2 f1
      intro w1 hw1
      obtain ⟨R, A4, K⟩ := hw1
      have L := L.add a b

      have c1 := R.cell d (by rw [L.len]; omega)
      have c2 := R.cell a (by rw [L.len]; omega)
      have f1 := R.free d (by rw [L.len]; omega)
      refine wp_region_qt_drew 18 (by kernel_rfl) (by kernel_rfl) ?_
      simp only [List.take_succ_cons, List.take_zero, List.drop_succ_cons, List.drop_zero]
      repeat (quiet_step ((go_at_call 155; exact Calls.quiet_of_same (left_any _ _ (16 - 8 * 1) (xor_lt _ _ (L.lt d) (L.lt a)) (xor_step L d a) (by omega) _ (by decide) _))))
      refine wpQuiet_nil ?_
      intro nq
      go_wp2_with fail
      refine wp_world (fun w1 => PRow w1 g 96 .u32 (rotAt (addAt l0 a b) d a (16 - 8 * 1)) ∧ w1.heap[w.heap.size]? = some (.cells #[.int .i64 a, .int .i64 b, .int .i64 c, .int .i64 d] 211 (0, 0)) ∧ Keep (OneB g) w w1) ⟨(R.drewN nq).store d rfl, (Below.heap_setCell _ _ _ _ (by show w.heap.size ≠ g; omega)).trans A4, (K.drewN nq).set1 _ _⟩ ?_
      clear R K A4 c1 c2 f1
      intro w1 hw1
      obtain ⟨R, A4, K⟩ := hw1
      have L := L.rot d a (16 - 8 * 1)

      have c1 := R.cell c (by rw [L.len]; omega)
      have c2 := R.cell d (by rw [L.len]; omega)
      have f1 := R.free c (by rw [L.len]; omega)
      refine wp_region_qt_drew 12 (by kernel_rfl) (by kernel_rfl) ?_
      simp only [List.take_succ_cons, List.take_zero, List.drop_succ_cons, List.drop_zero]
      repeat (quiet_step (fail))
      refine wpQuiet_nil ?_
      intro nq
      go_wp2_with fail
      refine wp_world (fun w1 => PRow w1 g 96 .u32 (addAt (rotAt (addAt l0 a b) d a (16 - 8 * 1)) c d) ∧ w1.heap[w.heap.size]? = some (.cells #[.int .i64 a, .int .i64 b, .int .i64 c, .int .i64 d] 211 (0, 0)) ∧ Keep (OneB g) w w1) ⟨(R.drewN nq).store c (add_step c d), (Below.heap_setCell _ _ _ _ (by show w.heap.size ≠ g; omega)).trans A4, (K.drewN nq).set1 _ _⟩ ?_
      clear R K A4 c1 c2 f1
      intro w1 hw1
      obtain ⟨R, A4, K⟩ := hw1
      have L := L.add c d

      have c1 := R.cell b (by rw [L.len]; omega)
      have c2 := R.cell c (by rw [L.len]; omega)
      have f1 := R.free b (by rw [L.len]; omega)
      refine wp_region_qt_drew 18 (by kernel_rfl) (by kernel_rfl) ?_
      simp only [List.take_succ_cons, List.take_zero, List.drop_succ_cons, List.drop_zero]
      repeat (quiet_step ((go_at_call 155; exact Calls.quiet_of_same (left_any _ _ (12 - 5 * 1) (xor_lt _ _ (L.lt b) (L.lt c)) (xor_step L b c) (by omega) _ (by decide) _))))
      refine wpQuiet_nil ?_
      intro nq
      go_wp2_with fail
      go_roundw
      case rel => first | exact ⟨1 + 1, by omega, by go_num, (by rw [times_succ, ← Hl0.out]; exact (R.drewN nq).store b rfl), (Below.heap_setCell _ _ _ _ (by show w.heap.size ≠ g; omega)).trans A4, (K.drewN nq).set1 _ _⟩ | ((repeat apply Exists.intro); exact ⟨⟨1 + 1, by omega, by go_num, (by rw [times_succ, ← Hl0.out]; exact (R.drewN nq).store b rfl), (Below.heap_setCell _ _ _ _ (by show w.heap.size ≠ g; omega)).trans A4, (K.drewN nq).set1 _ _⟩, rfl⟩)
      case measure => simp [intOf]
    · go_wp2
      go_end0
      exact ⟨rfl, R, K⟩
end Go.Proofs.YtndcaaikjcicgaaDoor
