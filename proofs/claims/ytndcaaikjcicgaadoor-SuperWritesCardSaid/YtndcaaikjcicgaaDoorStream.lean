/-
  DERIVED. The walks of package stream: what its functions compute.
-/
import Derived.Test.YtndcaaikjcicgaaDoorProg
import Derived.WalkLawsBesides
import Derived.WalkSpells
import Derived.LoopTactic
import Derived.RegionTactic
import Derived.Deep.QuietTactic
import Derived.BigQuiet
import Derived.OwnWalk
import Derived.Lib.Hide
import Derived.Test.YtndcaaikjcicgaaDoorBase
import Derived.Test.YtndcaaikjcicgaaDoorChacha
set_option linter.unusedVariables false
set_option linter.unusedSimpArgs false
namespace Go.Proofs.YtndcaaikjcicgaaDoor
open Go.RowKit Go.Cof
theorem ofInt_u32 (a : Nat) (ha : a < 4294967296) : (BitVec.ofInt 32 (a : Int)).toNat = a := by
  rw [BitVec.ofInt_natCast, BitVec.toNat_ofNat]; exact Nat.mod_eq_of_lt (by omega)
theorem u32_or (a b : Nat) (ha : a < 4294967296) (hb : b < 4294967296) : bits .or .u32 (a : Int) (b : Int) = ((a ||| b : Nat) : Int) := by
  have hx : a ||| b < 2 ^ 32 := Nat.or_lt_two_pow (by omega) (by omega)
  show IntKind.u32.wrap ((BitVec.ofInt 32 (a : Int) ||| BitVec.ofInt 32 (b : Int)).toNat : Int) = _
  rw [BitVec.toNat_or, ofInt_u32 a ha, ofInt_u32 b hb, IntKind.wrap_u32]
  omega
theorem u32_xor (a b : Nat) (ha : a < 4294967296) (hb : b < 4294967296) : bits .xor .u32 (a : Int) (b : Int) = ((a ^^^ b : Nat) : Int) := by
  have hx : a ^^^ b < 2 ^ 32 := Nat.xor_lt_two_pow (by omega) (by omega)
  show IntKind.u32.wrap ((BitVec.ofInt 32 (a : Int) ^^^ BitVec.ofInt 32 (b : Int)).toNat : Int) = _
  rw [BitVec.toNat_xor, ofInt_u32 a ha, ofInt_u32 b hb, IntKind.wrap_u32]
  omega
theorem xor_lt (a b : Nat) (ha : a < 4294967296) (hb : b < 4294967296) : a ^^^ b < 4294967296 := by
  have hx : a ^^^ b < 2 ^ 32 := Nat.xor_lt_two_pow (by omega) (by omega)
  omega
theorem u32_rotl (x n : Nat) (hx : x < 4294967296) : bits .or .u32 ((x : Int) * 2 ^ n % 4294967296) ((x : Int) / 2 ^ (32 - n)) = ((rotl x n : Nat) : Int) := by
  have e1 : ((x : Int) * 2 ^ n % 4294967296) = ((x * 2 ^ n % 4294967296 : Nat) : Int) := by simp
  have e2 : ((x : Int) / 2 ^ (32 - n)) = ((x / 2 ^ (32 - n) : Nat) : Int) := by simp
  rw [e1, e2]
  exact u32_or _ _ (Nat.mod_lt _ (by omega)) (Nat.lt_of_le_of_lt (Nat.div_le_self _ _) hx)
theorem rotl_lt (x n : Nat) (hx : x < 4294967296) : rotl x n < 4294967296 := by
  unfold rotl
  have := Nat.or_lt_two_pow (n := 32) (x := x * 2 ^ n % 4294967296) (y := x / 2 ^ (32 - n)) (Nat.mod_lt _ (by omega)) (Nat.lt_of_le_of_lt (Nat.div_le_self _ _) hx)
  exact this
theorem ret_u32 {a b : Int} (h : a = b) : Ending.returned (.int .u32 a) = .returned (.int .u32 b) := by rw [h]
theorem turn_any (x : Int) (X n : Nat) (hx : X < 4294967296) (he : x = X) (hn : n ≤ 32) (w : World) :
    Calls Tryd.prog 156 #[.int .u32 x, .int .i64 n] w fun e w' => e = .returned (.int .u32 (rotl X n)) ∧ ∃ k, w' = w.drewN k := by
  subst he
  go_enter Tryd.func156, Tryd.ntmps156
  go_wp2
  go_quiet (fail)
  go_wp2
  go_ret
  exact ⟨ret_u32 (u32_rotl X n hx), ⟨_, rfl⟩⟩

/-- Sixteen words. -/
structure W16 (l : List Nat) : Prop where
  len : l.length = 16
  lt : ∀ i, l.getD i 0 < 4294967296
theorem set_lt {l : List Nat} (h : ∀ i, l.getD i 0 < 4294967296) (i v : Nat) (hv : v < 4294967296) (k : Nat) : (l.set i v).getD k 0 < 4294967296 := by
  have := h k
  simp only [List.getD_eq_getElem?_getD, List.getElem?_set] at *
  split
  · split <;> simp <;> omega
  · exact this
theorem W16.set {l : List Nat} (h : W16 l) (i v : Nat) (hv : v < 4294967296) : W16 (l.set i v) := ⟨by simp [h.len], set_lt h.lt i v hv⟩
theorem W16.add {l : List Nat} (h : W16 l) (i j : Nat) : W16 (addAt l i j) := h.set _ _ (Nat.mod_lt _ (by omega))
theorem W16.rot {l : List Nat} (h : W16 l) (i j n : Nat) : W16 (rotAt l i j n) := h.set _ _ (rotl_lt _ _ (xor_lt _ _ (h.lt i) (h.lt j)))
theorem add_step {l : List Nat} (i j : Nat) : ((l[i]?.getD 0 : Nat) + (l[j]?.getD 0 : Nat) : Int) % 4294967296 = (((l.getD i 0 + l.getD j 0) % 4294967296 : Nat) : Int) := by
  simp
theorem xor_step {l : List Nat} (h : W16 l) (i j : Nat) : bits .xor .u32 ((l[i]?.getD 0 : Nat) : Int) ((l[j]?.getD 0 : Nat) : Int) = ((l.getD i 0 ^^^ l.getD j 0 : Nat) : Int) := by
  have := u32_xor (l.getD i 0) (l.getD j 0) (h.lt i) (h.lt j)
  simpa using this

set_option maxRecDepth 100000 in
set_option maxHeartbeats 4000000 in
theorem quarter_any (B : Nat) (T : TypeId) (a b c d : Nat) (l : List Nat) (w : World) (ha : a < 16) (hb : b < 16) (hc : c < 16) (hd : d < 16) (R : Row w B .u32 T l) (L : W16 l) :
    Calls Tryd.prog 145 #[.pointer (some ⟨B, 0, none⟩), .int .i64 a, .int .i64 b, .int .i64 c, .int .i64 d] w fun e w' => e = .returned (.tuple #[]) ∧ Row w' B .u32 T (qr l a b c d) ∧ Keep (OneB B) w w' := by
  have ja : (a:Int) < 16 := by omega
  have jb : (b:Int) < 16 := by omega
  have jc : (c:Int) < 16 := by omega
  have jd : (d:Int) < 16 := by omega
  have K : Keep (OneB B) w w := Keep.refl _ _
  go_enter Tryd.func145, Tryd.ntmps145
  go_wp2

  have c1 := R.cell a (by rw [L.len]; omega)
  have c2 := R.cell b (by rw [L.len]; omega)
  have f1 := R.free a
  refine wp_region_qt_drew 13 (by kernel_rfl) (by kernel_rfl) ?_
  simp only [List.take_succ_cons, List.take_zero, List.drop_succ_cons, List.drop_zero]
  repeat (quiet_step (fail))
  refine wpQuiet_nil ?_
  intro nq
  go_wp2
  refine wp_world (fun w1 => Row w1 B .u32 T (addAt l a b) ∧ Keep (OneB B) w w1) ⟨(R.drewN nq).store a (add_step a b), (K.drewN nq).set1 _ _⟩ ?_
  clear R K c1 c2 f1
  intro w1 hw1
  obtain ⟨R, K⟩ := hw1
  have L := L.add a b

  have c1 := R.cell d (by rw [L.len]; omega)
  have c2 := R.cell a (by rw [L.len]; omega)
  have f1 := R.free d
  refine wp_region_qt_drew 16 (by kernel_rfl) (by kernel_rfl) ?_
  simp only [List.take_succ_cons, List.take_zero, List.drop_succ_cons, List.drop_zero]
  repeat (quiet_step ((go_at_call 156; exact Calls.quiet_of (turn_any _ _ 16 (xor_lt _ _ (L.lt d) (L.lt a)) (xor_step L d a) (by omega) _))))
  refine wpQuiet_nil ?_
  intro nq
  go_wp2

  refine wp_world (fun w1 => Row w1 B .u32 T (rotAt ((addAt l a b)) d a 16) ∧ Keep (OneB B) w w1) ⟨(R.drewN nq).store d rfl, (K.drewN nq).set1 _ _⟩ ?_
  clear R K c1 c2 f1
  intro w1 hw1
  obtain ⟨R, K⟩ := hw1
  have L := L.rot d a 16

  have c1 := R.cell c (by rw [L.len]; omega)
  have c2 := R.cell d (by rw [L.len]; omega)
  have f1 := R.free c
  refine wp_region_qt_drew 13 (by kernel_rfl) (by kernel_rfl) ?_
  simp only [List.take_succ_cons, List.take_zero, List.drop_succ_cons, List.drop_zero]
  repeat (quiet_step (fail))
  refine wpQuiet_nil ?_
  intro nq
  go_wp2
  refine wp_world (fun w1 => Row w1 B .u32 T (addAt (rotAt (addAt l a b) d a 16) c d) ∧ Keep (OneB B) w w1) ⟨(R.drewN nq).store c (add_step c d), (K.drewN nq).set1 _ _⟩ ?_
  clear R K c1 c2 f1
  intro w1 hw1
  obtain ⟨R, K⟩ := hw1
  have L := L.add c d

  have c1 := R.cell b (by rw [L.len]; omega)
  have c2 := R.cell c (by rw [L.len]; omega)
  have f1 := R.free b
  refine wp_region_qt_drew 16 (by kernel_rfl) (by kernel_rfl) ?_
  simp only [List.take_succ_cons, List.take_zero, List.drop_succ_cons, List.drop_zero]
  repeat (quiet_step ((go_at_call 156; exact Calls.quiet_of (turn_any _ _ 12 (xor_lt _ _ (L.lt b) (L.lt c)) (xor_step L b c) (by omega) _))))
  refine wpQuiet_nil ?_
  intro nq
  go_wp2

  refine wp_world (fun w1 => Row w1 B .u32 T (rotAt ((addAt (rotAt (addAt l a b) d a 16) c d)) b c 12) ∧ Keep (OneB B) w w1) ⟨(R.drewN nq).store b rfl, (K.drewN nq).set1 _ _⟩ ?_
  clear R K c1 c2 f1
  intro w1 hw1
  obtain ⟨R, K⟩ := hw1
  have L := L.rot b c 12

  have c1 := R.cell a (by rw [L.len]; omega)
  have c2 := R.cell b (by rw [L.len]; omega)
  have f1 := R.free a
  refine wp_region_qt_drew 13 (by kernel_rfl) (by kernel_rfl) ?_
  simp only [List.take_succ_cons, List.take_zero, List.drop_succ_cons, List.drop_zero]
  repeat (quiet_step (fail))
  refine wpQuiet_nil ?_
  intro nq
  go_wp2
  refine wp_world (fun w1 => Row w1 B .u32 T (addAt (rotAt (addAt (rotAt (addAt l a b) d a 16) c d) b c 12) a b) ∧ Keep (OneB B) w w1) ⟨(R.drewN nq).store a (add_step a b), (K.drewN nq).set1 _ _⟩ ?_
  clear R K c1 c2 f1
  intro w1 hw1
  obtain ⟨R, K⟩ := hw1
  have L := L.add a b

  have c1 := R.cell d (by rw [L.len]; omega)
  have c2 := R.cell a (by rw [L.len]; omega)
  have f1 := R.free d
  refine wp_region_qt_drew 16 (by kernel_rfl) (by kernel_rfl) ?_
  simp only [List.take_succ_cons, List.take_zero, List.drop_succ_cons, List.drop_zero]
  repeat (quiet_step ((go_at_call 156; exact Calls.quiet_of (turn_any _ _ 8 (xor_lt _ _ (L.lt d) (L.lt a)) (xor_step L d a) (by omega) _))))
  refine wpQuiet_nil ?_
  intro nq
  go_wp2

  refine wp_world (fun w1 => Row w1 B .u32 T (rotAt ((addAt (rotAt (addAt (rotAt (addAt l a b) d a 16) c d) b c 12) a b)) d a 8) ∧ Keep (OneB B) w w1) ⟨(R.drewN nq).store d rfl, (K.drewN nq).set1 _ _⟩ ?_
  clear R K c1 c2 f1
  intro w1 hw1
  obtain ⟨R, K⟩ := hw1
  have L := L.rot d a 8

  have c1 := R.cell c (by rw [L.len]; omega)
  have c2 := R.cell d (by rw [L.len]; omega)
  have f1 := R.free c
  refine wp_region_qt_drew 13 (by kernel_rfl) (by kernel_rfl) ?_
  simp only [List.take_succ_cons, List.take_zero, List.drop_succ_cons, List.drop_zero]
  repeat (quiet_step (fail))
  refine wpQuiet_nil ?_
  intro nq
  go_wp2
  refine wp_world (fun w1 => Row w1 B .u32 T (addAt (rotAt (addAt (rotAt (addAt (rotAt (addAt l a b) d a 16) c d) b c 12) a b) d a 8) c d) ∧ Keep (OneB B) w w1) ⟨(R.drewN nq).store c (add_step c d), (K.drewN nq).set1 _ _⟩ ?_
  clear R K c1 c2 f1
  intro w1 hw1
  obtain ⟨R, K⟩ := hw1
  have L := L.add c d

  have c1 := R.cell b (by rw [L.len]; omega)
  have c2 := R.cell c (by rw [L.len]; omega)
  have f1 := R.free b
  refine wp_region_qt_drew 16 (by kernel_rfl) (by kernel_rfl) ?_
  simp only [List.take_succ_cons, List.take_zero, List.drop_succ_cons, List.drop_zero]
  repeat (quiet_step ((go_at_call 156; exact Calls.quiet_of (turn_any _ _ 7 (xor_lt _ _ (L.lt b) (L.lt c)) (xor_step L b c) (by omega) _))))
  refine wpQuiet_nil ?_
  intro nq
  go_wp2

  go_end0
  exact ⟨rfl, (R.drewN nq).store b rfl, (K.drewN nq).set1 _ _⟩

theorem quarter_at (B : Nat) (T : TypeId) (a b c d : Nat) (ia ib ic id : Int) (l : List Nat) (w : World) (ha : a < 16) (hb : b < 16) (hc : c < 16) (hd : d < 16) (ea : ia = a) (eb : ib = b) (ec : ic = c) (ed : id = d) (R : Row w B .u32 T l) (L : W16 l) :
    Calls Tryd.prog 145 #[.pointer (some ⟨B, 0, none⟩), .int .i64 ia, .int .i64 ib, .int .i64 ic, .int .i64 id] w fun e w' => e = .returned (.tuple #[]) ∧ Row w' B .u32 T (qr l a b c d) ∧ Keep (OneB B) w w' := by
  subst ea eb ec ed
  exact quarter_any B T a b c d l w ha hb hc hd R L
theorem or4 (a b c d : Nat) (ha : a < 256) (hb : b < 256) (hc : c < 256) (hd : d < 256) : ((a ||| b * 256) ||| c * 65536) ||| d * 16777216 = a + 256 * b + 65536 * c + 16777216 * d := by
  have e1 : a ||| b * 256 = a + 256 * b := by
    have := Nat.two_pow_add_eq_or_of_lt (i := 8) (b := a) (by omega) b
    rw [Nat.or_comm, Nat.mul_comm b 256]
    simpa [Nat.add_comm] using this.symm
  have e2 : (a + 256 * b) ||| c * 65536 = a + 256 * b + 65536 * c := by
    have := Nat.two_pow_add_eq_or_of_lt (i := 16) (b := a + 256 * b) (by omega) c
    rw [Nat.or_comm, Nat.mul_comm c 65536]
    simpa [Nat.add_comm] using this.symm
  have e3 : (a + 256 * b + 65536 * c) ||| d * 16777216 = a + 256 * b + 65536 * c + 16777216 * d := by
    have := Nat.two_pow_add_eq_or_of_lt (i := 24) (b := a + 256 * b + 65536 * c) (by omega) d
    rw [Nat.or_comm, Nat.mul_comm d 16777216]
    simpa [Nat.add_comm] using this.symm
  rw [e1, e2, e3]
theorem word_any (s : ByteArray) (hs : 4 ≤ s.size) (w : World) :
    Calls Tryd.prog 144 #[.string s] w fun e w' => e = .returned (.int .u32 (le32 (bs s) 0 : Nat)) ∧ ∃ k, w' = w.drewN k := by
  have h0 : 0 < s.size := by omega
  have h1 : (1:Int) < s.size := by omega
  have h2 : (2:Int) < s.size := by omega
  have h3 : (3:Int) < s.size := by omega
  go_enter Tryd.func144, Tryd.ntmps144
  go_wp2
  go_quiet (fail)
  go_wp2
  go_ret
  refine ⟨?_, ⟨_, rfl⟩⟩
  have b0 := bs_getD s 0 (by omega)
  have b1 := bs_getD s 1 (by omega)
  have b2 := bs_getD s 2 (by omega)
  have b3 := bs_getD s 3 (by omega)
  have c0 := bs_lt s 0
  have c1 := bs_lt s 1
  have c2 := bs_lt s 2
  have c3 := bs_lt s 3
  refine ret_u32 ?_
  have fin : ∀ a b c d : Nat, a < 256 → b < 256 → c < 256 → d < 256 → bits BinOp.or IntKind.u32 (bits BinOp.or IntKind.u32 (bits BinOp.or IntKind.u32 ((a:Int) % 4294967296) ((b:Int) % 4294967296 * 256 % 4294967296)) ((c:Int) % 4294967296 * 65536 % 4294967296)) ((d:Int) % 4294967296 * 16777216 % 4294967296) = ((a + 256 * b + 65536 * c + 16777216 * d : Nat) : Int) := by
    intro a b c d ha hb hc hd
    have e0 : (a:Int) % 4294967296 = (a : Nat) := by omega
    have e1 : (b:Int) % 4294967296 * 256 % 4294967296 = ((b * 256 : Nat) : Int) := by omega
    have e2 : (c:Int) % 4294967296 * 65536 % 4294967296 = ((c * 65536 : Nat) : Int) := by omega
    have e3 : (d:Int) % 4294967296 * 16777216 % 4294967296 = ((d * 16777216 : Nat) : Int) := by omega
    have p1 : a ||| b * 256 < 4294967296 := by
      have := Nat.or_lt_two_pow (n := 32) (x := a) (y := b * 256) (by omega) (by omega); omega
    have p2 : (a ||| b * 256) ||| c * 65536 < 4294967296 := by
      have := Nat.or_lt_two_pow (n := 32) (x := a ||| b * 256) (y := c * 65536) (by omega) (by omega); omega
    rw [e0, e1, e2, e3, u32_or _ _ (by omega) (by omega), u32_or _ _ p1 (by omega), u32_or _ _ p2 (by omega), or4 a b c d ha hb hc hd]
  rw [b0] at c0; rw [b1] at c1; rw [b2] at c2; rw [b3] at c3
  have := fin _ _ _ _ c0 c1 c2 c3
  unfold le32
  rw [b0, b1, b2, b3]
  exact this
theorem keyed_len (key : List Nat) (k : Nat) : (keyed key k).length = 16 := by
  unfold keyed; induction k with
  | zero => rfl
  | succ k ih => simp [times, ih]
theorem nonced_len (l : List Nat) (nonce : List Nat) (k : Nat) : (nonced l nonce k).length = l.length := by
  unfold nonced; induction k with
  | zero => rfl
  | succ k ih => simp [times, ih]
theorem le32_lt (l : List Nat) (h : ∀ i, l.getD i 0 < 256) (i : Nat) : le32 l i < 4294967296 := by
  unfold le32
  have := h i; have := h (i + 1); have := h (i + 2); have := h (i + 3)
  omega
theorem W16.keyed (key : List Nat) (h : ∀ i, key.getD i 0 < 256) (k : Nat) : W16 (keyed key k) := by
  unfold Go.Cof.keyed
  induction k with
  | zero =>
    refine ⟨rfl, fun i => ?_⟩
    simp only [times]
    by_cases hi : i < 16
    · have : ∀ j : Fin 16, start0.getD j.val 0 < 4294967296 := by decide
      exact this ⟨i, hi⟩
    · rw [List.getD_eq_getElem?_getD, List.getElem?_eq_none (by simp [start0]; omega)]; simp
  | succ k ih => exact ih.set _ _ (le32_lt _ h _)
theorem W16.nonced {l : List Nat} (L : W16 l) (nonce : List Nat) (h : ∀ i, nonce.getD i 0 < 256) (k : Nat) : W16 (nonced l nonce k) := by
  unfold Go.Cof.nonced
  induction k with
  | zero => exact L
  | succ k ih => exact ih.set _ _ (le32_lt _ h _)
theorem W16.startOf (key : List Nat) (hk : ∀ i, key.getD i 0 < 256) (n : Nat) (nonce : List Nat) (hn : ∀ i, nonce.getD i 0 < 256) : W16 (Go.Cof.start key n nonce) :=
  W16.nonced ((W16.keyed key hk 8).set 12 _ (Nat.mod_lt _ (by omega))) nonce hn 3
theorem W16.qr {l : List Nat} (L : W16 l) (a b c d : Nat) : W16 (qr l a b c d) := by
  unfold Go.Cof.qr
  exact ((((((((L.add _ _).rot _ _ _).add _ _).rot _ _ _).add _ _).rot _ _ _).add _ _).rot _ _ _)
theorem W16.times {f : Nat → List Nat → List Nat} (hf : ∀ i l, W16 l → W16 (f i l)) (n : Nat) {l : List Nat} (L : W16 l) : W16 (times f n l) := by
  induction n with
  | zero => exact L
  | succ n ih => exact hf n _ ih
theorem W16.col {l : List Nat} (L : W16 l) (i : Nat) : W16 (col i l) := L.qr _ _ _ _
theorem W16.dia {l : List Nat} (L : W16 l) (i : Nat) : W16 (dia i l) := L.qr _ _ _ _
theorem W16.dbl {l : List Nat} (L : W16 l) (i : Nat) : W16 (dbl i l) := W16.times (fun i _ h => h.dia i) 4 (W16.times (fun i _ h => h.col i) 4 L)
theorem le32_extract (s : ByteArray) (i : Nat) (h : i + 4 ≤ s.size) : le32 (bs (s.extract i s.size)) 0 = le32 (bs s) i := by
  have e : ∀ j, j < 4 → (bs (s.extract i s.size)).getD j 0 = (bs s).getD (i + j) 0 := by
    intro j hj
    rw [bs_extract]
    simp only [List.getD_eq_getElem?_getD, List.getElem?_take, List.getElem?_drop]
    rw [if_pos (by omega)]
  unfold le32
  have := e 0 (by omega); have := e 1 (by omega); have := e 2 (by omega); have := e 3 (by omega)
  simp_all
theorem keyed_succ (key : List Nat) (k : Nat) : keyed key (k + 1) = (keyed key k).set (4 + k) (le32 key (4 * k)) := rfl
theorem nonced_succ (l nonce : List Nat) (k : Nat) : nonced l nonce (k + 1) = (nonced l nonce k).set (13 + k) (le32 nonce (4 * k)) := rfl
theorem size_from (s : ByteArray) (i : Nat) : (s.extract i s.size).size = s.size - i := by simp
theorem col_le (i : Nat) : 4 + (i : Int) = ((4 + i : Nat) : Int) := by omega
theorem outTo_succ (t s : List Nat) (k : Nat) : outTo t s (k + 1) = outTo t s k ++ word4 ((t.getD k 0 + s.getD k 0) % 4294967296) := rfl
theorem outTo_len (t s : List Nat) (k : Nat) : (outTo t s k).length = 4 * k := by
  induction k with
  | zero => rfl
  | succ k ih => rw [outTo_succ, List.length_append, ih]; simp [word4]; omega
theorem info5 : (Tryd.prog.info? 5).map (fun i => (i.zero, i.size, i.bytes)) = some (some (.int .u8 0), 1, 1) := by kernel_rfl
theorem size34 : (Tryd.prog.info? 96).map (·.size) = some 1 := by kernel_rfl
/-- Four cells. -/
theorem word4_u8 (x : Nat) (hx : x < 4294967296) : u8s (word4 x) = [.int .u8 ((x : Int) % 256), .int .u8 ((x : Int) / 256 % 256), .int .u8 ((x : Int) / 65536 % 256), .int .u8 ((x : Int) / 16777216)] := by
  have e0 : ((x % 256 : Nat) : Int) = (x : Int) % 256 := by omega
  have e1 : ((x / 256 % 256 : Nat) : Int) = (x : Int) / 256 % 256 := by omega
  have e2 : ((x / 65536 % 256 : Nat) : Int) = (x : Int) / 65536 % 256 := by omega
  have e3 : ((x / 16777216 % 256 : Nat) : Int) = (x : Int) / 16777216 := by omega
  simp only [u8s, word4, List.map_cons, List.map_nil, e0, e1, e2, e3]
set_option maxRecDepth 100000 in
set_option maxHeartbeats 8000000 in
theorem block_any (key nonce : ByteArray) (n : Nat) (hk0 : Hid (key.size = 32)) (hn0 : Hid (nonce.size = 12)) (h1 : n < 4294967296) (w : World) :
    Calls Tryd.prog 123 #[.string key, .int .i64 n, .string nonce] w fun e w' => e = .returned (.tuple #[.string (txt (block (bs key) n (bs nonce))), .nilIface]) ∧ Keep NoB w w' := by
  have b1 : ((key.size : Int) != 32) = false := by rw [hk0.out]; rfl
  have b2 : ((nonce.size : Int) != 12) = false := by rw [hn0.out]; rfl
  have b3 : decide ((n : Int) < 0) = false := by simp
  have b4 : decide (4294967296 ≤ (n : Int)) = false := by simp; omega
  have LK : ∀ k, W16 (keyed (bs key) k) := fun k => W16.keyed _ (bs_lt key) k
  have HLK := Lib.hid LK
  clear LK
  go_enter Tryd.func123, Tryd.ntmps123
  go_wp2
  refine wp_world (fun w1 => Row w1 w.heap.size .u32 213 (keyed (bs key) 0) ∧ Keep NoB w w1) ⟨heap_alloc_new w _, (Keep.refl _ _).alloc _⟩ ?_
  intro w1 hw1
  go_loopw [35] (fun i wr => ∃ k : Nat, k ≤ 8 ∧ i = .int .i64 k ∧ Row wr w.heap.size .u32 213 (keyed (bs key) k) ∧ Keep NoB w wr) (fun i _ => 8 - (intOf i).toNat)
  case atStart => exact ⟨0, by omega, rfl, hw1.1, hw1.2⟩
  case round =>
    clear hw1 w1
    obtain ⟨k, hk, rfl, R, K⟩ := hrel
    by_cases hlt : k < 8
    · have j1 : (k:Int) < 8 := by omega
      have j2 : (4:Int) + k < 16 := by omega
      have j3 : (4:Int) * k ≤ key.size := by rw [hk0.out]; omega
      have c1 := R.cell (4 + k) (by rw [keyed_len]; omega)
      have f1 := R.free (4 + k)
      go_wp2_with fail
      refine (word_any _ (by rw [size_from, hk0.out]; omega) _).mono ?_
      rintro e w2 ⟨rfl, m, rfl⟩
      go_wp2
      go_roundw
      case rel => first | exact ⟨k + 1, by omega, by go_num, by rw [keyed_succ]; exact (R.drewN m).store (4 + k) (by rw [le32_extract key _ (by rw [hk0.out]; omega)]), (K.drewN m).setCell (.inr (Nat.le_refl _)) _⟩ | ((repeat apply Exists.intro); exact ⟨⟨k + 1, by omega, by go_num, by rw [keyed_succ]; exact (R.drewN m).store (4 + k) (by rw [le32_extract key _ (by rw [hk0.out]; omega)]), (K.drewN m).setCell (.inr (Nat.le_refl _)) _⟩, rfl⟩)
      case measure => simp [intOf]; omega
    · obtain rfl : k = 8 := by omega
      clear hlt hk
      have f1 := R.free 12
      have c1 := R.cell 12 (by rw [keyed_len]; omega)
      go_wp2
      clear f1 c1
      refine wp_world (fun w1 => Row w1 w.heap.size .u32 213 (nonced ((keyed (bs key) 8).set 12 (n % 4294967296)) (bs nonce) 0) ∧ Keep NoB w w1) ⟨R.store 12 (by omega), K.setCell (.inr (Nat.le_refl _)) _⟩ ?_
      clear R K wr
      intro w1 hw1
      obtain ⟨l12, hl12⟩ : ∃ l, l = (keyed (bs key) 8).set 12 (n % 4294967296) := ⟨_, rfl⟩
      have L12 : W16 l12 := by rw [hl12]; exact (HLK.out 8).set 12 _ (Nat.mod_lt _ (by omega))
      rw [← hl12] at hw1
      have Hl12 := Lib.hid hl12
      clear hl12
      go_loopw [50] (fun i wr => ∃ k : Nat, k ≤ 3 ∧ i = .int .i64 k ∧ Row wr w.heap.size .u32 213 (nonced l12 (bs nonce) k) ∧ Keep NoB w wr) (fun i _ => 3 - (intOf i).toNat)
      case atStart => exact ⟨0, by omega, rfl, hw1.1, hw1.2⟩
      case round =>
        clear hw1 w1
        obtain ⟨k, hk, rfl, R, K⟩ := hrel
        by_cases hlt : k < 3
        · have j1 : (k:Int) < 3 := by omega
          have j2 : (13:Int) + k < 16 := by omega
          have j3 : (4:Int) * k ≤ nonce.size := by rw [hn0.out]; omega
          have c1 := R.cell (13 + k) (by rw [nonced_len, L12.len]; omega)
          have f1 := R.free (13 + k)
          go_wp2_with fail
          refine (word_any _ (by rw [size_from, hn0.out]; omega) _).mono ?_
          rintro e w2 ⟨rfl, m, rfl⟩
          go_wp2
          go_roundw
          case rel => first | exact ⟨k + 1, by omega, by go_num, by rw [nonced_succ]; exact (R.drewN m).store (13 + k) (by rw [le32_extract nonce _ (by rw [hn0.out]; omega)]), (K.drewN m).setCell (.inr (Nat.le_refl _)) _⟩ | ((repeat apply Exists.intro); exact ⟨⟨k + 1, by omega, by go_num, by rw [nonced_succ]; exact (R.drewN m).store (13 + k) (by rw [le32_extract nonce _ (by rw [hn0.out]; omega)]), (K.drewN m).setCell (.inr (Nat.le_refl _)) _⟩, rfl⟩)
          case measure => simp [intOf]; omega
        · obtain rfl : k = 3 := by omega
          clear hlt hk

          refine wp_world (fun w1 => Row w1 w.heap.size .u32 213 (Go.Cof.start (bs key) n (bs nonce)) ∧ Keep NoB w w1) ⟨by rw [Hl12.out] at R; exact R, K⟩ ?_
          have LS : W16 (Go.Cof.start (bs key) n (bs nonce)) := W16.startOf _ (bs_lt key) _ _ (bs_lt nonce)
          generalize Hs : Go.Cof.start (bs key) n (bs nonce) = s at LS
          have Hs' := Lib.hid Hs
          clear Hs R K wr Hl12 L12
          intro w1 hw1
          obtain ⟨R, K⟩ := hw1
          have hi35 : (Tryd.prog.info? 213).map (·.size) = some (ints .u32 s).size := by rw [ints_size, LS.len]; kernel_rfl
          have Hi35 := Lib.hid hi35
          clear hi35
          have Hs16 : Hid ((ints .u32 s).size = 16) := by show (ints .u32 s).size = 16; rw [ints_size, LS.len]
          go_wp2_with (first | (refine wpList_load_row rfl 213 _ rfl w.heap.size rfl 213 (ints .u32 s) (0, 0) _ R Tryd.underlying213 rfl Hi35.out ?_) | (refine wpList_store_whole rfl 213 _ _ rfl w1.heap.size 213 _ (ints .u32 s) rfl rfl (heap_alloc_new w1 _) Hi35.out 16 ?_ Hs16.out (ints_one _ _) ?_; exact rfl))
          have hlt1 : w.heap.size < w1.heap.size := R.lt
          obtain ⟨BT, hBT⟩ : ∃ b, b = w1.heap.size := ⟨_, rfl⟩
          rw [← hBT] at hlt1
          have HBT := Lib.hid hBT
          refine wp_world (fun w2 => Row w2 BT .u32 213 s ∧ Row w2 w.heap.size .u32 213 s ∧ Keep NoB w w2) ⟨by rw [hBT]; exact heap_setRow (heap_alloc_new w1 _), (R.keep ((Keep.refl NoB w1).alloc _) (fun x => x)).keep ((Keep.refl (OneB w1.heap.size) _).setRow (.inl rfl) _) (fun e => by simp only [OneB] at e; omega), (K.alloc _).setRow (.inr (by omega)) _⟩ ?_
          rw [← hBT]
          clear R K hBT
          intro w2 hw2
          obtain ⟨RT, RS, K⟩ := hw2
          go_loopw [63] (fun i wr => ∃ k : Nat, k ≤ 10 ∧ i = .int .i64 k ∧ Row wr BT .u32 213 (times dbl k s) ∧ Row wr w.heap.size .u32 213 s ∧ Keep NoB w wr) (fun i _ => 10 - (intOf i).toNat)
          case atStart => exact ⟨0, by omega, rfl, RT, RS, K⟩
          case round =>
            clear RT RS K w2
            obtain ⟨k, hk, rfl, RT, RS, K⟩ := hrel
            have LT : W16 (times dbl k s) := W16.times (fun i _ h => h.dbl i) k LS
            by_cases hlt : k < 10
            · have j1 : (k:Int) < 10 := by omega
              obtain ⟨t0, ht0⟩ : ∃ t, t = times dbl k s := ⟨_, rfl⟩
              rw [← ht0] at RT LT
              have Ht0 := Lib.hid ht0
              clear ht0
              go_wp2
              refine wp_world (fun w2 => Row w2 BT .u32 213 t0 ∧ Row w2 w.heap.size .u32 213 s ∧ Keep NoB w w2) ⟨RT, RS, K⟩ ?_
              clear RT RS K wr
              intro w2 hw2
              obtain ⟨RT, RS, K⟩ := hw2
              go_loopw [65] (fun i wr => ∃ j : Nat, j ≤ 4 ∧ i = .int .i64 j ∧ Row wr BT .u32 213 (times col j t0) ∧ Row wr w.heap.size .u32 213 s ∧ Keep NoB w wr) (fun i _ => 4 - (intOf i).toNat)
              case atStart => exact ⟨0, by omega, rfl, RT, RS, K⟩
              case round =>
                clear RT RS K w2
                obtain ⟨j, hj, rfl, RT, RS, K⟩ := hrel
                have LJ : W16 (times col j t0) := W16.times (fun i _ h => h.col i) j LT
                by_cases hlt : j < 4
                · have j1 : (j:Int) < 4 := by omega
                  go_wp2_with fail
                  refine (quarter_at BT 213 j (4 + j) (8 + j) (12 + j) _ _ _ _ _ wr (by omega) (by omega) (by omega) (by omega) rfl (by omega) (by omega) (by omega) RT LJ).mono ?_
                  rintro e w2 ⟨rfl, RT', K'⟩
                  have RS' := RS.keep K' (fun e => by simp only [Cof.OneB] at e; omega)
                  have K2 := K.trans K' (fun i hi e => by simp only [Cof.OneB] at e; omega)
                  clear RT RS K K'
                  go_wp2
                  go_roundw
                  case rel => first | exact ⟨j + 1, by omega, by go_num, RT', RS', K2⟩ | ((repeat apply Exists.intro); exact ⟨⟨j + 1, by omega, by go_num, RT', RS', K2⟩, rfl⟩)
                  case measure => simp [intOf]; omega
                · obtain rfl : j = 4 := by omega
                  clear hlt hj
                  obtain ⟨t1, ht1⟩ : ∃ t, t = times col 4 t0 := ⟨_, rfl⟩
                  rw [← ht1] at RT LJ
                  have Ht1 := Lib.hid ht1
                  clear ht1
                  go_wp2
                  refine wp_world (fun w2 => Row w2 BT .u32 213 t1 ∧ Row w2 w.heap.size .u32 213 s ∧ Keep NoB w w2) ⟨RT, RS, K⟩ ?_
                  clear RT RS K wr
                  intro w2 hw2
                  obtain ⟨RT, RS, K⟩ := hw2
                  go_loopw [77] (fun i wr => ∃ j : Nat, j ≤ 4 ∧ i = .int .i64 j ∧ Row wr BT .u32 213 (times dia j t1) ∧ Row wr w.heap.size .u32 213 s ∧ Keep NoB w wr) (fun i _ => 4 - (intOf i).toNat)
                  case atStart => exact ⟨0, by omega, rfl, RT, RS, K⟩
                  case round =>
                    clear RT RS K w2
                    obtain ⟨j, hj, rfl, RT, RS, K⟩ := hrel
                    have LD : W16 (times dia j t1) := W16.times (fun i _ h => h.dia i) j LJ
                    by_cases hlt : j < 4
                    · have j1 : (j:Int) < 4 := by omega
                      go_wp2_with fail
                      refine (quarter_at BT 213 j (4 + (j + 1) % 4) (8 + (j + 2) % 4) (12 + (j + 3) % 4) _ _ _ _ _ wr (by omega) (by omega) (by omega) (by omega) rfl (by omega) (by omega) (by omega) RT LD).mono ?_
                      rintro e w2 ⟨rfl, RT', K'⟩
                      have RS' := RS.keep K' (fun e => by simp only [Cof.OneB] at e; omega)
                      have K2 := K.trans K' (fun i hi e => by simp only [Cof.OneB] at e; omega)
                      clear RT RS K K'
                      go_wp2
                      go_roundw
                      case rel => first | exact ⟨j + 1, by omega, by go_num, RT', RS', K2⟩ | ((repeat apply Exists.intro); exact ⟨⟨j + 1, by omega, by go_num, RT', RS', K2⟩, rfl⟩)
                      case measure => simp [intOf]; omega
                    · obtain rfl : j = 4 := by omega
                      clear hlt hj
                      go_wp2
                      have RT' : Row wr BT .u32 213 (times dbl (k + 1) s) := by rw [times_succ, ← Ht0.out]; unfold dbl; rw [← Ht1.out]; exact RT
                      go_roundw
                      case rel => first | exact ⟨k + 1, by omega, by go_num, RT', RS, K⟩ | ((repeat apply Exists.intro); exact ⟨⟨k + 1, by omega, by go_num, RT', RS, K⟩, rfl⟩)
                      case measure => simp [intOf]; omega
            · obtain rfl : k = 10 := by omega
              clear hlt hk
              obtain ⟨t, ht⟩ : ∃ t, t = times dbl 10 s := ⟨_, rfl⟩
              rw [← ht] at RT LT
              have Ht := Lib.hid ht
              clear ht
              have hi35 : (Tryd.prog.info? 213).map (·.size) = some (ints .u32 t).size := by rw [ints_size, LT.len]; kernel_rfl
              have Ht35 := Lib.hid hi35
              clear hi35
              go_wp2_with (first | (refine wpList_load_row rfl 213 _ rfl BT rfl 213 (ints .u32 t) (0, 0) _ RT Tryd.underlying213 rfl Ht35.out ?_))
              clear Ht35
              obtain ⟨i0, hi0, hz0, hz1, hz2⟩ := info_parts info5
              refine wp_world (fun w2 => Row w2 BT .u32 213 t ∧ Row w2 w.heap.size .u32 213 s ∧ Keep NoB w w2) ⟨RT, RS, K⟩ ?_
              clear RT RS K wr
              intro w2 hw2
              obtain ⟨RT, RS, K⟩ := hw2
              have hBT2 := RT.lt
              go_loopw [14, 97] (fun v i wr => ∃ k : Nat, k ≤ 16 ∧ i = .int .i64 k ∧ Row wr w.heap.size .u32 213 s ∧ Keep NoB w wr ∧ wr.ownsRow (BT + 1) 5 1 v (outTo t s k).length (u8s (outTo t s k)) ∧ BT + 1 ≤ wr.heap.size) (fun _ i _ => 16 - (intOf i).toNat)
              case atStart => exact ⟨0, by omega, rfl, RS, K, World.ownsRow_nil _ _ _ _, by omega⟩
              case round =>
                clear RT RS K hBT2 w2
                obtain ⟨k, hk, rfl, RS, K, hown, hsz⟩ := hrel
                by_cases hlt : k < 16
                · have j1 : (k:Int) < 16 := by omega
                  have c1 := RS.cell k (by rw [LS.len]; omega)
                  have hix := fun wx => run_index_ints (P := Tryd.prog) (kd := .u32) Tryd.underlying213 Tryd.underlying96 rfl size34 t k LT.len hlt wx
                  have hlen : (outTo t s k).length = 4 * k := outTo_len t s k
                  have Hlen := Lib.hid hlen
                  clear hlen
                  go_wp2_with (first | (at_builtin; refine wpList_append_own _ rfl _ _ 104 rfl (BT + 1) 5 i0 (.int .u8 0) 1 1 Tryd.underlying104 hi0 hz0 hz1 hz2 rfl (by decide) u14 _ _ rfl (hown.alloc _) ⟨wr.heap.size, 0, none⟩ 4 4 _ rfl rfl (cells_new _ _ _) (ones4 _ _ _ _ _) (by rw [Hlen.out]; unfold maxLen; omega) (by rw [Hlen.out]; omega) (by simp; omega) ?_; intro v' w' hown' hgrow _))
                  have hx4 : (t.getD k 0 + s.getD k 0) % 4294967296 < 4294967296 := Nat.mod_lt _ (by omega)
                  have hw4 := word4_u8 _ hx4
                  have ex : (((t.getD k 0 + s.getD k 0) % 4294967296 : Nat) : Int) = ((t.getD k 0 : Int) + (s.getD k 0 : Int)) % 4294967296 := by omega
                  have ey : ((t.getD k 0 : Int) + (s.getD k 0 : Int)) % 4294967296 % 256 = ((t.getD k 0 : Int) + (s.getD k 0 : Int)) % 256 := by omega
                  rw [ex, ey] at hw4
                  simp only [List.getD_eq_getElem?_getD] at hw4
                  rw [← hw4, ← u8s_append] at hown'
                  have hl4 : (outTo t s k).length + 4 = (outTo t s (k + 1)).length := by rw [outTo_succ, List.length_append]; rfl
                  rw [hl4] at hown'
                  have hown2 : w'.ownsRow (BT + 1) 5 1 v' (outTo t s (k + 1)).length (u8s (outTo t s (k + 1))) := by
                    rw [outTo_succ]
                    simp only [List.getD_eq_getElem?_getD]
                    exact hown'
                  have hne : ∀ b, u14.ownBlock = some b → BT + 1 ≤ b := fun b hb => (hown.lt b hb).1
                  have K2 : Keep NoB w w' := (K.alloc _).grown hgrow (fun b hb => .inr (by have := hne b hb; omega))
                  have RS2 : Row w' w.heap.size .u32 213 s := (RS.alloc _).grown hgrow (fun e => by have := hne _ e.symm; omega)
                  have hsz2 : BT + 1 ≤ w'.heap.size := by have := hgrow.size; simp at this; omega
                  have hrel2 : ∃ k_1 : Nat, k_1 ≤ 16 ∧ Value.int IntKind.i64 (↑k + 1) = Value.int IntKind.i64 ↑k_1 ∧ Row w' w.heap.size IntKind.u32 213 s ∧ Keep NoB w w' ∧ w'.ownsRow (BT + 1) 5 1 v' (outTo t s k_1).length (u8s (outTo t s k_1)) ∧ BT + 1 ≤ w'.heap.size :=
                    ⟨k + 1, by omega, by go_num, RS2, K2, hown2, hsz2⟩
                  clear hown' hgrow hw4 ex ey hown2 RS2 K2 hx4 hl4 hix c1
                  go_roundw
                  case rel => exact hrel2
                  case measure => simp [intOf]; omega
                · obtain rfl : k = 16 := by omega
                  have hcv := run_string_own (P := Tryd.prog) hown Tryd.underlying104 Tryd.underlying5 Tryd.underlying9
                  have hfin : outTo t s 16 = block (bs key) n (bs nonce) := by rw [Ht.out, ← Hs'.out]; rfl
                  rw [hfin] at hcv
                  have Hcv := Lib.hid hfin
                  clear hfin
                  go_wp2
                  go_ret2
                  exact ⟨rfl, K⟩
end Go.Proofs.YtndcaaikjcicgaaDoor
