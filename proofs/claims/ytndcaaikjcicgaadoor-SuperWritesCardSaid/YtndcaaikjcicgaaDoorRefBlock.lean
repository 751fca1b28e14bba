/-
  DERIVED. The walk of the reference's Block.
-/
import Derived.Test.YtndcaaikjcicgaaDoorRefWords
import Derived.Test.YtndcaaikjcicgaaDoorXor
import Derived.Test.YtndcaaikjcicgaaDoorBase2
set_option linter.unusedVariables false
set_option linter.unusedSimpArgs false
namespace Go.Proofs.YtndcaaikjcicgaaDoor
open Go.RowKit Go.Cof

/-- expand 32-byte k -/
def sig : List Nat := [101, 120, 112, 97, 110, 100, 32, 51, 50, 45, 98, 121, 116, 101, 32, 107]
theorem le32_left (a b : List Nat) (i : Nat) (h : i + 4 ≤ a.length) : le32 (a ++ b) i = le32 a i := by
  have e : ∀ j, j < a.length → (a ++ b).getD j 0 = a.getD j 0 := fun j hj => by
    rw [List.getD_eq_getElem?_getD, List.getD_eq_getElem?_getD, List.getElem?_append_left hj]
  unfold le32
  rw [e i (by omega), e (i + 1) (by omega), e (i + 2) (by omega), e (i + 3) (by omega)]
theorem le32_right (a b : List Nat) (i : Nat) : le32 (a ++ b) (a.length + i) = le32 b i := by
  have e : ∀ j, (a ++ b).getD (a.length + j) 0 = b.getD j 0 := fun j => by
    rw [List.getD_eq_getElem?_getD, List.getD_eq_getElem?_getD, List.getElem?_append_right (by omega), Nat.add_sub_cancel_left]
  unfold le32
  rw [e i, show a.length + i + 1 = a.length + (i + 1) by omega, show a.length + i + 2 = a.length + (i + 2) by omega, show a.length + i + 3 = a.length + (i + 3) by omega, e, e, e]
theorem ref_start (key nonce : List Nat) (n : Nat) : wordsOf (sig ++ key) 12 ++ [n % 4294967296] ++ wordsOf nonce 3 = Go.Cof.start key n nonce := by
  have l : ∀ i, i + 4 ≤ 16 → le32 (sig ++ key) i = le32 sig i := fun i h => le32_left sig key i h
  have r : ∀ i, le32 (sig ++ key) (16 + i) = le32 key i := fun i => le32_right sig key i
  simp only [wordsOf, List.nil_append, List.cons_append]
  rw [l (4 * 0) (by omega), l (4 * 1) (by omega), l (4 * 2) (by omega), l (4 * 3) (by omega)]
  rw [show 4 * 4 = 16 + 4 * 0 from rfl, show 4 * 5 = 16 + 4 * 1 from rfl, show 4 * 6 = 16 + 4 * 2 from rfl, show 4 * 7 = 16 + 4 * 3 from rfl, show 4 * 8 = 16 + 4 * 4 from rfl, show 4 * 9 = 16 + 4 * 5 from rfl, show 4 * 10 = 16 + 4 * 6 from rfl, show 4 * 11 = 16 + 4 * 7 from rfl]
  simp only [r]
  rfl
theorem bs_sig : bs (ByteArray.mk #[101, 120, 112, 97, 110, 100, 32, 51, 50, 45, 98, 121, 116, 101, 32, 107]) = sig := rfl
theorem start_len (key nonce : List Nat) (n : Nat) : (Go.Cof.start key n nonce).length = 16 := by
  unfold Go.Cof.start
  rw [nonced_len, List.length_set, keyed_len]
theorem row16 (w : World) (base g cap : Nat) {E : TypeId} (key nonce : ByteArray) (n : Nat) (h1 : n < 4294967296)
    (h : w.ownsRow base E 1 (.slice (some ⟨g, 0, none⟩) (13 + 3) cap) (13 + 3) (cellsOf .u32 (wordsOf (bs ((ByteArray.mk #[101, 120, 112, 97, 110, 100, 32, 51, 50, 45, 98, 121, 116, 101, 32, 107]) ++ key)) 12 ++ [n]) ++ cellsOf .u32 (wordsOf (bs nonce) 3))) :
    PRow w g E .u32 (Go.Cof.start (bs key) n (bs nonce)) := by
  have e := ref_start (bs key) (bs nonce) n
  rw [Nat.mod_eq_of_lt h1] at e
  rw [← cellsOf_append, bs_append, bs_sig, e] at h
  exact PRow.ofOwn (l := Go.Cof.start (bs key) n (bs nonce)) (by rw [start_len]; exact h)
/-- One of the reference's twenty rounds. -/
def rnd (k : Nat) (l : List Nat) : List Nat := if k % 2 = 1 then times dia 4 l else times col 4 l
theorem _root_.Go.Proofs.YtndcaaikjcicgaaDoor.W16.rnd {l : List Nat} (h : W16 l) (k : Nat) : W16 (rnd k l) := by
  unfold Go.Proofs.YtndcaaikjcicgaaDoor.rnd
  split
  · exact W16.times (fun i _ h => h.dia i) 4 h
  · exact W16.times (fun i _ h => h.col i) 4 h
theorem rnd_even (j : Nat) (l : List Nat) : rnd (2 * j) l = times col 4 l := by
  unfold rnd; rw [if_neg (by omega)]
theorem rnd_odd (j : Nat) (l : List Nat) : rnd (2 * j + 1) l = times dia 4 l := by
  unfold rnd; rw [if_pos (by omega)]
theorem rnd_two (l : List Nat) (j : Nat) : times rnd (2 * j) l = times dbl j l := by
  induction j with
  | zero => rw [Nat.mul_zero, times, times]
  | succ j ih =>
    have e1 : times rnd (2 * j + 1 + 1) l = rnd (2 * j + 1) (rnd (2 * j) (times rnd (2 * j) l)) := by rw [times_succ, times_succ]
    have e2 : times dbl (j + 1) l = dbl j (times dbl j l) := by rw [times_succ]
    rw [show 2 * (j + 1) = 2 * j + 1 + 1 by omega, e1, e2, ih, rnd_even, rnd_odd, dbl]
theorem rnd_all (l : List Nat) : times rnd 20 l = times dbl 10 l := rnd_two l 10
/-- A word's bytes, so many. -/
def bytesTo (x : Nat) : Nat → List Nat
  | 0 => []
  | j + 1 => bytesTo x j ++ [x / 256 ^ j % 256]
theorem bytesTo_len (x j : Nat) : (bytesTo x j).length = j := by
  induction j with
  | zero => rfl
  | succ j ih => rw [bytesTo, List.length_append, ih]; rfl
theorem bytesTo_four (x : Nat) : bytesTo x 4 = word4 x := by
  simp only [bytesTo, word4, List.nil_append, List.cons_append, Nat.pow_zero, Nat.div_one, show 256 ^ 1 = 256 from rfl, show 256 ^ 2 = 65536 from rfl, show 256 ^ 3 = 16777216 from rfl]
theorem mix_at (g cap : Nat) (a b c d : Nat) (x1 x2 x3 x4 : Int) (l : List Nat) (w : World) (e1 : x1 = a) (e2 : x2 = b) (e3 : x3 = c) (e4 : x4 = d) (ha : a < 16) (hb : b < 16) (hc : c < 16) (hd : d < 16) (R : PRow w g 96 .u32 l) (L : W16 l) :
    Calls Tryd.prog 143 #[.slice (some ⟨g, 0, none⟩) 16 cap, .agg #[.int .i64 x1, .int .i64 x2, .int .i64 x3, .int .i64 x4]] w fun e w' => e = .returned (.tuple #[]) ∧ PRow w' g 96 .u32 (qr l a b c d) ∧ Keep (OneB g) w w' := by
  subst e1 e2 e3 e4
  exact mix_any g cap a b c d l w ha hb hc hd R L
set_option maxRecDepth 100000 in
set_option maxHeartbeats 8000000 in
theorem refBlock_any (key nonce : ByteArray) (n : Nat) (hk0 : Hid (key.size = 32)) (hn0 : Hid (nonce.size = 12)) (h1 : n < 4294967296) (w : World) :
    Calls Tryd.prog 122 #[.string key, .int .i64 n, .string nonce] w fun e w' => e = .returned (.tuple #[.string (txt (block (bs key) n (bs nonce))), .int .i64 0]) ∧ Keep NoB w w' := by
  obtain ⟨i0, hi0, hz0, hz1, hz2⟩ := info_parts info_u32
  have b1 : ((key.size : Int) != 32) = false := by rw [hk0.out]; rfl
  have b2 : ((nonce.size : Int) != 12) = false := by rw [hn0.out]; rfl
  go_enter Tryd.func122, Tryd.ntmps122
  go_wp2_with fail
  refine (in_yes (n : Int) 0 4294967295 (by omega) (by omega) w).mono ?_
  rintro e w2 ⟨rfl, rfl⟩
  have hc : ¬ (9223372036854775807 < 16 + key.size) := by rw [hk0.out]; omega
  go_wp2_with fail
  clear hc
  refine (words_any _ (by show (_ ++ key).size ≤ _; rw [ByteArray.size_append, hk0.out]; decide) w2).mono ?_
  rintro e w3 ⟨v3, rfl, own3, K3⟩
  have e12 : ((ByteArray.mk #[101, 120, 112, 97, 110, 100, 32, 51, 50, 45, 98, 121, 116, 101, 32, 107]) ++ key).size / 4 = 12 := by rw [ByteArray.size_append, hk0.out]; rfl
  rw [e12] at own3
  clear e12
  go_wp2_with (first | (at_builtin; refine wpList_append_own _ rfl _ _ 209 rfl w2.heap.size 96 i0 (.int .u32 0) 1 4 Tryd.underlying209 hi0 hz0 hz1 hz2 rfl (by decide) v3 12 _ rfl (own3.alloc _) ⟨w3.heap.size, 0, none⟩ 1 1 _ rfl rfl (cells_new _ _ _) (ones1 _ _) (by unfold maxLen; omega) (by omega) (by have := K3.size; simp; omega) ?_; intro v4 w4 own4 hgrow hiff; clear hiff))
  have e13 : cellsOf .u32 (wordsOf (bs ((ByteArray.mk #[101, 120, 112, 97, 110, 100, 32, 51, 50, 45, 98, 121, 116, 101, 32, 107]) ++ key)) 12) ++ [.int .u32 (n : Int)] = cellsOf .u32 (wordsOf (bs ((ByteArray.mk #[101, 120, 112, 97, 110, 100, 32, 51, 50, 45, 98, 121, 116, 101, 32, 107]) ++ key)) 12 ++ [n]) := by rw [cellsOf_append]; rfl
  rw [e13] at own4
  clear e13
  have K4 : Keep NoB w2 w4 := (K3.alloc _).grown hgrow (fun b hb => .inr (own3.lt b hb).1)
  have hv4 := own4.lt
  clear hgrow own3 K3
  refine (words_any nonce (by rw [hn0.out]; omega) w4).mono ?_
  rintro e w5 ⟨v5, rfl, own5, K5⟩
  have e3 : nonce.size / 4 = 3 := by rw [hn0.out]
  rw [e3] at own5
  clear e3
  obtain ⟨g5, cap5, rfl, hg5⟩ := own_some own5 (by omega)
  have R5 := PRow.ofOwn (l := wordsOf (bs nonce) 3) (own5 : _)
  have own4' := K5.ownsRow own4 (fun _ _ h => h)
  have K5' := K4.trans K5 (fun _ _ h => h)
  clear own4 own5 K4 K5
  have hb5 := K5'.size
  go_wp2_with (first | (at_builtin; refine wpList_append_own _ rfl _ _ 209 rfl w2.heap.size 96 i0 (.int .u32 0) 1 4 Tryd.underlying209 hi0 hz0 hz1 hz2 rfl (by decide) v4 13 _ rfl own4' ⟨g5, 0, none⟩ 3 cap5 (cellsOf .u32 (wordsOf (bs nonce) 3)) rfl rfl (fun j u hj => R5.cells j u hj) (cellsOf_one _ _) (by unfold maxLen; omega) (by omega) (by omega) ?_; intro v6 w6 own6 hgrow6 hiff; clear hiff; obtain ⟨g6, cap6, rfl, hg6⟩ := own_some own6 (by omega); have R6 := row16 w6 _ g6 cap6 key nonce n h1 own6; have K6 : Keep NoB w2 w6 := K5'.grown hgrow6 (fun b hb => .inr (own4'.lt b hb).1); clear hgrow6 own4' R5 K5' own6) | (at_builtin; refine wpList_append_own _ rfl _ _ 209 rfl w6.heap.size 96 i0 (.int .u32 0) 1 4 Tryd.underlying209 hi0 hz0 hz1 hz2 rfl (by decide) (.slice (some ⟨w6.heap.size, 0, none⟩) 0 0) 0 [] rfl (World.ownsRow_made w6 #[] 0 (Nat.le_refl _) (by decide) rfl) ⟨g6, 0, none⟩ 16 cap6 (cellsOf .u32 (Go.Cof.start (bs key) n (bs nonce))) rfl (by rw [cellsOf_len, start_len]) (fun j u hj => (R6.keep ((Keep.refl NoB w6).alloc _) (fun x => x)).cells j u hj) (cellsOf_one _ _) (by unfold maxLen; omega) (by omega) (by simp) ?_; intro v7 w7 own7 hgrow7 hiff; clear hiff; obtain ⟨g7, cap7, rfl, hg7⟩ := own_some own7 (by omega)))
  have R7 : PRow w7 g7 96 .u32 (Go.Cof.start (bs key) n (bs nonce)) := PRow.ofOwn (l := Go.Cof.start (bs key) n (bs nonce)) (by rw [start_len]; exact own7)
  have LS : W16 (Go.Cof.start (bs key) n (bs nonce)) := W16.startOf _ (bs_lt key) _ _ (bs_lt nonce)
  have hlt6 := R6.lt
  have hne : g6 ≠ g7 := by omega
  refine wp_world (fun w => PRow w g7 96 .u32 (times rnd 0 (Go.Cof.start (bs key) n (bs nonce))) ∧ PRow w g6 96 .u32 (Go.Cof.start (bs key) n (bs nonce)) ∧ Keep NoB w2 w) ⟨R7, R6.keep (((Keep.refl (OneB w6.heap.size) w6).alloc _).grown hgrow7 (fun b hb => .inr (by cases hb; exact Nat.le_refl _))) (fun e => by simp only [Cof.OneB] at e; omega), (K6.alloc _).grown hgrow7 (fun b hb => .inr (by cases hb; exact K6.size))⟩ ?_
  have hb6 := K6.size
  clear R7 R6 K6 hgrow7 own7 hv4 hb5 hg5 hlt6
  generalize Hs : Go.Cof.start (bs key) n (bs nonce) = s at *
  have Hs' := Lib.hid Hs
  clear Hs
  intro w1 hw1
  go_loopw [43] (fun i wr => ∃ k : Nat, k ≤ 20 ∧ i = .int .i64 k ∧ PRow wr g7 96 .u32 (times rnd k s) ∧ PRow wr g6 96 .u32 s ∧ Keep NoB w2 wr) (fun i _ => 20 - (intOf i).toNat)
  case atStart => exact ⟨0, by omega, rfl, hw1⟩
  case round =>
    clear hw1 w1
    obtain ⟨k, hk, rfl, R7, R6, K⟩ := hrel
    by_cases hlt : k < 20
    · have j1 : (k:Int) < 20 := by omega
      have LT : W16 (times rnd k s) := W16.times (fun i _ h => h.rnd i) k LS
      obtain ⟨t0, ht0⟩ : ∃ t, t = times rnd k s := ⟨_, rfl⟩
      rw [← ht0] at R7 LT
      have Ht0 := Lib.hid ht0
      clear ht0
      go_wp2_with fail
      rcases (show k % 2 = 1 ∨ k % 2 = 0 by omega) with hpar | hpar
      · have p1 : ((k : Int) % 2 == 1) = true := by simp; omega
        refine wp_world (fun wr => PRow wr g7 96 .u32 t0 ∧ PRow wr g6 96 .u32 s ∧ Keep NoB w2 wr) ⟨R7, R6, K⟩ ?_
        clear R7 R6 K wr
        intro w1 hw1
        go_loopw [46] (fun i wr => ∃ j : Nat, j ≤ 4 ∧ i = .int .i64 j ∧ PRow wr g7 96 .u32 (times dia j t0) ∧ PRow wr g6 96 .u32 s ∧ Keep NoB w2 wr) (fun i _ => 4 - (intOf i).toNat)
        case atStart => exact ⟨0, by omega, rfl, hw1⟩
        case round =>
          clear hw1 w1
          obtain ⟨j, hj, rfl, R7, R6, K⟩ := hrel
          have LJ : W16 (times dia j t0) := W16.times (fun i _ h => h.dia i) j LT
          by_cases hlt : j < 4
          · have j1 : (j:Int) < 4 := by omega
            go_wp2_with fail
            refine (mix_at g7 cap7 j (4 + (j + 1) % 4) (8 + (j + 2) % 4) (12 + (j + 3) % 4) _ _ _ _ _ _ rfl (by omega) (by omega) (by omega) (by omega) (by omega) (by omega) (by omega) (R7.keep ((Keep.refl NoB wr).alloc _) (fun x => x)) LJ).mono ?_
            rintro e w8 ⟨rfl, R7', K'⟩
            have R6' := (R6.keep ((Keep.refl NoB wr).alloc _) (fun x => x)).keep K' (fun e => hne e)
            have K2 := (K.alloc _).trans K' (fun i hi e => by simp only [Cof.OneB] at e; omega)
            clear R7 R6 K K'
            go_wp2
            go_roundw
            case rel => first | exact ⟨j + 1, by omega, by go_num, R7', R6', K2⟩ | ((repeat apply Exists.intro); exact ⟨⟨j + 1, by omega, by go_num, R7', R6', K2⟩, rfl⟩)
            case measure => simp [intOf]; omega
          · obtain rfl : j = 4 := by omega
            clear hlt hj
            go_wp2
            have R7' : PRow wr g7 96 .u32 (times rnd (k + 1) s) := by rw [times_succ, ← Ht0.out, rnd, if_pos hpar]; exact R7
            go_roundw
            case rel => first | exact ⟨k + 1, by omega, by go_num, R7', R6, K⟩ | ((repeat apply Exists.intro); exact ⟨⟨k + 1, by omega, by go_num, R7', R6, K⟩, rfl⟩)
            case measure => simp [intOf]; omega
      · have p1 : ((k : Int) % 2 == 1) = false := by simp; omega
        refine wp_world (fun wr => PRow wr g7 96 .u32 t0 ∧ PRow wr g6 96 .u32 s ∧ Keep NoB w2 wr) ⟨R7, R6, K⟩ ?_
        clear R7 R6 K wr
        intro w1 hw1
        go_loopw [46] (fun i wr => ∃ j : Nat, j ≤ 4 ∧ i = .int .i64 j ∧ PRow wr g7 96 .u32 (times col j t0) ∧ PRow wr g6 96 .u32 s ∧ Keep NoB w2 wr) (fun i _ => 4 - (intOf i).toNat)
        case atStart => exact ⟨0, by omega, rfl, hw1⟩
        case round =>
          clear hw1 w1
          obtain ⟨j, hj, rfl, R7, R6, K⟩ := hrel
          have LJ : W16 (times col j t0) := W16.times (fun i _ h => h.col i) j LT
          by_cases hlt : j < 4
          · have j1 : (j:Int) < 4 := by omega
            go_wp2_with fail
            refine (mix_at g7 cap7 j (4 + j) (8 + j) (12 + j) _ _ _ _ _ _ rfl (by omega) (by omega) (by omega) (by omega) (by omega) (by omega) (by omega) (R7.keep ((Keep.refl NoB wr).alloc _) (fun x => x)) LJ).mono ?_
            rintro e w8 ⟨rfl, R7', K'⟩
            have R6' := (R6.keep ((Keep.refl NoB wr).alloc _) (fun x => x)).keep K' (fun e => hne e)
            have K2 := (K.alloc _).trans K' (fun i hi e => by simp only [Cof.OneB] at e; omega)
            clear R7 R6 K K'
            go_wp2
            go_roundw
            case rel => first | exact ⟨j + 1, by omega, by go_num, R7', R6', K2⟩ | ((repeat apply Exists.intro); exact ⟨⟨j + 1, by omega, by go_num, R7', R6', K2⟩, rfl⟩)
            case measure => simp [intOf]; omega
          · obtain rfl : j = 4 := by omega
            clear hlt hj
            go_wp2
            have R7' : PRow wr g7 96 .u32 (times rnd (k + 1) s) := by rw [times_succ, ← Ht0.out, rnd, if_neg (by omega)]; exact R7
            go_roundw
            case rel => first | exact ⟨k + 1, by omega, by go_num, R7', R6, K⟩ | ((repeat apply Exists.intro); exact ⟨⟨k + 1, by omega, by go_num, R7', R6, K⟩, rfl⟩)
            case measure => simp [intOf]; omega
    · obtain rfl : k = 20 := by omega
      clear hlt hk
      rw [rnd_all] at R7
      have LT : W16 (times dbl 10 s) := W16.times (fun i _ h => h.dbl i) 10 LS
      obtain ⟨t, ht⟩ : ∃ t, t = times dbl 10 s := ⟨_, rfl⟩
      rw [← ht] at R7 LT
      have Ht := Lib.hid ht
      clear ht
      go_wp2_with fail
      refine wp_world (fun wr => PRow wr g7 96 .u32 t ∧ PRow wr g6 96 .u32 s ∧ Keep NoB w2 wr) ⟨R7, R6, K⟩ ?_
      clear R7 R6 K wr
      intro w1 hw1
      go_loopw [13, 81] (fun o i wr => ∃ k : Nat, k ≤ 16 ∧ i = .int .i64 k ∧ o = .string (txt (outTo t s k)) ∧ PRow wr g7 96 .u32 t ∧ PRow wr g6 96 .u32 s ∧ Keep NoB w2 wr) (fun _ i _ => 16 - (intOf i).toNat)
      case atStart => exact ⟨0, by omega, rfl, rfl, hw1⟩
      case round =>
        clear hw1 w1
        obtain ⟨k, hk, rfl, rfl, R7, R6, K⟩ := hrel
        by_cases hlt : k < 16
        · have j1 : (k:Int) < 16 := by omega
          have c1 := R7.cell k (by rw [LT.len]; omega)
          have c2 := R6.cell k (by rw [LS.len]; omega)
          go_wp2_with fail
          go_quiet (fail)
          go_wp2_with fail
          clear c1 c2
          obtain ⟨X, hX⟩ : ∃ X, X = (t.getD k 0 + s.getD k 0) % 4294967296 := ⟨_, rfl⟩
          have ex : ((t[k]?.getD 0 : Int) + (s[k]?.getD 0 : Int)) % 4294967296 = (X : Int) := by
            rw [hX]; simp only [List.getD_eq_getElem?_getD]; omega
          have hX4 : X < 4294967296 := by rw [hX]; exact Nat.mod_lt _ (by omega)
          have HX := Lib.hid hX
          clear hX
          simp only [ex]
          clear ex
          have hlen : (outTo t s k).length = 4 * k := outTo_len t s k
          have Hlen := Lib.hid hlen
          clear hlen
          refine wp_world (fun wr => PRow wr g7 96 .u32 t ∧ PRow wr g6 96 .u32 s ∧ Keep NoB w2 wr) ⟨R7, R6, K.drewN nq⟩ ?_
          clear R7 R6 K wr
          intro w1 hw1
          go_loopw [13, 15, 93] (fun o x i wr => ∃ j : Nat, j ≤ 4 ∧ i = .int .i64 j ∧ x = .int .u32 (X / 256 ^ j : Nat) ∧ o = .string (txt (outTo t s k ++ bytesTo X j)) ∧ PRow wr g7 96 .u32 t ∧ PRow wr g6 96 .u32 s ∧ Keep NoB w2 wr) (fun _ _ i _ => 4 - (intOf i).toNat)
          case atStart => exact ⟨0, by omega, rfl, by rw [Nat.pow_zero, Nat.div_one], by rw [bytesTo, List.append_nil], hw1⟩
          case round =>
            clear hw1 w1
            obtain ⟨j, hj, rfl, rfl, rfl, R7, R6, K⟩ := hrel
            by_cases hlt : j < 4
            · have j1 : (j:Int) < 4 := by omega
              obtain ⟨x, hx⟩ : ∃ x, x = X / 256 ^ j := ⟨_, rfl⟩
              rw [← hx]
              have hcv := run_string_one (P := Tryd.prog) wr Tryd.underlying104 Tryd.underlying5 Tryd.underlying9 ((x : Int) % 256) (x % 256) (by omega)
              have hsz : ¬ (9223372036854775807 < (txt (outTo t s k ++ bytesTo X j)).size + (txt [x % 256]).size) := by
                rw [txt_size, txt_size, List.length_append, Hlen.out, bytesTo_len]; simp; omega
              have hx4 : x < 4294967296 := Nat.lt_of_le_of_lt (by rw [hx]; exact Nat.div_le_self _ _) hX4
              have Hx := Lib.hid hx
              clear hx
              go_wp2_with fail
              refine ⟨⟨j + 1, by omega, by go_num, ?_, ?_, R7.keep ((Keep.refl NoB wr).alloc _) (fun x => x), R6.keep ((Keep.refl NoB wr).alloc _) (fun x => x), K.alloc _⟩, by simp [intOf]; omega⟩
              · refine congrArg (Value.int .u32) ?_
                rw [Nat.pow_succ, ← Nat.div_div_eq_div_mul, ← Hx.out]
                omega
              · rw [bytesTo, ← Hx.out, ← List.append_assoc, txt_append]
            · obtain rfl : j = 4 := by omega
              clear hlt hj
              go_wp2_with fail
              refine ⟨⟨k + 1, by omega, by go_num, ?_, R7, R6, K⟩, by simp [intOf]; omega⟩
              rw [outTo_succ, bytesTo_four, ← HX.out]
        · obtain rfl : k = 16 := by omega
          clear hlt hk
          go_wp2_with fail
          go_ret2
          have hfin : outTo t s 16 = block (bs key) n (bs nonce) := by rw [Ht.out, ← Hs'.out]; rfl
          rw [hfin]
          exact ⟨rfl, K⟩
end Go.Proofs.YtndcaaikjcicgaaDoor
