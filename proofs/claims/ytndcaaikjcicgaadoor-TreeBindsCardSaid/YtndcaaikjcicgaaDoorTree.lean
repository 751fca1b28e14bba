/-
  DERIVED. What binds marks: no program in sight.
-/
import Derived.Test.YtndcaaikjcicgaaDoorMark
set_option linter.unusedVariables false
set_option linter.unusedSimpArgs false
namespace Go.Cof
open Go.RowKit
/-- The mark of two. -/
def mk2 (a b : ByteArray) : ByteArray := txt (Cof.mark 117 [bs a, bs b])
theorem mk2_size (a b : ByteArray) : (mk2 a b).size = 16 := by
  rw [mk2, txt_size, Cof.mark, List.length_take, sha_len]
  omega
theorem two_len (a b : ByteArray) (ha : a.size ≤ 1000) (hb : b.size ≤ 1000) : (markText 117 ([a, b].map bs)).length ≤ 100000 := by
  simp [markText, be64, be64To_len, bs_len]
  omega
theorem mk2_eq (a b : ByteArray) : txt (Cof.mark 117 ([a, b].map bs)) = mk2 a b := rfl
/-- The row above. -/
def upL (l : List ByteArray) : List ByteArray := (List.range (l.length / 2)).map fun j => mk2 (l.getD (2 * j) ⟨#[]⟩) (l.getD (2 * j + 1) ⟨#[]⟩)
theorem upL_len (l : List ByteArray) : (upL l).length = l.length / 2 := by simp [upL]
theorem upL_at (l : List ByteArray) (j : Nat) (h : j < l.length / 2) : (upL l).getD j ⟨#[]⟩ = mk2 (l.getD (2 * j) ⟨#[]⟩) (l.getD (2 * j + 1) ⟨#[]⟩) := by
  rw [List.getD_eq_getElem?_getD, upL, List.getElem?_map, List.getElem?_range h]
  rfl
theorem upL_all (l : List ByteArray) : ∀ s ∈ upL l, s.size = 16 := by
  intro s hs
  obtain ⟨j, _, rfl⟩ := List.mem_map.1 hs
  exact mk2_size _ _
/-- So many rows above. -/
def ups : Nat → List ByteArray → List ByteArray
  | 0, l => l
  | i + 1, l => upL (ups i l)
theorem ups_len (l : List ByteArray) (i : Nat) : (ups i l).length = l.length / 2 ^ i := by
  induction i with
  | zero => simp [ups]
  | succ i ih => rw [ups, upL_len, ih, Nat.div_div_eq_div_mul, Nat.pow_succ]
theorem ups_all (l : List ByteArray) (h : ∀ s ∈ l, s.size = 16) (i : Nat) : ∀ s ∈ ups i l, s.size = 16 := by
  cases i with
  | zero => exact h
  | succ i => exact upL_all _
/-- All rows, one behind the other, as far as they are made. -/
def rowsL (l : List ByteArray) : Nat → List ByteArray
  | 0 => l
  | t + 1 => rowsL l t ++ [mk2 ((rowsL l t).getD (2 * t) ⟨#[]⟩) ((rowsL l t).getD (2 * t + 1) ⟨#[]⟩)]
theorem rowsL_len (l : List ByteArray) (t : Nat) : (rowsL l t).length = l.length + t := by
  induction t with
  | zero => rfl
  | succ t ih => rw [rowsL, List.length_append, ih]; rfl
theorem rowsL_all (l : List ByteArray) (h : ∀ s ∈ l, s.size = 16) (t : Nat) : ∀ s ∈ rowsL l t, s.size = 16 := by
  induction t with
  | zero => exact h
  | succ t ih =>
    intro s hs
    rcases List.mem_append.1 hs with hs | hs
    · exact ih s hs
    · rw [List.mem_singleton.1 hs]; exact mk2_size _ _
theorem rowsL_old (l : List ByteArray) (t u i : Nat) (h : i < l.length + t) (hu : t ≤ u) : (rowsL l u).getD i ⟨#[]⟩ = (rowsL l t).getD i ⟨#[]⟩ := by
  induction u with
  | zero => obtain rfl : t = 0 := by omega
            rfl
  | succ u ih =>
    by_cases e : t = u + 1
    · rw [e]
    · rw [← ih (by omega), rowsL, List.getD_eq_getElem?_getD, List.getElem?_append_left (by rw [rowsL_len]; omega), List.getD_eq_getElem?_getD]
theorem rowsL_new (l : List ByteArray) (t u : Nat) (h : t < u) (hl : t + 2 ≤ l.length) : (rowsL l u).getD (l.length + t) ⟨#[]⟩ = mk2 ((rowsL l u).getD (2 * t) ⟨#[]⟩) ((rowsL l u).getD (2 * t + 1) ⟨#[]⟩) := by
  rw [rowsL_old l (t + 1) u (l.length + t) (by omega) h, rowsL_old l t u (2 * t) (by omega) (by omega), rowsL_old l t u (2 * t + 1) (by omega) (by omega), rowsL, List.getD_eq_getElem?_getD, List.getElem?_append_right (by rw [rowsL_len]; omega), rowsL_len, Nat.sub_self]
  rfl
/-- Each row lies behind the one below it. -/
theorem rows_step (l : List ByteArray) (hl : l.length = 32) (R : List ByteArray) (n o : Nat) (ho : o + 2 * n = 64) (hn : R.length = n) (h2 : n % 2 = 0) (hpos : 0 < n) (h : ∀ j, j < n → (rowsL l 31).getD (o + j) ⟨#[]⟩ = R.getD j ⟨#[]⟩) :
    ∀ j, j < n / 2 → (rowsL l 31).getD (o + n + j) ⟨#[]⟩ = (upL R).getD j ⟨#[]⟩ := by
  intro j hj
  have e := rowsL_new l (o + n + j - 32) 31 (by omega) (by omega)
  rw [hl, show 32 + (o + n + j - 32) = o + n + j by omega, show 2 * (o + n + j - 32) = o + 2 * j by omega] at e
  rw [e, upL_at R j (by omega), ← h (2 * j) (by omega), ← h (2 * j + 1) (by omega), Nat.add_assoc]
theorem rows_at (l : List ByteArray) (hl : l.length = 32) (i : Nat) (hi : i ≤ 5) : ∀ j, j < 2 ^ (5 - i) → (rowsL l 31).getD (64 - 2 ^ (6 - i) + j) ⟨#[]⟩ = (ups i l).getD j ⟨#[]⟩ := by
  have h0 : ∀ j, j < 32 → (rowsL l 31).getD (0 + j) ⟨#[]⟩ = (ups 0 l).getD j ⟨#[]⟩ := fun j hj => by
    rw [Nat.zero_add]
    exact rowsL_old l 0 31 j (by omega) (by omega)
  have h1 := rows_step l hl (ups 0 l) 32 0 (by omega) (by rw [ups_len, hl]) (by omega) (by omega) h0
  have h2 := rows_step l hl (ups 1 l) 16 32 (by omega) (by rw [ups_len, hl]) (by omega) (by omega) h1
  have h3 := rows_step l hl (ups 2 l) 8 48 (by omega) (by rw [ups_len, hl]) (by omega) (by omega) h2
  have h4 := rows_step l hl (ups 3 l) 4 56 (by omega) (by rw [ups_len, hl]) (by omega) (by omega) h3
  have h5 := rows_step l hl (ups 4 l) 2 60 (by omega) (by rw [ups_len, hl]) (by omega) (by omega) h4
  have : i = 0 ∨ i = 1 ∨ i = 2 ∨ i = 3 ∨ i = 4 ∨ i = 5 := by omega
  rcases this with rfl | rfl | rfl | rfl | rfl | rfl
  · exact h0
  · exact h1
  · exact h2
  · exact h3
  · exact h4
  · exact h5
/-- The one beside. -/
def beside (k : Nat) : Nat := if k % 2 = 1 then k - 1 else k + 1
/-- What leads to one, the first so many. -/
def pathL (l : List ByteArray) (k : Nat) (n : Nat) : List ByteArray := (List.range n).map fun i => (ups i l).getD (beside (k / 2 ^ i)) ⟨#[]⟩
theorem pathL_len (l : List ByteArray) (k n : Nat) : (pathL l k n).length = n := by simp [pathL]
theorem pathL_succ (l : List ByteArray) (k n : Nat) : pathL l k (n + 1) = pathL l k n ++ [(ups n l).getD (beside (k / 2 ^ n)) ⟨#[]⟩] := by simp [pathL, List.range_succ]
/-- A way, mark by mark. -/
def foldV : List ByteArray → Nat → ByteArray → ByteArray
  | [], _, m => m
  | x :: xs, k, m => foldV xs (k / 2) (if k % 2 = 0 then mk2 m x else mk2 x m)
theorem foldV_step (l : List ByteArray) (i k : Nat) (m : ByteArray) (hi : i < l.length) : foldV (l.drop i) k m = foldV (l.drop (i + 1)) (k / 2) (if k % 2 = 0 then mk2 m (l.getD i ⟨#[]⟩) else mk2 (l.getD i ⟨#[]⟩) m) := by
  rw [List.drop_eq_getElem_cons hi, foldV, List.getD_eq_getElem?_getD, List.getElem?_eq_getElem hi]
  rfl
/-- So many marks. -/
def rightB (l : List ByteArray) (n : Nat) : Bool := decide (l.length = n) && l.all fun s => decide (s.size = 16)
theorem rightB_true {l : List ByteArray} {n : Nat} : rightB l n = true ↔ l.length = n ∧ ∀ s ∈ l, s.size = 16 := by simp [rightB]
def rootV (l : List ByteArray) : ByteArray := if rightB l 32 then (ups 5 l).getD 0 ⟨#[]⟩ else ⟨#[]⟩
def rootE (l : List ByteArray) : Int := if rightB l 32 then 0 else 1
def pathE (l : List ByteArray) (k : Int) : Int := if rightB l 32 then (if 0 ≤ k ∧ k ≤ 31 then 0 else 2) else 1
def pathV (l : List ByteArray) (k : Int) : List ByteArray := if rightB l 32 = true ∧ 0 ≤ k ∧ k ≤ 31 then pathL l k.toNat 5 else []
def verB (root m : ByteArray) (k : Int) (path : List ByteArray) : Bool := decide (m.size = 16) && decide (0 ≤ k ∧ k ≤ 31) && rightB path 5 && decide (foldV path k.toNat m = root)
end Go.Cof
