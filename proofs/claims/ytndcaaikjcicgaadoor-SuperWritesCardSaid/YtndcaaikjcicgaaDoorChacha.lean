/-
  DERIVED. Plain functions: a stream's block, and a text taken together with blocks.
-/
import Derived.Test.YtndcaaikjcicgaaDoorBytes
set_option linter.unusedVariables false
set_option linter.unusedSimpArgs false
namespace Go.Cof
def rotl (x n : Nat) : Nat := (x * 2 ^ n % 4294967296) ||| (x / 2 ^ (32 - n))
def addAt (l : List Nat) (i j : Nat) : List Nat := l.set i ((l.getD i 0 + l.getD j 0) % 4294967296)
def rotAt (l : List Nat) (i j n : Nat) : List Nat := l.set i (rotl (l.getD i 0 ^^^ l.getD j 0) n)
/-- A quarter of a round. -/
def qr (l : List Nat) (a b c d : Nat) : List Nat :=
  let l := rotAt (addAt l a b) d a 16
  let l := rotAt (addAt l c d) b c 12
  let l := rotAt (addAt l a b) d a 8
  rotAt (addAt l c d) b c 7
def times {α : Type} (f : Nat → α → α) : Nat → α → α
  | 0, x => x
  | n + 1, x => f n (times f n x)
def col (i : Nat) (l : List Nat) : List Nat := qr l i (4 + i) (8 + i) (12 + i)
def dia (i : Nat) (l : List Nat) : List Nat := qr l i (4 + (i + 1) % 4) (8 + (i + 2) % 4) (12 + (i + 3) % 4)
def dbl (_ : Nat) (l : List Nat) : List Nat := times dia 4 (times col 4 l)
/-- Four bytes, the least first. -/
def le32 (l : List Nat) (i : Nat) : Nat := l.getD i 0 + 256 * l.getD (i + 1) 0 + 65536 * l.getD (i + 2) 0 + 16777216 * l.getD (i + 3) 0
def start0 : List Nat := [1634760805, 857760878, 2036477234, 1797285236, 0, 0, 0, 0, 0, 0, 0, 0, 0, 0, 0, 0]
def keyed (key : List Nat) (k : Nat) : List Nat := times (fun i l => l.set (4 + i) (le32 key (4 * i))) k start0
def nonced (l nonce : List Nat) (k : Nat) : List Nat := times (fun i l => l.set (13 + i) (le32 nonce (4 * i))) k l
def start (key : List Nat) (n : Nat) (nonce : List Nat) : List Nat := nonced ((keyed key 8).set 12 (n % 4294967296)) nonce 3
def word4 (x : Nat) : List Nat := [x % 256, x / 256 % 256, x / 65536 % 256, x / 16777216 % 256]
def outTo (t s : List Nat) (k : Nat) : List Nat := times (fun i b => b ++ word4 ((t.getD i 0 + s.getD i 0) % 4294967296)) k []
/-- A block: 64 bytes. -/
def block (key : List Nat) (n : Nat) (nonce : List Nat) : List Nat :=
  let s := start key n nonce
  outTo (times dbl 10 s) s 16
/-- Byte i of what a text is taken together with. -/
def padAt (key nonce : List Nat) (i : Nat) : Nat := (block key (1 + i / 64) nonce).getD (i % 64) 0
def xorStep (key nonce : List Nat) (i : Nat) (l : List Nat) : List Nat := l.set i (l.getD i 0 ^^^ padAt key nonce i)
def xorTo (key nonce s : List Nat) (k : Nat) : List Nat := times (xorStep key nonce) k s
/-- A text taken together with blocks. -/
def xor (key nonce s : List Nat) : List Nat := xorTo key nonce s s.length
theorem times_succ {α : Type} (f : Nat → α → α) (n : Nat) (x : α) : times f (n + 1) x = f n (times f n x) := rfl
theorem xorTo_len (key nonce s : List Nat) (k : Nat) : (xorTo key nonce s k).length = s.length := by
  induction k with
  | zero => rfl
  | succ k ih => unfold xorTo at *; rw [times_succ, xorStep, List.length_set, ih]
theorem xorTo_getD (key nonce s : List Nat) (k i : Nat) : (xorTo key nonce s k).getD i 0 = if i < k ∧ i < s.length then s.getD i 0 ^^^ padAt key nonce i else s.getD i 0 := by
  induction k with
  | zero => simp [xorTo, times]
  | succ k ih =>
    have e : xorTo key nonce s (k + 1) = (xorTo key nonce s k).set k ((xorTo key nonce s k).getD k 0 ^^^ padAt key nonce k) := rfl
    rw [e, List.getD_eq_getElem?_getD, List.getElem?_set]
    by_cases hik : k = i
    · subst hik
      rw [if_pos rfl, xorTo_len]
      have ek : (xorTo key nonce s k).getD k 0 = s.getD k 0 := by rw [ih, if_neg (by omega)]
      by_cases hl : k < s.length
      · rw [if_pos hl, if_pos ⟨by omega, hl⟩, ek]; rfl
      · rw [if_neg hl, if_neg (fun h => hl h.2), List.getD_eq_getElem?_getD, List.getElem?_eq_none (by omega)]
    · rw [if_neg hik, ← List.getD_eq_getElem?_getD, ih]
      by_cases hl : i < s.length
      · by_cases hi : i < k
        · rw [if_pos ⟨hi, hl⟩, if_pos ⟨by omega, hl⟩]
        · rw [if_neg (fun h => hi h.1), if_neg (fun h => by omega)]
      · rw [if_neg (fun h => hl h.2), if_neg (fun h => hl h.2)]
theorem xor_len (key nonce s : List Nat) : (xor key nonce s).length = s.length := xorTo_len _ _ _ _
theorem xor_getD (key nonce s : List Nat) (i : Nat) (h : i < s.length) : (xor key nonce s).getD i 0 = s.getD i 0 ^^^ padAt key nonce i := by
  unfold xor
  rw [xorTo_getD, if_pos ⟨h, h⟩]

end Go.Cof
