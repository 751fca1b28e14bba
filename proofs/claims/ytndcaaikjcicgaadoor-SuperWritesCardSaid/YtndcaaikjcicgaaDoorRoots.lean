/-
  DERIVED. Plain functions: the numbers of a sum, reckoned from roots of primes.
-/
import Derived.Test.YtndcaaikjcicgaaDoorSha
set_option linter.unusedVariables false
set_option linter.unusedSimpArgs false
namespace Go.Cof
/-- Digits of 2^16 times x: i of them done, c over. -/
def tRun (v : List Nat) (x : Nat) : Nat → Nat → Nat → List Nat → List Nat
  | 0, _, _, out => out
  | f + 1, i, c, out => if i < v.length ∨ 0 < c then tRun v x f (i + 1) ((c + v.getD i 0 * x) / 65536) (out ++ [(c + v.getD i 0 * x) % 65536]) else out
def timesD (v : List Nat) (x : Nat) : List Nat := tRun v x (v.length + 4) 0 0 []
/-- Are the digits of v above those of w, looked at from n - 1 down? -/
def gtTop (v w : List Nat) : Nat → Bool
  | 0 => false
  | n + 1 => if v.getD n 0 = w.getD n 0 then gtTop v w n else decide (w.getD n 0 < v.getD n 0)
def powD (x k : Nat) : List Nat := times (fun _ v => timesD v x) k [1]
def digitsOf (p k : Nat) : List Nat := List.replicate (2 * k) 0 ++ [p]
def fillTo (l : List Nat) (n : Nat) : List Nat := l ++ List.replicate (n - l.length) 0
def aboveD (x k p : Nat) : Bool :=
  let v := fillTo (powD x k) (digitsOf p k).length
  let w := fillTo (digitsOf p k) v.length
  gtTop v w v.length
def bis (p k : Nat) : Nat → Nat → Nat → Nat
  | 0, low, _ => low
  | f + 1, low, high => if low + 1 < high then (if aboveD ((low + high) / 2) k p then bis p k f low ((low + high) / 2) else bis p k f ((low + high) / 2) high) else low
def rootD (p k : Nat) : Nat := bis p k 1099511627776 0 1099511627776 % 4294967296
/-- Primes below 2 + k. -/
def primesTo : Nat → List Nat
  | 0 => []
  | k + 1 => if (primesTo k).all (fun p => (2 + k) % p != 0) then primesTo k ++ [2 + k] else primesTo k
def primes64 : List Nat := [2, 3, 5, 7, 11, 13, 17, 19, 23, 29, 31, 37, 41, 43, 47, 53, 59, 61, 67, 71, 73, 79, 83, 89, 97, 101, 103, 107, 109, 113, 127, 131, 137, 139, 149, 151, 157, 163, 167, 173, 179, 181, 191, 193, 197, 199, 211, 223, 227, 229, 233, 239, 241, 251, 257, 263, 269, 271, 277, 281, 283, 293, 307, 311]
theorem primesTo_310 : primesTo 310 = primes64 := by decide +kernel
theorem primesTo_309 : (primesTo 309).length = 63 := by decide +kernel
theorem primesTo_mono (k : Nat) : (primesTo k).length ≤ (primesTo (k + 1)).length := by
  rw [primesTo]
  split
  · simp
  · exact Nat.le_refl _
theorem primesTo_le (j k : Nat) (h : j ≤ k) : (primesTo j).length ≤ (primesTo k).length := by
  induction k with
  | zero => obtain rfl : j = 0 := by omega
            exact Nat.le_refl _
  | succ k ih =>
    by_cases hj : j = k + 1
    · subst hj; exact Nat.le_refl _
    · exact Nat.le_trans (ih (by omega)) (primesTo_mono k)
theorem primes_go (k : Nat) (h : (primesTo k).length < 64) : k < 310 := by
  apply Decidable.byContradiction
  intro hk
  have := primesTo_le 310 k (by omega)
  rw [primesTo_310] at this
  have e : primes64.length = 64 := rfl
  omega
theorem primes_end (k : Nat) (h : 64 ≤ (primesTo k).length) (hk : k ≤ 310) : primesTo k = primes64 := by
  by_cases h9 : k ≤ 309
  · have := primesTo_le k 309 h9
    rw [primesTo_309] at this
    omega
  · obtain rfl : k = 310 := by omega
    exact primesTo_310
theorem roots3 : primes64.map (fun p => rootD p 3) = roundsK := by decide +kernel
theorem roots2 : (primes64.take 8).map (fun p => rootD p 2) = startH := by decide +kernel
end Go.Cof
