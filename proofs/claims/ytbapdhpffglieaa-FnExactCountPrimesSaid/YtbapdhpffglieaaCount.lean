/- What CountPrimes counts, plainly, by the program's sum and by the reference's table, and that both are one for degrees 1 to 6 and the six primes. No program in sight. -/
import Derived.Test.YtbapdhpffglieaaPrime
namespace Go.Proofs.Ytbapdhpffglieaa

def mu : List Int := [0, 1, -1, -1, 0, -1, 1]
/-- The program's sum behind k rounds. -/
def allF (D : Nat) (p : Int) : Nat → Int
  | 0 => 0
  | k + 1 => if D % (k + 1) = 0 then allF D p k + mu.getD (k + 1) 0 * p ^ (D / (k + 1)) else allF D p k
/-- The reference's 'left' behind d rounds, over the table L. -/
def leftF (p : Int) (k : Nat) (L : List Int) : Nat → Int
  | 0 => p ^ k
  | d + 1 => if k % (d + 1) = 0 then leftF p k L d - ((d : Int) + 1) * L.getD (d + 1) 0 else leftF p k L d
/-- The reference's table behind k rounds. -/
def cntL (p : Int) : Nat → List Int
  | 0 => [0]
  | k + 1 => cntL p k ++ [leftF p (k + 1) (cntL p k) k / ((k : Int) + 1)]
theorem cntL_len (p : Int) (k : Nat) : (cntL p k).length = k + 1 := by
  induction k with
  | zero => rfl
  | succ k ih => simp [cntL, ih]

def countF (d p : Int) : Int × Bool := if inB d 1 6 && primeB p then (allF d.toNat p d.toNat / d, true) else (0, false)

set_option maxRecDepth 100000 in
theorem pow_fact : ∀ p ∈ primes, ∀ i, i < 8 → 1 ≤ p ^ i ∧ p ^ i ≤ 62748517 := by decide +kernel
set_option maxRecDepth 100000 in
theorem all_fact : ∀ p ∈ primes, ∀ D, D < 7 → ∀ k, k < 7 → (-100000000 ≤ allF D p k ∧ allF D p k ≤ 100000000) ∧ 0 ≤ allF D p D := by decide +kernel
set_option maxRecDepth 100000 in
theorem left_fact : ∀ p ∈ primes, ∀ k, k < 7 → ∀ d, d < 7 → (-1000000000 ≤ leftF p k (cntL p (k - 1)) d ∧ leftF p k (cntL p (k - 1)) d ≤ 1000000000) ∧ 0 ≤ leftF p k (cntL p (k - 1)) (k - 1) ∧ (-10000000 ≤ (cntL p k).getD d 0 ∧ (cntL p k).getD d 0 ≤ 10000000) := by decide +kernel
set_option maxRecDepth 100000 in
theorem count_fact : ∀ p ∈ primes, ∀ D, D < 7 → 1 ≤ D → (cntL p D).getD D 0 = allF D p D / (D : Int) := by decide +kernel
theorem prime_bd {p : Int} (h : p ∈ primes) : 2 ≤ p ∧ p ≤ 13 := by
  simp [primes] at h; omega
end Go.Proofs.Ytbapdhpffglieaa
