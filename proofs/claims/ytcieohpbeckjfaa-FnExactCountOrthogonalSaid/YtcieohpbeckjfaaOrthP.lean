/- Plain: how many orthogonal matrices there are. No program in sight. -/
import Derived.Test.YtcieohpbeckjfaaField
import Derived.Test.YtcieohpbeckjfaaSpaceP
namespace Go.Proofs.Ytcieohpbeckjfaa

def prodQ (p : Int) : Nat → Int
  | 0 => 1
  | i + 1 => prodQ p i * (p ^ (2 * (i + 1)) - 1)
def ortOdd (p : Int) (k i : Nat) : Int := 2 * p ^ (k * k) * prodQ p i
def ortEven (p : Int) (k : Nat) (w : Int) (i : Nat) : Int := 2 * p ^ (k * (k - 1)) * (p ^ k - w) * prodQ p i
theorem primes5 {p : Int} (hp : primeB p = true) (P : Int → Prop) (h : ∀ q ∈ ([3, 5, 7, 11, 13] : List Int), P q) : P p := by
  rcases prime_cases hp with rfl | rfl | rfl | rfl | rfl
  · exact h 3 (by simp)
  · exact h 5 (by simp)
  · exact h 7 (by simp)
  · exact h 11 (by simp)
  · exact h 13 (by simp)
theorem pow_table : ∀ q ∈ ([3, 5, 7, 11, 13] : List Int), ∀ j ∈ List.range 7, 1 ≤ q ^ j ∧ q ^ j ≤ 4826809 := by decide +kernel
theorem odd_table : ∀ q ∈ ([3, 5, 7, 11, 13] : List Int), ∀ k ∈ List.range 3, ∀ i ∈ List.range (k + 1), 0 ≤ ortOdd q k i ∧ ortOdd q k i ≤ 4000000000000000000 := by decide +kernel
theorem even_table : ∀ q ∈ ([3, 5, 7, 11, 13] : List Int), ∀ k ∈ List.range 4, ∀ w ∈ ([1, -1] : List Int), ∀ i ∈ List.range k, 0 ≤ ortEven q k w i ∧ ortEven q k w i ≤ 4000000000000000000 := by decide +kernel
theorem even_table2 : ∀ q ∈ ([3, 5, 7, 11, 13] : List Int), ∀ k ∈ List.range 4, ∀ w ∈ ([1, -1] : List Int), 0 ≤ q ^ (k * (k - 1)) * (q ^ k - w) ∧ q ^ (k * (k - 1)) * (q ^ k - w) ≤ 20000000000 ∧ 0 ≤ q ^ k - w ∧ 0 ≤ q ^ (k * (k - 1)) ∧ q ^ (k * (k - 1)) ≤ 4826809 ∧ 1 ≤ q ^ k ∧ q ^ k ≤ 2197 := by decide +kernel
theorem pow_facts {p : Int} (hp : primeB p = true) {j : Nat} (hj : j ≤ 6) : 1 ≤ p ^ j ∧ p ^ j ≤ 4826809 :=
  primes5 hp (fun q => 1 ≤ q ^ j ∧ q ^ j ≤ 4826809) fun q hq => pow_table q hq j (List.mem_range.2 (by omega))
theorem odd_facts {p : Int} (hp : primeB p = true) {k i : Nat} (hk : k ≤ 2) (hi : i ≤ k) : 0 ≤ ortOdd p k i ∧ ortOdd p k i ≤ 4000000000000000000 :=
  primes5 hp (fun q => 0 ≤ ortOdd q k i ∧ ortOdd q k i ≤ 4000000000000000000) fun q hq => odd_table q hq k (List.mem_range.2 (by omega)) i (List.mem_range.2 (by omega))
theorem even_facts {p : Int} (hp : primeB p = true) {k i : Nat} {w : Int} (hw : w = 1 ∨ w = -1) (hk : k ≤ 3) (hi : i < k) : 0 ≤ ortEven p k w i ∧ ortEven p k w i ≤ 4000000000000000000 :=
  primes5 hp (fun q => 0 ≤ ortEven q k w i ∧ ortEven q k w i ≤ 4000000000000000000) fun q hq => even_table q hq k (List.mem_range.2 (by omega)) w (by rcases hw with h | h <;> rw [h] <;> simp) i (List.mem_range.2 hi)
theorem even_facts2 {p : Int} (hp : primeB p = true) {k : Nat} {w : Int} (hw : w = 1 ∨ w = -1) (hk : k ≤ 3) : 0 ≤ p ^ (k * (k - 1)) * (p ^ k - w) ∧ p ^ (k * (k - 1)) * (p ^ k - w) ≤ 20000000000 ∧ 0 ≤ p ^ k - w ∧ 0 ≤ p ^ (k * (k - 1)) ∧ p ^ (k * (k - 1)) ≤ 4826809 ∧ 1 ≤ p ^ k ∧ p ^ k ≤ 2197 :=
  primes5 hp (fun q => 0 ≤ q ^ (k * (k - 1)) * (q ^ k - w) ∧ q ^ (k * (k - 1)) * (q ^ k - w) ≤ 20000000000 ∧ 0 ≤ q ^ k - w ∧ 0 ≤ q ^ (k * (k - 1)) ∧ q ^ (k * (k - 1)) ≤ 4826809 ∧ 1 ≤ q ^ k ∧ q ^ k ≤ 2197) fun q hq => even_table2 q hq k (List.mem_range.2 (by omega)) w (by rcases hw with h | h <;> rw [h] <;> simp)
theorem odd_step {p : Int} {k i : Nat} : ortOdd p k (i + 1) = ortOdd p k i * (p ^ (2 * (i + 1)) - 1) := by
  unfold ortOdd
  rw [prodQ, ← Int.mul_assoc]
theorem even_step {p w : Int} {k i : Nat} : ortEven p k w (i + 1) = ortEven p k w i * (p ^ (2 * (i + 1)) - 1) := by
  unfold ortEven
  rw [prodQ, ← Int.mul_assoc]
theorem odd_zero {p : Int} {k : Nat} : ortOdd p k 0 = 2 * p ^ (k * k) := by unfold ortOdd; rw [prodQ, Int.mul_one]
theorem even_zero {p w : Int} {k : Nat} : ortEven p k w 0 = 2 * p ^ (k * (k - 1)) * (p ^ k - w) := by unfold ortEven; rw [prodQ, Int.mul_one]
/-- the number of orthogonal matrices in n dimensions, with the Witt index v -/
def ortN (p : Int) (n : Nat) (v : Int) : Int := if n % 2 = 1 then ortOdd p (n / 2) (n / 2) else ortEven p (n / 2) (if v = ((n / 2 : Nat) : Int) then 1 else -1) (n / 2 - 1)
end Go.Proofs.Ytcieohpbeckjfaa
