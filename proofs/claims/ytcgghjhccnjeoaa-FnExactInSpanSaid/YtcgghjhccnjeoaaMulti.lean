/- Contracts: multivectors and lists of numbers as arguments; the codes of a space and such lists. Conditions stand in each theorem. -/
import Derived.Test.YtcgghjhccnjeoaaSpace2
namespace Go.Proofs.Ytcgghjhccnjeoaa
open Go.RowKit
set_option linter.unusedVariables false

theorem pow_le6 {n : Nat} (hn : n ≤ 6) : (2 : Nat) ^ n ≤ 64 := by
  have : (2 : Nat) ^ n ≤ 2 ^ 6 := Nat.pow_le_pow_right (by omega) hn
  omega
theorem ipow_le6 {n : Nat} (hn : n ≤ 6) : (0 : Int) ≤ 2 ^ n ∧ (2 : Int) ^ n ≤ 64 ∧ (1 : Int) ≤ 2 ^ n := by
  have h := pow_le6 hn
  have h1 : 1 ≤ (2 : Nat) ^ n := Nat.one_le_two_pow
  have e : ((2 ^ n : Nat) : Int) = (2 : Int) ^ n := by rw [Int.natCast_pow]; rfl
  omega
theorem ipow_cast (n : Nat) : (2 : Int) ^ n = ((2 ^ n : Nat) : Int) := by rw [Int.natCast_pow]; rfl

theorem eqpow (m n : Nat) : ((m : Int) == 2 ^ n) = decide (m = 2 ^ n) := by
  rw [ipow_cast]
  exact Bool.eq_iff_iff.2 (by simp only [beq_iff_eq, decide_eq_true_eq]; exact Int.ofNat_inj)

def mulB (p : Int) (xs ys : List Int) : Bool := spaceB p xs && lstB p (2 ^ xs.length) ys

end Go.Proofs.Ytcgghjhccnjeoaa
