/- Plain: what the law on squares asks of a prime and a number. No program in sight. -/
import Derived.Test.YtcgghjhccnjeoaaField
namespace Go.Proofs.Ytcgghjhccnjeoaa

theorem squ_table : ∀ p ∈ [3, 5, 7, 11, 13], ∀ a ∈ List.range p,
    ((sumN (p : Nat) (a : Nat)).2.2 = 0 ∧ 0 ≤ (sumN (p : Nat) (a : Nat)).1 ∧ (sumN (p : Nat) (a : Nat)).1 < (p : Nat) ∧ 0 ≤ (sumN (p : Nat) (a : Nat)).2.1 ∧ (sumN (p : Nat) (a : Nat)).2.1 < (p : Nat) ∧ ((sumN (p : Nat) (a : Nat)).1 * (sumN (p : Nat) (a : Nat)).1 + (sumN (p : Nat) (a : Nat)).2.1 * (sumN (p : Nat) (a : Nat)).2.1) % (p : Nat) = ((a : Nat) : Int)) ∧
    ((0 ≤ rootN (p : Nat) (a : Nat)) ↔ ((a : Nat) : Int) = 0 ∨ powN (p : Nat) (a : Nat) ((p - 1) / 2) = 1) ∧ (0 ≤ rootN (p : Nat) (a : Nat) → 2 * rootN (p : Nat) (a : Nat) ≤ (p : Nat)) := by
  decide +kernel
theorem squ_facts {p a : Int} (hp : primeB p = true) (h0 : 0 ≤ a) (h1 : a < p) :
    ((sumN p a).2.2 = 0 ∧ 0 ≤ (sumN p a).1 ∧ (sumN p a).1 < p ∧ 0 ≤ (sumN p a).2.1 ∧ (sumN p a).2.1 < p ∧ ((sumN p a).1 * (sumN p a).1 + (sumN p a).2.1 * (sumN p a).2.1) % p = a) ∧
    ((0 ≤ rootN p a) ↔ a = 0 ∨ powN p a ((p - 1) / 2).toNat = 1) ∧ (0 ≤ rootN p a → 2 * rootN p a ≤ p) :=
  table1 (fun p a => ((sumN p a).2.2 = 0 ∧ 0 ≤ (sumN p a).1 ∧ (sumN p a).1 < p ∧ 0 ≤ (sumN p a).2.1 ∧ (sumN p a).2.1 < p ∧ ((sumN p a).1 * (sumN p a).1 + (sumN p a).2.1 * (sumN p a).2.1) % p = a) ∧
    ((0 ≤ rootN p a) ↔ a = 0 ∨ powN p a ((p - 1) / 2).toNat = 1) ∧ (0 ≤ rootN p a → 2 * rootN p a ≤ p)) (fun p hp a ha => by
      have := squ_table p hp a ha
      have e : (((p : Nat) : Int) - 1) / 2 = (((p - 1) / 2 : Nat) : Int) := by
        have : 3 ≤ p := by simp at hp; omega
        omega
      rw [e]
      exact this) hp h0 h1
end Go.Proofs.Ytcgghjhccnjeoaa
