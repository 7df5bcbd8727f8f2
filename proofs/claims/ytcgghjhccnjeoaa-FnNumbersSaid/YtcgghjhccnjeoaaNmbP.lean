/- Plain: what the law on numbers asks of a prime and numbers. No program in sight. -/
import Derived.Test.YtcgghjhccnjeoaaField
namespace Go.Proofs.Ytcgghjhccnjeoaa

theorem mm1 (p x y : Int) : (x % p * y) % p = (x * y) % p := by rw [Int.mul_emod, Int.emod_emod_of_dvd _ (Int.dvd_refl p), ← Int.mul_emod]
theorem mm2 (p x y : Int) : (x * (y % p)) % p = (x * y) % p := by rw [Int.mul_emod, Int.emod_emod_of_dvd _ (Int.dvd_refl p), ← Int.mul_emod]
theorem powN_add {p a : Int} (hp : primeB p = true) (i : Nat) : ∀ j, powN p a (i + j) = (powN p a i * powN p a j) % p
  | 0 => by
    obtain ⟨h0, h1⟩ := powN_bounds (a := a) hp i
    show powN p a i = (powN p a i * 1) % p
    rw [Int.mul_one, Int.emod_eq_of_lt h0 h1]
  | j + 1 => by
    show (powN p a (i + j) * a) % p = (powN p a i * ((powN p a j * a) % p)) % p
    rw [powN_add hp i j, mm1, mm2, Int.mul_assoc]
/-- a power with an exponent of either sign -/
def pwI (p b k : Int) : Int := if k < 0 then powN p (invN p b) (-k).toNat else powN p b k.toNat
theorem pow_table : ∀ p ∈ [3, 5, 7, 11, 13], ∀ b ∈ List.range p, b = 0 ∨ (powN (p : Nat) (b : Nat) 60 = 1 ∧ ∀ k ∈ List.range 79, pwI (p : Nat) (b : Nat) ((k : Int) - 40) = powN (p : Nat) (b : Nat) (k + 20)) := by
  decide +kernel
theorem pow_facts {p b : Int} (hp : primeB p = true) (h0 : 1 ≤ b) (h1 : b < p) : powN p b 60 = 1 ∧ ∀ k : Int, -40 ≤ k → k ≤ 38 → pwI p b k = powN p b (k + 60).toNat := by
  have := table1 (fun p b => b = 0 ∨ (powN p b 60 = 1 ∧ ∀ k ∈ List.range 79, pwI p b ((k : Int) - 40) = powN p b (k + 20))) (fun p hp a ha => by
    have := pow_table p hp a ha
    rcases this with h | h
    · left; simp [h]
    · right; exact h) hp (by omega) h1
  rcases this with h | ⟨h2, h3⟩
  · omega
  · refine ⟨h2, fun k hk0 hk1 => ?_⟩
    have := h3 (k + 40).toNat (List.mem_range.2 (by omega))
    rw [show (((k + 40).toNat : Nat) : Int) - 40 = k by omega, show (k + 40).toNat + 20 = (k + 60).toNat by omega] at this
    exact this
theorem pow_law {p b m n : Int} (hp : primeB p = true) (h0 : 1 ≤ b) (h1 : b < p) (m0 : -20 ≤ m) (m1 : m ≤ 19) (n0 : -20 ≤ n) (n1 : n ≤ 19) : (pwI p b m * pwI p b n) % p = pwI p b (m + n) := by
  obtain ⟨h60, hk⟩ := pow_facts hp h0 h1
  rw [hk m (by omega) (by omega), hk n (by omega) (by omega), hk (m + n) (by omega) (by omega), ← powN_add hp]
  rw [show (m + 60).toNat + (n + 60).toNat = (m + n + 60).toNat + 60 by omega, powN_add hp, h60, Int.mul_one]
  obtain ⟨b0, b1⟩ := powN_bounds (a := b) hp (m + n + 60).toNat
  exact Int.emod_eq_of_lt b0 b1
theorem pwI_bounds {p b : Int} (hp : primeB p = true) (k : Int) : 0 ≤ pwI p b k ∧ pwI p b k < p := by
  unfold pwI
  split
  · exact powN_bounds hp _
  · exact powN_bounds hp _
theorem pwV_of {p b k : Int} (hp : primeB p = true) (h0 : 1 ≤ b) (h1 : b < p) (k0 : -40 ≤ k) (k1 : k ≤ 38) : pwC p b k = 0 ∧ pwV p b k = pwI p b k := by
  have hc : codeN p [b] = 0 := by
    unfold codeN
    rw [if_pos hp, if_pos (by simp [numsB, numB]; omega)]
  have hr : rangeB k (-1000) 1000 = true := by simp [rangeB]; omega
  have e : pwC p b k = 0 := by unfold pwC; rw [if_pos hc, if_pos hr, if_neg (by omega)]
  exact ⟨e, by unfold pwV; rw [if_pos e]; rfl⟩
theorem ord_table : ∀ p ∈ [3, 5, 7, 11, 13], ∀ b ∈ List.range p, b = 0 ∨ ((p : Int) - 1) % orderN (p : Nat) (b : Nat) = 0 := by
  decide +kernel
theorem ord_dvd {p b : Int} (hp : primeB p = true) (h0 : 1 ≤ b) (h1 : b < p) : (p - 1) % orderN p b = 0 := by
  have := table1 (fun p b => b = 0 ∨ (p - 1) % orderN p b = 0) (fun p hp a ha => by
    have := ord_table p hp a ha
    rcases this with h | h
    · left; simp [h]
    · right; exact h) hp (by omega) h1
  rcases this with h | h
  · omega
  · exact h
theorem back_law {p a b : Int} (hp : primeB p = true) (a0 : 0 ≤ a) (a1 : a < p) (h0 : 1 ≤ b) (h1 : b < p) : ((a * invN p b) % p * b) % p = a := by
  obtain ⟨_, _, h, _⟩ := inv_facts hp h0 h1
  rw [mm1, Int.mul_assoc, Int.mul_comm (invN p b) b, ← mm2, h, Int.mul_one, Int.emod_eq_of_lt a0 a1]
theorem less_law {p a b : Int} (a0 : 0 ≤ a) (a1 : a < p) : ((a + b) % p - b) % p = a := by
  rw [Int.emod_sub_emod, Int.add_sub_cancel, Int.emod_eq_of_lt a0 a1]
theorem left_law (p a b c : Int) : ((a + b) % p * c) % p = (a * c + b * c - 7 * p) % p := by
  rw [mm1, Int.add_mul, Int.sub_mul_emod_self_right]
theorem codeN_two {p a b : Int} (hp : primeB p = true) (a0 : 0 ≤ a) (a1 : a < p) (b0 : 0 ≤ b) (b1 : b < p) : codeN p [a, b] = 0 := by
  unfold codeN
  rw [if_pos hp, if_pos (by simp [numsB, numB]; omega)]
theorem codeN_one {p a : Int} (hp : primeB p = true) (a0 : 0 ≤ a) (a1 : a < p) : codeN p [a] = 0 := by
  unfold codeN
  rw [if_pos hp, if_pos (by simp [numsB, numB]; omega)]
end Go.Proofs.Ytcgghjhccnjeoaa
