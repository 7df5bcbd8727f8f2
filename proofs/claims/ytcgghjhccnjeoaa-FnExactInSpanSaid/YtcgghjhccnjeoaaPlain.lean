/- Plain arithmetic of the number layer: no program in sight. No condition. -/
namespace Go.Proofs.Ytcgghjhccnjeoaa

/-- one of the five primes -/
def primeB (p : Int) : Bool := p == 3 || p == 5 || p == 7 || p == 11 || p == 13

theorem prime_cases {p : Int} (h : primeB p = true) : p = 3 ∨ p = 5 ∨ p = 7 ∨ p = 11 ∨ p = 13 := by
  simp [primeB] at h; omega
theorem prime_lo {p : Int} (h : primeB p = true) : 3 ≤ p := by have := prime_cases h; omega
theorem prime_hi {p : Int} (h : primeB p = true) : p ≤ 13 := by have := prime_cases h; omega

/-- every one of the list is a number from 0 to p - 1 -/
def numB (p n : Int) : Bool := decide (0 ≤ n) && decide (n ≤ p - 1)
def numsB (p : Int) (xs : List Int) : Bool := xs.all (numB p)
theorem numB_true {p n : Int} (h : numB p n = true) : 0 ≤ n ∧ n < p := by simp [numB] at h; omega
theorem numB_iff {p n : Int} : numB p n = true ↔ 0 ≤ n ∧ n < p := by simp [numB]; omega

theorem numsB_at {p x : Int} {xs : List Int} {k : Nat} (h : numsB p xs = true) (hk : xs[k]? = some x) : numB p x = true :=
  List.all_eq_true.1 h _ (List.mem_of_getElem? hk)
theorem take_snoc {α : Type} {x : α} {xs : List α} {k : Nat} (hk : xs[k]? = some x) : xs.take (k + 1) = xs.take k ++ [x] := by
  rw [List.take_add_one, hk]; rfl
theorem numsB_step {p x : Int} {xs : List Int} {k : Nat} (hk : xs[k]? = some x) (h : numsB p (xs.take k) = true) (hx : numB p x = true) : numsB p (xs.take (k + 1)) = true := by
  rw [take_snoc hk]; unfold numsB at *; rw [List.all_append, h]; simpa using hx
theorem numsB_bad {p x : Int} {xs : List Int} {k : Nat} (hk : xs[k]? = some x) (h : numB p x = false) : numsB p xs = false := by
  cases e : numsB p xs with
  | false => rfl
  | true => rw [numsB_at e hk] at h; cases h
def rangeB (n lo hi : Int) : Bool := decide (lo ≤ n) && decide (n ≤ hi)
theorem rangeB_true {n lo hi : Int} (h : rangeB n lo hi = true) : lo ≤ n ∧ n ≤ hi := by simpa [rangeB] using h
theorem rangeB_num (p n : Int) : rangeB n 0 (p - 1) = numB p n := by simp [rangeB, numB]

/-- the code for a prime and numbers -/
def codeN (p : Int) (xs : List Int) : Int := if primeB p then (if numsB p xs then 0 else 2) else 1

theorem codeN_cases (p : Int) (xs : List Int) : codeN p xs = 0 ∧ primeB p = true ∧ numsB p xs = true ∨ codeN p xs = 1 ∧ primeB p = false ∨ codeN p xs = 2 ∧ primeB p = true ∧ numsB p xs = false := by
  unfold codeN
  cases primeB p <;> cases numsB p xs <;> simp
theorem codeN_zero {p : Int} {xs : List Int} (h : codeN p xs = 0) : primeB p = true ∧ numsB p xs = true := by
  rcases codeN_cases p xs with ⟨_, h1, h2⟩ | ⟨h1, _⟩ | ⟨h1, _⟩
  · exact ⟨h1, h2⟩
  · omega
  · omega
theorem nums2 {p a b : Int} (h : numsB p [a, b] = true) : (0 ≤ a ∧ a < p) ∧ (0 ≤ b ∧ b < p) := by
  simp [numsB] at h; exact ⟨numB_true h.1, numB_true h.2⟩
theorem nums1 {p a : Int} (h : numsB p [a] = true) : 0 ≤ a ∧ a < p := by
  simp [numsB] at h; exact numB_true h
/-- a value under its code -/
def okOr (c v : Int) : Int := if c = 0 then v else 0

theorem tmod_num (p n : Int) (h : 0 < p) : (n.tmod p + p).tmod p = n % p := by
  have h1 : n.tmod p + p ≥ 0 := by
    have := Int.lt_tmod_of_pos n h; omega
  rw [Int.tmod_eq_emod_of_nonneg h1, Int.add_emod_right, Int.tmod_eq_emod]
  split
  · simp
  · rename_i hn
    rw [Int.sub_emod, Int.emod_emod_of_dvd _ (Int.dvd_refl p)]
    simp
    have : (p.natAbs : Int) = p := by omega
    rw [this]; simp
theorem tmod_num2 (p n : Int) (h : 0 < p) : (n.tmod p + p) % p = n % p := by
  have h2 := Int.lt_tmod_of_pos n h
  rw [← Int.tmod_eq_emod_of_nonneg (a := n.tmod p + p) (by omega)]; exact tmod_num p n h
end Go.Proofs.Ytcgghjhccnjeoaa
