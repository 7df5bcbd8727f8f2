/- Plain arithmetic of the five fields: powers, inverses, roots, orders. No program in sight; p is one of the five primes. -/
import Derived.Test.YtcgghjhccnjeoaaPlain
namespace Go.Proofs.Ytcgghjhccnjeoaa

/-- every statement on a prime and one number is paid by the table -/
theorem table1 (P : Int → Int → Prop) (h : ∀ p ∈ [3, 5, 7, 11, 13], ∀ a ∈ List.range p, P (p : Nat) (a : Nat)) {p a : Int} (hp : primeB p = true) (h0 : 0 ≤ a) (h1 : a < p) : P p a := by
  have hm : p.toNat ∈ [3, 5, 7, 11, 13] := by rcases prime_cases hp with rfl | rfl | rfl | rfl | rfl <;> decide
  have := h p.toNat hm a.toNat (List.mem_range.2 (by have := prime_lo hp; omega))
  have e1 : ((p.toNat : Nat) : Int) = p := by have := prime_lo hp; omega
  have e2 : ((a.toNat : Nat) : Int) = a := by omega
  rw [e1, e2] at this; exact this

def powN (p a : Int) : Nat → Int
  | 0 => 1
  | k + 1 => (powN p a k * a) % p

def invN (p a : Int) : Int := powN p a (p.toNat - 2)

theorem powN_bounds {p a : Int} (hp : primeB p = true) (k : Nat) : 0 ≤ powN p a k ∧ powN p a k < p := by
  have := prime_lo hp
  cases k with
  | zero => simp [powN]; omega
  | succ k => exact ⟨Int.emod_nonneg _ (by omega), Int.emod_lt_of_pos _ (by omega)⟩

theorem mul_bounds {a b p : Int} (ha : 0 ≤ a) (ha' : a < p) (hb : 0 ≤ b) (hb' : b < p) (hp : p ≤ 13) : 0 ≤ a * b ∧ a * b ≤ 144 :=
  ⟨Int.mul_nonneg ha hb, by have := Int.mul_le_mul (show a ≤ 12 by omega) (show b ≤ 12 by omega) hb (by omega); omega⟩

theorem inv_table : ∀ p ∈ [3, 5, 7, 11, 13], ∀ a ∈ List.range p, a = 0 ∨ (1 ≤ invN (p : Nat) (a : Nat) ∧ invN (p : Nat) (a : Nat) < (p : Nat) ∧ (((a : Nat) : Int) * invN (p : Nat) (a : Nat)) % (p : Nat) = 1 ∧ ∀ b ∈ List.range p, (((a : Nat) : Int) * (b : Nat)) % (p : Nat) = 1 → ((b : Nat) : Int) = invN (p : Nat) (a : Nat)) := by
  decide +kernel
theorem inv_facts {p a : Int} (hp : primeB p = true) (h0 : 1 ≤ a) (h1 : a < p) : 1 ≤ invN p a ∧ invN p a < p ∧ (a * invN p a) % p = 1 ∧ ∀ b : Int, 0 ≤ b → b < p → (a * b) % p = 1 → b = invN p a := by
  have := table1 (fun p a => a = 0 ∨ (1 ≤ invN p a ∧ invN p a < p ∧ (a * invN p a) % p = 1 ∧ ∀ b ∈ List.range p.toNat, (a * (b : Nat)) % p = 1 → ((b : Nat) : Int) = invN p a))
    (fun p hp a ha => by have := inv_table p hp a ha; simpa using this) hp (by omega) h1
  rcases this with h | ⟨h2, h3, h4, h5⟩
  · omega
  · refine ⟨h2, h3, h4, fun b hb hb' hab => ?_⟩
    have := h5 b.toNat (List.mem_range.2 (by omega))
    have e : ((b.toNat : Nat) : Int) = b := by omega
    rw [e] at this; exact this hab

/-- the least root from k on, looking n times; -1 if there is none -/
def rootFrom (p a k : Int) : Nat → Int
  | 0 => -1
  | n + 1 => if (k * k) % p = a then k else rootFrom p a (k + 1) n
def rootN (p a : Int) : Int := rootFrom p a 0 p.toNat
def rootV (r : Int) : Int := if r < 0 then 0 else r
def okB (r : Int) : Bool := decide (0 ≤ r)
theorem rootFrom_hit {p a k : Int} (hk : k < p) (h : (k * k) % p = a) : rootFrom p a k (p - k).toNat = k := by
  obtain ⟨n, hn⟩ : ∃ n, (p - k).toNat = n + 1 := ⟨(p - k).toNat - 1, by omega⟩
  rw [hn, rootFrom, if_pos h]
theorem rootFrom_miss {p a k : Int} (hk : k < p) (h : ¬ (k * k) % p = a) : rootFrom p a k (p - k).toNat = rootFrom p a (k + 1) (p - (k + 1)).toNat := by
  obtain ⟨n, hn⟩ : ∃ n, (p - k).toNat = n + 1 := ⟨(p - k).toNat - 1, by omega⟩
  have e : (p - (k + 1)).toNat = n := by omega
  rw [hn, rootFrom, if_neg h, e]
theorem rootFrom_end {p a k : Int} (hk : p ≤ k) : rootFrom p a k (p - k).toNat = -1 := by
  rw [show (p - k).toNat = 0 by omega]; rfl
theorem rootFrom_range (p a : Int) (n : Nat) : ∀ k : Int, 0 ≤ k → rootFrom p a k n = -1 ∨ (0 ≤ rootFrom p a k n ∧ rootFrom p a k n < k + n ∧ (rootFrom p a k n * rootFrom p a k n) % p = a) := by
  induction n with
  | zero => intro k hk; left; rfl
  | succ n ih =>
    intro k hk
    rw [rootFrom]
    by_cases h : (k * k) % p = a
    · rw [if_pos h]; right; exact ⟨hk, by omega, h⟩
    · rw [if_neg h]
      rcases ih (k + 1) (by omega) with h1 | ⟨h1, h2, h3⟩
      · exact .inl h1
      · exact .inr ⟨h1, by omega, h3⟩
theorem rootN_range {p a : Int} (hp : 0 ≤ p) : rootN p a = -1 ∨ (0 ≤ rootN p a ∧ rootN p a < p ∧ (rootN p a * rootN p a) % p = a) := by
  rcases rootFrom_range p a p.toNat 0 (by omega) with h | ⟨h1, h2, h3⟩
  · exact .inl h
  · exact .inr ⟨h1, by unfold rootN; omega, h3⟩

/-- the least exponent from k on (now: the power with it) at which the power is 1, looking n times -/
def orderFrom (p a now k : Int) : Nat → Int
  | 0 => k
  | n + 1 => if now = 1 then k else orderFrom p a ((now * a) % p) (k + 1) n
def orderN (p a : Int) : Int := orderFrom p a a 1 p.toNat
theorem order_table : ∀ p ∈ [3, 5, 7, 11, 13], ∀ a ∈ List.range p, a = 0 ∨ (1 ≤ orderN (p : Nat) (a : Nat) ∧ orderN (p : Nat) (a : Nat) < (p : Nat) ∧ powN (p : Nat) (a : Nat) (orderN (p : Nat) (a : Nat)).toNat = 1 ∧ ∀ k ∈ List.range p, 1 ≤ k → powN (p : Nat) (a : Nat) k = 1 → orderN (p : Nat) (a : Nat) ≤ ((k : Nat) : Int)) := by
  decide +kernel
theorem order_facts {p a : Int} (hp : primeB p = true) (h0 : 1 ≤ a) (h1 : a < p) : 1 ≤ orderN p a ∧ orderN p a < p ∧ powN p a (orderN p a).toNat = 1 ∧ ∀ k : Nat, 1 ≤ k → (k : Int) < p → powN p a k = 1 → orderN p a ≤ k := by
  have := table1 (fun p a => a = 0 ∨ (1 ≤ orderN p a ∧ orderN p a < p ∧ powN p a (orderN p a).toNat = 1 ∧ ∀ k ∈ List.range p.toNat, 1 ≤ k → powN p a k = 1 → orderN p a ≤ ((k : Nat) : Int)))
    (fun p hp a ha => by have := order_table p hp a ha; simpa using this) hp (by omega) h1
  rcases this with h | ⟨h2, h3, h4, h5⟩
  · omega
  · exact ⟨h2, h3, h4, fun k hk hk' h => h5 k (List.mem_range.2 (by omega)) hk h⟩
theorem powN_one {p a : Int} (h0 : 0 ≤ a) (h1 : a < p) : powN p a 1 = a := by
  show (1 * a) % p = a
  rw [Int.one_mul]; exact Int.emod_eq_of_lt h0 h1

/-- the least primitive number -/
def primN (p : Int) : Int := if p = 7 then 3 else 2
theorem prim_table : ∀ p ∈ [3, 5, 7, 11, 13], 2 ≤ primN (p : Nat) ∧ primN (p : Nat) < (p : Nat) ∧ orderN (p : Nat) (primN (p : Nat)) = (p : Nat) - 1 ∧ ∀ a ∈ List.range p, 1 ≤ a → orderN (p : Nat) (a : Nat) = (p : Nat) - 1 → primN (p : Nat) ≤ ((a : Nat) : Int) := by
  decide +kernel
theorem prim_facts {p : Int} (hp : primeB p = true) : 2 ≤ primN p ∧ primN p < p ∧ orderN p (primN p) = p - 1 ∧ ∀ a : Int, 1 ≤ a → a < p → orderN p a = p - 1 → primN p ≤ a := by
  have hlo := prime_lo hp
  have := table1 (fun p _ => 2 ≤ primN p ∧ primN p < p ∧ orderN p (primN p) = p - 1 ∧ ∀ a ∈ List.range p.toNat, 1 ≤ a → orderN p (a : Nat) = p - 1 → primN p ≤ ((a : Nat) : Int))
    (fun p hp _ _ => by have := prim_table p hp; simpa using this) hp (a := 0) (by omega) (by omega)
  obtain ⟨h2, h3, h4, h5⟩ := this
  refine ⟨h2, h3, h4, fun a ha ha' h => ?_⟩
  have e : ((a.toNat : Nat) : Int) = a := by omega
  have := h5 a.toNat (List.mem_range.2 (by omega)) (by omega) (by rw [e]; exact h)
  rw [e] at this; exact this

/-- the first number from x on whose square leaves a square, looking n times: it, the root, the code -/
def sumFrom (p a x : Int) : Nat → Int × Int × Int
  | 0 => (0, 0, 4)
  | n + 1 => if 0 ≤ rootN p ((a - x * x) % p) then (x, rootN p ((a - x * x) % p), 0) else sumFrom p a (x + 1) n
def sumN (p a : Int) : Int × Int × Int := sumFrom p a 0 p.toNat
theorem sumFrom_hit {p a k : Int} (hk : k < p) (h : 0 ≤ rootN p ((a - k * k) % p)) : sumFrom p a k (p - k).toNat = (k, rootN p ((a - k * k) % p), 0) := by
  obtain ⟨n, hn⟩ : ∃ n, (p - k).toNat = n + 1 := ⟨(p - k).toNat - 1, by omega⟩
  rw [hn, sumFrom, if_pos h]
theorem sumFrom_miss {p a k : Int} (hk : k < p) (h : ¬ 0 ≤ rootN p ((a - k * k) % p)) : sumFrom p a k (p - k).toNat = sumFrom p a (k + 1) (p - (k + 1)).toNat := by
  obtain ⟨n, hn⟩ : ∃ n, (p - k).toNat = n + 1 := ⟨(p - k).toNat - 1, by omega⟩
  have e : (p - (k + 1)).toNat = n := by omega
  rw [hn, sumFrom, if_neg h, e]
theorem sumFrom_end {p a k : Int} (hk : p ≤ k) : sumFrom p a k (p - k).toNat = (0, 0, 4) := by
  rw [show (p - k).toNat = 0 by omega]; rfl
/-- codes and values of the exported functions -/
def divC (p a b : Int) : Int := if codeN p [a, b] = 0 then (if b = 0 then 5 else 0) else codeN p [a, b]
def divV (p a b : Int) : Int := if divC p a b = 0 then (a * invN p b) % p else 0
def pwC (p a k : Int) : Int := if codeN p [a] = 0 then (if rangeB k (-1000) 1000 then (if k < 0 ∧ a = 0 then 5 else 0) else 2) else codeN p [a]
def pwV (p a k : Int) : Int := if pwC p a k = 0 then (if k < 0 then powN p (invN p a) (-k).toNat else powN p a k.toNat) else 0
def sqB (p a : Int) : Bool := if codeN p [a] = 0 then okB (rootN p a) else false
def srC (p a : Int) : Int := if codeN p [a] = 0 then (if rootN p a < 0 then 4 else 0) else codeN p [a]
def srV (p a : Int) : Int := if srC p a = 0 then rootN p a else 0
def ssT (p a : Int) : Int × Int × Int := if codeN p [a] = 0 then sumN p a else (0, 0, codeN p [a])
def ordC (p a : Int) : Int := if codeN p [a] = 0 then (if a = 0 then 5 else 0) else codeN p [a]
def ordV (p a : Int) : Int := if ordC p a = 0 then orderN p a else 0
def priC (p : Int) : Int := if primeB p then 0 else 1
def priV (p : Int) : Int := if primeB p then primN p else 0
def nofV (p n : Int) : Int := if primeB p then n % p else 0
theorem sub_mod (p a b : Int) : (a + p - b) % p = (a - b) % p := by
  rw [show a + p - b = a - b + p by omega, Int.add_emod_right]
end Go.Proofs.Ytcgghjhccnjeoaa
