/- Plain: isometric spaces. No program in sight. -/
import Derived.Test.YtcieohpbeckjfaaField
import Derived.Test.YtcieohpbeckjfaaSpaceP
namespace Go.Proofs.Ytcieohpbeckjfaa

def stpI (p q c : Int) : Int := if c = 0 then q else q * c % p
def qII (p q s t : Int) : Nat → Int
  | 0 => q
  | 1 => stpI p q s
  | _ => stpI p (stpI p q s) t
def isoP (p : Int) (xs ys : List Int) : Nat → Int
  | 0 => 1
  | i + 1 => stpI p (stpI p (isoP p xs ys i) (xs.getD i 0)) (ys.getD i 0)
def zerI (c : Int) : Nat := if c = 0 then 1 else 0
def zersN (xs : List Int) : Nat → Nat
  | 0 => 0
  | i + 1 => zersN xs i + zerI (xs.getD i 0)
theorem zerI_le (c : Int) : zerI c ≤ 1 := by unfold zerI; split <;> omega
theorem zersN_le (xs : List Int) : ∀ i, zersN xs i ≤ i
  | 0 => Nat.le_refl _
  | i + 1 => by have := zersN_le xs i; have := zerI_le (xs.getD i 0); unfold zersN; omega
theorem stpI_range {p q c : Int} (hp : 2 ≤ p) (h0 : 0 ≤ q) (h1 : q < p) : 0 ≤ stpI p q c ∧ stpI p q c < p := by
  unfold stpI
  split
  · exact ⟨h0, h1⟩
  · exact ⟨Int.emod_nonneg _ (by omega), Int.emod_lt_of_pos _ (by omega)⟩
theorem isoP_range {p : Int} (hp : 2 ≤ p) (xs ys : List Int) : ∀ i, 0 ≤ isoP p xs ys i ∧ isoP p xs ys i < p
  | 0 => ⟨by show (0 : Int) ≤ 1; omega, by show (1 : Int) < p; omega⟩
  | i + 1 => by have h := isoP_range hp xs ys i; have h2 := stpI_range (c := xs.getD i 0) hp h.1 h.2; exact stpI_range hp h2.1 h2.2
/-- the answer for two spaces -/
def isoB (p q : Int) (xs ys : List Int) : Bool := if p = q ∧ xs.length = ys.length then decide (zersN xs xs.length = zersN ys xs.length) && okB (rootN p (isoP p xs ys xs.length)) else false
theorem isoB_p {p q : Int} {xs ys : List Int} (h : ¬ p = q) : isoB p q xs ys = false := if_neg fun e => h e.1
theorem isoB_n {p q : Int} {xs ys : List Int} (h : ¬ xs.length = ys.length) : isoB p q xs ys = false := if_neg fun e => h e.2
theorem isoB_z {p : Int} {xs ys : List Int} {n : Nat} (h0 : xs.length = n) (h1 : ys.length = n) (h : ¬ zersN xs n = zersN ys n) : isoB p p xs ys = false := by
  unfold isoB; rw [if_pos ⟨rfl, h0.trans h1.symm⟩, h0, decide_eq_false h]; rfl
theorem isoB_y {p : Int} {xs ys : List Int} {n : Nat} (h0 : xs.length = n) (h1 : ys.length = n) (h : zersN xs n = zersN ys n) : isoB p p xs ys = okB (rootN p (isoP p xs ys n)) := by
  unfold isoB; rw [if_pos ⟨rfl, h0.trans h1.symm⟩, h0, decide_eq_true h]; rfl
theorem prod_facts {p q s : Int} (h0 : 3 ≤ p) (h1 : p ≤ 13) (q0 : 0 ≤ q) (q1 : q < p) (s0 : 0 ≤ s) (s1 : s < p) : 0 ≤ q * s ∧ q * s ≤ 144 := by
  have a := Int.mul_nonneg q0 s0
  have b : q * s ≤ 12 * 12 := Int.mul_le_mul (by omega) (by omega) s0 (by decide)
  omega
end Go.Proofs.Ytcieohpbeckjfaa
