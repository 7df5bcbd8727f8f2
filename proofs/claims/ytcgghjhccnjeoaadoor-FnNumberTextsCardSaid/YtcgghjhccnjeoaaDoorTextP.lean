/- Plain: the texts of numbers. No program in sight. -/
import Derived.Test.YtcgghjhccnjeoaaDoorField
import Derived.Lib.ItoaNum
namespace Go.Proofs.YtcgghjhccnjeoaaDoor

/-- the number that is written for a -/
def sgnN (p a : Int) : Int := if (p - 1) / 2 < a then a - p else a
def dgt (n : Int) : UInt8 := UInt8.ofNat (48 + n.toNat)
def txtL (p a : Int) : List UInt8 := if (p - 1) / 2 < a then [45, dgt (p - a)] else [dgt a]
theorem dec_one {u : Nat} (h : u < 10) : Lib.decDigits u = [UInt8.ofNat (48 + u)] := by rw [Lib.decDigits, dif_pos h]
theorem sgnN_bounds {p a : Int} (h0 : 3 ≤ p) (h1 : p ≤ 13) (a0 : 0 ≤ a) (a1 : a < p) : -6 ≤ sgnN p a ∧ sgnN p a ≤ 6 := by unfold sgnN; split <;> omega
theorem itoa_txt {p a : Int} (h0 : 3 ≤ p) (h1 : p ≤ 13) (a0 : 0 ≤ a) (a1 : a < p) : Lib.itoa (sgnN p a) = txtL p a := by
  unfold Lib.itoa sgnN txtL
  by_cases h : (p - 1) / 2 < a
  · rw [if_pos h, if_pos h, if_pos (by omega), dec_one (by omega)]
    unfold dgt; congr 4; omega
  · rw [if_neg h, if_neg h, if_neg (by omega), dec_one (by omega)]; rfl

/-- the least number from k on, looking n times, that is written so; -1 if there is none -/
def parseFrom (p : Int) (s : List UInt8) (k : Int) : Nat → Int
  | 0 => -1
  | n + 1 => if txtL p k = s then k else parseFrom p s (k + 1) n
def parseN (p : Int) (s : List UInt8) : Int := parseFrom p s 0 p.toNat
theorem parseFrom_hit {p k : Int} {s : List UInt8} (hk : k < p) (h : txtL p k = s) : parseFrom p s k (p - k).toNat = k := by
  obtain ⟨n, hn⟩ : ∃ n, (p - k).toNat = n + 1 := ⟨(p - k).toNat - 1, by omega⟩
  rw [hn, parseFrom, if_pos h]
theorem parseFrom_miss {p k : Int} {s : List UInt8} (hk : k < p) (h : ¬ txtL p k = s) : parseFrom p s k (p - k).toNat = parseFrom p s (k + 1) (p - (k + 1)).toNat := by
  obtain ⟨n, hn⟩ : ∃ n, (p - k).toNat = n + 1 := ⟨(p - k).toNat - 1, by omega⟩
  have e : (p - (k + 1)).toNat = n := by omega
  rw [hn, parseFrom, if_neg h, e]
theorem parseFrom_end {p k : Int} {s : List UInt8} (hk : p ≤ k) : parseFrom p s k (p - k).toNat = -1 := by
  rw [show (p - k).toNat = 0 by omega]; rfl
theorem parseFrom_range (p : Int) (s : List UInt8) (n : Nat) : ∀ k : Int, 0 ≤ k → parseFrom p s k n = -1 ∨ (0 ≤ parseFrom p s k n ∧ parseFrom p s k n < k + n ∧ txtL p (parseFrom p s k n) = s) := by
  induction n with
  | zero => intro k hk; left; rfl
  | succ n ih =>
    intro k hk
    unfold parseFrom
    split
    · right; exact ⟨hk, by omega, ‹_›⟩
    · rcases ih (k + 1) (by omega) with h | ⟨h1, h2, h3⟩
      · left; exact h
      · right; exact ⟨h1, by omega, h3⟩
/-- what ParseNumber hands back -/
def pnC (p : Int) (s : List UInt8) : Int := if primeB p = true then (if parseN p s < 0 then 6 else 0) else 1
def pnV (p : Int) (s : List UInt8) : Int := if primeB p = true then (if parseN p s < 0 then 0 else parseN p s) else 0
/-- what NumberText hands back -/
def ntL (p a : Int) : List UInt8 := if codeN p [a] = 0 then txtL p a else []
end Go.Proofs.YtcgghjhccnjeoaaDoor
