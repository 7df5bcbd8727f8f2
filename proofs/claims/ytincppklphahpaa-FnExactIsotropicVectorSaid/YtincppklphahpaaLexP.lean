/- Plain: the vectors in lexicographic order. No program in sight. -/
import Derived.Test.YtincppklphahpaaField
import Derived.Test.YtincppklphahpaaSpaceP
import Derived.Test.YtincppklphahpaaDotP
namespace Go.Proofs.Ytincppklphahpaa

def nxt (p : Int) : List Int → List Int × Bool
  | [] => ([], false)
  | d :: t => if (nxt p t).2 = true then (d :: (nxt p t).1, true) else if d + 1 < p then ((d + 1) :: (nxt p t).1, true) else (0 :: (nxt p t).1, false)
theorem nxt_go {p d : Int} {t : List Int} (h : (nxt p t).2 = true) : nxt p (d :: t) = (d :: (nxt p t).1, true) := by rw [nxt, if_pos h]
theorem nxt_up {p d : Int} {t : List Int} (h : (nxt p t).2 = false) (hd : d + 1 < p) : nxt p (d :: t) = ((d + 1) :: (nxt p t).1, true) := by rw [nxt, if_neg (by rw [h]; simp), if_pos hd]
theorem nxt_over {p d : Int} {t : List Int} (h : (nxt p t).2 = false) (hd : ¬ d + 1 < p) : nxt p (d :: t) = (0 :: (nxt p t).1, false) := by rw [nxt, if_neg (by rw [h]; simp), if_neg hd]
theorem nxt_cases (p d : Int) (t : List Int) : ((nxt p t).2 = true ∧ nxt p (d :: t) = (d :: (nxt p t).1, true)) ∨ ((nxt p t).2 = false ∧ d + 1 < p ∧ nxt p (d :: t) = ((d + 1) :: (nxt p t).1, true)) ∨ ((nxt p t).2 = false ∧ ¬ d + 1 < p ∧ nxt p (d :: t) = (0 :: (nxt p t).1, false)) := by
  cases h : (nxt p t).2 with
  | true => exact .inl ⟨rfl, nxt_go h⟩
  | false =>
    by_cases hd : d + 1 < p
    · exact .inr (.inl ⟨rfl, hd, nxt_up h hd⟩)
    · exact .inr (.inr ⟨rfl, hd, nxt_over h hd⟩)
theorem nxt_len (p : Int) : ∀ l : List Int, (nxt p l).1.length = l.length
  | [] => rfl
  | d :: t => by
    have ih := nxt_len p t
    rcases nxt_cases p d t with ⟨_, h⟩ | ⟨_, _, h⟩ | ⟨_, _, h⟩ <;> rw [h] <;> simp [ih]
theorem nxt_false (p : Int) : ∀ l : List Int, (nxt p l).2 = false → (nxt p l).1 = List.replicate l.length 0
  | [], _ => rfl
  | d :: t, hf => by
    have ih := nxt_false p t
    rcases nxt_cases p d t with ⟨_, h⟩ | ⟨_, _, h⟩ | ⟨h0, _, h⟩
    · rw [h] at hf; cases hf
    · rw [h] at hf; cases hf
    · rw [h]; simp [ih h0, List.replicate_succ]
theorem nxt_app {p : Int} {suf r : List Int} (h : nxt p suf = (r, true)) : ∀ pre : List Int, nxt p (pre ++ suf) = (pre ++ r, true)
  | [] => h
  | d :: t => by
    have ih := nxt_app h t
    rw [List.cons_append, nxt_go (by rw [ih]), ih]; rfl
theorem nxt_nums {p : Int} (hp : 2 ≤ p) : ∀ l : List Int, numsB p l = true → numsB p (nxt p l).1 = true
  | [], _ => rfl
  | d :: t, hn => by
    have hd : numB p d = true := by unfold numsB at hn; simp at hn; exact hn.1
    have ht : numsB p t = true := by unfold numsB at hn ⊢; simp at hn ⊢; exact hn.2
    have ih := nxt_nums hp t ht
    have hc : ∀ x, numB p x = true → numsB p (x :: (nxt p t).1) = true := fun x hx => by unfold numsB at ih ⊢; simp at ih ⊢; exact ⟨hx, ih⟩
    obtain ⟨d0, d1⟩ := numB_true hd
    rcases nxt_cases p d t with ⟨_, h⟩ | ⟨_, hd, h⟩ | ⟨_, _, h⟩ <;> rw [h]
    · exact hc _ ‹_›
    · exact hc _ (by unfold numB; simp; omega)
    · exact hc _ (by unfold numB; simp; omega)
/-- the place of a vector in the order -/
def rk (p : Int) : List Int → Int
  | [] => 0
  | d :: t => d * p ^ t.length + rk p t
theorem rk_bounds {p : Int} (hp : 2 ≤ p) : ∀ l : List Int, numsB p l = true → 0 ≤ rk p l ∧ rk p l < p ^ l.length
  | [], _ => ⟨Int.le_refl _, by simp [rk]⟩
  | d :: t, hn => by
    have hd : numB p d = true := by unfold numsB at hn; simp at hn; exact hn.1
    have ht : numsB p t = true := by unfold numsB at hn ⊢; simp at hn ⊢; exact hn.2
    have ih := rk_bounds hp t ht
    obtain ⟨d0, d1⟩ := numB_true hd
    have hpp : 0 ≤ p ^ t.length := by omega
    have a : 0 ≤ d * p ^ t.length := Int.mul_nonneg d0 hpp
    have b : (d + 1) * p ^ t.length ≤ p * p ^ t.length := Int.mul_le_mul_of_nonneg_right (by omega) hpp
    have c : (d + 1) * p ^ t.length = d * p ^ t.length + p ^ t.length := by grind
    have e : p ^ (d :: t).length = p * p ^ t.length := by rw [List.length_cons, Int.pow_succ, Int.mul_comm]
    rw [e, rk]
    omega
theorem rk_zero (p : Int) : ∀ n, rk p (List.replicate n 0) = 0
  | 0 => rfl
  | n + 1 => by rw [List.replicate_succ, rk, rk_zero p n]; simp
theorem rk_nxt {p : Int} (hp : 2 ≤ p) : ∀ l : List Int, numsB p l = true → ((nxt p l).2 = true → rk p (nxt p l).1 = rk p l + 1) ∧ ((nxt p l).2 = false → rk p l + 1 = p ^ l.length)
  | [], _ => ⟨fun h => (by cases h), fun _ => (by simp [rk])⟩
  | d :: t, hn => by
    have hd : numB p d = true := by unfold numsB at hn; simp at hn; exact hn.1
    have ht : numsB p t = true := by unfold numsB at hn ⊢; simp at hn ⊢; exact hn.2
    have ih := rk_nxt hp t ht
    obtain ⟨d0, d1⟩ := numB_true hd
    have hl := nxt_len p t
    rcases nxt_cases p d t with ⟨h0, h⟩ | ⟨h0, hd, h⟩ | ⟨h0, hd, h⟩ <;> rw [h]
    · refine ⟨fun _ => ?_, fun h => by cases h⟩
      have := ih.1 h0
      simp only [rk, hl]; omega
    · refine ⟨fun _ => ?_, fun h => by cases h⟩
      have a := ih.2 h0
      have b := nxt_false p t h0
      have c : rk p (nxt p t).1 = 0 := by rw [b]; exact rk_zero p _
      have e : (d + 1) * p ^ t.length = d * p ^ t.length + p ^ t.length := by grind
      simp only [rk, hl, c]; omega
    · refine ⟨fun h => (by cases h), fun _ => ?_⟩
      have a := ih.2 h0
      have e : p ^ (d :: t).length = p * p ^ t.length := by rw [List.length_cons, Int.pow_succ, Int.mul_comm]
      have hdp : d = p - 1 := by omega
      have f : (p - 1) * p ^ t.length = p * p ^ t.length - p ^ t.length := by grind
      rw [e, rk, hdp]; omega
/-- the first isotropic vector behind a vector -/
def srch (p : Int) (xs : List Int) : Nat → List Int → Option (List Int)
  | 0, _ => none
  | f + 1, v => if (nxt p v).2 = true then (if pairN p xs (nxt p v).1 (nxt p v).1 = 0 then some (nxt p v).1 else srch p xs f (nxt p v).1) else none
def isoR (p : Int) (xs : List Int) : Option (List Int) := srch p xs (p ^ xs.length).toNat (List.replicate xs.length 0)
theorem srch_end {p : Int} {xs v : List Int} {f : Nat} (h : (nxt p v).2 = false) : srch p xs f v = none := by
  cases f with
  | zero => rfl
  | succ f => rw [srch, if_neg (by rw [h]; simp)]
theorem srch_hit {p : Int} {xs v : List Int} {f : Nat} (h : (nxt p v).2 = true) (h2 : pairN p xs (nxt p v).1 (nxt p v).1 = 0) : srch p xs (f + 1) v = some (nxt p v).1 := by rw [srch, if_pos h, if_pos h2]
theorem srch_on {p : Int} {xs v : List Int} {f : Nat} (h : (nxt p v).2 = true) (h2 : ¬ pairN p xs (nxt p v).1 (nxt p v).1 = 0) : srch p xs (f + 1) v = srch p xs f (nxt p v).1 := by rw [srch, if_pos h, if_neg h2]
end Go.Proofs.Ytincppklphahpaa
