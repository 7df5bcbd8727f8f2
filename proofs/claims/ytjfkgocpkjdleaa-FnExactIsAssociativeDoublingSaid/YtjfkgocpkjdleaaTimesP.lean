/- Plain: products of doublings as lists. No program in sight. -/
import Derived.Test.YtjfkgocpkjdleaaDbl2
import Derived.Test.YtjfkgocpkjdleaaVec
namespace Go.Proofs.Ytjfkgocpkjdleaa
open Go.RowKit
set_option linter.unusedVariables false

def conjL (p : Int) (xs : List Int) : List Int := (scaleL p (-1) xs).set 0 (xs.getD 0 0)
theorem conjL_len (p : Int) (xs : List Int) : (conjL p xs).length = xs.length := by unfold conjL; rw [List.length_set, scaleL_len]
theorem conjL_nums {p : Int} {xs : List Int} (hp : 3 ≤ p) (hn : numsB p xs = true) : numsB p (conjL p xs) = true := numsB_of fun x hx => by
  unfold conjL at hx
  rcases List.mem_or_eq_of_mem_set hx with h | h
  · exact numB_true (List.all_eq_true.1 (scaleL_nums hp xs) x h)
  · subst h
    cases xs with
    | nil => simp; omega
    | cons y ys => exact numB_true (List.all_eq_true.1 hn y List.mem_cons_self)
theorem scale_neg (p : Int) (xs : List Int) : scaleL p (p - 1) xs = scaleL p (-1) xs := by
  unfold scaleL
  apply List.map_congr_left
  intro a _
  rw [show a * (p - 1) = a * -1 + a * p by rw [Int.mul_sub, Int.mul_one, Int.mul_neg, Int.mul_one]; omega, Int.add_mul_emod_self_right]
theorem plus_scale (p k : Int) (xs ys : List Int) : plusL p 1 xs (scaleL p k ys) = plusL p k xs ys := by
  unfold plusL scaleL
  induction xs generalizing ys with
  | nil => rfl
  | cons x xs ih => cases ys with
    | nil => rfl
    | cons y ys =>
      simp only [List.map_cons, List.zipWith_cons_cons, ih]
      congr 1
      rw [Int.one_mul, Int.mul_comm y k, Int.add_emod, Int.emod_emod_of_dvd _ (Int.dvd_refl p), ← Int.add_emod]

/-- the product of two elements; the steps from the last one on -/
def mulR (p : Int) : List Int → List Int → List Int → List Int
  | [], x, y => [(x.getD 0 0 * y.getD 0 0) % p]
  | g :: r, x, y =>
    plusL p g (mulR p r (x.take (2 ^ r.length)) (y.take (2 ^ r.length))) (mulR p r (conjL p (y.drop (2 ^ r.length))) (x.drop (2 ^ r.length))) ++
    plusL p 1 (mulR p r (y.drop (2 ^ r.length)) (x.take (2 ^ r.length))) (mulR p r (x.drop (2 ^ r.length)) (conjL p (y.take (2 ^ r.length))))
theorem mulR_len (p : Int) : ∀ (st x y : List Int), (mulR p st x y).length = 2 ^ st.length := by
  intro st
  induction st with
  | nil => intro x y; rfl
  | cons g r ih =>
    intro x y
    unfold mulR
    rw [List.length_append, plusL_len (by rw [ih, ih]), plusL_len (by rw [ih, ih]), ih, ih, List.length_cons, Nat.pow_succ]
    omega
theorem numsB_append {p : Int} {xs ys : List Int} (h1 : numsB p xs = true) (h2 : numsB p ys = true) : numsB p (xs ++ ys) = true := by
  unfold numsB at *; rw [List.all_append, h1, h2]; rfl
theorem mulR_nums {p : Int} (hp : 3 ≤ p) (st x y : List Int) : numsB p (mulR p st x y) = true := by
  cases st with
  | nil => exact numsB_of fun z hz => by rw [List.mem_singleton.1 hz]; exact ⟨Int.emod_nonneg _ (by omega), Int.emod_lt_of_pos _ (by omega)⟩
  | cons g r => exact numsB_append (plusL_nums hp _ _) (plusL_nums hp _ _)
theorem rev_snoc {st : List Int} {n : Nat} {g : Int} (h : st[n]? = some g) (hl : st.length = n + 1) : st.reverse = g :: (st.take n).reverse := by
  have h1 := take_snoc h
  rw [List.take_of_length_le (by omega)] at h1
  have h2 := congrArg List.reverse h1
  rw [List.reverse_append] at h2
  exact h2
theorem mulR_step {p g : Int} {st x y : List Int} {n : Nat} (h : st[n]? = some g) (hl : st.length = n + 1) :
    mulR p st.reverse x y = plusL p g (mulR p (st.take n).reverse (x.take (2 ^ n)) (y.take (2 ^ n))) (mulR p (st.take n).reverse (conjL p (y.drop (2 ^ n))) (x.drop (2 ^ n))) ++
      plusL p 1 (mulR p (st.take n).reverse (y.drop (2 ^ n)) (x.take (2 ^ n))) (mulR p (st.take n).reverse (x.drop (2 ^ n)) (conjL p (y.take (2 ^ n)))) := by
  have e : (st.take n).reverse.length = n := by rw [List.length_reverse, List.length_take]; omega
  rw [rev_snoc h hl]
  show plusL p g (mulR p (st.take n).reverse (x.take (2 ^ (st.take n).reverse.length)) _) _ ++ _ = _
  rw [e]

/-- a list of numbers at its place -/
def IntsN (p : Int) (w : World) (A : Option Addr) (n : Nat) (xs : List Int) : Prop := Ints w A n xs ∧ numsB p xs = true
theorem IntsN.keep {p : Int} {w w1 : World} {A : Option Addr} {n : Nat} {xs : List Int} (h : IntsN p w A n xs) (hb : Below w.heap.size w w1) : IntsN p w1 A n xs := ⟨h.1.keep hb, h.2⟩
theorem numsB_sub {p : Int} {xs ys : List Int} (h : numsB p xs = true) (hs : ∀ y ∈ ys, y ∈ xs) : numsB p ys = true := List.all_eq_true.2 fun y hy => List.all_eq_true.1 h y (hs y hy)
theorem IntsN.take_ {p : Int} {w : World} {b off N h : Nat} {xs : List Int} (hx : IntsN p w (some ⟨b, off, none⟩) N xs) (hh : h ≤ N) : IntsN p w (some ⟨b, off, none⟩) h (xs.take h) :=
  ⟨⟨by rw [List.length_take, hx.1.1]; omega, Nat.le_trans hh hx.1.2.1, fun h0 => by
    obtain ⟨b', off', e, hl, hc⟩ := hx.1.2.2 (by omega)
    refine ⟨b', off', e, hl, fun j x hj => ?_⟩
    have hjl : j < h := by have := (List.getElem?_eq_some_iff.1 hj).1; rw [List.length_take] at this; omega
    rw [List.getElem?_take_of_lt hjl] at hj
    exact hc j x hj⟩, numsB_sub hx.2 fun y hy => List.mem_of_mem_take hy⟩
theorem IntsN.drop_ {p : Int} {w : World} {b off N h : Nat} {xs : List Int} (hx : IntsN p w (some ⟨b, off, none⟩) N xs) (hh : h ≤ N) : IntsN p w (some ⟨b, off + h, none⟩) (N - h) (xs.drop h) :=
  ⟨⟨by rw [List.length_drop, hx.1.1], by have := hx.1.2.1; omega, fun h0 => by
    obtain ⟨b', off', e, hl, hc⟩ := hx.1.2.2 (by omega)
    injection e with e
    injection e with e1 e2
    subst e1 e2
    refine ⟨b, off + h, rfl, hl, fun j x hj => ?_⟩
    rw [List.getElem?_drop] at hj
    have h1 := hc (h + j) x hj
    rw [← Nat.add_assoc] at h1
    exact h1⟩, numsB_sub hx.2 fun y hy => List.mem_of_mem_drop hy⟩
theorem stepsB_take {p : Int} {st : List Int} {n : Nat} (h : stepsB p st = true) : stepsB p (st.take n) = true := List.all_eq_true.2 fun y hy => List.all_eq_true.1 h y (List.mem_of_mem_take hy)
end Go.Proofs.Ytjfkgocpkjdleaa
