/- Plain: the sum of the products of two lists. -/
import Derived.Test.YtcgghjhccnjeoaaField
namespace Go.Proofs.Ytcgghjhccnjeoaa
def dotL : List Int → List Int → Int
  | x :: xs, y :: ys => x * y + dotL xs ys
  | _, _ => 0
theorem dotL_snoc (xs ys : List Int) (x y : Int) (h : xs.length = ys.length) : dotL (xs ++ [x]) (ys ++ [y]) = dotL xs ys + x * y := by
  induction xs generalizing ys with
  | nil => cases ys with
    | nil => simp [dotL]
    | cons => simp at h
  | cons a xs ih => cases ys with
    | nil => simp at h
    | cons b ys => simp only [List.cons_append, dotL]; rw [ih ys (by simpa using h)]; omega
theorem dotL_step {xs ys : List Int} {k : Nat} {x y : Int} (hx : xs[k]? = some x) (hy : ys[k]? = some y) : dotL (xs.take (k + 1)) (ys.take (k + 1)) = dotL (xs.take k) (ys.take k) + x * y := by
  rw [take_snoc hx, take_snoc hy, dotL_snoc]
  have h1 := (List.getElem?_eq_some_iff.1 hx).1
  have h2 := (List.getElem?_eq_some_iff.1 hy).1
  rw [List.length_take, List.length_take]; omega
def dotC (p : Int) (xs ys : List Int) : Int := if primeB p then (if xs.length = ys.length ∧ xs.length ≤ 64 ∧ numsB p xs = true ∧ numsB p ys = true then 0 else 2) else 1
def dotV (p : Int) (xs ys : List Int) : Int := if dotC p xs ys = 0 then dotL xs ys % p else 0
end Go.Proofs.Ytcgghjhccnjeoaa
