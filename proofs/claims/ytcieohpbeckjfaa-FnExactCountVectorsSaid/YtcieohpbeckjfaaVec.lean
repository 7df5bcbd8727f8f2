/- Contracts: sums and multiples of lists. Conditions stand in each theorem. -/
import Derived.Test.YtcieohpbeckjfaaMark
import Derived.Deep.AppendLies
import Derived.Test.YtcieohpbeckjfaaField
namespace Go.Proofs.Ytcieohpbeckjfaa
open Go.RowKit
set_option linter.unusedVariables false

theorem below_alloc (w : World) (o : Obj) : Below w.heap.size w (w.alloc o) := (Below.refl _ _).alloc (Nat.le_refl _) _
theorem own_keep {w w' : World} {base : Nat} {e : TypeId} {size n : Nat} {v : Value} {xs : List Value} (hb : Below w.heap.size w w') (h : w.ownsRow base e size v n xs) : w'.ownsRow base e size v n xs :=
  h.kept (row := none) ⟨hb.os, hb.tape, hb.output, hb.size, fun i hi _ => hb.block i hi⟩ (Classical.em _)
theorem Own.of_own {w : World} {base n : Nat} {e : TypeId} {v : Value} {xs : List Int} (h : w.ownsRow base e 1 v n (xs.map (Value.int .i64))) : ∃ A c, v = .slice A n c ∧ Own base w A n xs := by
  have hl : xs.length = n := by have := h.1; rw [List.length_map] at this; omega
  rcases h.2 with ⟨rfl, h0⟩ | ⟨g, cap, cur, rfl, hg, hh, hn, hc, hs, ht⟩
  · subst h0
    have : xs = [] := List.eq_nil_of_length_eq_zero hl
    subst this
    exact ⟨none, 0, rfl, Own.nil _ _⟩
  · refine ⟨_, cap, rfl, hl, Nat.le_trans hn hc, fun hn0 => ⟨g, 0, rfl, hg, h.lt g (by simp [Value.ownBlock]) |>.2, fun j x hj => ?_, fun j hj => ?_⟩⟩
    · have hjn : j < n := by have := (List.getElem?_eq_some_iff.1 hj).1; omega
      have := h.cellAt (cap := cap) j (by omega)
      rw [Nat.zero_add, this, List.getElem?_map, hj]; rfl
    · rw [Nat.zero_add]; exact h.frozenAt (cap := cap) j
theorem own_empty (w : World) (t : TypeId) (b base : Nat) (hb : b = w.heap.size) (h : base ≤ b) : (w.alloc (.cells #[] t)).ownsRow base t 1 (.slice (some ⟨b, 0, none⟩) 0 0) 0 [] := by
  subst hb
  exact World.ownsRow_lit w #[] 0 h (by unfold maxLen; omega) rfl
theorem cell_grown {w w' : World} {base : Nat} {e : TypeId} {size n : Nat} {v u : Value} {xs : List Value} {a : Addr} (ho : w.ownsRow base e size v n xs) (hg : w.grownBy w' v.ownBlock) (h : w.cell? a = some u) (ha : a.block < base) : w'.cell? a = some u :=
  (World.cell?_of_block (hg.block a.block (World.block_lt_of_cell? _ _ h) (fun e => by have := (ho.lt _ e.symm).1; omega))).trans h
theorem below_own {B : Nat} {w0 w w' : World} {base : Nat} {e : TypeId} {size n : Nat} {v : Value} {xs : List Value} (ho : w.ownsRow base e size v n xs) (hg : w.grownBy w' v.ownBlock) (h : Below B w0 w) (hB : B ≤ base) (hB2 : B ≤ w.heap.size) : Below B w0 w' :=
  h.grown hg hB2 (fun k e => Nat.le_trans hB (ho.lt k e).1)

def plusL (p k : Int) (xs ys : List Int) : List Int := List.zipWith (fun a b => (a + k * b) % p) xs ys
def scaleL (p k : Int) (xs : List Int) : List Int := xs.map fun a => (a * k) % p
theorem plusL_step {p k x y : Int} {xs ys : List Int} {j : Nat} (hx : xs[j]? = some x) (hy : ys[j]? = some y) : plusL p k (xs.take (j + 1)) (ys.take (j + 1)) = plusL p k (xs.take j) (ys.take j) ++ [(x + k * y) % p] := by
  have h1 := (List.getElem?_eq_some_iff.1 hx).1
  have h2 := (List.getElem?_eq_some_iff.1 hy).1
  unfold plusL
  rw [take_snoc hx, take_snoc hy, List.zipWith_append (by rw [List.length_take, List.length_take]; omega)]
  rfl
theorem scaleL_step {p k x : Int} {xs : List Int} {j : Nat} (hx : xs[j]? = some x) : scaleL p k (xs.take (j + 1)) = scaleL p k (xs.take j) ++ [(x * k) % p] := by
  unfold scaleL; rw [take_snoc hx, List.map_append]; rfl
theorem plusL_len {p k : Int} {xs ys : List Int} (h : xs.length = ys.length) : (plusL p k xs ys).length = xs.length := by
  unfold plusL; rw [List.length_zipWith]; omega
theorem scaleL_len {p k : Int} {xs : List Int} : (scaleL p k xs).length = xs.length := by unfold scaleL; rw [List.length_map]
theorem numsB_of {p : Int} {xs : List Int} (h : ∀ x ∈ xs, 0 ≤ x ∧ x < p) : numsB p xs = true := List.all_eq_true.2 fun x hx => numB_iff.2 (h x hx)
theorem plusL_nums {p k : Int} (hp : 3 ≤ p) (xs ys : List Int) : numsB p (plusL p k xs ys) = true := numsB_of fun x hx => by
  unfold plusL at hx
  rw [List.zipWith_eq_zipWith_take_min] at hx
  obtain ⟨i, hi⟩ := List.mem_iff_getElem?.1 hx
  rw [List.getElem?_zipWith] at hi
  split at hi
  · injection hi with hi; subst hi; exact ⟨Int.emod_nonneg _ (by omega), Int.emod_lt_of_pos _ (by omega)⟩
  · cases hi
theorem scaleL_nums {p k : Int} (hp : 3 ≤ p) (xs : List Int) : numsB p (scaleL p k xs) = true := numsB_of fun x hx => by
  unfold scaleL at hx
  obtain ⟨a, _, rfl⟩ := List.mem_map.1 hx
  exact ⟨Int.emod_nonneg _ (by omega), Int.emod_lt_of_pos _ (by omega)⟩
theorem mul_bounds2 {k y : Int} (h0 : -13 ≤ k) (h1 : k ≤ 13) (h2 : 0 ≤ y) (h3 : y ≤ 12) : -156 ≤ k * y ∧ k * y ≤ 156 := by
  have a := Int.mul_le_mul_of_nonneg_right h1 h2
  have b := Int.mul_le_mul_of_nonneg_right h0 h2
  omega

end Go.Proofs.Ytcieohpbeckjfaa
