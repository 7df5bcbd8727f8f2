/- Plain: the products of the basis of a doubling. No program in sight. -/
import Derived.Test.YtjfkgocpkjdleaaNormP
namespace Go.Proofs.Ytjfkgocpkjdleaa
open Go.RowKit
set_option linter.unusedVariables false

def kp (j : Nat) : Int := if j = 0 then 1 else -1
/-- the sign of the product of two elements of the basis -/
def sgS : Nat → Nat → Nat → Int
  | 0, _, _ => 1
  | n + 1, i, j =>
    if i < 2 ^ n then (if j < 2 ^ n then sgS n i j else sgS n (j - 2 ^ n) i)
    else (if j < 2 ^ n then kp j * sgS n (i - 2 ^ n) j else kp (j - 2 ^ n) * sgS n (j - 2 ^ n) (i - 2 ^ n))
/-- the steps that both have -/
def stP : List Int → Nat → Nat → Int
  | [], _, _ => 1
  | g :: r, i, j =>
    if i < 2 ^ r.length then (if j < 2 ^ r.length then stP r i j else stP r i (j - 2 ^ r.length))
    else (if j < 2 ^ r.length then stP r (i - 2 ^ r.length) j else g * stP r (i - 2 ^ r.length) (j - 2 ^ r.length))
theorem stP_symm : ∀ (st : List Int) (i j : Nat), stP st i j = stP st j i := by
  intro st
  induction st with
  | nil => intro i j; rfl
  | cons g r ih =>
    intro i j
    unfold stP
    by_cases hi : i < 2 ^ r.length <;> by_cases hj : j < 2 ^ r.length <;> simp only [hi, hj, if_true, if_false, ih i]
    · exact ih _ _
    · rw [ih]
theorem xor_facts : ∀ n ∈ List.range 4, ∀ i ∈ List.range (2 * 2 ^ n), ∀ j ∈ List.range (2 * 2 ^ n),
    (i < 2 ^ n → j < 2 ^ n → i ^^^ j < 2 ^ n) ∧
    (i < 2 ^ n → ¬ j < 2 ^ n → ¬ i ^^^ j < 2 ^ n ∧ i ^^^ j < 2 * 2 ^ n ∧ (i ^^^ j) - 2 ^ n = (j - 2 ^ n) ^^^ i ∧ (i ^^^ j) - 2 ^ n = i ^^^ (j - 2 ^ n)) ∧
    (¬ i < 2 ^ n → j < 2 ^ n → ¬ i ^^^ j < 2 ^ n ∧ i ^^^ j < 2 * 2 ^ n ∧ (i ^^^ j) - 2 ^ n = (i - 2 ^ n) ^^^ j) ∧
    (¬ i < 2 ^ n → ¬ j < 2 ^ n → i ^^^ j < 2 ^ n ∧ i ^^^ j = (j - 2 ^ n) ^^^ (i - 2 ^ n) ∧ i ^^^ j = (i - 2 ^ n) ^^^ (j - 2 ^ n)) := by
  decide +kernel
theorem xor_lt {n i j : Nat} (hn : n ≤ 4) (hi : i < 2 ^ n) (hj : j < 2 ^ n) : i ^^^ j < 2 ^ n := Nat.xor_lt_two_pow hi hj

/-- the element with s at place i alone -/
def suV (N i : Nat) (s : Int) : List Int := (List.replicate N 0).set i s
theorem suV_one (N i : Nat) : suV N i 1 = unitV N i := rfl
theorem suV_len (N i : Nat) (s : Int) : (suV N i s).length = N := by unfold suV; rw [List.length_set, List.length_replicate]
theorem suV_take {H i : Nat} (s : Int) (hi : i < H + H) : (suV (H + H) i s).take H = if i < H then suV H i s else List.replicate H 0 := by
  unfold suV
  rw [List.take_set, List.take_replicate, Nat.min_eq_left (by omega)]
  by_cases h : i < H
  · rw [if_pos h]
  · rw [if_neg h, List.set_eq_of_length_le (by rw [List.length_replicate]; omega)]
theorem suV_drop {H i : Nat} (s : Int) (hi : i < H + H) : (suV (H + H) i s).drop H = if i < H then List.replicate H 0 else suV H (i - H) s := by
  unfold suV
  rw [List.drop_set, List.drop_replicate, show H + H - H = H by omega]
theorem scale_zeros (p k : Int) (n : Nat) : scaleL p k (List.replicate n 0) = List.replicate n 0 := by
  unfold scaleL; rw [List.map_replicate]; simp
theorem conj_zeros (p : Int) (n : Nat) : conjL p (List.replicate n 0) = List.replicate n 0 := by
  unfold conjL
  rw [scale_zeros]
  cases n with
  | zero => rfl
  | succ n => simp [List.replicate_succ]
theorem conj_su (p : Int) {n i : Nat} (s : Int) (hi : i < n) : conjL p (suV n i s) = suV n i (if i = 0 then s else (s * -1) % p) := by
  have h1 : scaleL p (-1) (suV n i s) = suV n i ((s * -1) % p) := by
    unfold suV scaleL
    rw [List.map_set, List.map_replicate]; simp
  unfold conjL
  rw [h1]
  obtain ⟨m, rfl⟩ : ∃ m, n = m + 1 := ⟨n - 1, by omega⟩
  cases i with
  | zero => unfold suV; simp [List.replicate_succ]
  | succ i => unfold suV; simp [List.replicate_succ]
theorem plus_zeros (p g : Int) (n : Nat) : plusL p g (List.replicate n 0) (List.replicate n 0) = List.replicate n 0 := by
  unfold plusL; rw [List.zipWith_replicate]; simp
theorem mul_z (p : Int) : ∀ st : List Int, (∀ y : List Int, y.length = 2 ^ st.length → mulR p st (List.replicate (2 ^ st.length) 0) y = List.replicate (2 ^ st.length) 0) ∧
    (∀ x : List Int, x.length = 2 ^ st.length → mulR p st x (List.replicate (2 ^ st.length) 0) = List.replicate (2 ^ st.length) 0) := by
  intro st
  induction st with
  | nil =>
    refine ⟨fun y hy => ?_, fun x hx => ?_⟩
    · obtain ⟨b, rfl⟩ := List.length_eq_one_iff.1 hy; show [(0 * b) % p] = [0]; simp
    · obtain ⟨b, rfl⟩ := List.length_eq_one_iff.1 hx; show [(b * 0) % p] = [0]; simp
  | cons g r ih =>
    obtain ⟨zl, zr⟩ := ih
    have hp : (2 : Nat) ^ (g :: r).length = 2 ^ r.length + 2 ^ r.length := by rw [List.length_cons, Nat.pow_succ]; omega
    rw [hp]
    refine ⟨fun y hy => ?_, fun x hx => ?_⟩
    · have l2 : (y.take (2 ^ r.length)).length = 2 ^ r.length := by rw [List.length_take]; omega
      have l4 : (y.drop (2 ^ r.length)).length = 2 ^ r.length := by rw [List.length_drop]; omega
      show plusL p g (mulR p r ((List.replicate (2 ^ r.length + 2 ^ r.length) 0).take (2 ^ r.length)) (y.take (2 ^ r.length))) (mulR p r (conjL p (y.drop (2 ^ r.length))) ((List.replicate (2 ^ r.length + 2 ^ r.length) 0).drop (2 ^ r.length))) ++
        plusL p 1 (mulR p r (y.drop (2 ^ r.length)) ((List.replicate (2 ^ r.length + 2 ^ r.length) 0).take (2 ^ r.length))) (mulR p r ((List.replicate (2 ^ r.length + 2 ^ r.length) 0).drop (2 ^ r.length)) (conjL p (y.take (2 ^ r.length)))) = _
      rw [List.take_replicate, List.drop_replicate, Nat.min_eq_left (by omega), show 2 ^ r.length + 2 ^ r.length - 2 ^ r.length = 2 ^ r.length by omega]
      rw [zl _ l2, zr _ (by rw [conjL_len]; exact l4), zr _ l4, zl _ (by rw [conjL_len]; exact l2), plus_zeros, plus_zeros, List.replicate_append_replicate]
    · have l2 : (x.take (2 ^ r.length)).length = 2 ^ r.length := by rw [List.length_take]; omega
      have l4 : (x.drop (2 ^ r.length)).length = 2 ^ r.length := by rw [List.length_drop]; omega
      show plusL p g (mulR p r (x.take (2 ^ r.length)) ((List.replicate (2 ^ r.length + 2 ^ r.length) 0).take (2 ^ r.length))) (mulR p r (conjL p ((List.replicate (2 ^ r.length + 2 ^ r.length) 0).drop (2 ^ r.length))) (x.drop (2 ^ r.length))) ++
        plusL p 1 (mulR p r ((List.replicate (2 ^ r.length + 2 ^ r.length) 0).drop (2 ^ r.length)) (x.take (2 ^ r.length))) (mulR p r (x.drop (2 ^ r.length)) (conjL p ((List.replicate (2 ^ r.length + 2 ^ r.length) 0).take (2 ^ r.length)))) = _
      rw [List.take_replicate, List.drop_replicate, Nat.min_eq_left (by omega), show 2 ^ r.length + 2 ^ r.length - 2 ^ r.length = 2 ^ r.length by omega]
      rw [conj_zeros, zr _ l2, zl _ l4, zl _ l2, zr _ l4, plus_zeros, plus_zeros, List.replicate_append_replicate]
/-- product of the sign and the steps -/
def prF (st : List Int) (i j : Nat) : Int := sgS st.length i j * stP st i j
theorem plus_get {p g : Int} {U V : List Int} {k : Nat} (h1 : k < U.length) (h2 : k < V.length) : (plusL p g U V).getD k 0 = (U.getD k 0 + g * V.getD k 0) % p := by
  have e1 : U[k]? = some (U[k]'h1) := List.getElem?_eq_getElem _
  have e2 : V[k]? = some (V[k]'h2) := List.getElem?_eq_getElem _
  unfold plusL
  rw [List.getD_eq_getElem?_getD, List.getElem?_zipWith, e1, e2, List.getD_eq_getElem?_getD, List.getD_eq_getElem?_getD, e1, e2]; rfl
theorem app_left {U V : List Int} {k : Nat} (h : k < U.length) : (U ++ V).getD k 0 = U.getD k 0 := by
  rw [List.getD_eq_getElem?_getD, List.getElem?_append_left h, ← List.getD_eq_getElem?_getD]
theorem app_right {U V : List Int} {k : Nat} (h : ¬ k < U.length) : (U ++ V).getD k 0 = V.getD (k - U.length) 0 := by
  rw [List.getD_eq_getElem?_getD, List.getElem?_append_right (by omega), ← List.getD_eq_getElem?_getD]
theorem rep_get (n k : Nat) : (List.replicate n (0 : Int)).getD k 0 = 0 := by
  rw [List.getD_eq_getElem?_getD, List.getElem?_replicate]; split <;> rfl
theorem ks_mod (p s : Int) (j : Nat) : (if j = 0 then s else (s * -1) % p) % p = (kp j * s) % p := by
  unfold kp
  by_cases h : j = 0
  · rw [if_pos h, if_pos h, Int.one_mul]
  · rw [if_neg h, if_neg h, Int.emod_emod_of_dvd _ (Int.dvd_refl p), Int.mul_comm]
theorem mul_su (p : Int) : ∀ (st : List Int), st.length ≤ 4 → ∀ (i j : Nat), i < 2 ^ st.length → j < 2 ^ st.length → ∀ s t : Int,
    (mulR p st (suV (2 ^ st.length) i s) (suV (2 ^ st.length) j t)).getD (i ^^^ j) 0 % p = (s * t * prF st i j) % p := by
  intro st
  induction st with
  | nil =>
    intro _ i j hi hj s t
    have hi0 : i = 0 := by simpa using hi
    have hj0 : j = 0 := by simpa using hj
    subst hi0 hj0
    show (s * t) % p % p = (s * t * (1 * 1)) % p
    rw [Int.emod_emod_of_dvd _ (Int.dvd_refl p)]; simp
  | cons g r ih =>
    intro hl i j hi hj s t
    have hl3 : r.length < 4 := by simp at hl; omega
    have hp : (2 : Nat) ^ (g :: r).length = 2 ^ r.length + 2 ^ r.length := by rw [List.length_cons, Nat.pow_succ]; omega
    rw [hp] at hi hj
    have hX := xor_facts r.length (List.mem_range.2 hl3) i (List.mem_range.2 (by omega)) j (List.mem_range.2 (by omega))
    obtain ⟨zl, zr⟩ := mul_z p r
    have ih' := ih (by omega)
    have e0 : mulR p (g :: r) (suV (2 ^ (g :: r).length) i s) (suV (2 ^ (g :: r).length) j t) =
        plusL p g (mulR p r ((suV (2 ^ r.length + 2 ^ r.length) i s).take (2 ^ r.length)) ((suV (2 ^ r.length + 2 ^ r.length) j t).take (2 ^ r.length))) (mulR p r (conjL p ((suV (2 ^ r.length + 2 ^ r.length) j t).drop (2 ^ r.length))) ((suV (2 ^ r.length + 2 ^ r.length) i s).drop (2 ^ r.length))) ++
        plusL p 1 (mulR p r ((suV (2 ^ r.length + 2 ^ r.length) j t).drop (2 ^ r.length)) ((suV (2 ^ r.length + 2 ^ r.length) i s).take (2 ^ r.length))) (mulR p r ((suV (2 ^ r.length + 2 ^ r.length) i s).drop (2 ^ r.length)) (conjL p ((suV (2 ^ r.length + 2 ^ r.length) j t).take (2 ^ r.length)))) := by rw [← hp]; rfl
    rw [e0, suV_take s hi, suV_take t hj, suV_drop s hi, suV_drop t hj]
    clear e0
    have F : ∀ F1 : prF (g :: r) i j = sgS (r.length + 1) i j * stP (g :: r) i j, True := fun _ => trivial
    have EF : prF (g :: r) i j = sgS (r.length + 1) i j * stP (g :: r) i j := rfl
    have ES : sgS (r.length + 1) i j = if i < 2 ^ r.length then (if j < 2 ^ r.length then sgS r.length i j else sgS r.length (j - 2 ^ r.length) i)
      else (if j < 2 ^ r.length then kp j * sgS r.length (i - 2 ^ r.length) j else kp (j - 2 ^ r.length) * sgS r.length (j - 2 ^ r.length) (i - 2 ^ r.length)) := rfl
    have EP : stP (g :: r) i j = if i < 2 ^ r.length then (if j < 2 ^ r.length then stP r i j else stP r i (j - 2 ^ r.length))
      else (if j < 2 ^ r.length then stP r (i - 2 ^ r.length) j else g * stP r (i - 2 ^ r.length) (j - 2 ^ r.length)) := rfl
    rw [EF, ES, EP]
    clear EF ES EP F
    generalize hH : 2 ^ r.length = H at *
    have ml : ∀ x y, (mulR p r x y).length = H := fun x y => by rw [mulR_len, hH]
    have pl : ∀ g' x y x' y', (plusL p g' (mulR p r x y) (mulR p r x' y')).length = H := fun g' x y x' y' => by rw [plusL_len (by rw [ml, ml]), ml]
    have su : ∀ i s, (suV H i s).length = H := fun i s => suV_len H i s
    by_cases h1 : i < H <;> by_cases h2 : j < H
    · obtain hx := hX.1 h1 h2
      simp only [h1, h2, if_true]
      rw [app_left (by rw [pl]; exact hx), plus_get (by rw [ml]; exact hx) (by rw [ml]; exact hx), conj_zeros, zl _ (by rw [List.length_replicate]), rep_get, Int.mul_zero, Int.add_zero, Int.emod_emod_of_dvd _ (Int.dvd_refl p)]
      have t1 := ih' i j h1 h2 s t
      rw [t1]; rfl
    · obtain ⟨hx, hx2, hx3, hx4⟩ := hX.2.1 h1 h2
      have hj' : j - H < H := by omega
      simp only [h1, h2, if_true, if_false]
      rw [app_right (by rw [pl]; exact hx), pl, plus_get (by rw [ml]; omega) (by rw [ml]; omega), conj_zeros, zl _ (by rw [List.length_replicate]), rep_get, Int.mul_zero, Int.add_zero, Int.emod_emod_of_dvd _ (Int.dvd_refl p), hx3]
      have t1 := ih' (j - H) i hj' h1 t s
      rw [t1]
      unfold prF
      rw [stP_symm r (j - H) i, Int.mul_comm t s]
    · obtain ⟨hx, hx2, hx3⟩ := hX.2.2.1 h1 h2
      have hi' : i - H < H := by omega
      simp only [h1, h2, if_true, if_false]
      rw [app_right (by rw [pl]; exact hx), pl, plus_get (by rw [ml]; omega) (by rw [ml]; omega), zl _ (by rw [List.length_replicate]), rep_get, Int.zero_add, Int.one_mul, Int.emod_emod_of_dvd _ (Int.dvd_refl p), hx3, conj_su p t h2]
      have t1 := ih' (i - H) j hi' h2 s (if j = 0 then t else (t * -1) % p)
      rw [t1]
      unfold prF
      rw [show s * t * (kp j * sgS r.length (i - H) j * stP r (i - H) j) = s * (kp j * t) * (sgS r.length (i - H) j * stP r (i - H) j) by
        generalize kp j = a; generalize sgS r.length (i - H) j = b; generalize stP r (i - H) j = c; grind]
      exact mod_mul (mod_mul rfl (ks_mod p t j)) rfl
    · obtain ⟨hx, hx2, hx3⟩ := hX.2.2.2 h1 h2
      have hi' : i - H < H := by omega
      have hj' : j - H < H := by omega
      simp only [h1, h2, if_false]
      rw [app_left (by rw [pl]; exact hx), plus_get (by rw [ml]; exact hx) (by rw [ml]; exact hx), zl _ (by rw [List.length_replicate]), rep_get, Int.zero_add, Int.emod_emod_of_dvd _ (Int.dvd_refl p), hx2, conj_su p t hj']
      have t1 := ih' (j - H) (i - H) hj' hi' (if j - H = 0 then t else (t * -1) % p) s
      unfold prF at t1
      rw [show s * t * (kp (j - H) * sgS r.length (j - H) (i - H) * (g * stP r (i - H) (j - H))) = g * ((kp (j - H) * t) * s * (sgS r.length (j - H) (i - H) * stP r (j - H) (i - H))) by
        rw [stP_symm r (j - H) (i - H)]
        generalize kp (j - H) = a; generalize sgS r.length (j - H) (i - H) = b; generalize stP r (i - H) (j - H) = c; grind]
      refine mod_mul rfl (t1.trans ?_)
      exact mod_mul (mod_mul (ks_mod p t (j - H)) rfl) rfl
end Go.Proofs.Ytjfkgocpkjdleaa
