/- Plain: norms of doublings. No program in sight. -/
import Derived.Test.YtjfkgocpkjdleaaTimesP
import Derived.Test.YtjfkgocpkjdleaaSpaceP
import Derived.Test.YtjfkgocpkjdleaaUnit
namespace Go.Proofs.Ytjfkgocpkjdleaa
open Go.RowKit
set_option linter.unusedVariables false

def kap : List Int → List Int
  | [] => []
  | x :: xs => x :: xs.map fun a => -a
/-- the numbers of the squares of the basis -/
def sqW : List Int → List Int
  | [] => [1]
  | g :: r => sqW r ++ (kap (sqW r)).map fun a => g * a
theorem kap_len (xs : List Int) : (kap xs).length = xs.length := by cases xs <;> simp [kap]
theorem sqW_len (st : List Int) : (sqW st).length = 2 ^ st.length := by
  induction st with
  | nil => rfl
  | cons g r ih => unfold sqW; rw [List.length_append, List.length_map, kap_len, ih, List.length_cons, Nat.pow_succ]; omega
theorem triL_app (a b x y u v : List Int) (h1 : a.length = x.length) (h2 : a.length = y.length) : triL (a ++ b) (x ++ u) (y ++ v) = triL a x y + triL b u v := by
  induction a generalizing x y with
  | nil =>
    cases x with
    | cons => simp at h1
    | nil => cases y with
      | cons => simp at h2
      | nil => simp [triL]
  | cons c a ih =>
    cases x with
    | nil => simp at h1
    | cons d x => cases y with
      | nil => simp at h2
      | cons e y => simp only [List.cons_append, triL]; rw [ih x y (by simpa using h1) (by simpa using h2)]; omega
theorem triL_mul (g : Int) (a x y : List Int) : triL (a.map fun c => g * c) x y = g * triL a x y := by
  induction a generalizing x y with
  | nil => simp [triL]
  | cons c a ih => cases x with
    | nil => simp [triL]
    | cons d x => cases y with
      | nil => simp [triL]
      | cons e y => simp only [List.map_cons, triL]; rw [ih, Int.mul_add, Int.mul_assoc g c d, Int.mul_assoc g (c * d) e]
theorem triL_neg (a x y : List Int) : triL (a.map fun c => -c) x y = -triL a x y := by
  have h : (a.map fun c => -c) = a.map fun c => -1 * c := List.map_congr_left fun c _ => by omega
  rw [h, triL_mul]; omega
theorem triL_comm (a x y : List Int) : triL a x y = triL a y x := by
  induction a generalizing x y with
  | nil => simp [triL]
  | cons c a ih => cases x with
    | nil => cases y <;> simp [triL]
    | cons d x => cases y with
      | nil => simp [triL]
      | cons e y => simp only [triL]; rw [ih x y, Int.mul_assoc, Int.mul_comm d e, ← Int.mul_assoc]
theorem mod_add {p a b c d : Int} (h1 : a % p = b % p) (h2 : c % p = d % p) : (a + c) % p = (b + d) % p := by rw [Int.add_emod, h1, h2, ← Int.add_emod]
theorem mod_mul {p a b c d : Int} (h1 : a % p = b % p) (h2 : c % p = d % p) : (a * c) % p = (b * d) % p := by rw [Int.mul_emod, h1, h2, ← Int.mul_emod]
theorem triL_scale (p : Int) (a x y : List Int) : triL a (scaleL p (-1) x) y % p = (-triL a x y) % p := by
  induction a generalizing x y with
  | nil => simp [triL]
  | cons c a ih => cases x with
    | nil => simp [scaleL, triL]
    | cons d x => cases y with
      | nil => simp [scaleL, triL]
      | cons e y =>
        have h := ih x y
        simp only [scaleL, List.map_cons, triL] at h ⊢
        rw [show -(c * d * e + triL a x y) = c * (d * -1) * e + -triL a x y by rw [Int.mul_neg, Int.mul_one, Int.mul_neg, Int.neg_mul]; omega]
        exact mod_add (mod_mul (mod_mul rfl (Int.emod_emod_of_dvd _ (Int.dvd_refl p))) rfl) h
theorem conjL_cons (p x : Int) (xs : List Int) : conjL p (x :: xs) = x :: scaleL p (-1) xs := rfl
theorem triL_conj (p : Int) (a x y : List Int) (h : a.length = x.length) : triL a (conjL p x) y % p = triL (kap a) x y % p := by
  cases a with
  | nil => cases x with
    | nil => rfl
    | cons => simp at h
  | cons c a => cases x with
    | nil => simp at h
    | cons d x => cases y with
      | nil => simp [conjL_cons, triL, kap]
      | cons e y =>
        rw [conjL_cons]
        simp only [kap, triL]
        rw [triL_neg]
        exact mod_add rfl (triL_scale p a x y)
/-- the first number of a product -/
theorem mulR_first {p : Int} : ∀ (st x y : List Int), x.length = 2 ^ st.length → y.length = 2 ^ st.length → (mulR p st x y).getD 0 0 = triL (sqW st) x y % p := by
  intro st
  induction st with
  | nil =>
    intro x y hx hy
    obtain ⟨a, rfl⟩ := List.length_eq_one_iff.1 hx
    obtain ⟨b, rfl⟩ := List.length_eq_one_iff.1 hy
    show (a * b) % p = (1 * a * b + 0) % p
    rw [Int.one_mul, Int.add_zero]
  | cons g r ih =>
    intro x y hx hy
    have hp : (2 : Nat) ^ (g :: r).length = 2 ^ r.length + 2 ^ r.length := by rw [List.length_cons, Nat.pow_succ]; omega
    rw [hp] at hx hy
    have hpos : 0 < (2 : Nat) ^ r.length := Nat.two_pow_pos _
    generalize hH : 2 ^ r.length = H at *
    have l1 : (x.take H).length = H := by rw [List.length_take]; omega
    have l2 : (y.take H).length = H := by rw [List.length_take]; omega
    have l3 : (x.drop H).length = H := by rw [List.length_drop]; omega
    have l4 : (y.drop H).length = H := by rw [List.length_drop]; omega
    have e1 := ih (x.take H) (y.take H) l1 l2
    have e2 := ih (conjL p (y.drop H)) (x.drop H) (by rw [conjL_len]; exact l4) l3
    have m1 : (mulR p r (x.take H) (y.take H)).length = H := by rw [mulR_len, hH]
    have m2 : (mulR p r (conjL p (y.drop H)) (x.drop H)).length = H := by rw [mulR_len, hH]
    have hl : (mulR p (g :: r) x y).getD 0 0 = ((mulR p r (x.take H) (y.take H)).getD 0 0 + g * (mulR p r (conjL p (y.drop H)) (x.drop H)).getD 0 0) % p := by
      have e0 : mulR p (g :: r) x y = plusL p g (mulR p r (x.take (2 ^ r.length)) (y.take (2 ^ r.length))) (mulR p r (conjL p (y.drop (2 ^ r.length))) (x.drop (2 ^ r.length))) ++
        plusL p 1 (mulR p r (y.drop (2 ^ r.length)) (x.take (2 ^ r.length))) (mulR p r (x.drop (2 ^ r.length)) (conjL p (y.take (2 ^ r.length)))) := rfl
      rw [e0, hH]
      clear e0
      generalize mulR p r (x.take H) (y.take H) = U at m1 ⊢
      generalize mulR p r (conjL p (y.drop H)) (x.drop H) = V at m2 ⊢
      cases U with
      | nil => simp at m1; omega
      | cons u U => cases V with
        | nil => simp at m2; omega
        | cons v V => rfl
    rw [hl, e1, e2]
    conv => rhs; rw [← List.take_append_drop H x, ← List.take_append_drop H y]
    show _ = triL (sqW r ++ (kap (sqW r)).map fun a => g * a) (x.take H ++ x.drop H) (y.take H ++ y.drop H) % p
    rw [triL_app _ _ _ _ _ _ (by rw [sqW_len, l1, hH]) (by rw [sqW_len, l2, hH]), triL_mul]
    refine mod_add (Int.emod_emod_of_dvd _ (Int.dvd_refl p)) (mod_mul rfl ?_)
    rw [Int.emod_emod_of_dvd _ (Int.dvd_refl p), triL_conj p _ _ _ (by rw [sqW_len, l4, hH]), triL_comm]

/-- the numbers of the norm -/
def diagR (p : Int) : List Int → List Int
  | [] => [1]
  | g :: r => diagR p r ++ scaleL p (p - g) (diagR p r)
theorem diagR_len (p : Int) (st : List Int) : (diagR p st).length = 2 ^ st.length := by
  induction st with
  | nil => rfl
  | cons g r ih => unfold diagR; rw [List.length_append, scaleL_len, ih, List.length_cons, Nat.pow_succ]; omega
theorem diagR_nums {p : Int} (hp : 3 ≤ p) (st : List Int) : numsB p (diagR p st) = true := by
  induction st with
  | nil => exact numsB_of fun z hz => by rw [List.mem_singleton.1 hz]; omega
  | cons g r ih => exact numsB_append ih (scaleL_nums hp _)
def modL (p : Int) (xs : List Int) : List Int := xs.map fun a => a % p
theorem triL_mod (p : Int) (a x y : List Int) : triL (modL p a) x y % p = triL a x y % p := by
  induction a generalizing x y with
  | nil => simp [modL, triL]
  | cons c a ih => cases x with
    | nil => simp [modL, triL]
    | cons d x => cases y with
      | nil => simp [modL, triL]
      | cons e y =>
        have h := ih x y
        simp only [modL, List.map_cons, triL] at h ⊢
        exact mod_add (mod_mul (mod_mul (Int.emod_emod_of_dvd _ (Int.dvd_refl p)) rfl) rfl) h
theorem kap_app (a b : List Int) (h : a ≠ []) : kap (a ++ b) = kap a ++ b.map fun c => -c := by
  cases a with
  | nil => exact absurd rfl h
  | cons c a => simp [kap]
theorem diag_kap (p : Int) : ∀ st : List Int, modL p (kap (sqW st)) = modL p (diagR p st) := by
  intro st
  induction st with
  | nil => rfl
  | cons g r ih =>
    unfold sqW diagR
    rw [kap_app _ _ (by intro h; have := sqW_len r; rw [h] at this; simp at this; have := Nat.two_pow_pos r.length; omega)]
    unfold modL at *
    rw [List.map_append, List.map_append, ih]
    congr 1
    have e1 : ∀ L : List Int, (scaleL p (p - g) L).map (fun a => a % p) = (L.map fun a => a % p).map fun u => (u * (p - g)) % p := fun L => by
      unfold scaleL
      rw [List.map_map, List.map_map]
      exact List.map_congr_left fun a _ => by
        show (a * (p - g)) % p % p = (a % p * (p - g)) % p
        rw [Int.emod_emod_of_dvd _ (Int.dvd_refl p)]
        exact mod_mul (Int.emod_emod_of_dvd _ (Int.dvd_refl p)).symm rfl
    have e2 : ∀ L : List Int, ((L.map fun a => g * a).map fun c => -c).map (fun a => a % p) = (L.map fun a => a % p).map fun u => (u * (p - g)) % p := fun L => by
      rw [List.map_map, List.map_map, List.map_map]
      exact List.map_congr_left fun a _ => by
        show -(g * a) % p = (a % p * (p - g)) % p
        have h : (a % p * (p - g)) % p = (a * (p - g)) % p := mod_mul (Int.emod_emod_of_dvd _ (Int.dvd_refl p)) rfl
        rw [h, show a * (p - g) = -(g * a) + a * p by rw [Int.mul_sub, Int.mul_comm a g]; omega, Int.add_mul_emod_self_right]
    rw [e1, e2, ih]
def normV (p : Int) (st x : List Int) : Int := triL (diagR p st) x x % p
theorem norm_first {p : Int} (st x : List Int) (hx : x.length = 2 ^ st.length) : (mulR p st x (conjL p x)).getD 0 0 = normV p st x := by
  rw [mulR_first st x (conjL p x) hx (by rw [conjL_len]; exact hx), triL_comm, triL_conj p _ _ _ (by rw [sqW_len, hx])]
  unfold normV
  rw [← triL_mod, diag_kap, triL_mod]

theorem triL_zeros (a : List Int) (n : Nat) (y : List Int) : triL a (List.replicate n 0) y = 0 := by
  induction a generalizing n y with
  | nil => simp [triL]
  | cons c a ih => cases n with
    | zero => simp [triL]
    | succ n => cases y with
      | nil => simp [List.replicate_succ, triL]
      | cons e y => simp only [List.replicate_succ, triL]; rw [ih]; simp
theorem tri_unit : ∀ (L : List Int) (j : Nat), j < L.length → triL L (unitV L.length j) (unitV L.length j) = L.getD j 0 := by
  intro L
  induction L with
  | nil => intro j h; simp at h
  | cons c L ih =>
    intro j hj
    cases j with
    | zero =>
      show triL (c :: L) ((List.replicate (L.length + 1) 0).set 0 1) ((List.replicate (L.length + 1) 0).set 0 1) = c
      rw [List.replicate_succ, List.set_cons_zero]
      simp only [triL]
      rw [triL_zeros]; omega
    | succ j =>
      show triL (c :: L) ((List.replicate (L.length + 1) 0).set (j + 1) 1) ((List.replicate (L.length + 1) 0).set (j + 1) 1) = L.getD j 0
      rw [List.replicate_succ, List.set_cons_succ]
      simp only [triL]
      have h := ih j (by simpa using hj)
      unfold unitV at h
      rw [h]; simp
theorem norm_unit {p : Int} (hp : 3 ≤ p) (st : List Int) {j : Nat} (hj : j < 2 ^ st.length) : normV p st (unitV (2 ^ st.length) j) = (diagR p st).getD j 0 := by
  have h := tri_unit (diagR p st) j (by rw [diagR_len]; exact hj)
  rw [diagR_len] at h
  unfold normV
  rw [h]
  have hx : (diagR p st)[j]? = some ((diagR p st)[j]'(by rw [diagR_len]; exact hj)) := List.getElem?_eq_getElem _
  obtain ⟨h0, h1⟩ := numB_true (numsB_at (diagR_nums hp st) hx)
  have e : (diagR p st).getD j 0 = (diagR p st)[j]'(by rw [diagR_len]; exact hj) := by rw [List.getD_eq_getElem?_getD, hx]; rfl
  rw [e]
  exact Int.emod_eq_of_lt h0 h1
end Go.Proofs.Ytjfkgocpkjdleaa
