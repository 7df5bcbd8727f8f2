/- Plain: when doublings are commutative, associative, alternative. No program in sight. -/
import Derived.Test.YtjfkgocpkjdleaaBasisP
namespace Go.Proofs.Ytjfkgocpkjdleaa
open Go.RowKit
set_option linter.unusedVariables false

def bF (p : Int) (st : List Int) (i j : Nat) : Int := prF st i j % p
theorem mul_unit {p : Int} (hp : 3 ≤ p) {st : List Int} (hl : st.length ≤ 4) {i j : Nat} (hi : i < 2 ^ st.length) (hj : j < 2 ^ st.length) :
    (mulR p st (unitV (2 ^ st.length) i) (unitV (2 ^ st.length) j)).getD (i ^^^ j) 0 = bF p st i j := by
  have h := mul_su p st hl i j hi hj 1 1
  rw [suV_one, suV_one, Int.one_mul, Int.one_mul] at h
  have hx := xor_lt (n := st.length) hl hi hj
  have e : (mulR p st (unitV (2 ^ st.length) i) (unitV (2 ^ st.length) j))[i ^^^ j]? = some ((mulR p st (unitV (2 ^ st.length) i) (unitV (2 ^ st.length) j))[i ^^^ j]'(by rw [mulR_len]; exact hx)) := List.getElem?_eq_getElem _
  obtain ⟨h0, h1⟩ := numB_true (numsB_at (mulR_nums hp _ _ _) e)
  have e2 : (mulR p st (unitV (2 ^ st.length) i) (unitV (2 ^ st.length) j)).getD (i ^^^ j) 0 = (mulR p st (unitV (2 ^ st.length) i) (unitV (2 ^ st.length) j))[i ^^^ j]'(by rw [mulR_len]; exact hx) := by rw [List.getD_eq_getElem?_getD, e]; rfl
  rw [e2] at h ⊢
  rw [Int.emod_eq_of_lt h0 h1] at h
  exact h
theorem bF_range {p : Int} (hp : 3 ≤ p) (st : List Int) (i j : Nat) : 0 ≤ bF p st i j ∧ bF p st i j < p := ⟨Int.emod_nonneg _ (by omega), Int.emod_lt_of_pos _ (by omega)⟩

theorem stP_tri : ∀ (st : List Int), st.length ≤ 4 → ∀ (i j k : Nat), i < 2 ^ st.length → j < 2 ^ st.length → k < 2 ^ st.length → stP st i j * stP st (i ^^^ j) k = stP st j k * stP st i (j ^^^ k) := by
  intro st
  induction st with
  | nil => intro _ i j k _ _ _; rfl
  | cons g r ih =>
    intro hl i j k hi hj hk
    have hl3 : r.length < 4 := by simp at hl; omega
    have hp : (2 : Nat) ^ (g :: r).length = 2 ^ r.length + 2 ^ r.length := by rw [List.length_cons, Nat.pow_succ]; omega
    rw [hp] at hi hj hk
    have hX := xor_facts r.length (List.mem_range.2 hl3) i (List.mem_range.2 (by omega)) j (List.mem_range.2 (by omega))
    have hY := xor_facts r.length (List.mem_range.2 hl3) j (List.mem_range.2 (by omega)) k (List.mem_range.2 (by omega))
    have ih' := ih (by omega)
    have E : ∀ a b, stP (g :: r) a b = if a < 2 ^ r.length then (if b < 2 ^ r.length then stP r a b else stP r a (b - 2 ^ r.length))
      else (if b < 2 ^ r.length then stP r (a - 2 ^ r.length) b else g * stP r (a - 2 ^ r.length) (b - 2 ^ r.length)) := fun _ _ => rfl
    rw [E i j, E (i ^^^ j) k, E j k, E i (j ^^^ k)]
    clear E
    generalize hH : 2 ^ r.length = H at *
    by_cases h1 : i < H <;> by_cases h2 : j < H <;> by_cases h3 : k < H
    · have x1 := hX.1 h1 h2
      have y1 := hY.1 h2 h3
      simp only [h1, h2, h3, x1, y1, if_true]
      exact ih' i j k h1 h2 h3
    · have x1 := hX.1 h1 h2
      obtain ⟨y1, _, _, y2⟩ := hY.2.1 h2 h3
      simp only [h1, h2, h3, x1, y1, if_true, if_false]
      rw [y2]
      exact ih' i j (k - H) h1 h2 (by omega)
    · obtain ⟨x1, _, _, x2⟩ := hX.2.1 h1 h2
      obtain ⟨y1, _, y2⟩ := hY.2.2.1 h2 h3
      simp only [h1, h2, h3, x1, y1, if_true, if_false]
      rw [x2, y2]
      exact ih' i (j - H) k h1 (by omega) h3
    · obtain ⟨x1, _, _, x2⟩ := hX.2.1 h1 h2
      obtain ⟨y1, _, y2⟩ := hY.2.2.2 h2 h3
      simp only [h1, h2, h3, x1, y1, if_true, if_false]
      rw [x2, y2]
      have t := ih' i (j - H) (k - H) h1 (by omega) (by omega)
      rw [Int.mul_left_comm, t, Int.mul_assoc]
    · obtain ⟨x1, _, x2⟩ := hX.2.2.1 h1 h2
      have y1 := hY.1 h2 h3
      simp only [h1, h2, h3, x1, y1, if_true, if_false]
      rw [x2]
      exact ih' (i - H) j k (by omega) h2 h3
    · obtain ⟨x1, _, x2⟩ := hX.2.2.1 h1 h2
      obtain ⟨y1, _, _, y2⟩ := hY.2.1 h2 h3
      simp only [h1, h2, h3, x1, y1, if_true, if_false]
      rw [x2, y2]
      have t := ih' (i - H) j (k - H) (by omega) h2 (by omega)
      rw [Int.mul_left_comm, t, ← Int.mul_left_comm]
    · obtain ⟨x1, _, x2⟩ := hX.2.2.2 h1 h2
      obtain ⟨y1, _, y2⟩ := hY.2.2.1 h2 h3
      simp only [h1, h2, h3, x1, y1, if_true, if_false]
      rw [x2, y2]
      have t := ih' (i - H) (j - H) k (by omega) (by omega) h3
      rw [Int.mul_assoc, t, ← Int.mul_left_comm]
    · obtain ⟨x1, _, x2⟩ := hX.2.2.2 h1 h2
      obtain ⟨y1, _, y2⟩ := hY.2.2.2 h2 h3
      simp only [h1, h2, h3, x1, y1, if_true, if_false]
      rw [x2, y2]
      have t := ih' (i - H) (j - H) (k - H) (by omega) (by omega) (by omega)
      rw [Int.mul_assoc, t, Int.mul_assoc]

theorem mod_mul_zero {p a b : Int} (hp : primeB p = true) (h : (a * b) % p = 0) : a % p = 0 ∨ b % p = 0 := by
  have h3 := prime_lo hp
  rw [Int.mul_emod] at h
  exact mul_zero_of hp (Int.emod_nonneg _ (by omega)) (Int.emod_lt_of_pos _ (by omega)) (Int.emod_nonneg _ (by omega)) (Int.emod_lt_of_pos _ (by omega)) h
theorem stP_ne {p : Int} (hp : primeB p = true) : ∀ (st : List Int), stepsB p st = true → ∀ i j : Nat, stP st i j % p ≠ 0 := by
  have h3 := prime_lo hp
  intro st
  induction st with
  | nil =>
    intro _ i j h
    have e : (1 : Int) % p = 1 := Int.emod_eq_of_lt (by omega) (by omega)
    have h' : (1 : Int) % p = 0 := h
    omega
  | cons g r ih =>
    intro hs i j
    simp only [stepsB, List.all_cons, Bool.and_eq_true] at hs
    obtain ⟨hg0, hg1⟩ := rangeB_true hs.1
    have ih' := ih hs.2
    unfold stP
    split
    · split
      · exact ih' _ _
      · exact ih' _ _
    · split
      · exact ih' _ _
      · intro h
        rcases mod_mul_zero hp h with e | e
        · rw [Int.emod_eq_of_lt (by omega) (by omega)] at e; omega
        · exact ih' _ _ e
theorem sgS_pm (n i j : Nat) : sgS n i j = 1 ∨ sgS n i j = -1 := by
  induction n generalizing i j with
  | zero => exact .inl rfl
  | succ n ih =>
    have hk : ∀ q, kp q = 1 ∨ kp q = -1 := fun q => by unfold kp; split <;> simp
    unfold sgS
    split
    · split
      · exact ih _ _
      · exact ih _ _
    · split
      · rcases hk j with e | e <;> rcases ih (i - 2 ^ n) j with e2 | e2 <;> rw [e, e2] <;> decide
      · rcases hk (j - 2 ^ n) with e | e <;> rcases ih (j - 2 ^ n) (i - 2 ^ n) with e2 | e2 <;> rw [e, e2] <;> decide
theorem small_zero {p x P : Int} (hp : primeB p = true) (hP : P % p ≠ 0) (hx : x = 0 ∨ x = 2 ∨ x = -2 ∨ x = 4 ∨ x = -4) : (x * P) % p = 0 ↔ x = 0 := by
  constructor
  · intro h
    rcases mod_mul_zero hp h with e | e
    · rcases prime_cases hp with rfl | rfl | rfl | rfl | rfl <;> rcases hx with rfl | rfl | rfl | rfl | rfl <;> first | rfl | (exact absurd e (by decide))
    · exact absurd e hP
  · intro h; rw [h, Int.zero_mul]; simp

def okC (n i k : Nat) : Bool := sgS n i k == sgS n k i
def dA (n i j k : Nat) : Int := sgS n i j * sgS n (i ^^^ j) k - sgS n j k * sgS n i (j ^^^ k)
def okA (n i j k : Nat) : Bool := dA n i j k == 0
def okL1 (n i j k : Nat) : Bool := dA n i j k + dA n j i k == 0
def okL2 (n i j k : Nat) : Bool := dA n i j k + dA n i k j == 0
def okL (n i j k : Nat) : Bool := okL1 n i j k && okL2 n i j k
theorem dA_cases (n i j k : Nat) : dA n i j k = 0 ∨ dA n i j k = 2 ∨ dA n i j k = -2 := by
  unfold dA
  rcases sgS_pm n i j with a | a <;> rcases sgS_pm n (i ^^^ j) k with b | b <;> rcases sgS_pm n j k with c | c <;> rcases sgS_pm n i (j ^^^ k) with d | d <;> rw [a, b, c, d] <;> decide
theorem eq_mod {p a b : Int} : a % p = b % p ↔ (a - b) % p = 0 := Int.emod_eq_emod_iff_emod_sub_eq_zero
theorem bF_comm {p : Int} (hp : primeB p = true) {st : List Int} (hs : stepsB p st = true) (i k : Nat) : (bF p st i k == bF p st k i) = okC st.length i k := by
  have hne := stP_ne hp st hs i k
  have e : prF st i k - prF st k i = (sgS st.length i k - sgS st.length k i) * stP st i k := by
    unfold prF; rw [stP_symm st k i, Int.sub_mul]
  have h := small_zero hp hne (x := sgS st.length i k - sgS st.length k i) (by rcases sgS_pm st.length i k with a | a <;> rcases sgS_pm st.length k i with b | b <;> rw [a, b] <;> decide)
  rw [Bool.eq_iff_iff]
  unfold okC bF
  rw [beq_iff_eq, beq_iff_eq, eq_mod, e, h]
  omega
/-- the gap of three elements -/
def gapV (p : Int) (st : List Int) (i j k : Nat) : Int := (bF p st i j * bF p st (i ^^^ j) k - bF p st j k * bF p st i (j ^^^ k)) % p
theorem sub_mod2 {p a b c d : Int} (h1 : a % p = b % p) (h2 : c % p = d % p) : (a - c) % p = (b - d) % p := by
  rw [Int.sub_emod, h1, h2, ← Int.sub_emod]
theorem gap_eq {p : Int} {st : List Int} (hl : st.length ≤ 4) {i j k : Nat} (hi : i < 2 ^ st.length) (hj : j < 2 ^ st.length) (hk : k < 2 ^ st.length) :
    gapV p st i j k = (dA st.length i j k * (stP st i j * stP st (i ^^^ j) k)) % p := by
  have m : ∀ x : Int, x % p % p = x % p := fun x => Int.emod_emod_of_dvd _ (Int.dvd_refl p)
  have t := stP_tri st hl i j k hi hj hk
  unfold gapV bF
  rw [sub_mod2 (mod_mul (m _) (m _)) (mod_mul (m _) (m _))]
  congr 1
  unfold prF dA
  generalize sgS st.length i j = a1
  generalize sgS st.length (i ^^^ j) k = a2
  generalize sgS st.length j k = a3
  generalize sgS st.length i (j ^^^ k) = a4
  generalize stP st i j = b1 at *
  generalize stP st (i ^^^ j) k = b2 at *
  generalize stP st j k = b3 at *
  generalize stP st i (j ^^^ k) = b4 at *
  grind
theorem gap_range {p : Int} (hp : 3 ≤ p) (st : List Int) (i j k : Nat) : 0 ≤ gapV p st i j k ∧ gapV p st i j k < p := ⟨Int.emod_nonneg _ (by omega), Int.emod_lt_of_pos _ (by omega)⟩
theorem tri_ne {p : Int} (hp : primeB p = true) {st : List Int} (hs : stepsB p st = true) (i j k : Nat) : (stP st i j * stP st (i ^^^ j) k) % p ≠ 0 := by
  intro h
  rcases mod_mul_zero hp h with e | e
  · exact stP_ne hp st hs _ _ e
  · exact stP_ne hp st hs _ _ e
theorem gap_zero {p : Int} (hp : primeB p = true) {st : List Int} (hs : stepsB p st = true) (hl : st.length ≤ 4) {i j k : Nat} (hi : i < 2 ^ st.length) (hj : j < 2 ^ st.length) (hk : k < 2 ^ st.length) :
    (gapV p st i j k == 0) = okA st.length i j k := by
  have h := small_zero hp (tri_ne hp hs i j k) (x := dA st.length i j k) (by rcases dA_cases st.length i j k with a | a | a <;> rw [a] <;> decide)
  rw [Bool.eq_iff_iff]
  unfold okA
  rw [beq_iff_eq, beq_iff_eq, gap_eq hl hi hj hk, h]
theorem gap_two {p : Int} (hp : primeB p = true) {st : List Int} (hs : stepsB p st = true) {d1 d2 T g1 g2 : Int} (hT : T % p ≠ 0) (h1 : d1 = 0 ∨ d1 = 2 ∨ d1 = -2) (h2 : d2 = 0 ∨ d2 = 2 ∨ d2 = -2) (e1 : g1 = (d1 * T) % p) (e2 : g2 = (d2 * T) % p) :
    ((g1 + g2) % p == 0) = (d1 + d2 == 0) := by
  have h := small_zero hp hT (x := d1 + d2) (by rcases h1 with a | a | a <;> rcases h2 with b | b | b <;> rw [a, b] <;> decide)
  have e : (g1 + g2) % p = ((d1 + d2) * T) % p := by rw [e1, e2, ← Int.add_emod, Int.add_mul]
  rw [Bool.eq_iff_iff, beq_iff_eq, beq_iff_eq, e, h]
theorem gap_alt1 {p : Int} (hp : primeB p = true) {st : List Int} (hs : stepsB p st = true) (hl : st.length ≤ 4) {i j k : Nat} (hi : i < 2 ^ st.length) (hj : j < 2 ^ st.length) (hk : k < 2 ^ st.length) :
    ((gapV p st i j k + gapV p st j i k) % p == 0) = okL1 st.length i j k := by
  refine gap_two hp hs (tri_ne hp hs i j k) (dA_cases _ _ _ _) (dA_cases _ _ _ _) (gap_eq hl hi hj hk) ?_
  rw [gap_eq hl hj hi hk, stP_symm st j i, Nat.xor_comm j i]
theorem gap_alt2 {p : Int} (hp : primeB p = true) {st : List Int} (hs : stepsB p st = true) (hl : st.length ≤ 4) {i j k : Nat} (hi : i < 2 ^ st.length) (hj : j < 2 ^ st.length) (hk : k < 2 ^ st.length) :
    ((gapV p st i j k + gapV p st i k j) % p == 0) = okL2 st.length i j k := by
  refine gap_two hp hs (tri_ne hp hs i j k) (dA_cases _ _ _ _) (dA_cases _ _ _ _) (gap_eq hl hi hj hk) ?_
  rw [gap_eq hl hi hk hj, stP_tri st hl i k j hi hk hj, stP_tri st hl i j k hi hj hk, stP_symm st k j, Nat.xor_comm k j]

theorem fin_C : ∀ n ∈ List.range 5, ((List.range (2 ^ n)).all fun i => (List.range (2 ^ n)).all fun k => okC n i k) = decide (n ≤ 1) := by decide +kernel
theorem fin_A : ∀ n ∈ List.range 5, ((List.range (2 ^ n)).all fun i => (List.range (2 ^ n)).all fun j => (List.range (2 ^ n)).all fun k => okA n i j k) = decide (n ≤ 2) := by decide +kernel
theorem fin_L : ∀ n ∈ List.range 5, ((List.range (2 ^ n)).all fun i => (List.range (2 ^ n)).all fun j => (List.range (2 ^ n)).all fun k => okL n i j k) = decide (n ≤ 3) := by decide +kernel
theorem all3 {N : Nat} {f : Nat → Nat → Nat → Bool} : ((List.range N).all fun i => (List.range N).all fun j => (List.range N).all fun k => f i j k) = true ↔ ∀ i, i < N → ∀ j, j < N → ∀ k, k < N → f i j k = true := by
  simp only [List.all_eq_true, List.mem_range]
theorem all2 {N : Nat} {f : Nat → Nat → Bool} : ((List.range N).all fun i => (List.range N).all fun k => f i k) = true ↔ ∀ i, i < N → ∀ k, k < N → f i k = true := by
  simp only [List.all_eq_true, List.mem_range]
end Go.Proofs.Ytjfkgocpkjdleaa
