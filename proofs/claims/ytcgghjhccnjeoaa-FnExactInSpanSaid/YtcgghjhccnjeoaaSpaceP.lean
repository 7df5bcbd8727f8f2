/- Plain: quadratic spaces. No program in sight. -/
import Derived.Test.YtcgghjhccnjeoaaDotP
namespace Go.Proofs.Ytcgghjhccnjeoaa

def spaceB (p : Int) (sq : List Int) : Bool := primeB p && (decide (1 ≤ sq.length) && decide (sq.length ≤ 6)) && numsB p sq
theorem spaceB_true {p : Int} {sq : List Int} (h : spaceB p sq = true) : primeB p = true ∧ 1 ≤ sq.length ∧ sq.length ≤ 6 ∧ numsB p sq = true := by
  simp only [spaceB, Bool.and_eq_true, decide_eq_true_eq] at h
  exact ⟨h.1.1, h.1.2.1, h.1.2.2, h.2⟩
theorem spaceB_of {p : Int} {sq : List Int} (h1 : primeB p = true) (h2 : 1 ≤ sq.length) (h3 : sq.length ≤ 6) (h4 : numsB p sq = true) : spaceB p sq = true := by
  simp [spaceB, h1, h2, h3, h4]
/-- the four ways of the test -/
theorem spaceB_cases (p : Int) (sq : List Int) :
    (spaceB p sq = true ∧ primeB p = true ∧ 1 ≤ sq.length ∧ sq.length ≤ 6 ∧ numsB p sq = true) ∨
    (spaceB p sq = false ∧ primeB p = false) ∨
    (spaceB p sq = false ∧ primeB p = true ∧ (sq.length = 0 ∨ 7 ≤ sq.length)) ∨
    (spaceB p sq = false ∧ primeB p = true ∧ 1 ≤ sq.length ∧ sq.length ≤ 6 ∧ numsB p sq = false) := by
  cases h1 : primeB p with
  | false => right; left; exact ⟨by simp [spaceB, h1], rfl⟩
  | true =>
    by_cases h2 : 1 ≤ sq.length ∧ sq.length ≤ 6
    · cases h3 : numsB p sq with
      | true => left; exact ⟨spaceB_of h1 h2.1 h2.2 h3, rfl, h2.1, h2.2, rfl⟩
      | false => right; right; right; exact ⟨by simp [spaceB, h3], rfl, h2.1, h2.2, rfl⟩
    · right; right; left
      refine ⟨?_, rfl, by omega⟩
      cases e : spaceB p sq with
      | false => rfl
      | true => exact absurd ⟨(spaceB_true e).2.1, (spaceB_true e).2.2.1⟩ h2

/-- a list of n numbers -/
def lstB (p : Int) (n : Nat) (v : List Int) : Bool := decide (v.length = n) && numsB p v
theorem lstB_true {p : Int} {n : Nat} {v : List Int} (h : lstB p n v = true) : v.length = n ∧ numsB p v = true := by
  simpa [lstB] using h
theorem lstB_cases (p : Int) (n : Nat) (v : List Int) : (lstB p n v = true ∧ v.length = n ∧ numsB p v = true) ∨ (lstB p n v = false ∧ ¬ v.length = n) ∨ (lstB p n v = false ∧ v.length = n ∧ numsB p v = false) := by
  by_cases h : v.length = n
  · cases e : numsB p v with
    | true => left; exact ⟨by simp [lstB, h, e], h, rfl⟩
    | false => right; right; exact ⟨by simp [lstB, e], h, rfl⟩
  · right; left; exact ⟨by simp [lstB, h], h⟩
/-- the code of a space and of lists of n numbers -/
def codeS (p : Int) (sq : List Int) (n : Nat) (vs : List (List Int)) : Int := if spaceB p sq then (if vs.all (lstB p n) then 0 else 2) else 1
theorem codeS_zero {p : Int} {sq : List Int} {n : Nat} {vs : List (List Int)} (h : codeS p sq n vs = 0) : spaceB p sq = true ∧ vs.all (lstB p n) = true := by
  unfold codeS at h
  cases h1 : spaceB p sq with
  | false => simp [h1] at h
  | true => cases h2 : vs.all (lstB p n) with
    | false => simp [h1, h2] at h
    | true => exact ⟨rfl, rfl⟩

/-- the discriminant -/
def discL (p : Int) : List Int → Int → Int
  | [], o => o
  | c :: cs, o => discL p cs ((o * c) % p)
def discN (p : Int) (sq : List Int) : Int := discL p sq 1
theorem discL_append (p : Int) (a b : List Int) (o : Int) : discL p (a ++ b) o = discL p b (discL p a o) := by
  induction a generalizing o with
  | nil => rfl
  | cons c cs ih => simp only [List.cons_append, discL, ih]
theorem discL_step {p : Int} {sq : List Int} {k : Nat} {c o : Int} (h : sq[k]? = some c) : discL p (sq.take (k + 1)) o = (discL p (sq.take k) o * c) % p := by
  rw [take_snoc h, discL_append]; rfl
theorem discL_bounds {p : Int} (hp : 3 ≤ p) : ∀ (sq : List Int) (o : Int), 0 ≤ o → o < p → 0 ≤ discL p sq o ∧ discL p sq o < p := by
  intro sq
  induction sq with
  | nil => intro o h0 h1; exact ⟨h0, h1⟩
  | cons c cs ih => intro o _ _; exact ih _ (Int.emod_nonneg _ (by omega)) (Int.emod_lt_of_pos _ (by omega))
theorem discN_bounds {p : Int} (hp : 3 ≤ p) (sq : List Int) : 0 ≤ discN p sq ∧ discN p sq < p := discL_bounds hp sq 1 (by omega) (by omega)

theorem mul_table : ∀ p ∈ [3, 5, 7, 11, 13], ∀ a ∈ List.range p, ∀ b ∈ List.range p, (((a : Nat) : Int) * (b : Nat)) % (p : Nat) = 0 → a = 0 ∨ b = 0 := by decide +kernel
theorem mul_zero_of {p a b : Int} (hp : primeB p = true) (ha : 0 ≤ a) (ha' : a < p) (hb : 0 ≤ b) (hb' : b < p) (h : (a * b) % p = 0) : a = 0 ∨ b = 0 := by
  have hm : p.toNat ∈ [3, 5, 7, 11, 13] := by rcases prime_cases hp with rfl | rfl | rfl | rfl | rfl <;> decide
  have := mul_table p.toNat hm a.toNat (List.mem_range.2 (by omega)) b.toNat (List.mem_range.2 (by omega))
  have e1 : ((p.toNat : Nat) : Int) = p := by omega
  have e2 : ((a.toNat : Nat) : Int) = a := by omega
  have e3 : ((b.toNat : Nat) : Int) = b := by omega
  rw [e1, e2, e3] at this
  have := this h
  omega
theorem discL_zero {p : Int} (hp : primeB p = true) : ∀ (sq : List Int) (o : Int), 0 ≤ o → o < p → numsB p sq = true → (discL p sq o = 0 ↔ o = 0 ∨ (0 : Int) ∈ sq) := by
  have h3 := prime_lo hp
  intro sq
  induction sq with
  | nil => intro o _ _ _; simp [discL]
  | cons c cs ih =>
    intro o h0 h1 hn
    simp only [numsB, List.all_cons, Bool.and_eq_true] at hn
    obtain ⟨hc0, hc1⟩ := numB_true hn.1
    simp only [discL]
    rw [ih _ (Int.emod_nonneg _ (by omega)) (Int.emod_lt_of_pos _ (by omega)) hn.2]
    constructor
    · rintro (h | h)
      · rcases mul_zero_of hp h0 h1 hc0 hc1 h with e | e
        · exact .inl e
        · exact .inr (by rw [e]; exact List.mem_cons_self)
      · exact .inr (List.mem_cons_of_mem _ h)
    · rintro (h | h)
      · exact .inl (by rw [h]; simp)
      · rcases List.mem_cons.1 h with e | e
        · exact .inl (by rw [← e]; simp)
        · exact .inr e
/-- no square is 0 -/
def regB (sq : List Int) : Bool := !sq.contains 0
theorem regB_disc {p : Int} {sq : List Int} (hp : primeB p = true) (hn : numsB p sq = true) : regB sq = !(discN p sq == 0) := by
  have h3 := prime_lo hp
  have := discL_zero hp sq 1 (by omega) (by omega) hn
  unfold regB discN
  by_cases h : (0 : Int) ∈ sq
  · rw [List.contains_iff_mem.2 h, this.2 (.inr h)]; rfl
  · have h1 : sq.contains 0 = false := by
      cases e : sq.contains 0 with
      | false => rfl
      | true => exact absurd (List.contains_iff_mem.1 e) h
    have h2 : ¬ discL p sq 1 = 0 := by
      intro e
      rcases this.1 e with e | e
      · omega
      · exact h e
    have h4 : (discL p sq 1 == 0) = false := by simpa using h2
    rw [h1, h4]

/-- the product of two vectors -/
def triL : List Int → List Int → List Int → Int
  | x :: xs, y :: ys, z :: zs => x * y * z + triL xs ys zs
  | _, _, _ => 0
theorem triL_snoc (a b c : List Int) (x y z : Int) (h1 : a.length = b.length) (h2 : a.length = c.length) : triL (a ++ [x]) (b ++ [y]) (c ++ [z]) = triL a b c + x * y * z := by
  induction a generalizing b c with
  | nil =>
    cases b with
    | cons => simp at h1
    | nil => cases c with
      | cons => simp at h2
      | nil => simp [triL]
  | cons u a ih =>
    cases b with
    | nil => simp at h1
    | cons v b => cases c with
      | nil => simp at h2
      | cons t c => simp only [List.cons_append, triL]; rw [ih b c (by simpa using h1) (by simpa using h2)]; omega
theorem triL_step {xs ys zs : List Int} {k : Nat} {x y z : Int} (hx : xs[k]? = some x) (hy : ys[k]? = some y) (hz : zs[k]? = some z) : triL (xs.take (k + 1)) (ys.take (k + 1)) (zs.take (k + 1)) = triL (xs.take k) (ys.take k) (zs.take k) + x * y * z := by
  have h1 := (List.getElem?_eq_some_iff.1 hx).1
  have h2 := (List.getElem?_eq_some_iff.1 hy).1
  have h3 := (List.getElem?_eq_some_iff.1 hz).1
  rw [take_snoc hx, take_snoc hy, take_snoc hz, triL_snoc]
  · rw [List.length_take, List.length_take]; omega
  · rw [List.length_take, List.length_take]; omega
/-- a vector with its numbers multiplied by the squares -/
def weightL (p : Int) : List Int → List Int → List Int
  | x :: xs, y :: ys => (x * y) % p :: weightL p xs ys
  | _, _ => []
theorem weightL_len (p : Int) : ∀ (xs ys : List Int), xs.length ≤ ys.length → (weightL p xs ys).length = xs.length := by
  intro xs
  induction xs with
  | nil => intro ys _; cases ys <;> rfl
  | cons x xs ih => intro ys h; cases ys with
    | nil => simp at h
    | cons y ys => simp only [weightL, List.length_cons]; rw [ih ys (by simpa using h)]
theorem weightL_snoc (p : Int) (xs ys : List Int) (x y : Int) (h : xs.length = ys.length) : weightL p (xs ++ [x]) (ys ++ [y]) = weightL p xs ys ++ [(x * y) % p] := by
  induction xs generalizing ys with
  | nil => cases ys with
    | nil => rfl
    | cons => simp at h
  | cons a xs ih => cases ys with
    | nil => simp at h
    | cons b ys => simp only [List.cons_append, weightL]; rw [ih ys (by simpa using h)]
theorem weightL_step {p : Int} {xs ys : List Int} {k : Nat} {x y : Int} (hx : xs[k]? = some x) (hy : ys[k]? = some y) : weightL p (xs.take (k + 1)) (ys.take (k + 1)) = weightL p (xs.take k) (ys.take k) ++ [(x * y) % p] := by
  rw [take_snoc hx, take_snoc hy, weightL_snoc]
  have h1 := (List.getElem?_eq_some_iff.1 hx).1
  have h2 := (List.getElem?_eq_some_iff.1 hy).1
  rw [List.length_take, List.length_take]; omega
theorem weightL_nums {p : Int} (hp : 3 ≤ p) : ∀ (xs ys : List Int), numsB p (weightL p xs ys) = true := by
  intro xs
  induction xs with
  | nil => intro ys; cases ys <;> rfl
  | cons x xs ih => intro ys; cases ys with
    | nil => rfl
    | cons y ys =>
      simp only [weightL, numsB, List.all_cons, Bool.and_eq_true]
      exact ⟨numB_iff.2 ⟨Int.emod_nonneg _ (by omega), Int.emod_lt_of_pos _ (by omega)⟩, ih ys⟩
theorem dot_weight (p : Int) : ∀ (v sq w : List Int), dotL (weightL p v sq) w % p = triL v w sq % p := by
  intro v
  induction v with
  | nil => intro sq w; cases sq <;> cases w <;> rfl
  | cons x v ih => intro sq w; cases sq with
    | nil => cases w <;> rfl
    | cons y sq => cases w with
      | nil => rfl
      | cons z w =>
        simp only [weightL, dotL, triL]
        rw [Int.add_emod, ih, Int.mul_emod, Int.emod_emod_of_dvd _ (Int.dvd_refl p), ← Int.mul_emod, ← Int.add_emod]
        congr 2
        rw [Int.mul_assoc, Int.mul_comm y z, ← Int.mul_assoc]
/-- the value of the product -/
def pairN (p : Int) (sq v w : List Int) : Int := triL v w sq % p
end Go.Proofs.Ytcgghjhccnjeoaa
