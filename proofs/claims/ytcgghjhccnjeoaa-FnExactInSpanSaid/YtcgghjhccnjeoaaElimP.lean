/- Plain: elimination on lists of rows. No program in sight. -/
import Derived.Test.YtcgghjhccnjeoaaField
namespace Go.Proofs.Ytcgghjhccnjeoaa
set_option linter.unusedVariables false

def ent (row : List Int) (k : Nat) : Int := row[k]?.getD 0
def rowAt (rows : List (List Int)) (i : Nat) : List Int := rows[i]?.getD []
def scaleR (p : Int) (row : List Int) (k : Int) : List Int := row.map fun n => (n * k) % p
def plusR (p : Int) (a b : List Int) (k : Int) : List Int := (List.range a.length).map fun i => (ent a i + k * ent b i) % p
/-- the first row from i on, looking f times, that is not 0 at k -/
def fnd (rows : List (List Int)) (k : Nat) : Nat → Nat → Nat
  | 0, i => i
  | f + 1, i => if ent (rowAt rows i) k = 0 then fnd rows k f (i + 1) else i
def clr (p : Int) (k d : Nat) (rows : List (List Int)) : List (List Int) :=
  (List.range rows.length).map fun r => if r = d then rowAt rows r else plusR p (rowAt rows r) (rowAt rows d) (-(ent (rowAt rows r) k))
def swp (p : Int) (k d i : Nat) (rows : List (List Int)) : List (List Int) :=
  (rows.set i (rowAt rows d)).set d (scaleR p (rowAt rows i) (invN p (ent (rowAt rows i) k)))
def fndS (k : Nat) (s : List (List Int) × Nat) : Nat := fnd s.1 k (s.1.length - s.2) s.2
def stepB (p : Int) (k : Nat) (s : List (List Int) × Nat) : List (List Int) × Nat :=
  if fndS k s < s.1.length then (clr p k s.2 (swp p k s.2 (fndS k s) s.1), s.2 + 1) else s
def colsS (p : Int) (rows : List (List Int)) : Nat → List (List Int) × Nat
  | 0 => (rows, 0)
  | k + 1 => stepB p k (colsS p rows k)
def basisN (p : Int) (rows : List (List Int)) : List (List Int) :=
  (colsS p rows (rowAt rows 0).length).1.take (colsS p rows (rowAt rows 0).length).2

theorem ent_of {row : List Int} {k : Nat} {x : Int} (h : row[k]? = some x) : ent row k = x := by unfold ent; rw [h]; rfl
theorem ent_over {row : List Int} {k : Nat} (h : row.length ≤ k) : ent row k = 0 := by unfold ent; rw [List.getElem?_eq_none h]; rfl
theorem ent_get {row : List Int} {k : Nat} (h : k < row.length) : row[k]? = some (ent row k) := by unfold ent; rw [List.getElem?_eq_getElem h]; rfl
theorem rowAt_of {rows : List (List Int)} {k : Nat} {x : List Int} (h : rows[k]? = some x) : rowAt rows k = x := by unfold rowAt; rw [h]; rfl
theorem rowAt_get {rows : List (List Int)} {k : Nat} (h : k < rows.length) : rows[k]? = some (rowAt rows k) := by unfold rowAt; rw [List.getElem?_eq_getElem h]; rfl
theorem scaleR_len (p : Int) (row : List Int) (k : Int) : (scaleR p row k).length = row.length := by simp [scaleR]
theorem plusR_len (p : Int) (a b : List Int) (k : Int) : (plusR p a b k).length = a.length := by simp [plusR]
theorem ent_scaleR (p : Int) (row : List Int) (k : Int) (j : Nat) : ent (scaleR p row k) j = (ent row j * k) % p := by
  unfold ent scaleR
  rw [List.getElem?_map]
  cases row[j]? with
  | none => simp
  | some x => rfl
theorem ent_plusR {p : Int} {a b : List Int} (h : a.length = b.length) (k : Int) (j : Nat) : ent (plusR p a b k) j = (ent a j + k * ent b j) % p := by
  by_cases hj : j < a.length
  · exact ent_of (by unfold plusR; rw [List.getElem?_map, List.getElem?_range hj]; rfl)
  · rw [ent_over (by rw [plusR_len]; omega), ent_over (row := a) (by omega), ent_over (row := b) (by omega)]; simp
theorem emod_num {p : Int} (hp : 0 < p) (x : Int) : numB p (x % p) = true := numB_iff.2 ⟨Int.emod_nonneg _ (by omega), Int.emod_lt_of_pos _ hp⟩
theorem scaleR_nums {p : Int} (hp : 0 < p) (row : List Int) (k : Int) : numsB p (scaleR p row k) = true := List.all_eq_true.2 fun x hx => by
  obtain ⟨y, _, rfl⟩ := List.mem_map.1 hx
  exact emod_num hp _
theorem plusR_nums {p : Int} (hp : 0 < p) (a b : List Int) (k : Int) : numsB p (plusR p a b k) = true := List.all_eq_true.2 fun x hx => by
  obtain ⟨y, _, rfl⟩ := List.mem_map.1 hx
  exact emod_num hp _
theorem numsB_ent {p : Int} {row : List Int} (h : numsB p row = true) {j : Nat} (hj : j < row.length) : 0 ≤ ent row j ∧ ent row j < p := numB_true (numsB_at h (ent_get hj))
theorem numsB_ent0 {p : Int} (hp : 0 < p) {row : List Int} (h : numsB p row = true) (j : Nat) : 0 ≤ ent row j ∧ ent row j < p := by
  by_cases hj : j < row.length
  · exact numsB_ent h hj
  · rw [ent_over (by omega)]; omega
/-- a multiple of 0 of another list changes nothing -/
theorem plusR_zero {p : Int} (hp : 0 < p) {a : List Int} (b : List Int) (h : numsB p a = true) : plusR p a b (-0) = a := by
  refine List.ext_getElem? fun j => ?_
  by_cases hj : j < a.length
  · obtain ⟨h0, h1⟩ := numsB_ent h hj
    unfold plusR
    rw [List.getElem?_map, List.getElem?_range hj, ent_get hj]
    show some ((ent a j + -0 * ent b j) % p) = _
    congr 1
    rw [show ent a j + -0 * ent b j = ent a j by simp]
    exact Int.emod_eq_of_lt h0 h1
  · rw [List.getElem?_eq_none (by rw [plusR_len]; omega), List.getElem?_eq_none (by omega)]
theorem plusR_cong {p k k' : Int} (a b : List Int) (h : k % p = k' % p) : plusR p a b k = plusR p a b k' := by
  unfold plusR
  refine List.map_congr_left fun i _ => ?_
  rw [Int.add_emod, Int.mul_emod, h, ← Int.mul_emod, ← Int.add_emod]
theorem fnd_le (rows : List (List Int)) (k : Nat) : ∀ f i, fnd rows k f i ≤ i + f ∧ i ≤ fnd rows k f i
  | 0, i => ⟨Nat.le_refl _, Nat.le_refl _⟩
  | f + 1, i => by
    have := fnd_le rows k f (i + 1)
    unfold fnd
    split <;> omega
theorem fnd_nz {rows : List (List Int)} {k : Nat} : ∀ {f i : Nat}, fnd rows k f i < i + f → ent (rowAt rows (fnd rows k f i)) k ≠ 0
  | 0, i, h => absurd h (by unfold fnd; omega)
  | f + 1, i, h => by
    unfold fnd at *
    split
    · rename_i hz; rw [if_pos hz] at h; exact fnd_nz (by omega)
    · assumption
theorem fnd_z {rows : List (List Int)} {k : Nat} : ∀ {f i j : Nat}, i ≤ j → j < fnd rows k f i → ent (rowAt rows j) k = 0
  | 0, i, j, h0, h => absurd h (by unfold fnd; omega)
  | f + 1, i, j, h0, h => by
    unfold fnd at h
    split at h
    · by_cases e : j = i
      · subst e; assumption
      · exact fnd_z (by omega) h
    · omega
theorem fnd_hit {rows : List (List Int)} {k f i : Nat} (h : ¬ ent (rowAt rows i) k = 0) (hf : 0 < f) : fnd rows k f i = i := by
  obtain ⟨g, rfl⟩ : ∃ g, f = g + 1 := ⟨f - 1, by omega⟩
  rw [fnd, if_neg h]
theorem fnd_on {rows : List (List Int)} {k f i : Nat} (h : ent (rowAt rows i) k = 0) (hf : 0 < f) : fnd rows k f i = fnd rows k (f - 1) (i + 1) := by
  obtain ⟨g, rfl⟩ : ∃ g, f = g + 1 := ⟨f - 1, by omega⟩
  rw [fnd, if_pos h]; rfl

/-- rows of n numbers -/
def TabP (p : Int) (n : Nat) (rows : List (List Int)) : Prop := ∀ r ∈ rows, r.length = n ∧ numsB p r = true
theorem TabP.at_ {p : Int} {n i : Nat} {rows : List (List Int)} (h : TabP p n rows) (hi : i < rows.length) : (rowAt rows i).length = n ∧ numsB p (rowAt rows i) = true :=
  h _ (List.mem_of_getElem? (rowAt_get hi))
theorem TabP.set {p : Int} {n i : Nat} {rows : List (List Int)} {r : List Int} (h : TabP p n rows) (h1 : r.length = n) (h2 : numsB p r = true) : TabP p n (rows.set i r) := fun x hx => by
  rcases List.mem_or_eq_of_mem_set hx with hx | rfl
  · exact h x hx
  · exact ⟨h1, h2⟩
theorem clr_len (p : Int) (k d : Nat) (rows : List (List Int)) : (clr p k d rows).length = rows.length := by simp [clr]
theorem swp_len (p : Int) (k d i : Nat) (rows : List (List Int)) : (swp p k d i rows).length = rows.length := by simp [swp]
theorem clr_at {p : Int} {k d r : Nat} {rows : List (List Int)} (h : r < rows.length) : rowAt (clr p k d rows) r = if r = d then rowAt rows r else plusR p (rowAt rows r) (rowAt rows d) (-(ent (rowAt rows r) k)) :=
  rowAt_of (by unfold clr; rw [List.getElem?_map, List.getElem?_range h]; rfl)
theorem swp_tab {p : Int} (hp : 0 < p) {n k d i : Nat} {rows : List (List Int)} (h : TabP p n rows) (hd : d < rows.length) (hi : i < rows.length) : TabP p n (swp p k d i rows) :=
  (h.set (h.at_ hd).1 (h.at_ hd).2).set (by rw [scaleR_len]; exact (h.at_ hi).1) (scaleR_nums hp _ _)
theorem clr_tab {p : Int} (hp : 0 < p) {n k d : Nat} {rows : List (List Int)} (h : TabP p n rows) : TabP p n (clr p k d rows) := fun x hx => by
  obtain ⟨r, hr, rfl⟩ := List.mem_map.1 hx
  have hr := List.mem_range.1 hr
  split
  · exact h.at_ hr
  · exact ⟨by rw [plusR_len]; exact (h.at_ hr).1, plusR_nums hp _ _ _⟩
theorem stepB_len (p : Int) (k : Nat) (s : List (List Int) × Nat) : (stepB p k s).1.length = s.1.length := by
  unfold stepB
  split
  · rw [clr_len, swp_len]
  · rfl
theorem fndS_le {k : Nat} {s : List (List Int) × Nat} (h : s.2 ≤ s.1.length) : s.2 ≤ fndS k s ∧ fndS k s ≤ s.1.length := by
  have := fnd_le s.1 k (s.1.length - s.2) s.2
  unfold fndS; omega
theorem stepB_done {p : Int} {k : Nat} {s : List (List Int) × Nat} (h : s.2 ≤ s.1.length) : (stepB p k s).2 ≤ s.1.length ∧ s.2 ≤ (stepB p k s).2 ∧ (stepB p k s).2 ≤ s.2 + 1 := by
  have := fndS_le (k := k) h
  unfold stepB
  split <;> simp <;> omega
theorem stepB_tab {p : Int} (hp : 0 < p) {n k : Nat} {s : List (List Int) × Nat} (h : TabP p n s.1) (hd : s.2 ≤ s.1.length) : TabP p n (stepB p k s).1 := by
  have := fndS_le (k := k) hd
  unfold stepB
  split
  · exact clr_tab hp (swp_tab hp h (by omega) (by assumption))
  · exact h
theorem colsS_len (p : Int) (rows : List (List Int)) : ∀ k, (colsS p rows k).1.length = rows.length
  | 0 => rfl
  | k + 1 => by rw [colsS, stepB_len, colsS_len p rows k]
theorem colsS_done (p : Int) (rows : List (List Int)) : ∀ k, (colsS p rows k).2 ≤ rows.length
  | 0 => Nat.zero_le _
  | k + 1 => by
    have h := colsS_done p rows k
    have hl := colsS_len p rows k
    have := stepB_done (p := p) (k := k) (s := colsS p rows k) (by omega)
    rw [colsS]; omega
theorem colsS_tab {p : Int} (hp : 0 < p) {n : Nat} {rows : List (List Int)} (h : TabP p n rows) : ∀ k, TabP p n (colsS p rows k).1
  | 0 => h
  | k + 1 => stepB_tab hp (colsS_tab hp h k) (by rw [colsS_len]; exact colsS_done p rows k)
theorem stepB_full {p : Int} {k : Nat} {s : List (List Int) × Nat} (h : s.1.length ≤ s.2) : stepB p k s = s := by
  unfold stepB fndS
  rw [show s.1.length - s.2 = 0 by omega, fnd, if_neg (by omega)]
theorem stepB_none {p : Int} {k : Nat} {s : List (List Int) × Nat} (h : fndS k s = s.1.length) : stepB p k s = s := by
  unfold stepB
  rw [h, if_neg (by omega)]
theorem stepB_some {p : Int} {k : Nat} {s : List (List Int) × Nat} (h : fndS k s < s.1.length) : stepB p k s = (clr p k s.2 (swp p k s.2 (fndS k s) s.1), s.2 + 1) := if_pos h
theorem colsS_full {p : Int} {rows : List (List Int)} {k : Nat} (h : rows.length ≤ (colsS p rows k).2) : ∀ j, colsS p rows (k + j) = colsS p rows k
  | 0 => rfl
  | j + 1 => by
    have ih := colsS_full h j
    show stepB p (k + j) (colsS p rows (k + j)) = _
    rw [ih]
    exact stepB_full (by rw [colsS_len]; exact h)
/-- the rows before j cleared -/
def clrK (p : Int) (k d : Nat) (rows : List (List Int)) (j : Nat) : List (List Int) :=
  (List.range rows.length).map fun r => if r < j ∧ r ≠ d then plusR p (rowAt rows r) (rowAt rows d) (-(ent (rowAt rows r) k)) else rowAt rows r
theorem clrK_len (p : Int) (k d : Nat) (rows : List (List Int)) (j : Nat) : (clrK p k d rows j).length = rows.length := by simp [clrK]
theorem clrK_get {p : Int} {k d : Nat} {rows : List (List Int)} {j r : Nat} (h : r < rows.length) : (clrK p k d rows j)[r]? = some (if r < j ∧ r ≠ d then plusR p (rowAt rows r) (rowAt rows d) (-(ent (rowAt rows r) k)) else rowAt rows r) := by
  unfold clrK; rw [List.getElem?_map, List.getElem?_range h]; rfl
theorem clrK_ext {p : Int} {k d : Nat} {rows l : List (List Int)} {j : Nat} (hl : l.length = rows.length) (h : ∀ r, r < rows.length → l[r]? = some (if r < j ∧ r ≠ d then plusR p (rowAt rows r) (rowAt rows d) (-(ent (rowAt rows r) k)) else rowAt rows r)) : l = clrK p k d rows j := by
  refine List.ext_getElem? fun r => ?_
  by_cases hr : r < rows.length
  · rw [h r hr, clrK_get hr]
  · rw [List.getElem?_eq_none (by omega), List.getElem?_eq_none (by rw [clrK_len]; omega)]
theorem clrK_zero (p : Int) (k d : Nat) (rows : List (List Int)) : clrK p k d rows 0 = rows :=
  (clrK_ext rfl fun r hr => by rw [if_neg (by omega)]; exact rowAt_get hr).symm
theorem clrK_end (p : Int) (k d : Nat) (rows : List (List Int)) {m : Nat} (hm : rows.length = m) : clrK p k d rows m = clr p k d rows := by
  refine (clrK_ext (clr_len ..) fun r hr => ?_).symm
  unfold clr
  rw [List.getElem?_map, List.getElem?_range hr]
  show some (if r = d then rowAt rows r else plusR p (rowAt rows r) (rowAt rows d) (-(ent (rowAt rows r) k))) = _
  congr 1
  by_cases h : r = d
  · rw [if_pos h, if_neg (by omega)]
  · rw [if_neg h, if_pos ⟨by omega, h⟩]
theorem clrK_skip (p : Int) (k d : Nat) (rows : List (List Int)) : clrK p k d rows (d + 1) = clrK p k d rows d :=
  clrK_ext (clrK_len ..) fun r hr => by
    rw [clrK_get hr]
    congr 1
    by_cases h : r < d ∧ r ≠ d
    · rw [if_pos h, if_pos ⟨by omega, h.2⟩]
    · rw [if_neg h, if_neg (by omega)]
theorem clrK_step {p : Int} {k d : Nat} {rows : List (List Int)} {j : Nat} (hj : j < rows.length) (hd : j ≠ d) : (clrK p k d rows j).set j (plusR p (rowAt rows j) (rowAt rows d) (-(ent (rowAt rows j) k))) = clrK p k d rows (j + 1) :=
  clrK_ext (by rw [List.length_set, clrK_len]) fun r hr => by
    by_cases h : r = j
    · subst h
      rw [List.getElem?_set_self (by rw [clrK_len]; exact hr), if_pos ⟨by omega, hd⟩]
    · rw [List.getElem?_set_ne (fun e => h e.symm), clrK_get hr]
      congr 1
      by_cases h2 : r < j ∧ r ≠ d
      · rw [if_pos h2, if_pos ⟨by omega, h2.2⟩]
      · rw [if_neg h2, if_neg (by omega)]
theorem clrK_at {p : Int} {k d : Nat} {rows : List (List Int)} {j : Nat} (hj : j < rows.length) : rowAt (clrK p k d rows j) j = rowAt rows j := rowAt_of (by rw [clrK_get hj, if_neg (by omega)])
theorem clrK_d {p : Int} {k d : Nat} {rows : List (List Int)} {j : Nat} (hd : d < rows.length) : rowAt (clrK p k d rows j) d = rowAt rows d := rowAt_of (by rw [clrK_get hd, if_neg (by omega)])
theorem clrK_tab {p : Int} (hp : 0 < p) {n k d : Nat} {rows : List (List Int)} (h : TabP p n rows) (j : Nat) : TabP p n (clrK p k d rows j) := fun x hx => by
  obtain ⟨r, hr, rfl⟩ := List.mem_map.1 hx
  have hr := List.mem_range.1 hr
  split
  · exact ⟨by rw [plusR_len]; exact (h.at_ hr).1, plusR_nums hp _ _ _⟩
  · exact h.at_ hr
theorem basisN_end {p : Int} {rows : List (List Int)} {n k : Nat} (hn : (rowAt rows 0).length = n) (hk : k ≤ n) (h : k = n ∨ (colsS p rows k).2 = rows.length) : basisN p rows = (colsS p rows k).1.take (colsS p rows k).2 := by
  unfold basisN
  rw [hn]
  rcases h with rfl | h
  · rfl
  · obtain ⟨j, rfl⟩ : ∃ j, n = k + j := ⟨n - k, by omega⟩
    rw [colsS_full (by omega)]
theorem basisN_tab {p : Int} (hp : 0 < p) {n : Nat} {rows : List (List Int)} (h : TabP p n rows) : TabP p n (basisN p rows) := fun x hx => colsS_tab hp h _ x (List.mem_of_mem_take hx)
theorem basisN_len (p : Int) (rows : List (List Int)) : (basisN p rows).length = (colsS p rows (rowAt rows 0).length).2 := by
  unfold basisN
  rw [List.length_take, colsS_len]
  have := colsS_done p rows (rowAt rows 0).length
  omega
theorem basisN_le (p : Int) (rows : List (List Int)) : (basisN p rows).length ≤ rows.length := by
  rw [basisN_len]; exact colsS_done p rows _
theorem basisN_nil (p : Int) : basisN p [] = [] := by
  refine List.eq_nil_of_length_eq_zero ?_
  have := basisN_le p []
  simpa using this
end Go.Proofs.Ytcgghjhccnjeoaa
