/- Plain: what elimination makes of the rows: spans, leads, and the two tests of a sum of multiples. No program in sight. -/
import Derived.Test.YtcgghjhccnjeoaaElimP
namespace Go.Proofs.Ytcgghjhccnjeoaa
set_option linter.unusedVariables false

def sumI : Nat → (Nat → Int) → Int
  | 0, _ => 0
  | n + 1, f => sumI n f + f n
theorem sumI_congr {n : Nat} {f g : Nat → Int} (h : ∀ i, i < n → f i = g i) : sumI n f = sumI n g := by
  induction n with
  | zero => rfl
  | succ n ih => rw [sumI, sumI, ih fun i hi => h i (by omega), h n (by omega)]
theorem sumI_add (n : Nat) (f g : Nat → Int) : sumI n (fun i => f i + g i) = sumI n f + sumI n g := by
  induction n with
  | zero => rfl
  | succ n ih => rw [sumI, sumI, sumI, ih]; omega
theorem sumI_mul (n : Nat) (a : Int) (f : Nat → Int) : sumI n (fun i => a * f i) = a * sumI n f := by
  induction n with
  | zero => simp [sumI]
  | succ n ih => rw [sumI, sumI, ih, Int.mul_add]
theorem sumI_dvd {p : Int} {n : Nat} {f : Nat → Int} (h : ∀ i, i < n → p ∣ f i) : p ∣ sumI n f := by
  induction n with
  | zero => exact ⟨0, by simp [sumI]⟩
  | succ n ih => exact Int.dvd_add (ih fun i hi => h i (by omega)) (h n (by omega))
theorem sumI_one {n t : Nat} {f : Nat → Int} (ht : t < n) (h : ∀ i, i < n → i ≠ t → f i = 0) : sumI n f = f t := by
  induction n with
  | zero => omega
  | succ n ih =>
    rw [sumI]
    by_cases e : t = n
    · subst e
      have : sumI t f = sumI t (fun _ => 0 * 0) := sumI_congr fun i hi => by rw [h i (by omega) (by omega)]; rfl
      rw [this, sumI_mul]; simp
    · rw [ih (by omega) fun i hi hne => h i (by omega) hne, h n (by omega) (fun e2 => e e2.symm)]; simp

/-- the sums of multiples of the rows, up to multiples of p -/
def Spn (p : Int) (rows : List (List Int)) (v : Nat → Int) : Prop := ∃ c : Nat → Int, ∀ j, p ∣ v j - sumI rows.length fun i => c i * ent (rowAt rows i) j
section
variable {p : Int} {rows rows' : List (List Int)} {u v : Nat → Int}
theorem Spn.zero (p : Int) (rows : List (List Int)) : Spn p rows fun _ => 0 := ⟨fun _ => 0, fun j => by
  refine Int.dvd_sub ⟨0, by simp⟩ (sumI_dvd fun i _ => ⟨0, by simp⟩)⟩
theorem Spn.add (h : Spn p rows u) (k : Spn p rows v) : Spn p rows fun j => u j + v j := by
  obtain ⟨c, hc⟩ := h
  obtain ⟨d, hd⟩ := k
  refine ⟨fun i => c i + d i, fun j => ?_⟩
  have e : sumI rows.length (fun i => (c i + d i) * ent (rowAt rows i) j) = sumI rows.length (fun i => c i * ent (rowAt rows i) j) + sumI rows.length (fun i => d i * ent (rowAt rows i) j) := by
    rw [← sumI_add]; exact sumI_congr fun i _ => Int.add_mul _ _ _
  rw [e]
  have := Int.dvd_add (hc j) (hd j)
  rwa [show u j - sumI rows.length (fun i => c i * ent (rowAt rows i) j) + (v j - sumI rows.length (fun i => d i * ent (rowAt rows i) j)) = u j + v j - (sumI rows.length (fun i => c i * ent (rowAt rows i) j) + sumI rows.length (fun i => d i * ent (rowAt rows i) j)) by omega] at this
theorem Spn.smul (a : Int) (h : Spn p rows u) : Spn p rows fun j => a * u j := by
  obtain ⟨c, hc⟩ := h
  refine ⟨fun i => a * c i, fun j => ?_⟩
  have e : sumI rows.length (fun i => a * c i * ent (rowAt rows i) j) = a * sumI rows.length (fun i => c i * ent (rowAt rows i) j) := by
    rw [← sumI_mul]; exact sumI_congr fun i _ => Int.mul_assoc _ _ _
  rw [e, ← Int.mul_sub]
  exact Int.dvd_mul_of_dvd_right (hc j)
theorem Spn.cong (h : Spn p rows u) (e : ∀ j, p ∣ v j - u j) : Spn p rows v := by
  obtain ⟨c, hc⟩ := h
  refine ⟨c, fun j => ?_⟩
  have := Int.dvd_add (e j) (hc j)
  rwa [show v j - u j + (u j - sumI rows.length (fun i => c i * ent (rowAt rows i) j)) = v j - sumI rows.length (fun i => c i * ent (rowAt rows i) j) by omega] at this
theorem Spn.row {i : Nat} (hi : i < rows.length) : Spn p rows (ent (rowAt rows i)) := ⟨fun t => if t = i then 1 else 0, fun j => by
  rw [sumI_one (t := i) hi fun t _ hne => by simp [hne]]
  simp⟩
/-- whatever is closed and holds of the rows holds of their sums -/
theorem Spn.ind {P : (Nat → Int) → Prop} (h0 : P fun _ => 0) (ha : ∀ u v, P u → P v → P fun j => u j + v j) (hm : ∀ a u, P u → P fun j => a * u j) (hc : ∀ u v, P u → (∀ j, p ∣ v j - u j) → P v)
    (hr : ∀ i, i < rows.length → P (ent (rowAt rows i))) (h : Spn p rows v) : P v := by
  obtain ⟨c, hv⟩ := h
  refine hc _ v ?_ hv
  have : ∀ n, n ≤ rows.length → P fun j => sumI n fun i => c i * ent (rowAt rows i) j := fun n => by
    induction n with
    | zero => exact fun _ => h0
    | succ n ih => exact fun hn => ha _ _ (ih (by omega)) (hm (c n) _ (hr n (by omega)))
  exact this _ (Nat.le_refl _)
theorem Spn.sub (hr : ∀ i, i < rows'.length → Spn p rows (ent (rowAt rows' i))) (h : Spn p rows' v) : Spn p rows v :=
  Spn.ind (P := Spn p rows) (Spn.zero p rows) (fun _ _ => Spn.add) (fun a _ => Spn.smul a) (fun _ _ h e => Spn.cong h e) hr h
theorem mod_dvd (p x : Int) : p ∣ x % p - x := by
  have := Int.dvd_neg.2 (Int.dvd_self_sub_of_emod_eq (a := x) (b := p) rfl)
  rwa [Int.neg_sub] at this
/-- a row plus a multiple of another, as numbers -/
theorem Spn.plus {n : Nat} {a b : List Int} (ha : Spn p rows (ent a)) (hb : Spn p rows (ent b)) (hl : a.length = n) (hl' : b.length = n) (k : Int) : Spn p rows (ent (plusR p a b k)) := by
  refine (ha.add (hb.smul k)).cong fun j => ?_
  rw [ent_plusR (by omega)]
  exact mod_dvd p _
theorem Spn.scale {a : List Int} (ha : Spn p rows (ent a)) (k : Int) : Spn p rows (ent (scaleR p a k)) := by
  refine (ha.smul k).cong fun j => ?_
  rw [ent_scaleR, Int.mul_comm]
  exact mod_dvd p _
end
theorem inv_ex {p a : Int} (hp : primeB p = true) (h : ¬ p ∣ a) : ∃ b, p ∣ a * b - 1 := by
  have hlo := prime_lo hp
  have h0 : a % p ≠ 0 := fun e => h (Int.dvd_of_emod_eq_zero e)
  have h1 := Int.emod_nonneg a (show p ≠ 0 by omega)
  have h2 := Int.emod_lt_of_pos a (show 0 < p by omega)
  obtain ⟨_, _, h3, _⟩ := inv_facts hp (show 1 ≤ a % p by omega) h2
  refine ⟨invN p (a % p), ?_⟩
  refine Int.dvd_of_emod_eq_zero ?_
  have e : (a * invN p (a % p)) % p = 1 := by rw [Int.mul_emod, ← Int.emod_emod_of_dvd a (Int.dvd_refl p), ← Int.mul_emod]; rw [Int.emod_emod_of_dvd _ (Int.dvd_refl p)] ; exact h3
  rw [Int.sub_emod, e, Int.emod_eq_of_lt (by omega) (by omega : (1 : Int) < p)]
  simp

/-- has the k-th column a lead -/
def flg (p : Int) (rows : List (List Int)) (k : Nat) : Bool := decide (fndS k (colsS p rows k) < (colsS p rows k).1.length)
theorem colsS_count (p : Int) (rows : List (List Int)) (k : Nat) : (colsS p rows (k + 1)).2 = (colsS p rows k).2 + if flg p rows k = true then 1 else 0 := by
  unfold flg
  rw [colsS]
  unfold stepB
  by_cases h : fndS k (colsS p rows k) < (colsS p rows k).1.length
  · rw [if_pos h, if_pos (decide_eq_true h)]
  · rw [if_neg h, if_neg (by simpa using h)]; rfl

/-- what holds behind k columns -/
structure Ech (p : Int) (n : Nat) (rows : List (List Int)) (k : Nat) (R : List (List Int)) (d : Nat) (pv : Nat → Nat) : Prop where
  to : ∀ v, Spn p rows v → Spn p R v
  of : ∀ v, Spn p R v → Spn p rows v
  low : ∀ i, d ≤ i → i < R.length → ∀ j, j < k → ent (rowAt R i) j = 0
  lt : ∀ i, i < d → pv i < k
  one : ∀ i, i < d → ent (rowAt R i) (pv i) = 1
  lead : ∀ i, i < d → ∀ j, j < pv i → ent (rowAt R i) j = 0
  alone : ∀ i, i < d → ∀ r, r < R.length → r ≠ i → ent (rowAt R r) (pv i) = 0
  flag : ∀ j, j < k → (flg p rows j = true ↔ ∃ i, i < d ∧ pv i = j)

theorem swp_at {p : Int} {k d i r : Nat} {rows : List (List Int)} (hr : r < rows.length) (hd : d < rows.length) (hi : i < rows.length) :
    rowAt (swp p k d i rows) r = if r = d then scaleR p (rowAt rows i) (invN p (ent (rowAt rows i) k)) else if r = i then rowAt rows d else rowAt rows r := by
  refine rowAt_of ?_
  unfold swp
  by_cases h : r = d
  · subst h
    rw [if_pos rfl, List.getElem?_set_self (by simpa using hr)]
  · rw [if_neg h, List.getElem?_set_ne (fun e => h e.symm)]
    by_cases h2 : r = i
    · subst h2
      rw [if_pos rfl, List.getElem?_set_self hr]
    · rw [if_neg h2, List.getElem?_set_ne (fun e => h2 e.symm)]
      exact rowAt_get hr

theorem ech_step {p : Int} (hp : primeB p = true) {n : Nat} {rows : List (List Int)} (ht : TabP p n rows) {k : Nat} {pv : Nat → Nat} (h : Ech p n rows k (colsS p rows k).1 (colsS p rows k).2 pv) :
    ∃ pv', Ech p n rows (k + 1) (colsS p rows (k + 1)).1 (colsS p rows (k + 1)).2 pv' := by
  have hlo := prime_lo hp
  have htab := colsS_tab (show 0 < p by omega) ht k
  have hdl : (colsS p rows k).2 ≤ (colsS p rows k).1.length := by rw [colsS_len]; exact colsS_done p rows k
  have hfl : flg p rows k = decide (fndS k (colsS p rows k) < (colsS p rows k).1.length) := rfl
  rw [colsS]
  generalize colsS p rows k = s at *
  obtain ⟨R, d⟩ := s
  simp only at *
  have hf := fndS_le (k := k) (s := (R, d)) hdl
  simp only at hf
  by_cases hlt : fndS k (R, d) < R.length
  · rw [stepB_some (s := (R, d)) hlt]
    simp only
    have hnz : ent (rowAt R (fndS k (R, d))) k ≠ 0 := fnd_nz (rows := R) (k := k) (f := R.length - d) (i := d) (by
      have : fndS k (R, d) = fnd R k (R.length - d) d := rfl
      omega)
    generalize fndS k (R, d) = i at *
    have hd : d < R.length := by omega
    obtain ⟨hil, hin⟩ := htab.at_ hlt
    obtain ⟨e0, e1⟩ := numsB_ent0 (show 0 < p by omega) hin k
    obtain ⟨_, _, hinv, _⟩ := inv_facts hp (show 1 ≤ ent (rowAt R i) k by omega) e1
    have hsl : (swp p k d i R).length = R.length := swp_len ..
    have hcl : (clr p k d (swp p k d i R)).length = R.length := by rw [clr_len, hsl]
    have hst : TabP p n (swp p k d i R) := swp_tab (by omega) htab hd hlt
    -- the rows behind the exchange
    have hsw : ∀ r, r < R.length → rowAt (swp p k d i R) r = if r = d then scaleR p (rowAt R i) (invN p (ent (rowAt R i) k)) else if r = i then rowAt R d else rowAt R r := fun r hr => swp_at hr hd hlt
    have hpv : rowAt (swp p k d i R) d = scaleR p (rowAt R i) (invN p (ent (rowAt R i) k)) := by rw [hsw d hd, if_pos rfl]
    have hcr : ∀ r, r < R.length → r ≠ d → rowAt (clr p k d (swp p k d i R)) r = plusR p (rowAt (swp p k d i R) r) (rowAt (swp p k d i R) d) (-(ent (rowAt (swp p k d i R) r) k)) := fun r hr hne => by rw [clr_at (by omega), if_neg hne]
    have hcd : rowAt (clr p k d (swp p k d i R)) d = rowAt (swp p k d i R) d := by rw [clr_at (by omega), if_pos rfl]
    have hce : ∀ r, r < R.length → r ≠ d → ∀ j, ent (rowAt (clr p k d (swp p k d i R)) r) j = (ent (rowAt (swp p k d i R) r) j + -(ent (rowAt (swp p k d i R) r) k) * ent (rowAt (swp p k d i R) d) j) % p := fun r hr hne j => by
      rw [hcr r hr hne, ent_plusR ((hst.at_ (by omega)).1.trans (hst.at_ (by omega)).1.symm)]
    have hpe : ∀ j, ent (rowAt (swp p k d i R) d) j = (ent (rowAt R i) j * invN p (ent (rowAt R i) k)) % p := fun j => by rw [hpv, ent_scaleR]
    have hp1 : ent (rowAt (swp p k d i R) d) k = 1 := by rw [hpe, hinv]
    have hp0 : ∀ j, ent (rowAt R i) j = 0 → ent (rowAt (swp p k d i R) d) j = 0 := fun j h => by rw [hpe, h]; simp
    -- a row that is not the new lead's, at a column where the found row is 0
    have hkeep : ∀ r, r < R.length → r ≠ d → ∀ j, ent (rowAt R i) j = 0 → ent (rowAt (clr p k d (swp p k d i R)) r) j = ent (rowAt (swp p k d i R) r) j := fun r hr hne j hj => by
      rw [hce r hr hne, hp0 j hj]
      obtain ⟨a0, a1⟩ := numsB_ent0 (show 0 < p by omega) (hst.at_ (show r < (swp p k d i R).length by omega)).2 j
      rw [Int.mul_zero, Int.add_zero]
      exact Int.emod_eq_of_lt a0 a1
    have hz : ∀ j, j < k → ent (rowAt R i) j = 0 := h.low i (by omega) hlt
    have hpz : ∀ a, a < d → ent (rowAt R i) (pv a) = 0 := fun a ha => h.alone a ha i hlt (by omega)
    -- rows of R other than i and d stand still in the exchange; for a lead's row, too
    have hsame : ∀ r, r < R.length → r < d → rowAt (swp p k d i R) r = rowAt R r := fun r hr hrd => by rw [hsw r hr, if_neg (by omega), if_neg (by omega)]
    have hcolp : ∀ a, a < d → ∀ r, r < R.length → r ≠ a → ent (rowAt (swp p k d i R) r) (pv a) = 0 := fun a ha r hr hne => by
      rw [hsw r hr]
      split
      · rw [ent_scaleR, hpz a ha]; simp
      · split
        · exact h.alone a ha d hd (by omega)
        · exact h.alone a ha r hr hne
    have hlowk : ∀ r, d ≤ r → r < R.length → ∀ j, j < k → ent (rowAt (swp p k d i R) r) j = 0 := fun r hr hr2 j hj => by
      rw [hsw r hr2]
      split
      · rw [ent_scaleR, hz j hj]; simp
      · split
        · exact h.low d (Nat.le_refl _) hd j hj
        · exact h.low r hr hr2 j hj
    refine ⟨fun a => if a = d then k else pv a, ?_, ?_, ?_, ?_, ?_, ?_, ?_, ?_⟩
    · -- to
      intro v hv
      refine Spn.sub (fun r hr => ?_) (h.to v hv)
      have hcs : ∀ r, r < R.length → Spn p (clr p k d (swp p k d i R)) (ent (rowAt (clr p k d (swp p k d i R)) r)) := fun r hr => Spn.row (by omega)
      -- the rows behind the exchange are sums of the new rows
      have hd1 : Spn p (clr p k d (swp p k d i R)) (ent (rowAt (swp p k d i R) d)) := by rw [← hcd]; exact hcs d hd
      have hss : ∀ r, r < R.length → Spn p (clr p k d (swp p k d i R)) (ent (rowAt (swp p k d i R) r)) := fun r hr => by
        by_cases hne : r = d
        · subst hne; exact hd1
        · refine ((hcs r hr).add (hd1.smul (ent (rowAt (swp p k d i R) r) k))).cong fun j => ?_
          rw [hce r hr hne]
          have := Int.dvd_self_sub_of_emod_eq (a := ent (rowAt (swp p k d i R) r) j + -(ent (rowAt (swp p k d i R) r) k) * ent (rowAt (swp p k d i R) d) j) (b := p) rfl
          have e : ent (rowAt (swp p k d i R) r) j - ((ent (rowAt (swp p k d i R) r) j + -(ent (rowAt (swp p k d i R) r) k) * ent (rowAt (swp p k d i R) d) j) % p + ent (rowAt (swp p k d i R) r) k * ent (rowAt (swp p k d i R) d) j) = ent (rowAt (swp p k d i R) r) j + -(ent (rowAt (swp p k d i R) r) k) * ent (rowAt (swp p k d i R) d) j - (ent (rowAt (swp p k d i R) r) j + -(ent (rowAt (swp p k d i R) r) k) * ent (rowAt (swp p k d i R) d) j) % p := by
            rw [Int.neg_mul]; omega
          rw [e]; exact this
      have hsi : Spn p (clr p k d (swp p k d i R)) (ent (rowAt R i)) := by
        refine (hd1.smul (ent (rowAt R i) k)).cong fun j => ?_
        rw [hpe]
        have e1 : p ∣ ent (rowAt R i) j * (ent (rowAt R i) k * invN p (ent (rowAt R i) k) - 1) := Int.dvd_mul_of_dvd_right (Int.dvd_of_emod_eq_zero (by
          rw [Int.sub_emod, hinv, Int.emod_eq_of_lt (by omega) (by omega : (1 : Int) < p)]; simp))
        have e2 : p ∣ ent (rowAt R i) k * (ent (rowAt R i) j * invN p (ent (rowAt R i) k) - (ent (rowAt R i) j * invN p (ent (rowAt R i) k)) % p) := Int.dvd_mul_of_dvd_right (Int.dvd_self_sub_of_emod_eq rfl)
        have e3 := Int.dvd_sub e2 e1
        rwa [show ent (rowAt R i) k * (ent (rowAt R i) j * invN p (ent (rowAt R i) k) - (ent (rowAt R i) j * invN p (ent (rowAt R i) k)) % p) - ent (rowAt R i) j * (ent (rowAt R i) k * invN p (ent (rowAt R i) k) - 1) = ent (rowAt R i) j - ent (rowAt R i) k * ((ent (rowAt R i) j * invN p (ent (rowAt R i) k)) % p) by grind] at e3
      by_cases h1 : r = i
      · subst h1; exact hsi
      · by_cases h2 : r = d
        · subst h2
          have := hss i hlt
          rwa [hsw i hlt, if_neg (fun e => h1 e.symm), if_pos rfl] at this
        · have := hss r hr
          rwa [hsw r hr, if_neg h2, if_neg h1] at this
    · -- of
      intro v hv
      refine h.of v (Spn.sub (rows := R) (fun r hr => ?_) hv)
      have hr' : r < R.length := by omega
      have hss : ∀ r, r < R.length → Spn p R (ent (rowAt (swp p k d i R) r)) := fun r hr => by
        rw [hsw r hr]
        split
        · exact (Spn.row hlt).scale _
        · split
          · exact Spn.row hd
          · exact Spn.row hr
      by_cases hne : r = d
      · subst hne; rw [hcd]; exact hss _ hr'
      · rw [hcr r hr' hne]
        exact (hss r hr').plus (n := n) (hss d hd) (hst.at_ (by omega)).1 (hst.at_ (by omega)).1 _
    · -- low
      intro r hr hr2 j hj
      have hr2' : r < R.length := by omega
      have hne : r ≠ d := by omega
      by_cases hjk : j = k
      · subst hjk
        rw [hce r hr2' hne, hp1]; simp
        rw [show ent (rowAt (swp p j d i R) r) j + -ent (rowAt (swp p j d i R) r) j = 0 by omega]; simp
      · rw [hkeep r hr2' hne j (hz j (by omega))]
        exact hlowk r (by omega) hr2' j (by omega)
    · -- lt
      intro a ha
      split
      · omega
      · have := h.lt a (by omega); omega
    · -- one
      intro a ha
      split
      · rename_i e; subst e; rw [hcd]; exact hp1
      · have had : a < d := by omega
        rw [hkeep a (by omega) (by omega) _ (hpz a had), hsame a (by omega) had]
        exact h.one a had
    · -- lead
      intro a ha j hj
      split at hj
      · rename_i e; subst e; rw [hcd]; exact hp0 j (hz j hj)
      · have had : a < d := by omega
        have := h.lt a had
        rw [hkeep a (by omega) (by omega) _ (hz j (by omega)), hsame a (by omega) had]
        exact h.lead a had j hj
    · -- alone
      intro a ha r hr hne
      have hr' : r < R.length := by omega
      split
      · rename_i e; subst e
        rw [hce r hr' hne, hp1, Int.mul_one]
        rw [show ent (rowAt (swp p k a i R) r) k + -ent (rowAt (swp p k a i R) r) k = 0 by omega]; simp
      · have had : a < d := by omega
        by_cases hrd : r = d
        · subst hrd; rw [hcd]; exact hp0 _ (hpz a had)
        · rw [hkeep r hr' hrd _ (hpz a had)]
          exact hcolp a had r hr' hne
    · -- flag
      intro j hj
      by_cases hjk : j = k
      · subst hjk
        rw [hfl]
        exact ⟨fun _ => ⟨d, by omega, if_pos rfl⟩, fun _ => decide_eq_true hlt⟩
      · rw [h.flag j (by omega)]
        constructor
        · rintro ⟨a, ha, rfl⟩
          exact ⟨a, by omega, if_neg (by omega)⟩
        · rintro ⟨a, ha, e⟩
          split at e
          · omega
          · exact ⟨a, by omega, e⟩
  · have hfe : fndS k (R, d) = R.length := by omega
    rw [stepB_none (s := (R, d)) hfe]
    refine ⟨pv, h.to, h.of, fun r hr hr2 j hj => ?_, fun a ha => by have := h.lt a ha; omega, h.one, h.lead, h.alone, fun j hj => ?_⟩
    · by_cases hjk : j = k
      · subst hjk
        have hr3 : r < R.length := hr2
        exact fnd_z (rows := R) (k := j) (f := R.length - d) (i := d) hr (by
          have : fndS j (R, d) = fnd R j (R.length - d) d := rfl
          omega)
      · exact h.low r hr hr2 j (by omega)
    · by_cases hjk : j = k
      · subst hjk
        rw [hfl, decide_eq_true_eq]
        constructor
        · intro h; exact absurd h (by omega)
        · rintro ⟨a, ha, e⟩
          have := h.lt a ha
          omega
      · exact h.flag j (by omega)

theorem ech_all {p : Int} (hp : primeB p = true) {n : Nat} {rows : List (List Int)} (ht : TabP p n rows) : ∀ k, ∃ pv, Ech p n rows k (colsS p rows k).1 (colsS p rows k).2 pv
  | 0 => ⟨fun _ => 0, fun _ h => h, fun _ h => h, fun _ _ _ j hj => by omega, fun i hi => absurd hi (Nat.not_lt_zero _), fun i hi => absurd hi (Nat.not_lt_zero _), fun i hi => absurd hi (Nat.not_lt_zero _), fun i hi => absurd hi (Nat.not_lt_zero _), fun j hj => by omega⟩
  | k + 1 => by
    obtain ⟨pv, h⟩ := ech_all hp ht k
    exact ech_step hp ht h
end Go.Proofs.Ytcgghjhccnjeoaa
