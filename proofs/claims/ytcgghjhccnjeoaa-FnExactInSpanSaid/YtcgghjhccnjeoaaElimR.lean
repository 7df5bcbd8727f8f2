/- Plain: a vector is a sum of multiples of rows if it adds no lead, and if the turned system has no lead in its last column. No program in sight. -/
import Derived.Test.YtcgghjhccnjeoaaElimQ
namespace Go.Proofs.Ytcgghjhccnjeoaa
set_option linter.unusedVariables false

theorem spn_over {p : Int} {n : Nat} {rows : List (List Int)} (ht : TabP p n rows) {u : Nat → Int} (h : Spn p rows u) {j : Nat} (hj : n ≤ j) : p ∣ u j :=
  Spn.ind (P := fun u => p ∣ u j) ⟨0, by simp⟩ (fun _ _ => Int.dvd_add) (fun a u h => Int.dvd_mul_of_dvd_right h) (fun u v h e => by
    have := Int.dvd_add h (e j)
    rwa [show u j + (v j - u j) = v j by omega] at this) (fun i hi => by rw [ent_over (by rw [(ht.at_ hi).1]; exact hj)]; exact ⟨0, by simp⟩) h

theorem flg_iff {p : Int} (hp : primeB p = true) {n t : Nat} {rows : List (List Int)} (ht : TabP p n rows) (htn : t < n) :
    flg p rows t = true ↔ ∃ u, Spn p rows u ∧ (∀ j, j < t → p ∣ u j) ∧ ¬ p ∣ u t := by
  have hlo := prime_lo hp
  obtain ⟨pv, h⟩ := ech_all hp ht n
  have hdl : (colsS p rows n).2 ≤ (colsS p rows n).1.length := by rw [colsS_len]; exact colsS_done p rows n
  have htab := colsS_tab (show 0 < p by omega) ht n
  generalize (colsS p rows n).1 = R at *
  generalize (colsS p rows n).2 = d at *
  rw [h.flag t htn]
  constructor
  · rintro ⟨i, hi, rfl⟩
    refine ⟨ent (rowAt R i), h.of _ (Spn.row (by omega)), fun j hj => ?_, ?_⟩
    · rw [h.lead i hi j hj]; exact ⟨0, by simp⟩
    · rw [h.one i hi]
      rintro ⟨q, hq⟩
      have := Int.emod_emod_of_dvd 1 (Int.dvd_refl p)
      have h1 : (1 : Int) % p = 0 := by rw [hq]; simp
      rw [Int.emod_eq_of_lt (by omega) (by omega)] at h1
      omega
  · rintro ⟨u, hu, hz, hnz⟩
    obtain ⟨c, hc⟩ := h.to u hu
    apply Classical.byContradiction
    intro hno
    refine hnz ?_
    have hs : p ∣ sumI R.length fun i => c i * ent (rowAt R i) t := by
      refine sumI_dvd fun i hi => ?_
      by_cases hid : i < d
      · have hne : pv i ≠ t := fun e => hno ⟨i, hid, e⟩
        by_cases hlt : pv i < t
        · have h1 := Int.dvd_sub (hz _ hlt) (hc (pv i))
          rw [sumI_one (t := i) hi fun r hr hne => by rw [h.alone i hid r hr hne]; simp] at h1
          rw [h.one i hid, Int.mul_one] at h1
          rw [show u (pv i) - (u (pv i) - c i) = c i by omega] at h1
          exact Int.dvd_mul_of_dvd_left h1
        · rw [h.lead i hid t (by omega)]; exact ⟨0, by simp⟩
      · rw [h.low i (by omega) hi t htn]; exact ⟨0, by simp⟩
    have := Int.dvd_add hs (hc t)
    rwa [show (sumI R.length fun i => c i * ent (rowAt R i) t) + (u t - sumI R.length fun i => c i * ent (rowAt R i) t) = u t by omega] at this

theorem count_le {p : Int} {rows rows' : List (List Int)} : ∀ k, (∀ t, t < k → flg p rows t = true → flg p rows' t = true) → (colsS p rows k).2 ≤ (colsS p rows' k).2 ∧ ((colsS p rows' k).2 ≤ (colsS p rows k).2 → ∀ t, t < k → flg p rows' t = true → flg p rows t = true)
  | 0, _ => ⟨Nat.le_refl _, fun _ t ht => by omega⟩
  | k + 1, h => by
    obtain ⟨h1, h2⟩ := count_le k fun t ht => h t (by omega)
    have hk := h k (by omega)
    rw [colsS_count p rows k, colsS_count p rows' k]
    cases e : flg p rows k with
    | true =>
      rw [hk e]
      refine ⟨by simp; omega, fun h3 t ht hf => ?_⟩
      by_cases htk : t = k
      · subst htk; exact e
      · exact h2 (by simp at h3; omega) t (by omega) hf
    | false =>
      cases e' : flg p rows' k with
      | true => exact ⟨by simp; omega, fun h3 => by simp at h3; omega⟩
      | false =>
        refine ⟨by simp; omega, fun h3 t ht hf => ?_⟩
        by_cases htk : t = k
        · subst htk; rw [e'] at hf; cases hf
        · exact h2 (by simp at h3; omega) t (by omega) hf

theorem rowAt_app {list : List (List Int)} {v : List Int} {i : Nat} (hi : i < list.length) : rowAt (list ++ [v]) i = rowAt list i := by
  unfold rowAt; rw [List.getElem?_append_left hi]
theorem rowAt_last (list : List (List Int)) (v : List Int) : rowAt (list ++ [v]) list.length = v := rowAt_of (by simp)
theorem TabP.app {p : Int} {n : Nat} {list : List (List Int)} {v : List Int} (h : TabP p n list) (h1 : v.length = n) (h2 : numsB p v = true) : TabP p n (list ++ [v]) := fun x hx => by
  rcases List.mem_append.1 hx with hx | hx
  · exact h x hx
  · simp at hx; subst hx; exact ⟨h1, h2⟩
theorem spn_up {p : Int} {list : List (List Int)} {v : List Int} {u : Nat → Int} (h : Spn p list u) : Spn p (list ++ [v]) u :=
  Spn.sub (fun i hi => by rw [← rowAt_app (v := v) hi]; exact Spn.row (by simp; omega)) h
theorem spn_down {p : Int} {list : List (List Int)} {v : List Int} {u : Nat → Int} (hv : Spn p list (ent v)) (h : Spn p (list ++ [v]) u) : Spn p list u :=
  Spn.sub (fun i hi => by
    simp at hi
    by_cases e : i < list.length
    · rw [rowAt_app e]; exact Spn.row e
    · obtain rfl : i = list.length := by omega
      rw [rowAt_last]; exact hv) h

/-- a vector adds no lead exactly if it is a sum of multiples -/
theorem adds_iff {p : Int} (hp : primeB p = true) {n : Nat} {list : List (List Int)} {v : List Int} (ht : TabP p n list) (h1 : v.length = n) (h2 : numsB p v = true) :
    (colsS p (list ++ [v]) n).2 = (colsS p list n).2 ↔ Spn p list (ent v) := by
  have ht2 := ht.app h1 h2
  have hup : ∀ t, t < n → flg p list t = true → flg p (list ++ [v]) t = true := fun t htn hf => by
    obtain ⟨u, hu, hz⟩ := (flg_iff hp ht htn).1 hf
    exact (flg_iff hp ht2 htn).2 ⟨u, spn_up hu, hz⟩
  constructor
  · intro hc
    have hdn := (count_le n hup).2 (by omega)
    have all : ∀ m k, k + m = n → ∀ w, Spn p (list ++ [v]) w → (∀ j, j < k → p ∣ w j) → Spn p list w := fun m => by
      induction m with
      | zero =>
        intro k hk w hw hz
        refine (Spn.zero p list).cong fun j => ?_
        rw [Int.sub_zero]
        by_cases hj : j < k
        · exact hz j hj
        · exact spn_over ht2 hw (by omega)
      | succ m ih =>
        intro k hk w hw hz
        by_cases hwk : p ∣ w k
        · refine ih (k + 1) (by omega) w hw fun j hj => ?_
          by_cases e : j = k
          · subst e; exact hwk
          · exact hz j (by omega)
        · have hf := hdn k (by omega) ((flg_iff hp ht2 (by omega)).2 ⟨w, hw, hz, hwk⟩)
          obtain ⟨u, hu, huz, huk⟩ := (flg_iff hp ht (by omega)).1 hf
          obtain ⟨b, hb⟩ := inv_ex hp huk
          have h3 := ih (k + 1) (by omega) (fun j => w j + -(w k * b) * u j) (hw.add ((spn_up hu).smul _)) fun j hj => by
            by_cases e : j = k
            · subst e
              have : p ∣ -(w j) * (u j * b - 1) := Int.dvd_mul_of_dvd_right hb
              rwa [show -(w j) * (u j * b - 1) = w j + -(w j * b) * u j by grind] at this
            · exact Int.dvd_add (hz j (by omega)) (Int.dvd_mul_of_dvd_right (huz j (by omega)))
          refine (h3.add (hu.smul (w k * b))).cong fun j => ⟨0, ?_⟩
          rw [Int.neg_mul]; omega
    exact all n 0 (by omega) _ (by
      have := Spn.row (p := p) (rows := list ++ [v]) (i := list.length) (by simp)
      rwa [rowAt_last] at this) fun j hj => by omega
  · intro hs
    have hdn : ∀ t, t < n → flg p (list ++ [v]) t = true → flg p list t = true := fun t htn hf => by
      obtain ⟨u, hu, hz⟩ := (flg_iff hp ht2 htn).1 hf
      exact (flg_iff hp ht htn).2 ⟨u, spn_down hs hu, hz⟩
    exact Nat.le_antisymm (count_le n hdn).1 (count_le n hup).1

def dotI (n : Nat) (c v : Nat → Int) : Int := sumI n fun j => c j * v j
theorem dotI_add (n : Nat) (c u v : Nat → Int) : dotI n c (fun j => u j + v j) = dotI n c u + dotI n c v := by
  unfold dotI; rw [← sumI_add]; exact sumI_congr fun i _ => Int.mul_add _ _ _
theorem dotI_smul (n : Nat) (a : Int) (c v : Nat → Int) : dotI n c (fun j => a * v j) = a * dotI n c v := by
  unfold dotI; rw [← sumI_mul]; exact sumI_congr fun i _ => by grind
theorem dotI_comm (n : Nat) (c v : Nat → Int) : dotI n c v = dotI n v c := by
  unfold dotI; exact sumI_congr fun i _ => Int.mul_comm _ _
theorem dotI_cong {p : Int} {n : Nat} {c u v : Nat → Int} (e : ∀ j, p ∣ v j - u j) (h : p ∣ dotI n c u) : p ∣ dotI n c v := by
  have h1 : p ∣ dotI n c fun j => v j + -1 * u j := sumI_dvd fun i _ => Int.dvd_mul_of_dvd_right (by
    have := e i
    show p ∣ v i + -1 * u i
    rwa [show v i + -1 * u i = v i - u i by omega])
  rw [dotI_add, dotI_smul] at h1
  have := Int.dvd_add h1 h
  rwa [show dotI n c v + -1 * dotI n c u + dotI n c u = dotI n c v by omega] at this
theorem spn_dot {p : Int} {n : Nat} {rows : List (List Int)} {c v : Nat → Int} (hr : ∀ i, i < rows.length → p ∣ dotI n c (ent (rowAt rows i))) (h : Spn p rows v) : p ∣ dotI n c v :=
  Spn.ind (P := fun v => p ∣ dotI n c v) (sumI_dvd fun i _ => ⟨0, by simp⟩) (fun u v h k => by rw [dotI_add]; exact Int.dvd_add h k) (fun a u h => by rw [dotI_smul]; exact Int.dvd_mul_of_dvd_right h) (fun u v h e => dotI_cong e h) hr h
theorem rowAt_cons (u : List Int) (l : List (List Int)) (i : Nat) : rowAt (u :: l) (i + 1) = rowAt l i := rfl
theorem spn_cons {p : Int} {u : List Int} {l : List (List Int)} {v : Nat → Int} (h : Spn p l v) : Spn p (u :: l) v :=
  Spn.sub (fun i hi => by rw [← rowAt_cons u l i]; exact Spn.row (by simp; omega)) h

/-- what is no sum of multiples is told from the rows by a product -/
theorem dual_ex {p : Int} (hp : primeB p = true) {n : Nat} : ∀ (l : List (List Int)), (∀ r ∈ l, r.length = n) → ∀ v : Nat → Int, (∀ j, n ≤ j → p ∣ v j) → ¬ Spn p l v →
    ∃ c : Nat → Int, (∀ i, i < l.length → p ∣ dotI n c (ent (rowAt l i))) ∧ ¬ p ∣ dotI n c v
  | [], _, v, hv, h => by
    apply Classical.byContradiction
    intro hno
    refine h ((Spn.zero p []).cong fun j => ?_)
    rw [Int.sub_zero]
    by_cases hj : j < n
    · apply Classical.byContradiction
      intro hpj
      refine hno ⟨fun t => if t = j then 1 else 0, fun i hi => absurd hi (Nat.not_lt_zero _), ?_⟩
      unfold dotI
      rw [sumI_one (t := j) hj fun t _ hne => by simp [hne]]
      simpa using hpj
    · exact hv j (by omega)
  | u :: l, hl, v, hv, h => by
    have hl' : ∀ r ∈ l, r.length = n := fun r hr => hl r (List.mem_cons_of_mem _ hr)
    have hul : u.length = n := hl u List.mem_cons_self
    have hu0 : Spn p (u :: l) (ent u) := Spn.row (rows := u :: l) (i := 0) (by simp)
    by_cases hu : Spn p l (ent u)
    · obtain ⟨c, hc, hcv⟩ := dual_ex hp l hl' v hv fun k => h (spn_cons k)
      refine ⟨c, fun i hi => ?_, hcv⟩
      cases i with
      | zero => exact spn_dot hc hu
      | succ i => exact hc i (by simpa using hi)
    · obtain ⟨c1, h1, h1u⟩ := dual_ex hp l hl' (ent u) (fun j hj => by rw [ent_over (by omega)]; exact ⟨0, by simp⟩) hu
      obtain ⟨b, hb⟩ := inv_ex hp h1u
      obtain ⟨c2, h2, h2v⟩ := dual_ex hp l hl' (fun j => v j + -(dotI n c1 v * b) * ent u j) (fun j hj => Int.dvd_add (hv j hj) (by rw [ent_over (by omega)]; exact ⟨0, by simp⟩)) fun k => h (by
        refine ((spn_cons k).add (hu0.smul (dotI n c1 v * b))).cong fun j => ⟨0, ?_⟩
        rw [Int.neg_mul]; omega)
      have hlin : ∀ w : Nat → Int, dotI n (fun j => c2 j + -(dotI n c2 (ent u) * b) * c1 j) w = dotI n c2 w + -(dotI n c2 (ent u) * b) * dotI n c1 w := fun w => by
        rw [dotI_comm, dotI_add, dotI_smul, dotI_comm n w c2, dotI_comm n w c1]
      refine ⟨fun j => c2 j + -(dotI n c2 (ent u) * b) * c1 j, fun i hi => ?_, ?_⟩
      · rw [hlin]
        cases i with
        | zero =>
          show p ∣ dotI n c2 (ent u) + -(dotI n c2 (ent u) * b) * dotI n c1 (ent u)
          have : p ∣ -(dotI n c2 (ent u)) * (dotI n c1 (ent u) * b - 1) := Int.dvd_mul_of_dvd_right hb
          rwa [show -(dotI n c2 (ent u)) * (dotI n c1 (ent u) * b - 1) = dotI n c2 (ent u) + -(dotI n c2 (ent u) * b) * dotI n c1 (ent u) by grind] at this
        | succ i =>
          have hi' : i < l.length := by simpa using hi
          exact Int.dvd_add (h2 i hi') (Int.dvd_mul_of_dvd_right (h1 i hi'))
      · rw [hlin]
        rw [dotI_add, dotI_smul] at h2v
        rwa [show -(dotI n c1 v * b) * dotI n c2 (ent u) = -(dotI n c2 (ent u) * b) * dotI n c1 v by grind] at h2v

/-- rows and columns exchanged -/
def turnL (n : Nat) (list : List (List Int)) : List (List Int) := (List.range n).map fun j => list.map fun r => ent r j
/-- the turned system with its right sides -/
def augL (n : Nat) (list : List (List Int)) (v : List Int) : List (List Int) := (List.range n).map fun j => (list.map fun r => ent r j) ++ [ent v j]
theorem augL_len (n : Nat) (list : List (List Int)) (v : List Int) : (augL n list v).length = n := by simp [augL]
theorem augL_at {n : Nat} {list : List (List Int)} {v : List Int} {j : Nat} (hj : j < n) : rowAt (augL n list v) j = (list.map fun r => ent r j) ++ [ent v j] :=
  rowAt_of (by unfold augL; rw [List.getElem?_map, List.getElem?_range hj]; rfl)
theorem augL_ent {n : Nat} {list : List (List Int)} {v : List Int} {i j : Nat} (hj : j < n) (hi : i < list.length) : ent (rowAt (augL n list v) j) i = ent (rowAt list i) j := by
  rw [augL_at hj]
  exact ent_of (by rw [List.getElem?_append_left (by simpa using hi), List.getElem?_map, rowAt_get hi]; rfl)
theorem augL_last {n : Nat} {list : List (List Int)} {v : List Int} {j : Nat} (hj : j < n) : ent (rowAt (augL n list v) j) list.length = ent v j := by
  rw [augL_at hj]
  exact ent_of (by simp)
theorem augL_tab {p : Int} (hp : 0 < p) {n : Nat} {list : List (List Int)} {v : List Int} (ht : TabP p n list) (h2 : numsB p v = true) : TabP p (list.length + 1) (augL n list v) := fun x hx => by
  obtain ⟨j, _, rfl⟩ := List.mem_map.1 hx
  refine ⟨by simp, List.all_eq_true.2 fun y hy => ?_⟩
  rcases List.mem_append.1 hy with hy | hy
  · obtain ⟨r, hr, rfl⟩ := List.mem_map.1 hy
    exact numB_iff.2 (numsB_ent0 hp (ht r hr).2 j)
  · simp at hy
    subst hy
    exact numB_iff.2 (numsB_ent0 hp h2 j)

theorem aug_iff {p : Int} (hp : primeB p = true) {n : Nat} {list : List (List Int)} {v : List Int} (ht : TabP p n list) (h1 : v.length = n) (h2 : numsB p v = true) :
    flg p (augL n list v) list.length = true ↔ ¬ Spn p list (ent v) := by
  have hlo := prime_lo hp
  rw [flg_iff hp (augL_tab (by omega) ht h2) (Nat.lt_succ_self _)]
  have hsum : ∀ (c : Nat → Int) (i : Nat), i < list.length → (sumI (augL n list v).length fun j => c j * ent (rowAt (augL n list v) j) i) = dotI n c (ent (rowAt list i)) := fun c i hi => by
    rw [augL_len]; exact sumI_congr fun j hj => by rw [augL_ent hj hi]
  have hlast : ∀ c : Nat → Int, (sumI (augL n list v).length fun j => c j * ent (rowAt (augL n list v) j) list.length) = dotI n c (ent v) := fun c => by
    rw [augL_len]; exact sumI_congr fun j hj => by rw [augL_last hj]
  constructor
  · rintro ⟨u, ⟨c, hc⟩, hz, hnz⟩ hs
    refine hnz ?_
    have hd : p ∣ dotI n c (ent v) := spn_dot (fun i hi => by
      have := Int.dvd_sub (hz i hi) (hc i)
      rwa [hsum c i hi, show u i - (u i - dotI n c (ent (rowAt list i))) = dotI n c (ent (rowAt list i)) by omega] at this) hs
    have := hc list.length
    rw [hlast c] at this
    have := Int.dvd_add this hd
    rwa [show u list.length - dotI n c (ent v) + dotI n c (ent v) = u list.length by omega] at this
  · intro hs
    obtain ⟨c, hc, hcv⟩ := dual_ex hp list (fun r hr => (ht r hr).1) (ent v) (fun j hj => by rw [ent_over (by omega)]; exact ⟨0, by simp⟩) hs
    refine ⟨fun i => sumI (augL n list v).length fun j => c j * ent (rowAt (augL n list v) j) i, ⟨c, fun j => ⟨0, by simp⟩⟩, fun i hi => ?_, ?_⟩
    · show p ∣ sumI (augL n list v).length fun j => c j * ent (rowAt (augL n list v) j) i
      rw [hsum c i hi]; exact hc i hi
    · show ¬ p ∣ sumI (augL n list v).length fun j => c j * ent (rowAt (augL n list v) j) list.length
      rw [hlast c]; exact hcv

/-- is a vector a sum of multiples -/
def inspB (p : Int) (list : List (List Int)) (v : List Int) : Bool := decide ((basisN p (list ++ [v])).length = (basisN p list).length)
theorem insp_aug {p : Int} (hp : primeB p = true) {n : Nat} {list : List (List Int)} {v : List Int} (h0 : 0 < list.length) (ht : TabP p n list) (h1 : v.length = n) (h2 : numsB p v = true) :
    flg p (augL n list v) list.length = !inspB p list v := by
  have e1 : (rowAt list 0).length = n := (ht.at_ h0).1
  have e2 : (rowAt (list ++ [v]) 0).length = n := by rw [rowAt_app h0]; exact e1
  have ha := adds_iff hp ht h1 h2
  have hb := aug_iff hp ht h1 h2
  unfold inspB
  rw [basisN_len, basisN_len, e1, e2]
  by_cases hs : Spn p list (ent v)
  · rw [decide_eq_true (ha.2 hs)]
    cases e : flg p (augL n list v) list.length with
    | false => rfl
    | true => exact absurd hs (hb.1 e)
  · rw [decide_eq_false (fun e => hs (ha.1 e)), hb.2 hs]; rfl

/-- the lead of a row -/
def Lead (row : List Int) (k : Nat) : Prop := ent row k ≠ 0 ∧ ∀ j, j < k → ent row j = 0
/-- every row of the reduced rows has a lead; some lead stands at t exactly if the column has one -/
theorem basis_leads {p : Int} (hp : primeB p = true) {n : Nat} {rows : List (List Int)} (ht : TabP p n rows) (hn : rows.length = 0 ∨ (rowAt rows 0).length = n) :
    ∃ pv : Nat → Nat, (∀ i, i < (basisN p rows).length → pv i < n ∧ Lead (rowAt (basisN p rows) i) (pv i)) ∧ ∀ t, t < n → (flg p rows t = true ↔ ∃ i, i < (basisN p rows).length ∧ pv i = t) := by
  rcases hn with h0 | hn
  · have e0 : rows = [] := List.eq_nil_of_length_eq_zero h0
    subst e0
    refine ⟨fun _ => 0, fun i hi => ?_, fun t ht => ?_⟩
    · rw [basisN_nil] at hi; exact absurd hi (Nat.not_lt_zero _)
    · rw [basisN_nil]
      unfold flg
      rw [colsS_len]
      simp
  obtain ⟨pv, h⟩ := ech_all hp ht n
  have hdl : (colsS p rows n).2 ≤ (colsS p rows n).1.length := by rw [colsS_len]; exact colsS_done p rows n
  have hlen : (basisN p rows).length = (colsS p rows n).2 := by rw [basisN_len, hn]
  rw [hlen]
  refine ⟨pv, fun i hi => ⟨h.lt i hi, ?_⟩, h.flag⟩
  have e : rowAt (basisN p rows) i = rowAt (colsS p rows n).1 i := by
    unfold basisN
    rw [hn]
    unfold rowAt
    rw [List.getElem?_take_of_lt hi]
  rw [e]
  exact ⟨by rw [h.one i hi]; decide, h.lead i hi⟩
end Go.Proofs.Ytcgghjhccnjeoaa
