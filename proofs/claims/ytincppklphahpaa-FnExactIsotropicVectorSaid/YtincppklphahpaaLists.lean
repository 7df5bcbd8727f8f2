/- Contracts: a list of lists as argument; the codes of a space and lists. Conditions stand in each theorem. -/
import Derived.Test.YtincppklphahpaaMulti
namespace Go.Proofs.Ytincppklphahpaa
open Go.RowKit
set_option linter.unusedVariables false

/-- a slice of slices of integers read as a list of lists -/
def Lists (w : World) (L : Option Addr) (m : Nat) (vs : List (List Int)) : Prop :=
  vs.length = m ∧ m ≤ 1000 ∧ (0 < m → ∃ b off, L = some ⟨b, off, none⟩ ∧ b < w.heap.size ∧ ∀ j v, vs[j]? = some v → ∃ B n c, w.cell? ⟨b, off + j, none⟩ = some (.slice B n c) ∧ Ints w B n v)
theorem Lists.keep {w w' : World} {L : Option Addr} {m : Nat} {vs : List (List Int)} (h : Lists w L m vs) (hb : Below w.heap.size w w') : Lists w' L m vs :=
  ⟨h.1, h.2.1, fun hm => by
    obtain ⟨b, off, e, hl, hc⟩ := h.2.2 hm
    refine ⟨b, off, e, Nat.lt_of_lt_of_le hl hb.size, fun j v hj => ?_⟩
    obtain ⟨B, n, c, h1, h2⟩ := hc j v hj
    exact ⟨B, n, c, keep_cell hb h1, h2.keep hb⟩⟩
theorem Lists.at_ {w : World} {L : Option Addr} {m k : Nat} {vs : List (List Int)} (h : Lists w L m vs) (hk : k < m) :
    ∃ b off v B n c, L = some ⟨b, off, none⟩ ∧ vs[k]? = some v ∧ w.cell? ⟨b, off + k, none⟩ = some (.slice B n c) ∧ Ints w B n v := by
  obtain ⟨b, off, e, hl, hc⟩ := h.2.2 (by omega)
  have hx : vs[k]? = some (vs[k]'(by have := h.1; omega)) := List.getElem?_eq_getElem _
  obtain ⟨B, n, c, h1, h2⟩ := hc k _ hx
  exact ⟨b, off, _, B, n, c, e, hx, h1, h2⟩
theorem Lists.nil (w : World) : Lists w none 0 [] := ⟨rfl, by omega, fun h => absurd h (by omega)⟩
theorem Lists.mk1 {w : World} {B : Option Addr} {n c : Nat} {v : List Int} (t : TypeId) (b : Nat) (hb : b = w.heap.size) (h : Ints w B n v) : Lists (w.alloc (.cells #[.slice B n c] t)) (some ⟨b, 0, none⟩) 1 [v] :=
  ⟨rfl, by omega, fun _ => ⟨_, 0, rfl, by simp [hb], fun j u hj => by
    subst hb
    rcases j with _ | j
    · simp at hj; subst hj; exact ⟨B, n, c, by simp [go_sem], h.keep ((Below.refl _ _).alloc (Nat.le_refl _) _)⟩
    · simp at hj⟩⟩
theorem Lists.mk2 {w : World} {B C : Option Addr} {n c m d : Nat} {u v : List Int} (t : TypeId) (b : Nat) (hb : b = w.heap.size) (h : Ints w B n u) (k : Ints w C m v) : Lists (w.alloc (.cells #[.slice B n c, .slice C m d] t)) (some ⟨b, 0, none⟩) 2 [u, v] :=
  ⟨rfl, by omega, fun _ => ⟨_, 0, rfl, by simp [hb], fun j x hj => by
    subst hb
    rcases j with _ | _ | j
    · simp at hj; subst hj; exact ⟨B, n, c, by simp [go_sem], h.keep ((Below.refl _ _).alloc (Nat.le_refl _) _)⟩
    · simp at hj; subst hj; exact ⟨C, m, d, by simp [go_sem], k.keep ((Below.refl _ _).alloc (Nat.le_refl _) _)⟩
    · simp at hj⟩⟩
theorem all_step {p : Int} {N k : Nat} {v : List Int} {vs : List (List Int)} (hk : vs[k]? = some v) (h : (vs.take k).all (lstB p N) = true) (hv : lstB p N v = true) : (vs.take (k + 1)).all (lstB p N) = true := by
  rw [take_snoc hk, List.all_append, h]; simpa using hv
theorem all_bad {p : Int} {N k : Nat} {v : List Int} {vs : List (List Int)} (hk : vs[k]? = some v) (hv : lstB p N v = false) : vs.all (lstB p N) = false := by
  cases e : vs.all (lstB p N) with
  | false => rfl
  | true => have := List.all_eq_true.1 e _ (List.mem_of_getElem? hk); rw [hv] at this; cases this

theorem checkVectors_1 (p : Int) (A B : Option Addr) (n c m d g : Nat) (ys : List Int) (w : World) (hy : Ints w B m ys) (hn6 : n ≤ 6) (h0 : 3 ≤ p) (h1 : p ≤ 13)
    (c0 : w.cell? ⟨g, 0, none⟩ = some (.int .i64 p)) (c1 : w.cell? ⟨g, 1, none⟩ = some (.slice A n c)) :
    Calls Try.prog 90 #[.slice B m d, .pointer (some ⟨g, 0, none⟩)] w fun e w' => e = .returned (.bool (!lstB p n ys)) ∧ Below w.heap.size w w' := by
  have HY := Lib.hid hy
  clear hy
  go_enter Try.func90, Try.ntmps90
  go_wp2_with fail
  refine (Space_isVector _ _ _ _ _ _ _ ys _ HY.out hn6 h0 h1).mono ?_
  rintro e v ⟨rfl, hb⟩
  go_wp2_with fail
  go_ret
  exact ⟨rfl, hb⟩

theorem IndexFunc_checkVectors (p : Int) (A L : Option Addr) (n c m d g : Nat) (vs : List (List Int)) (w : World) (hl : Lists w L m vs) (hn6 : n ≤ 6) (h0 : 3 ≤ p) (h1 : p ≤ 13)
    (c0 : w.cell? ⟨g, 0, none⟩ = some (.int .i64 p)) (c1 : w.cell? ⟨g, 1, none⟩ = some (.slice A n c)) :
    Calls Try.prog 104 #[.slice L m d, .func (.func 90) #[] #[.pointer (some ⟨g, 0, none⟩)]] w fun e w' => ∃ r : Int, e = .returned (.int .i64 r) ∧ -1 ≤ r ∧ r ≤ 1000 ∧ (0 ≤ r ↔ vs.all (lstB p n) = false) ∧ Below w.heap.size w w' := by
  have HL := Lib.hid hl
  have hm := hl.2.1
  clear hl
  go_enter Try.func104, Try.ntmps104
  go_wp2
  go_loopw [8] (fun i wr => ∃ k : Nat, k ≤ m ∧ i = .int .i64 k ∧ (vs.take k).all (lstB p n) = true ∧ Below w.heap.size w wr) (fun i _ => m - (intOf i).toNat)
  case atStart => exact ⟨0, Nat.zero_le _, rfl, rfl, Below.refl _ _⟩
  case round =>
    obtain ⟨k, hk, rfl, hall, hbel⟩ := hrel
    have HA := Lib.hid hall
    have HB := Lib.hid hbel
    have e0 := keep_cell hbel c0
    have e1 := keep_cell hbel c1
    clear hall hbel c0 c1
    by_cases hlt : k < m
    · obtain ⟨b, off, v, B, q, cq, rfl, hvk, hcell, hints⟩ := (HL.out.keep HB.out).at_ hlt
      have HK := Lib.hid hvk
      have HI := Lib.hid hints
      clear hvk hints
      cases hv : lstB p n v with
      | true =>
        have HV := Lib.hid hv
        clear hv
        go_wp2_with fail
        refine (checkVectors_1 p A _ n c _ _ g v _ HI.out hn6 h0 h1 e0 e1).mono ?_
        rw [HV.out]
        rintro e v1 ⟨rfl, hb⟩
        replace HB := Lib.hid (below_then HB.out hb)
        clear hb
        go_wp2_with fail
        go_roundw
        case rel => exact ⟨k + 1, by omega, by go_num, all_step HK.out HA.out HV.out, HB.out⟩
        case measure => simp [intOf]; omega
      | false =>
        have HV := Lib.hid hv
        clear hv
        go_wp2_with fail
        refine (checkVectors_1 p A _ n c _ _ g v _ HI.out hn6 h0 h1 e0 e1).mono ?_
        rw [HV.out]
        rintro e v1 ⟨rfl, hb⟩
        replace HB := Lib.hid (below_then HB.out hb)
        clear hb
        go_wp2_with fail
        go_ret
        exact ⟨k, rfl, by omega, by omega, ⟨fun _ => all_bad HK.out HV.out, fun _ => by omega⟩, HB.out⟩
    · obtain rfl : k = m := by omega
      go_wp2
      go_ret
      exact ⟨-1, rfl, by omega, by omega, ⟨fun h => by omega, fun h => by
        have := HA.out; rw [List.take_of_length_le (by have := HL.out.1; omega), h] at this; cases this⟩, HB.out⟩

theorem ContainsFunc_checkVectors (p : Int) (A L : Option Addr) (n c m d g : Nat) (vs : List (List Int)) (w : World) (hl : Lists w L m vs) (hn6 : n ≤ 6) (h0 : 3 ≤ p) (h1 : p ≤ 13)
    (c0 : w.cell? ⟨g, 0, none⟩ = some (.int .i64 p)) (c1 : w.cell? ⟨g, 1, none⟩ = some (.slice A n c)) :
    Calls Try.prog 89 #[.slice L m d, .func (.func 90) #[] #[.pointer (some ⟨g, 0, none⟩)]] w fun e w' => e = .returned (.bool (!vs.all (lstB p n))) ∧ Below w.heap.size w w' := by
  have HL := Lib.hid hl
  clear hl
  go_enter Try.func89, Try.ntmps89
  go_wp2_with fail
  refine (IndexFunc_checkVectors p A _ n c _ _ g vs _ HL.out hn6 h0 h1 c0 c1).mono ?_
  rintro e v ⟨r, rfl, hr0, hr1, hr, hb⟩
  have HR := Lib.hid hr
  clear hr
  by_cases h : (0 : Int) ≤ r
  · go_wp2
    go_ret
    exact ⟨ret_bool (by rw [HR.out.1 h]; rfl), hb⟩
  · have HV := Lib.hid (show vs.all (lstB p n) = true by
      cases e : vs.all (lstB p n) with
      | true => rfl
      | false => exact absurd (HR.out.2 e) h)
    go_wp2
    go_ret
    exact ⟨ret_bool (by rw [HV.out]; exact decide_eq_false (by omega)), hb⟩

theorem impl_checkVectors (p : Int) (A L : Option Addr) (n c m d : Nat) (xs : List Int) (vs : List (List Int)) (w : World) (hx : Ints w A n xs) (hl : Lists w L m vs) :
    Calls Try.prog 57 #[.agg #[.int .i64 p, .slice A n c], .slice L m d] w fun e w' => e = .returned (.int .i64 (codeS p xs n vs)) ∧ Below w.heap.size w w' := by
  have HX := Lib.hid hx
  have hm := hx.2.1
  have HN := Lib.hid hx.1
  clear hx
  unfold maxLen at hm
  have H2 := Lib.hid (show Below w.heap.size w (w.alloc (.cells #[.int .i64 p, .slice A n c] 28)) from (Below.refl _ _).alloc (Nat.le_refl _) _)
  have HL := Lib.hid hl
  clear hl
  by_cases hs : spaceB p xs = true
  · obtain ⟨hp, hl0, hl1, hn⟩ := spaceB_true hs
    rw [HN.out] at hl0 hl1
    have h0 := prime_lo hp
    have h1 := prime_hi hp
    clear hp hn
    cases ha : vs.all (lstB p n) with
    | true =>
      have HC := Lib.hid (show codeS p xs n vs = 0 by simp [codeS, hs, ha])
      rw [HC.out]
      have HA := Lib.hid ha
      clear ha
      go_enter Try.func57, Try.ntmps57
      have c0 : (w.alloc (.cells #[.int .i64 p, .slice A n c] 28)).cell? ⟨w.heap.size, 0, none⟩ = some (.int .i64 p) := by simp [go_sem]
      have c1 : (w.alloc (.cells #[.int .i64 p, .slice A n c] 28)).cell? ⟨w.heap.size, 1, none⟩ = some (.slice A n c) := by simp [go_sem]
      have HW := Lib.hid (Below.refl (w.alloc (.cells #[.int .i64 p, .slice A n c] 28)).heap.size (w.alloc (.cells #[.int .i64 p, .slice A n c] 28)))
      go_wp2_with fail
      refine (impl_IsSpace _ _ _ _ xs _ (HX.out.keep (H2.out.trans (HW.out.mono H2.out.size)))).mono ?_
      rintro e v ⟨rfl, hb⟩
      replace c0 := keep_cell hb c0
      replace c1 := keep_cell hb c1
      replace HW := Lib.hid (below_then HW.out hb)
      clear hb
      go_wp2_with fail
      refine (ContainsFunc_checkVectors p A _ n c _ _ _ vs _ (HL.out.keep (H2.out.trans (HW.out.mono H2.out.size))) (by omega) h0 h1 c0 c1).mono ?_
      rw [HA.out]
      rintro e v ⟨rfl, hb⟩
      replace c0 := keep_cell hb c0
      replace c1 := keep_cell hb c1
      replace HW := Lib.hid (below_then HW.out hb)
      clear hb
      go_wp2_with fail
      go_ret
      exact ⟨rfl, (H2.out.trans (HW.out.mono H2.out.size))⟩
    | false =>
      have HC := Lib.hid (show codeS p xs n vs = 2 by simp [codeS, hs, ha])
      rw [HC.out]
      have HA := Lib.hid ha
      clear ha
      go_enter Try.func57, Try.ntmps57
      have c0 : (w.alloc (.cells #[.int .i64 p, .slice A n c] 28)).cell? ⟨w.heap.size, 0, none⟩ = some (.int .i64 p) := by simp [go_sem]
      have c1 : (w.alloc (.cells #[.int .i64 p, .slice A n c] 28)).cell? ⟨w.heap.size, 1, none⟩ = some (.slice A n c) := by simp [go_sem]
      have HW := Lib.hid (Below.refl (w.alloc (.cells #[.int .i64 p, .slice A n c] 28)).heap.size (w.alloc (.cells #[.int .i64 p, .slice A n c] 28)))
      go_wp2_with fail
      refine (impl_IsSpace _ _ _ _ xs _ (HX.out.keep (H2.out.trans (HW.out.mono H2.out.size)))).mono ?_
      rintro e v ⟨rfl, hb⟩
      replace c0 := keep_cell hb c0
      replace c1 := keep_cell hb c1
      replace HW := Lib.hid (below_then HW.out hb)
      clear hb
      go_wp2_with fail
      refine (ContainsFunc_checkVectors p A _ n c _ _ _ vs _ (HL.out.keep (H2.out.trans (HW.out.mono H2.out.size))) (by omega) h0 h1 c0 c1).mono ?_
      rw [HA.out]
      rintro e v ⟨rfl, hb⟩
      replace c0 := keep_cell hb c0
      replace c1 := keep_cell hb c1
      replace HW := Lib.hid (below_then HW.out hb)
      clear hb
      go_wp2_with fail
      go_ret
      exact ⟨rfl, (H2.out.trans (HW.out.mono H2.out.size))⟩
  · have hs' : spaceB p xs = false := by simpa using hs
    have HC := Lib.hid (show codeS p xs n vs = 1 by simp [codeS, hs'])
    rw [HC.out]
    clear hs
    go_enter Try.func57, Try.ntmps57
    have c0 : (w.alloc (.cells #[.int .i64 p, .slice A n c] 28)).cell? ⟨w.heap.size, 0, none⟩ = some (.int .i64 p) := by simp [go_sem]
    have c1 : (w.alloc (.cells #[.int .i64 p, .slice A n c] 28)).cell? ⟨w.heap.size, 1, none⟩ = some (.slice A n c) := by simp [go_sem]
    have HW := Lib.hid (Below.refl (w.alloc (.cells #[.int .i64 p, .slice A n c] 28)).heap.size (w.alloc (.cells #[.int .i64 p, .slice A n c] 28)))
    go_wp2_with fail
    refine (impl_IsSpace _ _ _ _ xs _ (HX.out.keep (H2.out.trans (HW.out.mono H2.out.size)))).mono ?_
    rintro e v ⟨rfl, hb⟩
    replace c0 := keep_cell hb c0
    replace c1 := keep_cell hb c1
    replace HW := Lib.hid (below_then HW.out hb)
    clear hb
    go_wp2_with fail
    go_ret
    exact ⟨rfl, (H2.out.trans (HW.out.mono H2.out.size))⟩

theorem checkMultis_1 (p : Int) (A B : Option Addr) (n c m d g : Nat) (ys : List Int) (w : World) (hy : Ints w B m ys) (hn6 : n ≤ 6) (h0 : 3 ≤ p) (h1 : p ≤ 13)
    (c0 : w.cell? ⟨g, 0, none⟩ = some (.int .i64 p)) (c1 : w.cell? ⟨g, 1, none⟩ = some (.slice A n c)) :
    Calls Try.prog 93 #[.slice B m d, .pointer (some ⟨g, 0, none⟩)] w fun e w' => e = .returned (.bool (!lstB p (2 ^ n) ys)) ∧ Below w.heap.size w w' := by
  have HY := Lib.hid hy
  clear hy
  go_enter Try.func93, Try.ntmps93
  go_wp2_with fail
  refine (Space_isMulti _ _ _ _ _ _ _ ys _ HY.out hn6 h0 h1).mono ?_
  rintro e v ⟨rfl, hb⟩
  go_wp2_with fail
  go_ret
  exact ⟨rfl, hb⟩

theorem IndexFunc_checkMultis (p : Int) (A L : Option Addr) (n c m d g : Nat) (vs : List (List Int)) (w : World) (hl : Lists w L m vs) (hn6 : n ≤ 6) (h0 : 3 ≤ p) (h1 : p ≤ 13)
    (c0 : w.cell? ⟨g, 0, none⟩ = some (.int .i64 p)) (c1 : w.cell? ⟨g, 1, none⟩ = some (.slice A n c)) :
    Calls Try.prog 104 #[.slice L m d, .func (.func 93) #[] #[.pointer (some ⟨g, 0, none⟩)]] w fun e w' => ∃ r : Int, e = .returned (.int .i64 r) ∧ -1 ≤ r ∧ r ≤ 1000 ∧ (0 ≤ r ↔ vs.all (lstB p (2 ^ n)) = false) ∧ Below w.heap.size w w' := by
  have HL := Lib.hid hl
  have hm := hl.2.1
  clear hl
  go_enter Try.func104, Try.ntmps104
  go_wp2
  go_loopw [8] (fun i wr => ∃ k : Nat, k ≤ m ∧ i = .int .i64 k ∧ (vs.take k).all (lstB p (2 ^ n)) = true ∧ Below w.heap.size w wr) (fun i _ => m - (intOf i).toNat)
  case atStart => exact ⟨0, Nat.zero_le _, rfl, rfl, Below.refl _ _⟩
  case round =>
    obtain ⟨k, hk, rfl, hall, hbel⟩ := hrel
    have HA := Lib.hid hall
    have HB := Lib.hid hbel
    have e0 := keep_cell hbel c0
    have e1 := keep_cell hbel c1
    clear hall hbel c0 c1
    by_cases hlt : k < m
    · obtain ⟨b, off, v, B, q, cq, rfl, hvk, hcell, hints⟩ := (HL.out.keep HB.out).at_ hlt
      have HK := Lib.hid hvk
      have HI := Lib.hid hints
      clear hvk hints
      cases hv : lstB p (2 ^ n) v with
      | true =>
        have HV := Lib.hid hv
        clear hv
        go_wp2_with fail
        refine (checkMultis_1 p A _ n c _ _ g v _ HI.out hn6 h0 h1 e0 e1).mono ?_
        rw [HV.out]
        rintro e v1 ⟨rfl, hb⟩
        replace HB := Lib.hid (below_then HB.out hb)
        clear hb
        go_wp2_with fail
        go_roundw
        case rel => exact ⟨k + 1, by omega, by go_num, all_step HK.out HA.out HV.out, HB.out⟩
        case measure => simp [intOf]; omega
      | false =>
        have HV := Lib.hid hv
        clear hv
        go_wp2_with fail
        refine (checkMultis_1 p A _ n c _ _ g v _ HI.out hn6 h0 h1 e0 e1).mono ?_
        rw [HV.out]
        rintro e v1 ⟨rfl, hb⟩
        replace HB := Lib.hid (below_then HB.out hb)
        clear hb
        go_wp2_with fail
        go_ret
        exact ⟨k, rfl, by omega, by omega, ⟨fun _ => all_bad HK.out HV.out, fun _ => by omega⟩, HB.out⟩
    · obtain rfl : k = m := by omega
      go_wp2
      go_ret
      exact ⟨-1, rfl, by omega, by omega, ⟨fun h => by omega, fun h => by
        have := HA.out; rw [List.take_of_length_le (by have := HL.out.1; omega), h] at this; cases this⟩, HB.out⟩

theorem ContainsFunc_checkMultis (p : Int) (A L : Option Addr) (n c m d g : Nat) (vs : List (List Int)) (w : World) (hl : Lists w L m vs) (hn6 : n ≤ 6) (h0 : 3 ≤ p) (h1 : p ≤ 13)
    (c0 : w.cell? ⟨g, 0, none⟩ = some (.int .i64 p)) (c1 : w.cell? ⟨g, 1, none⟩ = some (.slice A n c)) :
    Calls Try.prog 89 #[.slice L m d, .func (.func 93) #[] #[.pointer (some ⟨g, 0, none⟩)]] w fun e w' => e = .returned (.bool (!vs.all (lstB p (2 ^ n)))) ∧ Below w.heap.size w w' := by
  have HL := Lib.hid hl
  clear hl
  go_enter Try.func89, Try.ntmps89
  go_wp2_with fail
  refine (IndexFunc_checkMultis p A _ n c _ _ g vs _ HL.out hn6 h0 h1 c0 c1).mono ?_
  rintro e v ⟨r, rfl, hr0, hr1, hr, hb⟩
  have HR := Lib.hid hr
  clear hr
  by_cases h : (0 : Int) ≤ r
  · go_wp2
    go_ret
    exact ⟨ret_bool (by rw [HR.out.1 h]; rfl), hb⟩
  · have HV := Lib.hid (show vs.all (lstB p (2 ^ n)) = true by
      cases e : vs.all (lstB p (2 ^ n)) with
      | true => rfl
      | false => exact absurd (HR.out.2 e) h)
    go_wp2
    go_ret
    exact ⟨ret_bool (by rw [HV.out]; exact decide_eq_false (by omega)), hb⟩

theorem impl_checkMultis (p : Int) (A L : Option Addr) (n c m d : Nat) (xs : List Int) (vs : List (List Int)) (w : World) (hx : Ints w A n xs) (hl : Lists w L m vs) :
    Calls Try.prog 61 #[.agg #[.int .i64 p, .slice A n c], .slice L m d] w fun e w' => e = .returned (.int .i64 (codeS p xs (2 ^ n) vs)) ∧ Below w.heap.size w w' := by
  have HX := Lib.hid hx
  have hm := hx.2.1
  have HN := Lib.hid hx.1
  clear hx
  unfold maxLen at hm
  have H2 := Lib.hid (show Below w.heap.size w (w.alloc (.cells #[.int .i64 p, .slice A n c] 28)) from (Below.refl _ _).alloc (Nat.le_refl _) _)
  have HL := Lib.hid hl
  clear hl
  by_cases hs : spaceB p xs = true
  · obtain ⟨hp, hl0, hl1, hn⟩ := spaceB_true hs
    rw [HN.out] at hl0 hl1
    have h0 := prime_lo hp
    have h1 := prime_hi hp
    clear hp hn
    cases ha : vs.all (lstB p (2 ^ n)) with
    | true =>
      have HC := Lib.hid (show codeS p xs (2 ^ n) vs = 0 by simp [codeS, hs, ha])
      rw [HC.out]
      have HA := Lib.hid ha
      clear ha
      go_enter Try.func61, Try.ntmps61
      have c0 : (w.alloc (.cells #[.int .i64 p, .slice A n c] 28)).cell? ⟨w.heap.size, 0, none⟩ = some (.int .i64 p) := by simp [go_sem]
      have c1 : (w.alloc (.cells #[.int .i64 p, .slice A n c] 28)).cell? ⟨w.heap.size, 1, none⟩ = some (.slice A n c) := by simp [go_sem]
      have HW := Lib.hid (Below.refl (w.alloc (.cells #[.int .i64 p, .slice A n c] 28)).heap.size (w.alloc (.cells #[.int .i64 p, .slice A n c] 28)))
      go_wp2_with fail
      refine (impl_IsSpace _ _ _ _ xs _ (HX.out.keep (H2.out.trans (HW.out.mono H2.out.size)))).mono ?_
      rintro e v ⟨rfl, hb⟩
      replace c0 := keep_cell hb c0
      replace c1 := keep_cell hb c1
      replace HW := Lib.hid (below_then HW.out hb)
      clear hb
      go_wp2_with fail
      refine (ContainsFunc_checkMultis p A _ n c _ _ _ vs _ (HL.out.keep (H2.out.trans (HW.out.mono H2.out.size))) (by omega) h0 h1 c0 c1).mono ?_
      rw [HA.out]
      rintro e v ⟨rfl, hb⟩
      replace c0 := keep_cell hb c0
      replace c1 := keep_cell hb c1
      replace HW := Lib.hid (below_then HW.out hb)
      clear hb
      go_wp2_with fail
      go_ret
      exact ⟨rfl, (H2.out.trans (HW.out.mono H2.out.size))⟩
    | false =>
      have HC := Lib.hid (show codeS p xs (2 ^ n) vs = 2 by simp [codeS, hs, ha])
      rw [HC.out]
      have HA := Lib.hid ha
      clear ha
      go_enter Try.func61, Try.ntmps61
      have c0 : (w.alloc (.cells #[.int .i64 p, .slice A n c] 28)).cell? ⟨w.heap.size, 0, none⟩ = some (.int .i64 p) := by simp [go_sem]
      have c1 : (w.alloc (.cells #[.int .i64 p, .slice A n c] 28)).cell? ⟨w.heap.size, 1, none⟩ = some (.slice A n c) := by simp [go_sem]
      have HW := Lib.hid (Below.refl (w.alloc (.cells #[.int .i64 p, .slice A n c] 28)).heap.size (w.alloc (.cells #[.int .i64 p, .slice A n c] 28)))
      go_wp2_with fail
      refine (impl_IsSpace _ _ _ _ xs _ (HX.out.keep (H2.out.trans (HW.out.mono H2.out.size)))).mono ?_
      rintro e v ⟨rfl, hb⟩
      replace c0 := keep_cell hb c0
      replace c1 := keep_cell hb c1
      replace HW := Lib.hid (below_then HW.out hb)
      clear hb
      go_wp2_with fail
      refine (ContainsFunc_checkMultis p A _ n c _ _ _ vs _ (HL.out.keep (H2.out.trans (HW.out.mono H2.out.size))) (by omega) h0 h1 c0 c1).mono ?_
      rw [HA.out]
      rintro e v ⟨rfl, hb⟩
      replace c0 := keep_cell hb c0
      replace c1 := keep_cell hb c1
      replace HW := Lib.hid (below_then HW.out hb)
      clear hb
      go_wp2_with fail
      go_ret
      exact ⟨rfl, (H2.out.trans (HW.out.mono H2.out.size))⟩
  · have hs' : spaceB p xs = false := by simpa using hs
    have HC := Lib.hid (show codeS p xs (2 ^ n) vs = 1 by simp [codeS, hs'])
    rw [HC.out]
    clear hs
    go_enter Try.func61, Try.ntmps61
    have c0 : (w.alloc (.cells #[.int .i64 p, .slice A n c] 28)).cell? ⟨w.heap.size, 0, none⟩ = some (.int .i64 p) := by simp [go_sem]
    have c1 : (w.alloc (.cells #[.int .i64 p, .slice A n c] 28)).cell? ⟨w.heap.size, 1, none⟩ = some (.slice A n c) := by simp [go_sem]
    have HW := Lib.hid (Below.refl (w.alloc (.cells #[.int .i64 p, .slice A n c] 28)).heap.size (w.alloc (.cells #[.int .i64 p, .slice A n c] 28)))
    go_wp2_with fail
    refine (impl_IsSpace _ _ _ _ xs _ (HX.out.keep (H2.out.trans (HW.out.mono H2.out.size)))).mono ?_
    rintro e v ⟨rfl, hb⟩
    replace c0 := keep_cell hb c0
    replace c1 := keep_cell hb c1
    replace HW := Lib.hid (below_then HW.out hb)
    clear hb
    go_wp2_with fail
    go_ret
    exact ⟨rfl, (H2.out.trans (HW.out.mono H2.out.size))⟩

theorem spec_l04Code (p : Int) (A L : Option Addr) (n c m d : Nat) (xs : List Int) (vs : List (List Int)) (w : World) (hx : Ints w A n xs) (hl : Lists w L m vs) :
    Calls Try.prog 59 #[.agg #[.int .i64 p, .slice A n c], .slice L m d] w fun e w' => e = .returned (.int .i64 (codeS p xs (2 ^ n) vs)) ∧ Below w.heap.size w w' := by
  have HX := Lib.hid hx
  have hm := hx.2.1
  have HN := Lib.hid hx.1
  clear hx
  unfold maxLen at hm
  have H2 := Lib.hid (show Below w.heap.size w (w.alloc (.cells #[.int .i64 p, .slice A n c] 28)) from (Below.refl _ _).alloc (Nat.le_refl _) _)
  have HL := Lib.hid hl
  have hml := hl.2.1
  clear hl
  by_cases hs : spaceB p xs = true
  · obtain ⟨hp, hl0, hl1, hn⟩ := spaceB_true hs
    rw [HN.out] at hl0 hl1
    have HS := Lib.hid hs
    have HMB := Lib.hid (show ∀ v, mulB p xs v = lstB p (2 ^ n) v from fun v => by simp [mulB, HS.out, HN.out])
    clear hp hn
    go_enter Try.func59, Try.ntmps59
    have c0 : (w.alloc (.cells #[.int .i64 p, .slice A n c] 28)).cell? ⟨w.heap.size, 0, none⟩ = some (.int .i64 p) := by simp [go_sem]
    have c1 : (w.alloc (.cells #[.int .i64 p, .slice A n c] 28)).cell? ⟨w.heap.size, 1, none⟩ = some (.slice A n c) := by simp [go_sem]
    have HW := Lib.hid (Below.refl (w.alloc (.cells #[.int .i64 p, .slice A n c] 28)).heap.size (w.alloc (.cells #[.int .i64 p, .slice A n c] 28)))
    go_wp2_with fail
    refine (spec_l03Is _ _ _ _ xs _ (HX.out.keep (H2.out.trans (HW.out.mono H2.out.size)))).mono ?_
    rintro e v ⟨rfl, hb⟩
    replace c0 := keep_cell hb c0
    replace c1 := keep_cell hb c1
    replace HW := Lib.hid (below_then HW.out hb)
    clear hb
    go_wp2
    go_loopw [5] (fun i wr => ∃ k : Nat, k ≤ m ∧ i = .int .i64 k ∧ (vs.take k).all (lstB p (2 ^ n)) = true ∧ Below (w.alloc (.cells #[.int .i64 p, .slice A n c] 28)).heap.size (w.alloc (.cells #[.int .i64 p, .slice A n c] 28)) wr) (fun i _ => m - (intOf i).toNat)
    case atStart => exact ⟨0, Nat.zero_le _, rfl, rfl, HW.out⟩
    case round =>
      obtain ⟨k, hk, rfl, hall, hbel⟩ := hrel
      have HA := Lib.hid hall
      clear hall c0 c1 HW
      have HW := Lib.hid hbel
      have c0 : wr.cell? ⟨w.heap.size, 0, none⟩ = some (.int .i64 p) := keep_cell hbel (by simp [go_sem])
      have c1 : wr.cell? ⟨w.heap.size, 1, none⟩ = some (.slice A n c) := keep_cell hbel (by simp [go_sem])
      clear hbel
      by_cases hlt : k < m
      · obtain ⟨b, off, v, B, q, cq, rfl, hvk, hcell, hints⟩ := (HL.out.keep (H2.out.trans (HW.out.mono H2.out.size))).at_ hlt
        have HK := Lib.hid hvk
        have HI := Lib.hid hints
        clear hvk hints
        have hki : (k : Int) < m := by omega
        cases hv : lstB p (2 ^ n) v with
        | true =>
          have HV := Lib.hid hv
          have HT := Lib.hid (show mulB p xs v = true by rw [HMB.out, HV.out])
          clear hv
          go_wp2_with fail
          go_region_held3 (fun w' => w'.cell? ⟨w.heap.size, 0, none⟩ = some (.int .i64 p) ∧ w'.cell? ⟨w.heap.size, 1, none⟩ = some (.slice A n c) ∧ w'.cell? ⟨b, off + k, none⟩ = some (.slice B q cq) ∧ Ints w' A n xs ∧ Ints w' B q v ∧ Below (w.alloc (.cells #[.int .i64 p, .slice A n c] 28)).heap.size (w.alloc (.cells #[.int .i64 p, .slice A n c] 28)) w')
            (first
              | exact ⟨c0, c1, hcell, Ints.drew (HX.out.keep (H2.out.trans (HW.out.mono H2.out.size))), Ints.drew HI.out, HW.out.drew⟩
              | (go_split_ands; exact ⟨keep_cell hbz ‹_›, keep_cell hbz ‹_›, keep_cell hbz ‹_›, Ints.keep ‹_› hbz, Ints.keep ‹_› hbz, below_then ‹_› hbz⟩)
              | go_keep)
            (first | (go_at_call 92; refine (spec_l04Is _ _ _ _ _ _ _ xs v _ (by go_split_ands; assumption) (by go_split_ands; assumption)).mono ?_; rw [HT.out]; rintro e vz ⟨rfl, hbz⟩))
          rename_i hh
          obtain ⟨_, _, _, _, _, hbw⟩ := hh
          replace HW := Lib.hid hbw
          clear hbw
          go_wp2
          go_roundw
          case rel => exact ⟨k + 1, by omega, by go_num, all_step HK.out HA.out HV.out, HW.out⟩
          case measure => simp [intOf]; omega
        | false =>
          have HV := Lib.hid hv
          have HT := Lib.hid (show mulB p xs v = false by rw [HMB.out, HV.out])
          have HC := Lib.hid (show codeS p xs (2 ^ n) vs = 2 by simp [codeS, HS.out, all_bad HK.out HV.out])
          clear hv
          go_wp2_with fail
          go_region_held3 (fun w' => w'.cell? ⟨w.heap.size, 0, none⟩ = some (.int .i64 p) ∧ w'.cell? ⟨w.heap.size, 1, none⟩ = some (.slice A n c) ∧ w'.cell? ⟨b, off + k, none⟩ = some (.slice B q cq) ∧ Ints w' A n xs ∧ Ints w' B q v ∧ Below (w.alloc (.cells #[.int .i64 p, .slice A n c] 28)).heap.size (w.alloc (.cells #[.int .i64 p, .slice A n c] 28)) w')
            (first
              | exact ⟨c0, c1, hcell, Ints.drew (HX.out.keep (H2.out.trans (HW.out.mono H2.out.size))), Ints.drew HI.out, HW.out.drew⟩
              | (go_split_ands; exact ⟨keep_cell hbz ‹_›, keep_cell hbz ‹_›, keep_cell hbz ‹_›, Ints.keep ‹_› hbz, Ints.keep ‹_› hbz, below_then ‹_› hbz⟩)
              | go_keep)
            (first | (go_at_call 92; refine (spec_l04Is _ _ _ _ _ _ _ xs v _ (by go_split_ands; assumption) (by go_split_ands; assumption)).mono ?_; rw [HT.out]; rintro e vz ⟨rfl, hbz⟩))
          rename_i hh
          obtain ⟨_, _, _, _, _, hbw⟩ := hh
          replace HW := Lib.hid hbw
          clear hbw
          go_wp2
          go_ret
          exact ⟨by rw [HC.out]; rfl, (H2.out.trans (HW.out.mono H2.out.size))⟩
      · obtain rfl : k = m := by omega
        have HC := Lib.hid (show codeS p xs (2 ^ n) vs = 0 by
          have := HA.out; rw [List.take_of_length_le (by have := HL.out.1; omega)] at this
          simp [codeS, HS.out, this])
        go_wp2
        go_ret
        exact ⟨by rw [HC.out]; rfl, (H2.out.trans (HW.out.mono H2.out.size))⟩
  · have hs' : spaceB p xs = false := by simpa using hs
    have HC := Lib.hid (show codeS p xs (2 ^ n) vs = 1 by simp [codeS, hs'])
    rw [HC.out]
    clear hs
    go_enter Try.func59, Try.ntmps59
    have c0 : (w.alloc (.cells #[.int .i64 p, .slice A n c] 28)).cell? ⟨w.heap.size, 0, none⟩ = some (.int .i64 p) := by simp [go_sem]
    have c1 : (w.alloc (.cells #[.int .i64 p, .slice A n c] 28)).cell? ⟨w.heap.size, 1, none⟩ = some (.slice A n c) := by simp [go_sem]
    have HW := Lib.hid (Below.refl (w.alloc (.cells #[.int .i64 p, .slice A n c] 28)).heap.size (w.alloc (.cells #[.int .i64 p, .slice A n c] 28)))
    go_wp2_with fail
    refine (spec_l03Is _ _ _ _ xs _ (HX.out.keep (H2.out.trans (HW.out.mono H2.out.size)))).mono ?_
    rintro e v ⟨rfl, hb⟩
    replace c0 := keep_cell hb c0
    replace c1 := keep_cell hb c1
    replace HW := Lib.hid (below_then HW.out hb)
    clear hb
    go_wp2_with fail
    go_ret
    exact ⟨rfl, (H2.out.trans (HW.out.mono H2.out.size))⟩

end Go.Proofs.Ytincppklphahpaa
