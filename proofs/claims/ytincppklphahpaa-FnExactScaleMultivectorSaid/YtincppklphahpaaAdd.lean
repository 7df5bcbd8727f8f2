/- Contracts: sums and multiples of multivectors. Conditions stand in each theorem. -/
import Derived.Test.YtincppklphahpaaVec
import Derived.Test.YtincppklphahpaaLists
namespace Go.Proofs.Ytincppklphahpaa
open Go.RowKit
set_option linter.unusedVariables false

def addL (p : Int) (xs ys zs : List Int) : List Int := if codeS p xs (2 ^ xs.length) [ys, zs] = 0 then plusL p 1 ys zs else []
def scaC (p : Int) (xs ys : List Int) (k : Int) : Int := if codeS p xs (2 ^ xs.length) [ys] = 0 then (if numB p k then 0 else 2) else codeS p xs (2 ^ xs.length) [ys]
def scaL (p : Int) (xs ys : List Int) (k : Int) : List Int := if scaC p xs ys k = 0 then scaleL p k ys else []
theorem codeS_len {p : Int} {xs : List Int} {ys : List Int} {vs : List (List Int)} (h : codeS p xs (2 ^ xs.length) (ys :: vs) = 0) : ys.length ≤ 64 := by
  obtain ⟨hs, ha⟩ := codeS_zero h
  have := pow_le6 (spaceB_true hs).2.2.1
  simp only [List.all_cons, Bool.and_eq_true] at ha
  rw [(lstB_true ha.1).1]; exact this
theorem addL_len (p : Int) (xs ys zs : List Int) : (addL p xs ys zs).length ≤ 1000000000 := by
  unfold addL
  by_cases h : codeS p xs (2 ^ xs.length) [ys, zs] = 0
  · rw [if_pos h]; unfold plusL; rw [List.length_zipWith]; have := codeS_len h; omega
  · rw [if_neg h]; simp
theorem scaC_zero {p : Int} {xs ys : List Int} {k : Int} (h : scaC p xs ys k = 0) : codeS p xs (2 ^ xs.length) [ys] = 0 ∧ numB p k = true := by
  unfold scaC at h
  by_cases h1 : codeS p xs (2 ^ xs.length) [ys] = 0
  · rw [if_pos h1] at h
    cases e : numB p k with
    | true => exact ⟨h1, rfl⟩
    | false => rw [e] at h; simp at h
  · rw [if_neg h1] at h; exact absurd h h1
theorem scaL_len (p : Int) (xs ys : List Int) (k : Int) : (scaL p xs ys k).length ≤ 1000000000 := by
  unfold scaL
  by_cases h : scaC p xs ys k = 0
  · rw [if_pos h, scaleL_len]; have := codeS_len (scaC_zero h).1; omega
  · rw [if_neg h]; simp

theorem spec_AddMultivectors (p : Int) (A B C : Option Addr) (n c m d q r : Nat) (xs ys zs : List Int) (w : World) (hx : Ints w A n xs) (hy : Ints w B m ys) (hz : Ints w C q zs) :
    Calls Try.prog 28 #[.agg #[.int .i64 p, .slice A n c], .slice B m d, .slice C q r] w fun e w' => ∃ D t, e = .returned (.tuple #[.slice D (addL p xs ys zs).length t, .int .i64 (codeS p xs (2 ^ xs.length) [ys, zs])]) ∧ Own w.heap.size w' D (addL p xs ys zs).length (addL p xs ys zs) ∧ Below w.heap.size w w' := by
  have HX := Lib.hid hx
  have hm := hx.2.1
  have HN := Lib.hid hx.1
  clear hx
  unfold maxLen at hm
  have H2 := Lib.hid (show Below w.heap.size w (w.alloc (.cells #[.int .i64 p, .slice A n c] 28)) from (Below.refl _ _).alloc (Nat.le_refl _) _)
  have HY := Lib.hid hy
  have HZ := Lib.hid hz
  clear hy hz
  rw [HN.out]
  by_cases hcz : codeS p xs (2 ^ n) [ys, zs] = 0
  · obtain ⟨hsp, hall⟩ := codeS_zero hcz
    obtain ⟨hp, hl0, hl1, hn⟩ := spaceB_true hsp
    have h0 := prime_lo hp
    have h1 := prime_hi hp
    rw [HN.out] at hl0 hl1
    simp only [List.all_cons, List.all_nil, Bool.and_true, Bool.and_eq_true] at hall
    obtain ⟨hly, hny⟩ := lstB_true hall.1
    obtain ⟨hlz, hnz⟩ := lstB_true hall.2
    have h64 := pow_le6 hl1
    have hm64 : m ≤ 64 := by rw [← HY.out.1, hly]; exact h64
    have HQ := Lib.hid (show m = q by rw [← HY.out.1, ← HZ.out.1, hly, hlz])
    have HV := Lib.hid (show addL p xs ys zs = plusL p 1 ys (zs.take m) by unfold addL; rw [HN.out, if_pos hcz, List.take_of_length_le (by rw [hlz, ← hly, HY.out.1]; exact Nat.le_refl _)])
    have HL := Lib.hid (show (addL p xs ys zs).length = m by unfold addL; rw [HN.out, if_pos hcz, plusL_len (by rw [hly, hlz]), HY.out.1])
    rw [HL.out, HV.out]
    have HM1 := Lib.hid hny
    have HM2 := Lib.hid hnz
    have HZc := Lib.hid hcz
    rw [HZc.out]
    clear hly hlz hny hnz hp hn hall hsp hcz
    go_enter Try.func28, Try.ntmps28
    have c0 : (w.alloc (.cells #[.int .i64 p, .slice A n c] 28)).cell? ⟨w.heap.size, 0, none⟩ = some (.int .i64 p) := by simp [go_sem]
    have c1 : (w.alloc (.cells #[.int .i64 p, .slice A n c] 28)).cell? ⟨w.heap.size, 1, none⟩ = some (.slice A n c) := by simp [go_sem]
    have HW := Lib.hid (Below.refl (w.alloc (.cells #[.int .i64 p, .slice A n c] 28)).heap.size (w.alloc (.cells #[.int .i64 p, .slice A n c] 28)))
    have hb : Below (w.alloc (.cells #[.int .i64 p, .slice A n c] 28)).heap.size (w.alloc (.cells #[.int .i64 p, .slice A n c] 28)) ((w.alloc (.cells #[.int .i64 p, .slice A n c] 28)).alloc (.cells #[.slice B m d, .slice C q r] 22)) := (Below.refl _ _).alloc (Nat.le_refl _) _
    go_wp2_with fail
    refine (spec_l04Code p A _ n c 2 _ xs [ys, zs] _ (HX.out.keep (H2.out.trans (hb.mono H2.out.size))) (Lists.mk2 _ _ (by simp) (HY.out.keep H2.out) (HZ.out.keep H2.out))).mono ?_
    rw [HZc.out]
    rintro e v ⟨rfl, hv⟩
    have hs1 : w.heap.size ≤ v.heap.size := (H2.out.trans ((below_then hb hv).mono H2.out.size)).size
    replace c0 := keep_cell (below_then hb hv) c0
    replace c1 := keep_cell (below_then hb hv) c1
    replace HW := Lib.hid (below_then (below_then HW.out hb) hv)
    clear hb hv
    go_wp2_with fail
    refine (spec_l02Plus p 1 _ _ _ _ _ _ ys zs _ (HY.out.keep (H2.out.trans (HW.out.mono H2.out.size))) (HZ.out.keep (H2.out.trans (HW.out.mono H2.out.size))) (Nat.le_of_eq HQ.out) h0 h1 HM1.out HM2.out (by omega) (by omega) (by omega)).mono ?_
    rintro e v2 ⟨CC, qq, rfl, ho, hb⟩
    have HO := Lib.hid (ho.less (B' := w.heap.size) (by omega))
    clear ho
    replace c0 := keep_cell hb c0
    replace c1 := keep_cell hb c1
    replace HW := Lib.hid (below_then HW.out hb)
    clear hb
    go_wp2_with fail
    go_ret2
    exact ⟨CC, qq, rfl, HO.out, (H2.out.trans (HW.out.mono H2.out.size))⟩
  · have HV := Lib.hid (show addL p xs ys zs = [] by unfold addL; rw [HN.out, if_neg hcz])
    rw [HV.out]
    go_enter Try.func28, Try.ntmps28
    have c0 : (w.alloc (.cells #[.int .i64 p, .slice A n c] 28)).cell? ⟨w.heap.size, 0, none⟩ = some (.int .i64 p) := by simp [go_sem]
    have c1 : (w.alloc (.cells #[.int .i64 p, .slice A n c] 28)).cell? ⟨w.heap.size, 1, none⟩ = some (.slice A n c) := by simp [go_sem]
    have HW := Lib.hid (Below.refl (w.alloc (.cells #[.int .i64 p, .slice A n c] 28)).heap.size (w.alloc (.cells #[.int .i64 p, .slice A n c] 28)))
    have hb : Below (w.alloc (.cells #[.int .i64 p, .slice A n c] 28)).heap.size (w.alloc (.cells #[.int .i64 p, .slice A n c] 28)) ((w.alloc (.cells #[.int .i64 p, .slice A n c] 28)).alloc (.cells #[.slice B m d, .slice C q r] 22)) := (Below.refl _ _).alloc (Nat.le_refl _) _
    go_wp2_with fail
    refine (spec_l04Code p A _ n c 2 _ xs [ys, zs] _ (HX.out.keep (H2.out.trans (hb.mono H2.out.size))) (Lists.mk2 _ _ (by simp) (HY.out.keep H2.out) (HZ.out.keep H2.out))).mono ?_
    rintro e v ⟨rfl, hv⟩
    have hs1 : w.heap.size ≤ v.heap.size := (H2.out.trans ((below_then hb hv).mono H2.out.size)).size
    replace c0 := keep_cell (below_then hb hv) c0
    replace c1 := keep_cell (below_then hb hv) c1
    replace HW := Lib.hid (below_then (below_then HW.out hb) hv)
    clear hb hv
    go_wp2_with fail
    go_ret2
    exact ⟨none, 0, rfl, Own.nil _ _, (H2.out.trans (HW.out.mono H2.out.size))⟩

theorem impl_AddMultivectors (p : Int) (A B C : Option Addr) (n c m d q r : Nat) (xs ys zs : List Int) (w : World) (hx : Ints w A n xs) (hy : Ints w B m ys) (hz : Ints w C q zs) :
    Calls Try.prog 29 #[.agg #[.int .i64 p, .slice A n c], .slice B m d, .slice C q r] w fun e w' => ∃ D t, e = .returned (.tuple #[.slice D (addL p xs ys zs).length t, .int .i64 (codeS p xs (2 ^ xs.length) [ys, zs])]) ∧ Own w.heap.size w' D (addL p xs ys zs).length (addL p xs ys zs) ∧ Below w.heap.size w w' := by
  have HX := Lib.hid hx
  have hm := hx.2.1
  have HN := Lib.hid hx.1
  clear hx
  unfold maxLen at hm
  have H2 := Lib.hid (show Below w.heap.size w (w.alloc (.cells #[.int .i64 p, .slice A n c] 28)) from (Below.refl _ _).alloc (Nat.le_refl _) _)
  have HY := Lib.hid hy
  have HZ := Lib.hid hz
  clear hy hz
  rw [HN.out]
  by_cases hcz : codeS p xs (2 ^ n) [ys, zs] = 0
  · obtain ⟨hsp, hall⟩ := codeS_zero hcz
    obtain ⟨hp, hl0, hl1, hn⟩ := spaceB_true hsp
    have h0 := prime_lo hp
    have h1 := prime_hi hp
    rw [HN.out] at hl0 hl1
    simp only [List.all_cons, List.all_nil, Bool.and_true, Bool.and_eq_true] at hall
    obtain ⟨hly, hny⟩ := lstB_true hall.1
    obtain ⟨hlz, hnz⟩ := lstB_true hall.2
    have h64 := pow_le6 hl1
    have hm64 : m ≤ 64 := by rw [← HY.out.1, hly]; exact h64
    have HQ := Lib.hid (show m = q by rw [← HY.out.1, ← HZ.out.1, hly, hlz])
    have HV := Lib.hid (show addL p xs ys zs = plusL p 1 ys (zs.take m) by unfold addL; rw [HN.out, if_pos hcz, List.take_of_length_le (by rw [hlz, ← hly, HY.out.1]; exact Nat.le_refl _)])
    have HL := Lib.hid (show (addL p xs ys zs).length = m by unfold addL; rw [HN.out, if_pos hcz, plusL_len (by rw [hly, hlz]), HY.out.1])
    rw [HL.out, HV.out]
    have HM1 := Lib.hid hny
    have HM2 := Lib.hid hnz
    have HZc := Lib.hid hcz
    rw [HZc.out]
    clear hly hlz hny hnz hp hn hall hsp hcz
    go_enter Try.func29, Try.ntmps29
    have c0 : (w.alloc (.cells #[.int .i64 p, .slice A n c] 28)).cell? ⟨w.heap.size, 0, none⟩ = some (.int .i64 p) := by simp [go_sem]
    have c1 : (w.alloc (.cells #[.int .i64 p, .slice A n c] 28)).cell? ⟨w.heap.size, 1, none⟩ = some (.slice A n c) := by simp [go_sem]
    have HW := Lib.hid (Below.refl (w.alloc (.cells #[.int .i64 p, .slice A n c] 28)).heap.size (w.alloc (.cells #[.int .i64 p, .slice A n c] 28)))
    have hb : Below (w.alloc (.cells #[.int .i64 p, .slice A n c] 28)).heap.size (w.alloc (.cells #[.int .i64 p, .slice A n c] 28)) ((w.alloc (.cells #[.int .i64 p, .slice A n c] 28)).alloc (.cells #[.slice B m d, .slice C q r] 22)) := (Below.refl _ _).alloc (Nat.le_refl _) _
    go_wp2_with fail
    refine (impl_checkMultis p A _ n c 2 _ xs [ys, zs] _ (HX.out.keep (H2.out.trans (hb.mono H2.out.size))) (Lists.mk2 _ _ (by simp) (HY.out.keep H2.out) (HZ.out.keep H2.out))).mono ?_
    rw [HZc.out]
    rintro e v ⟨rfl, hv⟩
    have hs1 : w.heap.size ≤ v.heap.size := (H2.out.trans ((below_then hb hv).mono H2.out.size)).size
    replace c0 := keep_cell (below_then hb hv) c0
    replace c1 := keep_cell (below_then hb hv) c1
    replace HW := Lib.hid (below_then (below_then HW.out hb) hv)
    clear hb hv
    go_wp2_with fail
    refine (Space_field _ _ _ _ _).mono ?_
    rintro e v1 ⟨rfl, hb⟩
    have hs2 := hb.size
    replace c0 := keep_cell hb c0
    replace c1 := keep_cell hb c1
    replace HW := Lib.hid (below_then HW.out hb)
    clear hb
    go_wp2_with fail
    refine (field_plus p 1 _ _ _ _ _ _ ys zs _ (HY.out.keep (H2.out.trans (HW.out.mono H2.out.size))) (HZ.out.keep (H2.out.trans (HW.out.mono H2.out.size))) (Nat.le_of_eq HQ.out) h0 h1 HM1.out HM2.out (by omega) (by omega) (by omega)).mono ?_
    rintro e v2 ⟨CC, qq, rfl, ho, hb⟩
    have HO := Lib.hid (ho.less (B' := w.heap.size) (by omega))
    clear ho
    replace c0 := keep_cell hb c0
    replace c1 := keep_cell hb c1
    replace HW := Lib.hid (below_then HW.out hb)
    clear hb
    go_wp2_with fail
    go_ret2
    exact ⟨CC, qq, rfl, HO.out, (H2.out.trans (HW.out.mono H2.out.size))⟩
  · have HV := Lib.hid (show addL p xs ys zs = [] by unfold addL; rw [HN.out, if_neg hcz])
    rw [HV.out]
    go_enter Try.func29, Try.ntmps29
    have c0 : (w.alloc (.cells #[.int .i64 p, .slice A n c] 28)).cell? ⟨w.heap.size, 0, none⟩ = some (.int .i64 p) := by simp [go_sem]
    have c1 : (w.alloc (.cells #[.int .i64 p, .slice A n c] 28)).cell? ⟨w.heap.size, 1, none⟩ = some (.slice A n c) := by simp [go_sem]
    have HW := Lib.hid (Below.refl (w.alloc (.cells #[.int .i64 p, .slice A n c] 28)).heap.size (w.alloc (.cells #[.int .i64 p, .slice A n c] 28)))
    have hb : Below (w.alloc (.cells #[.int .i64 p, .slice A n c] 28)).heap.size (w.alloc (.cells #[.int .i64 p, .slice A n c] 28)) ((w.alloc (.cells #[.int .i64 p, .slice A n c] 28)).alloc (.cells #[.slice B m d, .slice C q r] 22)) := (Below.refl _ _).alloc (Nat.le_refl _) _
    go_wp2_with fail
    refine (impl_checkMultis p A _ n c 2 _ xs [ys, zs] _ (HX.out.keep (H2.out.trans (hb.mono H2.out.size))) (Lists.mk2 _ _ (by simp) (HY.out.keep H2.out) (HZ.out.keep H2.out))).mono ?_
    rintro e v ⟨rfl, hv⟩
    have hs1 : w.heap.size ≤ v.heap.size := (H2.out.trans ((below_then hb hv).mono H2.out.size)).size
    replace c0 := keep_cell (below_then hb hv) c0
    replace c1 := keep_cell (below_then hb hv) c1
    replace HW := Lib.hid (below_then (below_then HW.out hb) hv)
    clear hb hv
    go_wp2_with fail
    go_ret2
    exact ⟨none, 0, rfl, Own.nil _ _, (H2.out.trans (HW.out.mono H2.out.size))⟩

theorem spec_ScaleMultivector (p : Int) (A B : Option Addr) (n c m d : Nat) (xs ys : List Int) (k : Int) (w : World) (hx : Ints w A n xs) (hy : Ints w B m ys) :
    Calls Try.prog 30 #[.agg #[.int .i64 p, .slice A n c], .slice B m d, .int .i64 k] w fun e w' => ∃ D t, e = .returned (.tuple #[.slice D (scaL p xs ys k).length t, .int .i64 (scaC p xs ys k)]) ∧ Own w.heap.size w' D (scaL p xs ys k).length (scaL p xs ys k) ∧ Below w.heap.size w w' := by
  have HX := Lib.hid hx
  have hm := hx.2.1
  have HN := Lib.hid hx.1
  clear hx
  unfold maxLen at hm
  have H2 := Lib.hid (show Below w.heap.size w (w.alloc (.cells #[.int .i64 p, .slice A n c] 28)) from (Below.refl _ _).alloc (Nat.le_refl _) _)
  have HY := Lib.hid hy
  clear hy
  by_cases hcz : codeS p xs (2 ^ n) [ys] = 0
  · obtain ⟨hsp, hall⟩ := codeS_zero hcz
    obtain ⟨hp, hl0, hl1, hn⟩ := spaceB_true hsp
    have h0 := prime_lo hp
    have h1 := prime_hi hp
    have h0' : 1 ≤ p := by omega
    rw [HN.out] at hl0 hl1
    simp only [List.all_cons, List.all_nil, Bool.and_true] at hall
    obtain ⟨hly, hny⟩ := lstB_true hall
    have h64 := pow_le6 hl1
    have hm64 : m ≤ 64 := by rw [← HY.out.1, hly]; exact h64
    have HZc := Lib.hid hcz
    have HM1 := Lib.hid hny
    cases hk : numB p k with
    | true =>
      obtain ⟨hk0, hk1⟩ := numB_true hk
      have HC := Lib.hid (show scaC p xs ys k = 0 by unfold scaC; rw [HN.out, if_pos hcz, hk]; rfl)
      have HV := Lib.hid (show scaL p xs ys k = scaleL p k ys by unfold scaL; rw [if_pos HC.out])
      have HL := Lib.hid (show (scaL p xs ys k).length = m by rw [HV.out, scaleL_len, HY.out.1])
      rw [HL.out, HV.out, HC.out]
      have HK := Lib.hid hk
      have HK2 := Lib.hid (show numsB p [k] = true by simp [numsB, hk])
      clear hly hny hp hn hall hsp hcz hk
      go_enter Try.func30, Try.ntmps30
      have c0 : (w.alloc (.cells #[.int .i64 p, .slice A n c] 28)).cell? ⟨w.heap.size, 0, none⟩ = some (.int .i64 p) := by simp [go_sem]
      have c1 : (w.alloc (.cells #[.int .i64 p, .slice A n c] 28)).cell? ⟨w.heap.size, 1, none⟩ = some (.slice A n c) := by simp [go_sem]
      have HW := Lib.hid (Below.refl (w.alloc (.cells #[.int .i64 p, .slice A n c] 28)).heap.size (w.alloc (.cells #[.int .i64 p, .slice A n c] 28)))
      have hb : Below (w.alloc (.cells #[.int .i64 p, .slice A n c] 28)).heap.size (w.alloc (.cells #[.int .i64 p, .slice A n c] 28)) ((w.alloc (.cells #[.int .i64 p, .slice A n c] 28)).alloc (.cells #[.slice B m d] 22)) := (Below.refl _ _).alloc (Nat.le_refl _) _
      go_wp2_with fail
      refine (spec_l04Code p A _ n c 1 _ xs [ys] _ (HX.out.keep (H2.out.trans (hb.mono H2.out.size))) (Lists.mk1 _ _ (by simp) (HY.out.keep H2.out))).mono ?_
      rw [HZc.out]
      rintro e v ⟨rfl, hv⟩
      have hs1 : w.heap.size ≤ v.heap.size := (H2.out.trans ((below_then hb hv).mono H2.out.size)).size
      replace c0 := keep_cell (below_then hb hv) c0
      replace c1 := keep_cell (below_then hb hv) c1
      replace HW := Lib.hid (below_then (below_then HW.out hb) hv)
      clear hb hv
      go_wp2_with fail
      refine (spec_l01In _ _ _ _).mono ?_
      rw [rangeB_num, HK.out]
      rintro e _v ⟨rfl, rfl⟩
      go_wp2_with fail
      refine (spec_l02Scale p k _ _ _ ys _ (HY.out.keep (H2.out.trans (HW.out.mono H2.out.size))) h0 h1 HM1.out hk0 hk1 (by omega)).mono ?_
      rintro e v2 ⟨CC, qq, rfl, ho, hb⟩
      have HO := Lib.hid (ho.less (B' := w.heap.size) (by omega))
      clear ho
      replace c0 := keep_cell hb c0
      replace c1 := keep_cell hb c1
      replace HW := Lib.hid (below_then HW.out hb)
      clear hb
      go_wp2_with fail
      go_ret2
      exact ⟨CC, qq, rfl, HO.out, (H2.out.trans (HW.out.mono H2.out.size))⟩
    | false =>
      have HC := Lib.hid (show scaC p xs ys k = 2 by unfold scaC; rw [HN.out, if_pos hcz, hk]; rfl)
      have HV := Lib.hid (show scaL p xs ys k = [] by unfold scaL; rw [if_neg (by rw [HC.out]; omega)])
      rw [HV.out, HC.out]
      have HK := Lib.hid hk
      have HK2 := Lib.hid (show numsB p [k] = false by simp [numsB, hk])
      clear hly hny hp hn hall hsp hcz hk
      go_enter Try.func30, Try.ntmps30
      have c0 : (w.alloc (.cells #[.int .i64 p, .slice A n c] 28)).cell? ⟨w.heap.size, 0, none⟩ = some (.int .i64 p) := by simp [go_sem]
      have c1 : (w.alloc (.cells #[.int .i64 p, .slice A n c] 28)).cell? ⟨w.heap.size, 1, none⟩ = some (.slice A n c) := by simp [go_sem]
      have HW := Lib.hid (Below.refl (w.alloc (.cells #[.int .i64 p, .slice A n c] 28)).heap.size (w.alloc (.cells #[.int .i64 p, .slice A n c] 28)))
      have hb : Below (w.alloc (.cells #[.int .i64 p, .slice A n c] 28)).heap.size (w.alloc (.cells #[.int .i64 p, .slice A n c] 28)) ((w.alloc (.cells #[.int .i64 p, .slice A n c] 28)).alloc (.cells #[.slice B m d] 22)) := (Below.refl _ _).alloc (Nat.le_refl _) _
      go_wp2_with fail
      refine (spec_l04Code p A _ n c 1 _ xs [ys] _ (HX.out.keep (H2.out.trans (hb.mono H2.out.size))) (Lists.mk1 _ _ (by simp) (HY.out.keep H2.out))).mono ?_
      rw [HZc.out]
      rintro e v ⟨rfl, hv⟩
      have hs1 : w.heap.size ≤ v.heap.size := (H2.out.trans ((below_then hb hv).mono H2.out.size)).size
      replace c0 := keep_cell (below_then hb hv) c0
      replace c1 := keep_cell (below_then hb hv) c1
      replace HW := Lib.hid (below_then (below_then HW.out hb) hv)
      clear hb hv
      go_wp2_with fail
      refine (spec_l01In _ _ _ _).mono ?_
      rw [rangeB_num, HK.out]
      rintro e _v ⟨rfl, rfl⟩
      go_wp2_with fail
      go_ret2
      exact ⟨none, 0, rfl, Own.nil _ _, (H2.out.trans (HW.out.mono H2.out.size))⟩
  · have HC := Lib.hid (show scaC p xs ys k = codeS p xs (2 ^ n) [ys] by unfold scaC; rw [HN.out, if_neg hcz])
    have HV := Lib.hid (show scaL p xs ys k = [] by unfold scaL; rw [if_neg (by rw [HC.out]; exact hcz)])
    rw [HV.out, HC.out]
    have hc' : (codeS p xs (2 ^ n) [ys] == 0) = false := by simpa using hcz
    go_enter Try.func30, Try.ntmps30
    have c0 : (w.alloc (.cells #[.int .i64 p, .slice A n c] 28)).cell? ⟨w.heap.size, 0, none⟩ = some (.int .i64 p) := by simp [go_sem]
    have c1 : (w.alloc (.cells #[.int .i64 p, .slice A n c] 28)).cell? ⟨w.heap.size, 1, none⟩ = some (.slice A n c) := by simp [go_sem]
    have HW := Lib.hid (Below.refl (w.alloc (.cells #[.int .i64 p, .slice A n c] 28)).heap.size (w.alloc (.cells #[.int .i64 p, .slice A n c] 28)))
    have hb : Below (w.alloc (.cells #[.int .i64 p, .slice A n c] 28)).heap.size (w.alloc (.cells #[.int .i64 p, .slice A n c] 28)) ((w.alloc (.cells #[.int .i64 p, .slice A n c] 28)).alloc (.cells #[.slice B m d] 22)) := (Below.refl _ _).alloc (Nat.le_refl _) _
    go_wp2_with fail
    refine (spec_l04Code p A _ n c 1 _ xs [ys] _ (HX.out.keep (H2.out.trans (hb.mono H2.out.size))) (Lists.mk1 _ _ (by simp) (HY.out.keep H2.out))).mono ?_
    rintro e v ⟨rfl, hv⟩
    have hs1 : w.heap.size ≤ v.heap.size := (H2.out.trans ((below_then hb hv).mono H2.out.size)).size
    replace c0 := keep_cell (below_then hb hv) c0
    replace c1 := keep_cell (below_then hb hv) c1
    replace HW := Lib.hid (below_then (below_then HW.out hb) hv)
    clear hb hv
    go_wp2_with fail
    go_ret2
    exact ⟨none, 0, rfl, Own.nil _ _, (H2.out.trans (HW.out.mono H2.out.size))⟩

theorem impl_ScaleMultivector (p : Int) (A B : Option Addr) (n c m d : Nat) (xs ys : List Int) (k : Int) (w : World) (hx : Ints w A n xs) (hy : Ints w B m ys) :
    Calls Try.prog 31 #[.agg #[.int .i64 p, .slice A n c], .slice B m d, .int .i64 k] w fun e w' => ∃ D t, e = .returned (.tuple #[.slice D (scaL p xs ys k).length t, .int .i64 (scaC p xs ys k)]) ∧ Own w.heap.size w' D (scaL p xs ys k).length (scaL p xs ys k) ∧ Below w.heap.size w w' := by
  have HX := Lib.hid hx
  have hm := hx.2.1
  have HN := Lib.hid hx.1
  clear hx
  unfold maxLen at hm
  have H2 := Lib.hid (show Below w.heap.size w (w.alloc (.cells #[.int .i64 p, .slice A n c] 28)) from (Below.refl _ _).alloc (Nat.le_refl _) _)
  have HY := Lib.hid hy
  clear hy
  by_cases hcz : codeS p xs (2 ^ n) [ys] = 0
  · obtain ⟨hsp, hall⟩ := codeS_zero hcz
    obtain ⟨hp, hl0, hl1, hn⟩ := spaceB_true hsp
    have h0 := prime_lo hp
    have h1 := prime_hi hp
    have h0' : 1 ≤ p := by omega
    rw [HN.out] at hl0 hl1
    simp only [List.all_cons, List.all_nil, Bool.and_true] at hall
    obtain ⟨hly, hny⟩ := lstB_true hall
    have h64 := pow_le6 hl1
    have hm64 : m ≤ 64 := by rw [← HY.out.1, hly]; exact h64
    have HZc := Lib.hid hcz
    have HM1 := Lib.hid hny
    cases hk : numB p k with
    | true =>
      obtain ⟨hk0, hk1⟩ := numB_true hk
      have HC := Lib.hid (show scaC p xs ys k = 0 by unfold scaC; rw [HN.out, if_pos hcz, hk]; rfl)
      have HV := Lib.hid (show scaL p xs ys k = scaleL p k ys by unfold scaL; rw [if_pos HC.out])
      have HL := Lib.hid (show (scaL p xs ys k).length = m by rw [HV.out, scaleL_len, HY.out.1])
      rw [HL.out, HV.out, HC.out]
      have HK := Lib.hid hk
      have HK2 := Lib.hid (show numsB p [k] = true by simp [numsB, hk])
      clear hly hny hp hn hall hsp hcz hk
      go_enter Try.func31, Try.ntmps31
      have c0 : (w.alloc (.cells #[.int .i64 p, .slice A n c] 28)).cell? ⟨w.heap.size, 0, none⟩ = some (.int .i64 p) := by simp [go_sem]
      have c1 : (w.alloc (.cells #[.int .i64 p, .slice A n c] 28)).cell? ⟨w.heap.size, 1, none⟩ = some (.slice A n c) := by simp [go_sem]
      have HW := Lib.hid (Below.refl (w.alloc (.cells #[.int .i64 p, .slice A n c] 28)).heap.size (w.alloc (.cells #[.int .i64 p, .slice A n c] 28)))
      have hb : Below (w.alloc (.cells #[.int .i64 p, .slice A n c] 28)).heap.size (w.alloc (.cells #[.int .i64 p, .slice A n c] 28)) ((w.alloc (.cells #[.int .i64 p, .slice A n c] 28)).alloc (.cells #[.slice B m d] 22)) := (Below.refl _ _).alloc (Nat.le_refl _) _
      go_wp2_with fail
      refine (impl_checkMultis p A _ n c 1 _ xs [ys] _ (HX.out.keep (H2.out.trans (hb.mono H2.out.size))) (Lists.mk1 _ _ (by simp) (HY.out.keep H2.out))).mono ?_
      rw [HZc.out]
      rintro e v ⟨rfl, hv⟩
      have hs1 : w.heap.size ≤ v.heap.size := (H2.out.trans ((below_then hb hv).mono H2.out.size)).size
      replace c0 := keep_cell (below_then hb hv) c0
      replace c1 := keep_cell (below_then hb hv) c1
      replace HW := Lib.hid (below_then (below_then HW.out hb) hv)
      clear hb hv
      go_wp2_with fail
      refine (Space_field _ _ _ _ _).mono ?_
      rintro e v1 ⟨rfl, hb⟩
      have hs2 := hb.size
      replace c0 := keep_cell hb c0
      replace c1 := keep_cell hb c1
      replace HW := Lib.hid (below_then HW.out hb)
      clear hb
      go_wp2_with fail
      refine (impl_is _ _ _ _ [k] _ h0' h1 (Ints.mk1 _ _ _)).mono ?_
      rw [HK2.out]
      rintro e _v ⟨rfl, rfl⟩
      have hb := (Below.refl v1.heap.size v1).alloc (Nat.le_refl _) (.cells #[.int .i64 k] 2)
      have hs3 := hb.size
      replace c0 := keep_cell hb c0
      replace c1 := keep_cell hb c1
      replace HW := Lib.hid (below_then HW.out hb)
      clear hb
      go_wp2_with fail
      refine (Space_field _ _ _ _ _).mono ?_
      rintro e v3 ⟨rfl, hb⟩
      have hs4 := hb.size
      replace c0 := keep_cell hb c0
      replace c1 := keep_cell hb c1
      replace HW := Lib.hid (below_then HW.out hb)
      clear hb
      go_wp2_with fail
      refine (field_scaled p k _ _ _ ys _ (HY.out.keep (H2.out.trans (HW.out.mono H2.out.size))) h0 h1 HM1.out (by omega) (by omega) (by omega)).mono ?_
      rintro e v2 ⟨CC, qq, rfl, ho, hb⟩
      have HO := Lib.hid (ho.less (B' := w.heap.size) (by omega))
      clear ho
      replace c0 := keep_cell hb c0
      replace c1 := keep_cell hb c1
      replace HW := Lib.hid (below_then HW.out hb)
      clear hb
      go_wp2_with fail
      go_ret2
      exact ⟨CC, qq, rfl, HO.out, (H2.out.trans (HW.out.mono H2.out.size))⟩
    | false =>
      have HC := Lib.hid (show scaC p xs ys k = 2 by unfold scaC; rw [HN.out, if_pos hcz, hk]; rfl)
      have HV := Lib.hid (show scaL p xs ys k = [] by unfold scaL; rw [if_neg (by rw [HC.out]; omega)])
      rw [HV.out, HC.out]
      have HK := Lib.hid hk
      have HK2 := Lib.hid (show numsB p [k] = false by simp [numsB, hk])
      clear hly hny hp hn hall hsp hcz hk
      go_enter Try.func31, Try.ntmps31
      have c0 : (w.alloc (.cells #[.int .i64 p, .slice A n c] 28)).cell? ⟨w.heap.size, 0, none⟩ = some (.int .i64 p) := by simp [go_sem]
      have c1 : (w.alloc (.cells #[.int .i64 p, .slice A n c] 28)).cell? ⟨w.heap.size, 1, none⟩ = some (.slice A n c) := by simp [go_sem]
      have HW := Lib.hid (Below.refl (w.alloc (.cells #[.int .i64 p, .slice A n c] 28)).heap.size (w.alloc (.cells #[.int .i64 p, .slice A n c] 28)))
      have hb : Below (w.alloc (.cells #[.int .i64 p, .slice A n c] 28)).heap.size (w.alloc (.cells #[.int .i64 p, .slice A n c] 28)) ((w.alloc (.cells #[.int .i64 p, .slice A n c] 28)).alloc (.cells #[.slice B m d] 22)) := (Below.refl _ _).alloc (Nat.le_refl _) _
      go_wp2_with fail
      refine (impl_checkMultis p A _ n c 1 _ xs [ys] _ (HX.out.keep (H2.out.trans (hb.mono H2.out.size))) (Lists.mk1 _ _ (by simp) (HY.out.keep H2.out))).mono ?_
      rw [HZc.out]
      rintro e v ⟨rfl, hv⟩
      have hs1 : w.heap.size ≤ v.heap.size := (H2.out.trans ((below_then hb hv).mono H2.out.size)).size
      replace c0 := keep_cell (below_then hb hv) c0
      replace c1 := keep_cell (below_then hb hv) c1
      replace HW := Lib.hid (below_then (below_then HW.out hb) hv)
      clear hb hv
      go_wp2_with fail
      refine (Space_field _ _ _ _ _).mono ?_
      rintro e v1 ⟨rfl, hb⟩
      have hs2 := hb.size
      replace c0 := keep_cell hb c0
      replace c1 := keep_cell hb c1
      replace HW := Lib.hid (below_then HW.out hb)
      clear hb
      go_wp2_with fail
      refine (impl_is _ _ _ _ [k] _ h0' h1 (Ints.mk1 _ _ _)).mono ?_
      rw [HK2.out]
      rintro e _v ⟨rfl, rfl⟩
      have hb := (Below.refl v1.heap.size v1).alloc (Nat.le_refl _) (.cells #[.int .i64 k] 2)
      have hs3 := hb.size
      replace c0 := keep_cell hb c0
      replace c1 := keep_cell hb c1
      replace HW := Lib.hid (below_then HW.out hb)
      clear hb
      go_wp2_with fail
      go_ret2
      exact ⟨none, 0, rfl, Own.nil _ _, (H2.out.trans (HW.out.mono H2.out.size))⟩
  · have HC := Lib.hid (show scaC p xs ys k = codeS p xs (2 ^ n) [ys] by unfold scaC; rw [HN.out, if_neg hcz])
    have HV := Lib.hid (show scaL p xs ys k = [] by unfold scaL; rw [if_neg (by rw [HC.out]; exact hcz)])
    rw [HV.out, HC.out]
    have hc' : (codeS p xs (2 ^ n) [ys] == 0) = false := by simpa using hcz
    go_enter Try.func31, Try.ntmps31
    have c0 : (w.alloc (.cells #[.int .i64 p, .slice A n c] 28)).cell? ⟨w.heap.size, 0, none⟩ = some (.int .i64 p) := by simp [go_sem]
    have c1 : (w.alloc (.cells #[.int .i64 p, .slice A n c] 28)).cell? ⟨w.heap.size, 1, none⟩ = some (.slice A n c) := by simp [go_sem]
    have HW := Lib.hid (Below.refl (w.alloc (.cells #[.int .i64 p, .slice A n c] 28)).heap.size (w.alloc (.cells #[.int .i64 p, .slice A n c] 28)))
    have hb : Below (w.alloc (.cells #[.int .i64 p, .slice A n c] 28)).heap.size (w.alloc (.cells #[.int .i64 p, .slice A n c] 28)) ((w.alloc (.cells #[.int .i64 p, .slice A n c] 28)).alloc (.cells #[.slice B m d] 22)) := (Below.refl _ _).alloc (Nat.le_refl _) _
    go_wp2_with fail
    refine (impl_checkMultis p A _ n c 1 _ xs [ys] _ (HX.out.keep (H2.out.trans (hb.mono H2.out.size))) (Lists.mk1 _ _ (by simp) (HY.out.keep H2.out))).mono ?_
    rintro e v ⟨rfl, hv⟩
    have hs1 : w.heap.size ≤ v.heap.size := (H2.out.trans ((below_then hb hv).mono H2.out.size)).size
    replace c0 := keep_cell (below_then hb hv) c0
    replace c1 := keep_cell (below_then hb hv) c1
    replace HW := Lib.hid (below_then (below_then HW.out hb) hv)
    clear hb hv
    go_wp2_with fail
    go_ret2
    exact ⟨none, 0, rfl, Own.nil _ _, (H2.out.trans (HW.out.mono H2.out.size))⟩

end Go.Proofs.Ytincppklphahpaa
