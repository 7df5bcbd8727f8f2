/- Contracts: conjugates of elements. Conditions stand in each theorem. -/
import Derived.Test.YtjfkgocpkjdleaaTimes0
namespace Go.Proofs.Ytjfkgocpkjdleaa
open Go.RowKit
set_option linter.unusedVariables false
set_option linter.unusedSimpArgs false

def dcL (p : Int) (xs ys : List Int) : List Int := if codeD p xs (2 ^ xs.length) [ys] = 0 then conjL p ys else []
theorem codeD1_len {p : Int} {xs ys : List Int} {vs : List (List Int)} (h : codeD p xs (2 ^ xs.length) (ys :: vs) = 0) : ys.length ≤ 64 := by
  obtain ⟨hs, ha⟩ := codeD_zero h
  have h4 := (dblB_true hs).2.2.1
  have := pow_le6 (show xs.length ≤ 6 by omega)
  simp only [List.all_cons, Bool.and_eq_true] at ha
  rw [(lstB_true ha.1).1]; exact this
theorem dcL_len (p : Int) (xs ys : List Int) : (dcL p xs ys).length ≤ 1000000000 := by
  unfold dcL
  by_cases h : codeD p xs (2 ^ xs.length) [ys] = 0
  · rw [if_pos h, conjL_len]; have := codeD1_len h; omega
  · rw [if_neg h]; simp

theorem spec_DoubleConjugate (p : Int) (A B : Option Addr) (n c m d : Nat) (xs ys : List Int) (w : World) (hx : Ints w A n xs) (hy : Ints w B m ys) :
    Calls Try.prog 38 #[.agg #[.int .i64 p, .slice A n c], .slice B m d] w fun e w' => ∃ D t, e = .returned (.tuple #[.slice D (dcL p xs ys).length t, .int .i64 (codeD p xs (2 ^ xs.length) [ys])]) ∧ Own w.heap.size w' D (dcL p xs ys).length (dcL p xs ys) ∧ Below w.heap.size w w' := by
  have HX := Lib.hid hx
  have hm := hx.2.1
  have HN := Lib.hid hx.1
  clear hx
  unfold maxLen at hm
  have H2 := Lib.hid (show Below w.heap.size w (w.alloc (.cells #[.int .i64 p, .slice A n c] 27)) from (Below.refl _ _).alloc (Nat.le_refl _) _)
  have HY := Lib.hid hy
  clear hy
  rw [HN.out]
  by_cases hcz : codeD p xs (2 ^ n) [ys] = 0
  · have HV := Lib.hid (show dcL p xs ys = conjL p ys by unfold dcL; rw [HN.out, if_pos hcz])
    have HL := Lib.hid (show (dcL p xs ys).length = m by rw [HV.out, conjL_len, HY.out.1])
    obtain ⟨hsp, hall⟩ := codeD_zero hcz
    obtain ⟨hp, _, hl1, hst⟩ := dblB_true hsp
    have h0 := prime_lo hp
    have h1 := prime_hi hp
    rw [HN.out] at hl1
    have hl6 : n ≤ 6 := by omega
    obtain ⟨g0, g1, g2⟩ := ipow_le6 hl6
    simp only [List.all_cons, List.all_nil, Bool.and_true] at hall
    obtain ⟨hly, hny⟩ := lstB_true hall
    have hm64 : m ≤ 64 := by rw [← HY.out.1, hly]; exact pow_le6 hl6
    have hm0 : 0 < m := by rw [← HY.out.1, hly]; exact Nat.two_pow_pos _
    have HM1 := Lib.hid hny
    have HLY := Lib.hid hly
    have HST := Lib.hid hst
    have HZc := Lib.hid hcz
    rw [HL.out, HV.out, hcz]
    clear hcz hly hny hall hp hst hsp
    go_enter Try.func38, Try.ntmps38
    have c0 : (w.alloc (.cells #[.int .i64 p, .slice A n c] 27)).cell? ⟨w.heap.size, 0, none⟩ = some (.int .i64 p) := by simp [go_sem]
    have c1 : (w.alloc (.cells #[.int .i64 p, .slice A n c] 27)).cell? ⟨w.heap.size, 1, none⟩ = some (.slice A n c) := by simp [go_sem]
    have HW := Lib.hid (Below.refl (w.alloc (.cells #[.int .i64 p, .slice A n c] 27)).heap.size (w.alloc (.cells #[.int .i64 p, .slice A n c] 27)))
    have hb : Below (w.alloc (.cells #[.int .i64 p, .slice A n c] 27)).heap.size (w.alloc (.cells #[.int .i64 p, .slice A n c] 27)) ((w.alloc (.cells #[.int .i64 p, .slice A n c] 27)).alloc (.cells #[.slice B m d] 22)) := (Below.refl _ _).alloc (Nat.le_refl _) _
    go_wp2_with fail
    refine (spec_l11Code p A _ n c 1 _ xs [ys] _ (HX.out.keep (H2.out.trans (hb.mono H2.out.size))) (Lists.mk1 _ _ (by simp) (HY.out.keep H2.out))).mono ?_
    rw [HZc.out]
    rintro e v ⟨rfl, hv⟩
    have hs1 : w.heap.size ≤ v.heap.size := (H2.out.trans ((below_then hb hv).mono H2.out.size)).size
    replace c0 := keep_cell (below_then hb hv) c0
    replace c1 := keep_cell (below_then hb hv) c1
    replace HW := Lib.hid (below_then (below_then HW.out hb) hv)
    clear hb hv
    go_wp2_with fail
    refine (spec_l11Star p _ _ _ ys _ (HY.out.keep (H2.out.trans (HW.out.mono H2.out.size))) h0 h1 HM1.out hm0 (by omega)).mono ?_
    rintro e v2 ⟨CC, qq, rfl, _, _, ho, hb⟩
    have HO := Lib.hid (ho.less (B' := w.heap.size) (by omega))
    clear ho
    replace c0 := keep_cell hb c0
    replace c1 := keep_cell hb c1
    replace HW := Lib.hid (below_then HW.out hb)
    clear hb
    go_wp2_with fail
    go_ret2
    exact ⟨CC, qq, rfl, HO.out, (H2.out.trans (HW.out.mono H2.out.size))⟩
  · have HV := Lib.hid (show dcL p xs ys = [] by unfold dcL; rw [HN.out, if_neg hcz])
    rw [HV.out]
    have hc' : (codeD p xs (2 ^ n) [ys] == 0) = false := by simpa using hcz
    have hc2 : (codeD p xs (2 ^ n) [ys] != 0) = true := by rw [bne, hc']; rfl
    go_enter Try.func38, Try.ntmps38
    have c0 : (w.alloc (.cells #[.int .i64 p, .slice A n c] 27)).cell? ⟨w.heap.size, 0, none⟩ = some (.int .i64 p) := by simp [go_sem]
    have c1 : (w.alloc (.cells #[.int .i64 p, .slice A n c] 27)).cell? ⟨w.heap.size, 1, none⟩ = some (.slice A n c) := by simp [go_sem]
    have HW := Lib.hid (Below.refl (w.alloc (.cells #[.int .i64 p, .slice A n c] 27)).heap.size (w.alloc (.cells #[.int .i64 p, .slice A n c] 27)))
    have hb : Below (w.alloc (.cells #[.int .i64 p, .slice A n c] 27)).heap.size (w.alloc (.cells #[.int .i64 p, .slice A n c] 27)) ((w.alloc (.cells #[.int .i64 p, .slice A n c] 27)).alloc (.cells #[.slice B m d] 22)) := (Below.refl _ _).alloc (Nat.le_refl _) _
    go_wp2_with fail
    refine (spec_l11Code p A _ n c 1 _ xs [ys] _ (HX.out.keep (H2.out.trans (hb.mono H2.out.size))) (Lists.mk1 _ _ (by simp) (HY.out.keep H2.out))).mono ?_
    rintro e v ⟨rfl, hv⟩
    have hs1 : w.heap.size ≤ v.heap.size := (H2.out.trans ((below_then hb hv).mono H2.out.size)).size
    replace c0 := keep_cell (below_then hb hv) c0
    replace c1 := keep_cell (below_then hb hv) c1
    replace HW := Lib.hid (below_then (below_then HW.out hb) hv)
    clear hb hv
    go_wp2_with fail
    go_ret2
    exact ⟨none, 0, rfl, Own.nil _ _, (H2.out.trans (HW.out.mono H2.out.size))⟩

theorem impl_DoubleConjugate (p : Int) (A B : Option Addr) (n c m d : Nat) (xs ys : List Int) (w : World) (hx : Ints w A n xs) (hy : Ints w B m ys) :
    Calls Try.prog 39 #[.agg #[.int .i64 p, .slice A n c], .slice B m d] w fun e w' => ∃ D t, e = .returned (.tuple #[.slice D (dcL p xs ys).length t, .int .i64 (codeD p xs (2 ^ xs.length) [ys])]) ∧ Own w.heap.size w' D (dcL p xs ys).length (dcL p xs ys) ∧ Below w.heap.size w w' := by
  have HX := Lib.hid hx
  have hm := hx.2.1
  have HN := Lib.hid hx.1
  clear hx
  unfold maxLen at hm
  have H2 := Lib.hid (show Below w.heap.size w (w.alloc (.cells #[.int .i64 p, .slice A n c] 27)) from (Below.refl _ _).alloc (Nat.le_refl _) _)
  have HY := Lib.hid hy
  clear hy
  rw [HN.out]
  by_cases hcz : codeD p xs (2 ^ n) [ys] = 0
  · have HV := Lib.hid (show dcL p xs ys = conjL p ys by unfold dcL; rw [HN.out, if_pos hcz])
    have HL := Lib.hid (show (dcL p xs ys).length = m by rw [HV.out, conjL_len, HY.out.1])
    obtain ⟨hsp, hall⟩ := codeD_zero hcz
    obtain ⟨hp, _, hl1, hst⟩ := dblB_true hsp
    have h0 := prime_lo hp
    have h1 := prime_hi hp
    rw [HN.out] at hl1
    have hl6 : n ≤ 6 := by omega
    obtain ⟨g0, g1, g2⟩ := ipow_le6 hl6
    simp only [List.all_cons, List.all_nil, Bool.and_true] at hall
    obtain ⟨hly, hny⟩ := lstB_true hall
    have hm64 : m ≤ 64 := by rw [← HY.out.1, hly]; exact pow_le6 hl6
    have hm0 : 0 < m := by rw [← HY.out.1, hly]; exact Nat.two_pow_pos _
    have HM1 := Lib.hid hny
    have HLY := Lib.hid hly
    have HST := Lib.hid hst
    have HZc := Lib.hid hcz
    rw [HL.out, HV.out, hcz]
    clear hcz hly hny hall hp hst hsp
    go_enter Try.func39, Try.ntmps39
    have c0 : (w.alloc (.cells #[.int .i64 p, .slice A n c] 27)).cell? ⟨w.heap.size, 0, none⟩ = some (.int .i64 p) := by simp [go_sem]
    have c1 : (w.alloc (.cells #[.int .i64 p, .slice A n c] 27)).cell? ⟨w.heap.size, 1, none⟩ = some (.slice A n c) := by simp [go_sem]
    have HW := Lib.hid (Below.refl (w.alloc (.cells #[.int .i64 p, .slice A n c] 27)).heap.size (w.alloc (.cells #[.int .i64 p, .slice A n c] 27)))
    have hb : Below (w.alloc (.cells #[.int .i64 p, .slice A n c] 27)).heap.size (w.alloc (.cells #[.int .i64 p, .slice A n c] 27)) ((w.alloc (.cells #[.int .i64 p, .slice A n c] 27)).alloc (.cells #[.slice B m d] 22)) := (Below.refl _ _).alloc (Nat.le_refl _) _
    go_wp2_with fail
    refine (impl_checkElements p A _ n c 1 _ xs [ys] _ (HX.out.keep (H2.out.trans (hb.mono H2.out.size))) (Lists.mk1 _ _ (by simp) (HY.out.keep H2.out))).mono ?_
    rw [HZc.out]
    rintro e v ⟨rfl, hv⟩
    have hs1 : w.heap.size ≤ v.heap.size := (H2.out.trans ((below_then hb hv).mono H2.out.size)).size
    replace c0 := keep_cell (below_then hb hv) c0
    replace c1 := keep_cell (below_then hb hv) c1
    replace HW := Lib.hid (below_then (below_then HW.out hb) hv)
    clear hb hv
    go_wp2_with fail
    refine (Doubling_field _ _ _ _ _).mono ?_
    rintro e v1 ⟨rfl, hb⟩
    have hs2 := hb.size
    replace c0 := keep_cell hb c0
    replace c1 := keep_cell hb c1
    replace HW := Lib.hid (below_then HW.out hb)
    clear hb
    go_wp2_with fail
    refine (field_conjugate p _ _ _ ys _ (HY.out.keep (H2.out.trans (HW.out.mono H2.out.size))) h0 h1 HM1.out hm0 (by omega)).mono ?_
    rintro e v2 ⟨CC, qq, rfl, _, _, ho, hb⟩
    have HO := Lib.hid (ho.less (B' := w.heap.size) (by omega))
    clear ho
    replace c0 := keep_cell hb c0
    replace c1 := keep_cell hb c1
    replace HW := Lib.hid (below_then HW.out hb)
    clear hb
    go_wp2_with fail
    go_ret2
    exact ⟨CC, qq, rfl, HO.out, (H2.out.trans (HW.out.mono H2.out.size))⟩
  · have HV := Lib.hid (show dcL p xs ys = [] by unfold dcL; rw [HN.out, if_neg hcz])
    rw [HV.out]
    have hc' : (codeD p xs (2 ^ n) [ys] == 0) = false := by simpa using hcz
    have hc2 : (codeD p xs (2 ^ n) [ys] != 0) = true := by rw [bne, hc']; rfl
    go_enter Try.func39, Try.ntmps39
    have c0 : (w.alloc (.cells #[.int .i64 p, .slice A n c] 27)).cell? ⟨w.heap.size, 0, none⟩ = some (.int .i64 p) := by simp [go_sem]
    have c1 : (w.alloc (.cells #[.int .i64 p, .slice A n c] 27)).cell? ⟨w.heap.size, 1, none⟩ = some (.slice A n c) := by simp [go_sem]
    have HW := Lib.hid (Below.refl (w.alloc (.cells #[.int .i64 p, .slice A n c] 27)).heap.size (w.alloc (.cells #[.int .i64 p, .slice A n c] 27)))
    have hb : Below (w.alloc (.cells #[.int .i64 p, .slice A n c] 27)).heap.size (w.alloc (.cells #[.int .i64 p, .slice A n c] 27)) ((w.alloc (.cells #[.int .i64 p, .slice A n c] 27)).alloc (.cells #[.slice B m d] 22)) := (Below.refl _ _).alloc (Nat.le_refl _) _
    go_wp2_with fail
    refine (impl_checkElements p A _ n c 1 _ xs [ys] _ (HX.out.keep (H2.out.trans (hb.mono H2.out.size))) (Lists.mk1 _ _ (by simp) (HY.out.keep H2.out))).mono ?_
    rintro e v ⟨rfl, hv⟩
    have hs1 : w.heap.size ≤ v.heap.size := (H2.out.trans ((below_then hb hv).mono H2.out.size)).size
    replace c0 := keep_cell (below_then hb hv) c0
    replace c1 := keep_cell (below_then hb hv) c1
    replace HW := Lib.hid (below_then (below_then HW.out hb) hv)
    clear hb hv
    go_wp2_with fail
    go_ret2
    exact ⟨none, 0, rfl, Own.nil _ _, (H2.out.trans (HW.out.mono H2.out.size))⟩

end Go.Proofs.Ytjfkgocpkjdleaa
