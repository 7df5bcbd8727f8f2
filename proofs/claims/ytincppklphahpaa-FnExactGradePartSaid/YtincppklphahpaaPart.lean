/- Contracts: the part of a grade. Conditions stand in each theorem. -/
import Derived.Test.YtincppklphahpaaGrade
import Derived.Test.YtincppklphahpaaBladeOf
import Derived.Test.YtincppklphahpaaVec
import Derived.Test.YtincppklphahpaaLists
namespace Go.Proofs.Ytincppklphahpaa
open Go.RowKit
set_option linter.unusedVariables false

theorem make_len {m : Nat} (hm : m ≤ 1000) (w : World) : (Instr.makeSlice 22 (.int .i64 m) (.int .i64 m)).run Try.prog w = .ok (.slice (some ⟨w.heap.size, 0, none⟩) m m) (w.alloc (.cells (madeCells #[.int .i64 0] m) 2)) :=
  run_make_row' (P := Try.prog) 22 2 (.int .i64 0) 8 Try.underlying22 int_info rfl .i64 .i64 m (by omega) (by omega) w
def partK (k : Int) (ys : List Int) : Nat → List Int
  | 0 => List.replicate ys.length 0
  | j + 1 => if (gradeN j : Int) = k then (partK k ys j).set j (ys.getD j 0) else partK k ys j
theorem partK_len (k : Int) (ys : List Int) (j : Nat) : (partK k ys j).length = ys.length := by
  induction j with
  | zero => exact List.length_replicate
  | succ j ih =>
    unfold partK
    by_cases h : (gradeN j : Int) = k
    · rw [if_pos h, List.length_set, ih]
    · rw [if_neg h, ih]
theorem partK_in {k : Int} {ys : List Int} {j : Nat} {x : Int} (hx : ys[j]? = some x) (h : (gradeN j : Int) = k) : partK k ys (j + 1) = (partK k ys j).set j x := by
  show (if (gradeN j : Int) = k then (partK k ys j).set j (ys.getD j 0) else partK k ys j) = _
  rw [if_pos h, List.getD_eq_getElem?_getD, hx]; rfl
theorem partK_out {k : Int} {ys : List Int} {j : Nat} (h : ¬ (gradeN j : Int) = k) : partK k ys (j + 1) = partK k ys j := if_neg h
def partL (k : Int) (ys : List Int) : List Int := partK k ys ys.length
theorem partK_at {k : Int} {ys : List Int} {i j : Nat} (h : j < ys.length) : ∃ z, (partK k ys i)[j]? = some z := ⟨_, List.getElem?_eq_getElem (by rw [partK_len]; exact h)⟩

theorem spec_l04Part (B : Option Addr) (m d : Nat) (ys : List Int) (k : Int) (w : World) (hy : Ints w B m ys) (hm : m ≤ 64) : Calls Try.prog 67 #[.slice B m d, .int .i64 k] w fun e w' => ∃ b, e = .returned (.slice (some ⟨b, 0, none⟩) m m) ∧ Own w.heap.size w' (some ⟨b, 0, none⟩) m (partL k ys) ∧ Below w.heap.size w w' := by
  have HY := Lib.hid hy
  have HM := Lib.hid hy.1
  clear hy
  have hmk := make_len (show m ≤ 1000 by omega)
  go_enter Try.func67, Try.ntmps67
  go_wp2
  go_loopw [6] (fun i wr => ∃ j : Nat, j ≤ m ∧ i = .int .i64 j ∧ Own w.heap.size wr (some ⟨w.heap.size, 0, none⟩) m (partK k ys j) ∧ Below w.heap.size w wr) (fun i _ => m - (intOf i).toNat)
  case atStart =>
    refine ⟨0, Nat.zero_le _, rfl, ?_, below_alloc _ _⟩
    have hq := own_zeros w m (by unfold maxLen; omega) _ rfl 2 w.heap.size (Nat.le_refl _)
    rw [← HM.out] at hq ⊢
    exact hq
  case round =>
    obtain ⟨j, hj, rfl, hown, hbel⟩ := hrel
    clear hmk
    have HO := Lib.hid hown
    have HB := Lib.hid hbel
    clear hown hbel
    by_cases hlt : j < m
    · obtain ⟨b1, off1, x, rfl, hb1, hxk, hck1⟩ := (HY.out.keep HB.out).at_ hlt
      have HK1 := Lib.hid hxk
      have hkn : (j : Int) < m := by omega
      clear hxk
      obtain ⟨b', off', e', hd1, hd2, hcl, hfz⟩ := HO.out.2.2 (by omega)
      injection e' with e'
      injection e' with e1' e2'
      subst e1' e2'
      obtain ⟨z, hz⟩ := partK_at (k := k) (ys := ys) (i := j) (show j < ys.length by rw [HM.out]; exact hlt)
      have hcell := hcl j z hz
      have hfr := hfz j hlt
      clear hcl hfz hz
      simp only [Nat.zero_add] at hcell hfr
      by_cases hg : (gradeN j : Int) = k
      · have HG := Lib.hid hg
        have hgb : ((gradeN j : Int) == k) = true := by simpa using hg
        clear hg
        go_wp2_with (go_at_call 70; refine (spec_l04Grade _ (by omega) _).mono ?_; rintro e w' ⟨rfl, rfl⟩)
        go_roundw
        case rel =>
          refine ⟨j + 1, by omega, by go_num, ?_, HB.out.setCell (Nat.le_refl _) _⟩
          rw [partK_in HK1.out HG.out]
          have hq := HO.out.set_ (j := j) hlt x
          simpa only [Nat.zero_add] using hq
        case measure => simp [intOf]; omega
      · have HG := Lib.hid hg
        have hgb : ((gradeN j : Int) == k) = false := by simpa using hg
        clear hg
        go_wp2_with (go_at_call 70; refine (spec_l04Grade _ (by omega) _).mono ?_; rintro e w' ⟨rfl, rfl⟩)
        go_roundw
        case rel => exact ⟨j + 1, by omega, by go_num, by rw [partK_out HG.out]; exact HO.out, HB.out⟩
        case measure => simp [intOf]; omega
    · obtain rfl : j = m := by omega
      go_wp2
      go_ret
      refine ⟨_, rfl, ?_, HB.out⟩
      unfold partL
      rw [HM.out]
      exact HO.out

theorem impl_gradePart (B : Option Addr) (m d : Nat) (ys : List Int) (k : Int) (w : World) (hy : Ints w B m ys) (hm : m ≤ 64) : Calls Try.prog 68 #[.slice B m d, .int .i64 k] w fun e w' => ∃ b, e = .returned (.slice (some ⟨b, 0, none⟩) m m) ∧ Own w.heap.size w' (some ⟨b, 0, none⟩) m (partL k ys) ∧ Below w.heap.size w w' := by
  have HY := Lib.hid hy
  have HM := Lib.hid hy.1
  clear hy
  have hmk := make_len (show m ≤ 1000 by omega)
  go_enter Try.func68, Try.ntmps68
  go_wp2
  go_loopw [13] (fun i wr => ∃ j : Nat, j ≤ m ∧ i = .int .i64 j ∧ Own w.heap.size wr (some ⟨w.heap.size, 0, none⟩) m (partK k ys j) ∧ Below w.heap.size w wr) (fun i _ => m - (intOf i).toNat)
  case atStart =>
    refine ⟨0, Nat.zero_le _, rfl, ?_, below_alloc _ _⟩
    have hq := own_zeros w m (by unfold maxLen; omega) _ rfl 2 w.heap.size (Nat.le_refl _)
    rw [← HM.out] at hq ⊢
    exact hq
  case round =>
    obtain ⟨j, hj, rfl, hown, hbel⟩ := hrel
    clear hmk
    have HO := Lib.hid hown
    have HB := Lib.hid hbel
    clear hown hbel
    by_cases hlt : j < m
    · obtain ⟨b1, off1, x, rfl, hb1, hxk, hck1⟩ := (HY.out.keep HB.out).at_ hlt
      have HK1 := Lib.hid hxk
      have hkn : (j : Int) < m := by omega
      clear hxk
      obtain ⟨b', off', e', hd1, hd2, hcl, hfz⟩ := HO.out.2.2 (by omega)
      injection e' with e'
      injection e' with e1' e2'
      subst e1' e2'
      obtain ⟨z, hz⟩ := partK_at (k := k) (ys := ys) (i := j) (show j < ys.length by rw [HM.out]; exact hlt)
      have hcell := hcl j z hz
      have hfr := hfz j hlt
      clear hcl hfz hz
      simp only [Nat.zero_add] at hcell hfr
      by_cases hg : (gradeN j : Int) = k
      · have HG := Lib.hid hg
        have hgb : ((gradeN j : Int) == k) = true := by simpa using hg
        clear hg
        go_wp2_with (go_at_call 72; refine (impl_gradeOf _ (by omega) _).mono ?_; rintro e w' ⟨rfl, rfl⟩)
        go_roundw
        case rel =>
          refine ⟨j + 1, by omega, by go_num, ?_, HB.out.setCell (Nat.le_refl _) _⟩
          rw [partK_in HK1.out HG.out]
          have hq := HO.out.set_ (j := j) hlt x
          simpa only [Nat.zero_add] using hq
        case measure => simp [intOf]; omega
      · have HG := Lib.hid hg
        have hgb : ((gradeN j : Int) == k) = false := by simpa using hg
        clear hg
        go_wp2_with (go_at_call 72; refine (impl_gradeOf _ (by omega) _).mono ?_; rintro e w' ⟨rfl, rfl⟩)
        go_roundw
        case rel => exact ⟨j + 1, by omega, by go_num, by rw [partK_out HG.out]; exact HO.out, HB.out⟩
        case measure => simp [intOf]; omega
    · obtain rfl : j = m := by omega
      go_wp2
      go_ret
      refine ⟨_, rfl, ?_, HB.out⟩
      unfold partL
      rw [HM.out]
      exact HO.out

def gpC (p : Int) (xs ys : List Int) (k : Int) : Int := if codeS p xs (2 ^ xs.length) [ys] = 0 then (if rangeB k 0 xs.length then 0 else 2) else codeS p xs (2 ^ xs.length) [ys]
def gpL (p : Int) (xs ys : List Int) (k : Int) : List Int := if gpC p xs ys k = 0 then partL k ys else []
theorem gpC_zero {p : Int} {xs ys : List Int} {k : Int} (h : gpC p xs ys k = 0) : codeS p xs (2 ^ xs.length) [ys] = 0 := by
  unfold gpC at h
  by_cases h1 : codeS p xs (2 ^ xs.length) [ys] = 0
  · exact h1
  · rw [if_neg h1] at h; exact absurd h h1
theorem code1_len {p : Int} {xs ys : List Int} (h : codeS p xs (2 ^ xs.length) [ys] = 0) : ys.length ≤ 64 := by
  obtain ⟨hs, ha⟩ := codeS_zero h
  have := pow_le6 (spaceB_true hs).2.2.1
  simp only [List.all_cons, Bool.and_eq_true] at ha
  rw [(lstB_true ha.1).1]; exact this
theorem gpL_len (p : Int) (xs ys : List Int) (k : Int) : (gpL p xs ys k).length ≤ 1000000000 := by
  unfold gpL
  by_cases h : gpC p xs ys k = 0
  · rw [if_pos h]; unfold partL; rw [partK_len]; have := code1_len (gpC_zero h); omega
  · rw [if_neg h]; simp

theorem spec_GradePart (p : Int) (A B : Option Addr) (n c m d : Nat) (xs ys : List Int) (k : Int) (w : World) (hx : Ints w A n xs) (hy : Ints w B m ys) :
    Calls Try.prog 32 #[.agg #[.int .i64 p, .slice A n c], .slice B m d, .int .i64 k] w fun e w' => ∃ D t, e = .returned (.tuple #[.slice D (gpL p xs ys k).length t, .int .i64 (gpC p xs ys k)]) ∧ Own w.heap.size w' D (gpL p xs ys k).length (gpL p xs ys k) ∧ Below w.heap.size w w' := by
  have HX := Lib.hid hx
  have hm := hx.2.1
  have HN := Lib.hid hx.1
  clear hx
  unfold maxLen at hm
  have H2 := Lib.hid (show Below w.heap.size w (w.alloc (.cells #[.int .i64 p, .slice A n c] 28)) from (Below.refl _ _).alloc (Nat.le_refl _) _)
  have HY := Lib.hid hy
  clear hy
  by_cases hcz : codeS p xs (2 ^ n) [ys] = 0
  · have hm64 : m ≤ 64 := by rw [← HY.out.1]; exact code1_len (p := p) (xs := xs) (by rw [HN.out]; exact hcz)
    have HZc := Lib.hid hcz
    cases hk : rangeB k 0 n with
    | true =>
      have HC := Lib.hid (show gpC p xs ys k = 0 by unfold gpC; rw [HN.out, if_pos hcz, hk]; rfl)
      have HV := Lib.hid (show gpL p xs ys k = partL k ys by unfold gpL; rw [if_pos HC.out])
      have HL := Lib.hid (show (gpL p xs ys k).length = m by rw [HV.out]; unfold partL; rw [partK_len, HY.out.1])
      rw [HL.out, HV.out, HC.out]
      have HK := Lib.hid hk
      clear hcz hk
      go_enter Try.func32, Try.ntmps32
      have c0 : (w.alloc (.cells #[.int .i64 p, .slice A n c] 28)).cell? ⟨w.heap.size, 0, none⟩ = some (.int .i64 p) := by simp [go_sem]
      have c1 : (w.alloc (.cells #[.int .i64 p, .slice A n c] 28)).cell? ⟨w.heap.size, 1, none⟩ = some (.slice A n c) := by simp [go_sem]
      have HW := Lib.hid (Below.refl (w.alloc (.cells #[.int .i64 p, .slice A n c] 28)).heap.size (w.alloc (.cells #[.int .i64 p, .slice A n c] 28)))
      have hb : Below (w.alloc (.cells #[.int .i64 p, .slice A n c] 28)).heap.size (w.alloc (.cells #[.int .i64 p, .slice A n c] 28)) ((w.alloc (.cells #[.int .i64 p, .slice A n c] 28)).alloc (.cells #[.slice B m d] 22)) := (Below.refl _ _).alloc (Nat.le_refl _) _
      go_wp2_with fail
      refine (spec_l04Code p A _ n c 1 _ xs [ys] _ (HX.out.keep (H2.out.trans (hb.mono H2.out.size))) (Lists.mk1 _ _ (by simp) (HY.out.keep H2.out))).mono ?_
      rw [HZc.out]
      rintro e v ⟨rfl, hv⟩
      have hs1 : w.heap.size ≤ v.heap.size := (H2.out.trans ((below_then hb hv).mono H2.out.size)).size
      replace c0 := keep_cell (below_then hb hv) c0
      replace c1 := keep_cell (below_then hb hv) c1
      replace HW := Lib.hid (below_then (below_then HW.out hb) hv)
      clear hb hv
      go_wp2_with fail
      refine (spec_in_is _ _ _ true _ HK.out).mono ?_
      rintro e _v ⟨rfl, rfl⟩
      go_wp2_with fail
      refine (spec_l04Part _ _ _ ys k _ (HY.out.keep (H2.out.trans (HW.out.mono H2.out.size))) hm64).mono ?_
      rintro e v2 ⟨bb, rfl, ho, hb⟩
      have HO := Lib.hid (ho.less (B' := w.heap.size) (by omega))
      clear ho
      replace c0 := keep_cell hb c0
      replace c1 := keep_cell hb c1
      replace HW := Lib.hid (below_then HW.out hb)
      clear hb
      go_wp2_with fail
      go_ret2
      exact ⟨_, _, rfl, HO.out, (H2.out.trans (HW.out.mono H2.out.size))⟩
    | false =>
      have HC := Lib.hid (show gpC p xs ys k = 2 by unfold gpC; rw [HN.out, if_pos hcz, hk]; rfl)
      have HV := Lib.hid (show gpL p xs ys k = [] by unfold gpL; rw [if_neg (by rw [HC.out]; omega)])
      rw [HV.out, HC.out]
      have HK := Lib.hid hk
      clear hcz hk
      go_enter Try.func32, Try.ntmps32
      have c0 : (w.alloc (.cells #[.int .i64 p, .slice A n c] 28)).cell? ⟨w.heap.size, 0, none⟩ = some (.int .i64 p) := by simp [go_sem]
      have c1 : (w.alloc (.cells #[.int .i64 p, .slice A n c] 28)).cell? ⟨w.heap.size, 1, none⟩ = some (.slice A n c) := by simp [go_sem]
      have HW := Lib.hid (Below.refl (w.alloc (.cells #[.int .i64 p, .slice A n c] 28)).heap.size (w.alloc (.cells #[.int .i64 p, .slice A n c] 28)))
      have hb : Below (w.alloc (.cells #[.int .i64 p, .slice A n c] 28)).heap.size (w.alloc (.cells #[.int .i64 p, .slice A n c] 28)) ((w.alloc (.cells #[.int .i64 p, .slice A n c] 28)).alloc (.cells #[.slice B m d] 22)) := (Below.refl _ _).alloc (Nat.le_refl _) _
      go_wp2_with fail
      refine (spec_l04Code p A _ n c 1 _ xs [ys] _ (HX.out.keep (H2.out.trans (hb.mono H2.out.size))) (Lists.mk1 _ _ (by simp) (HY.out.keep H2.out))).mono ?_
      rw [HZc.out]
      rintro e v ⟨rfl, hv⟩
      have hs1 : w.heap.size ≤ v.heap.size := (H2.out.trans ((below_then hb hv).mono H2.out.size)).size
      replace c0 := keep_cell (below_then hb hv) c0
      replace c1 := keep_cell (below_then hb hv) c1
      replace HW := Lib.hid (below_then (below_then HW.out hb) hv)
      clear hb hv
      go_wp2_with fail
      refine (spec_in_is _ _ _ false _ HK.out).mono ?_
      rintro e _v ⟨rfl, rfl⟩
      go_wp2_with fail
      go_ret2
      exact ⟨none, 0, rfl, Own.nil _ _, (H2.out.trans (HW.out.mono H2.out.size))⟩
  · have HC := Lib.hid (show gpC p xs ys k = codeS p xs (2 ^ n) [ys] by unfold gpC; rw [HN.out, if_neg hcz])
    have HV := Lib.hid (show gpL p xs ys k = [] by unfold gpL; rw [if_neg (by rw [HC.out]; exact hcz)])
    rw [HV.out, HC.out]
    have hc' : (codeS p xs (2 ^ n) [ys] == 0) = false := by simpa using hcz
    go_enter Try.func32, Try.ntmps32
    have c0 : (w.alloc (.cells #[.int .i64 p, .slice A n c] 28)).cell? ⟨w.heap.size, 0, none⟩ = some (.int .i64 p) := by simp [go_sem]
    have c1 : (w.alloc (.cells #[.int .i64 p, .slice A n c] 28)).cell? ⟨w.heap.size, 1, none⟩ = some (.slice A n c) := by simp [go_sem]
    have HW := Lib.hid (Below.refl (w.alloc (.cells #[.int .i64 p, .slice A n c] 28)).heap.size (w.alloc (.cells #[.int .i64 p, .slice A n c] 28)))
    have hb : Below (w.alloc (.cells #[.int .i64 p, .slice A n c] 28)).heap.size (w.alloc (.cells #[.int .i64 p, .slice A n c] 28)) ((w.alloc (.cells #[.int .i64 p, .slice A n c] 28)).alloc (.cells #[.slice B m d] 22)) := (Below.refl _ _).alloc (Nat.le_refl _) _
    go_wp2_with fail
    refine (spec_l04Code p A _ n c 1 _ xs [ys] _ (HX.out.keep (H2.out.trans (hb.mono H2.out.size))) (Lists.mk1 _ _ (by simp) (HY.out.keep H2.out))).mono ?_
    rintro e v ⟨rfl, hv⟩
    have hs1 : w.heap.size ≤ v.heap.size := (H2.out.trans ((below_then hb hv).mono H2.out.size)).size
    replace c0 := keep_cell (below_then hb hv) c0
    replace c1 := keep_cell (below_then hb hv) c1
    replace HW := Lib.hid (below_then (below_then HW.out hb) hv)
    clear hb hv
    go_wp2_with fail
    go_ret2
    exact ⟨none, 0, rfl, Own.nil _ _, (H2.out.trans (HW.out.mono H2.out.size))⟩

theorem impl_GradePart (p : Int) (A B : Option Addr) (n c m d : Nat) (xs ys : List Int) (k : Int) (w : World) (hx : Ints w A n xs) (hy : Ints w B m ys) :
    Calls Try.prog 33 #[.agg #[.int .i64 p, .slice A n c], .slice B m d, .int .i64 k] w fun e w' => ∃ D t, e = .returned (.tuple #[.slice D (gpL p xs ys k).length t, .int .i64 (gpC p xs ys k)]) ∧ Own w.heap.size w' D (gpL p xs ys k).length (gpL p xs ys k) ∧ Below w.heap.size w w' := by
  have HX := Lib.hid hx
  have hm := hx.2.1
  have HN := Lib.hid hx.1
  clear hx
  unfold maxLen at hm
  have H2 := Lib.hid (show Below w.heap.size w (w.alloc (.cells #[.int .i64 p, .slice A n c] 28)) from (Below.refl _ _).alloc (Nat.le_refl _) _)
  have HY := Lib.hid hy
  clear hy
  by_cases hcz : codeS p xs (2 ^ n) [ys] = 0
  · have hm64 : m ≤ 64 := by rw [← HY.out.1]; exact code1_len (p := p) (xs := xs) (by rw [HN.out]; exact hcz)
    have HZc := Lib.hid hcz
    cases hk : rangeB k 0 n with
    | true =>
      have HC := Lib.hid (show gpC p xs ys k = 0 by unfold gpC; rw [HN.out, if_pos hcz, hk]; rfl)
      have HV := Lib.hid (show gpL p xs ys k = partL k ys by unfold gpL; rw [if_pos HC.out])
      have HL := Lib.hid (show (gpL p xs ys k).length = m by rw [HV.out]; unfold partL; rw [partK_len, HY.out.1])
      rw [HL.out, HV.out, HC.out]
      have HK := Lib.hid hk
      clear hcz hk
      go_enter Try.func33, Try.ntmps33
      have c0 : (w.alloc (.cells #[.int .i64 p, .slice A n c] 28)).cell? ⟨w.heap.size, 0, none⟩ = some (.int .i64 p) := by simp [go_sem]
      have c1 : (w.alloc (.cells #[.int .i64 p, .slice A n c] 28)).cell? ⟨w.heap.size, 1, none⟩ = some (.slice A n c) := by simp [go_sem]
      have HW := Lib.hid (Below.refl (w.alloc (.cells #[.int .i64 p, .slice A n c] 28)).heap.size (w.alloc (.cells #[.int .i64 p, .slice A n c] 28)))
      have hb : Below (w.alloc (.cells #[.int .i64 p, .slice A n c] 28)).heap.size (w.alloc (.cells #[.int .i64 p, .slice A n c] 28)) ((w.alloc (.cells #[.int .i64 p, .slice A n c] 28)).alloc (.cells #[.slice B m d] 22)) := (Below.refl _ _).alloc (Nat.le_refl _) _
      go_wp2_with fail
      refine (impl_checkMultis p A _ n c 1 _ xs [ys] _ (HX.out.keep (H2.out.trans (hb.mono H2.out.size))) (Lists.mk1 _ _ (by simp) (HY.out.keep H2.out))).mono ?_
      rw [HZc.out]
      rintro e v ⟨rfl, hv⟩
      have hs1 : w.heap.size ≤ v.heap.size := (H2.out.trans ((below_then hb hv).mono H2.out.size)).size
      replace c0 := keep_cell (below_then hb hv) c0
      replace c1 := keep_cell (below_then hb hv) c1
      replace HW := Lib.hid (below_then (below_then HW.out hb) hv)
      clear hb hv
      go_wp2_with fail
      refine (Space_dim _ _ _ _ _).mono ?_
      rintro e v1 ⟨rfl, hb⟩
      have hs2 := hb.size
      replace c0 := keep_cell hb c0
      replace c1 := keep_cell hb c1
      replace HW := Lib.hid (below_then HW.out hb)
      clear hb
      go_wp2_with fail
      refine (impl_in_is _ _ _ true _ HK.out).mono ?_
      rintro e _v ⟨rfl, rfl⟩
      go_wp2_with fail
      refine (impl_gradePart _ _ _ ys k _ (HY.out.keep (H2.out.trans (HW.out.mono H2.out.size))) hm64).mono ?_
      rintro e v2 ⟨bb, rfl, ho, hb⟩
      have HO := Lib.hid (ho.less (B' := w.heap.size) (by omega))
      clear ho
      replace c0 := keep_cell hb c0
      replace c1 := keep_cell hb c1
      replace HW := Lib.hid (below_then HW.out hb)
      clear hb
      go_wp2_with fail
      go_ret2
      exact ⟨_, _, rfl, HO.out, (H2.out.trans (HW.out.mono H2.out.size))⟩
    | false =>
      have HC := Lib.hid (show gpC p xs ys k = 2 by unfold gpC; rw [HN.out, if_pos hcz, hk]; rfl)
      have HV := Lib.hid (show gpL p xs ys k = [] by unfold gpL; rw [if_neg (by rw [HC.out]; omega)])
      rw [HV.out, HC.out]
      have HK := Lib.hid hk
      clear hcz hk
      go_enter Try.func33, Try.ntmps33
      have c0 : (w.alloc (.cells #[.int .i64 p, .slice A n c] 28)).cell? ⟨w.heap.size, 0, none⟩ = some (.int .i64 p) := by simp [go_sem]
      have c1 : (w.alloc (.cells #[.int .i64 p, .slice A n c] 28)).cell? ⟨w.heap.size, 1, none⟩ = some (.slice A n c) := by simp [go_sem]
      have HW := Lib.hid (Below.refl (w.alloc (.cells #[.int .i64 p, .slice A n c] 28)).heap.size (w.alloc (.cells #[.int .i64 p, .slice A n c] 28)))
      have hb : Below (w.alloc (.cells #[.int .i64 p, .slice A n c] 28)).heap.size (w.alloc (.cells #[.int .i64 p, .slice A n c] 28)) ((w.alloc (.cells #[.int .i64 p, .slice A n c] 28)).alloc (.cells #[.slice B m d] 22)) := (Below.refl _ _).alloc (Nat.le_refl _) _
      go_wp2_with fail
      refine (impl_checkMultis p A _ n c 1 _ xs [ys] _ (HX.out.keep (H2.out.trans (hb.mono H2.out.size))) (Lists.mk1 _ _ (by simp) (HY.out.keep H2.out))).mono ?_
      rw [HZc.out]
      rintro e v ⟨rfl, hv⟩
      have hs1 : w.heap.size ≤ v.heap.size := (H2.out.trans ((below_then hb hv).mono H2.out.size)).size
      replace c0 := keep_cell (below_then hb hv) c0
      replace c1 := keep_cell (below_then hb hv) c1
      replace HW := Lib.hid (below_then (below_then HW.out hb) hv)
      clear hb hv
      go_wp2_with fail
      refine (Space_dim _ _ _ _ _).mono ?_
      rintro e v1 ⟨rfl, hb⟩
      have hs2 := hb.size
      replace c0 := keep_cell hb c0
      replace c1 := keep_cell hb c1
      replace HW := Lib.hid (below_then HW.out hb)
      clear hb
      go_wp2_with fail
      refine (impl_in_is _ _ _ false _ HK.out).mono ?_
      rintro e _v ⟨rfl, rfl⟩
      go_wp2_with fail
      go_ret2
      exact ⟨none, 0, rfl, Own.nil _ _, (H2.out.trans (HW.out.mono H2.out.size))⟩
  · have HC := Lib.hid (show gpC p xs ys k = codeS p xs (2 ^ n) [ys] by unfold gpC; rw [HN.out, if_neg hcz])
    have HV := Lib.hid (show gpL p xs ys k = [] by unfold gpL; rw [if_neg (by rw [HC.out]; exact hcz)])
    rw [HV.out, HC.out]
    have hc' : (codeS p xs (2 ^ n) [ys] == 0) = false := by simpa using hcz
    go_enter Try.func33, Try.ntmps33
    have c0 : (w.alloc (.cells #[.int .i64 p, .slice A n c] 28)).cell? ⟨w.heap.size, 0, none⟩ = some (.int .i64 p) := by simp [go_sem]
    have c1 : (w.alloc (.cells #[.int .i64 p, .slice A n c] 28)).cell? ⟨w.heap.size, 1, none⟩ = some (.slice A n c) := by simp [go_sem]
    have HW := Lib.hid (Below.refl (w.alloc (.cells #[.int .i64 p, .slice A n c] 28)).heap.size (w.alloc (.cells #[.int .i64 p, .slice A n c] 28)))
    have hb : Below (w.alloc (.cells #[.int .i64 p, .slice A n c] 28)).heap.size (w.alloc (.cells #[.int .i64 p, .slice A n c] 28)) ((w.alloc (.cells #[.int .i64 p, .slice A n c] 28)).alloc (.cells #[.slice B m d] 22)) := (Below.refl _ _).alloc (Nat.le_refl _) _
    go_wp2_with fail
    refine (impl_checkMultis p A _ n c 1 _ xs [ys] _ (HX.out.keep (H2.out.trans (hb.mono H2.out.size))) (Lists.mk1 _ _ (by simp) (HY.out.keep H2.out))).mono ?_
    rintro e v ⟨rfl, hv⟩
    have hs1 : w.heap.size ≤ v.heap.size := (H2.out.trans ((below_then hb hv).mono H2.out.size)).size
    replace c0 := keep_cell (below_then hb hv) c0
    replace c1 := keep_cell (below_then hb hv) c1
    replace HW := Lib.hid (below_then (below_then HW.out hb) hv)
    clear hb hv
    go_wp2_with fail
    go_ret2
    exact ⟨none, 0, rfl, Own.nil _ _, (H2.out.trans (HW.out.mono H2.out.size))⟩

end Go.Proofs.Ytincppklphahpaa
