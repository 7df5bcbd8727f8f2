/- Contracts: products of elements. Conditions stand in each theorem. -/
import Derived.Test.YtjfkgocpkjdleaaTimes2
import Derived.Test.YtjfkgocpkjdleaaConj
namespace Go.Proofs.Ytjfkgocpkjdleaa
open Go.RowKit
set_option linter.unusedVariables false
set_option linter.unusedSimpArgs false

theorem spec_mul : ∀ n : Nat, n ≤ 6 → MulOK 81 n := by
  intro n
  induction n with
  | zero => intro _; exact spec_l11Mul_zero
  | succ n ih => intro h; exact spec_l11Mul_succ n (by omega) (ih (by omega))
theorem impl_mul : ∀ n : Nat, n ≤ 6 → MulOK 82 n := by
  intro n
  induction n with
  | zero => intro _; exact field_doubled_zero
  | succ n ih => intro h; exact field_doubled_succ n (by omega) (ih (by omega))

theorem spec_l11Times (p : Int) (A B C : Option Addr) (n c m d r : Nat) (xs ys zs : List Int) (w : World) (hx : Ints w A n xs) (hc : n ≤ c) (hcm : c ≤ maxLen) (hst : stepsB p xs = true) (hn : n ≤ 4) (hy : IntsN p w B m ys) (hm : m = 2 ^ n) (hd : m ≤ d) (hdm : d ≤ maxLen) (hz : IntsN p w C m zs) (hr : m ≤ r) (hrm : r ≤ maxLen) (h0 : 3 ≤ p) (h1 : p ≤ 13) :
    Calls Try.prog 68 #[.agg #[.int .i64 p, .slice A n c], .slice B m d, .slice C m r] w fun e w' => ∃ D t, e = .returned (.slice D m t) ∧ m ≤ t ∧ t ≤ maxLen ∧ Own w.heap.size w' D m (mulR p xs.reverse ys zs) ∧ Below w.heap.size w w' := by
  have HX := Lib.hid hx
  have HY := Lib.hid hy
  have HZ := Lib.hid hz
  have HM := Lib.hid hm
  have HC := Lib.hid hcm
  have HD := Lib.hid hdm
  have HR := Lib.hid hrm
  have HST := Lib.hid hst
  clear hx hy hz hm hcm hdm hrm hst
  have H2 := Lib.hid (show Below w.heap.size w (w.alloc (.cells #[.int .i64 p, .slice A n c] 27)) from (Below.refl _ _).alloc (Nat.le_refl _) _)
  go_enter Try.func68, Try.ntmps68
  have c0 : (w.alloc (.cells #[.int .i64 p, .slice A n c] 27)).cell? ⟨w.heap.size, 0, none⟩ = some (.int .i64 p) := by simp [go_sem]
  have c1 : (w.alloc (.cells #[.int .i64 p, .slice A n c] 27)).cell? ⟨w.heap.size, 1, none⟩ = some (.slice A n c) := by simp [go_sem]
  have HW := Lib.hid (Below.refl (w.alloc (.cells #[.int .i64 p, .slice A n c] 27)).heap.size (w.alloc (.cells #[.int .i64 p, .slice A n c] 27)))
  go_wp2_with fail
  refine (spec_mul n (by omega) p _ _ _ _ _ _ m xs ys zs _ HM.out (HX.out.keep H2.out) hc HC.out HST.out (HY.out.keep H2.out) hd HD.out (HZ.out.keep H2.out) hr HR.out h0 h1).mono ?_
  rintro e v ⟨D, t, rfl, ht1, ht2, ho, hb⟩
  have HO := Lib.hid (ho.less (B' := w.heap.size) (by simp))
  have HB := Lib.hid (below_then H2.out hb)
  clear ho hb
  go_wp2
  go_ret
  exact ⟨D, t, rfl, ht1, ht2, HO.out, HB.out⟩

theorem Doubling_times (p : Int) (A B C : Option Addr) (n c m d r : Nat) (xs ys zs : List Int) (w : World) (hx : Ints w A n xs) (hc : n ≤ c) (hcm : c ≤ maxLen) (hst : stepsB p xs = true) (hn : n ≤ 4) (hy : IntsN p w B m ys) (hm : m = 2 ^ n) (hd : m ≤ d) (hdm : d ≤ maxLen) (hz : IntsN p w C m zs) (hr : m ≤ r) (hrm : r ≤ maxLen) (h0 : 3 ≤ p) (h1 : p ≤ 13) :
    Calls Try.prog 69 #[.agg #[.int .i64 p, .slice A n c], .slice B m d, .slice C m r] w fun e w' => ∃ D t, e = .returned (.slice D m t) ∧ m ≤ t ∧ t ≤ maxLen ∧ Own w.heap.size w' D m (mulR p xs.reverse ys zs) ∧ Below w.heap.size w w' := by
  have HX := Lib.hid hx
  have HY := Lib.hid hy
  have HZ := Lib.hid hz
  have HM := Lib.hid hm
  have HC := Lib.hid hcm
  have HD := Lib.hid hdm
  have HR := Lib.hid hrm
  have HST := Lib.hid hst
  clear hx hy hz hm hcm hdm hrm hst
  have H2 := Lib.hid (show Below w.heap.size w (w.alloc (.cells #[.int .i64 p, .slice A n c] 27)) from (Below.refl _ _).alloc (Nat.le_refl _) _)
  go_enter Try.func69, Try.ntmps69
  have c0 : (w.alloc (.cells #[.int .i64 p, .slice A n c] 27)).cell? ⟨w.heap.size, 0, none⟩ = some (.int .i64 p) := by simp [go_sem]
  have c1 : (w.alloc (.cells #[.int .i64 p, .slice A n c] 27)).cell? ⟨w.heap.size, 1, none⟩ = some (.slice A n c) := by simp [go_sem]
  have HW := Lib.hid (Below.refl (w.alloc (.cells #[.int .i64 p, .slice A n c] 27)).heap.size (w.alloc (.cells #[.int .i64 p, .slice A n c] 27)))
  go_wp2_with fail
  go_region_held3 (fun w' => w'.cell? ⟨w.heap.size, 0, none⟩ = some (.int .i64 p) ∧ w'.cell? ⟨w.heap.size, 1, none⟩ = some (.slice A n c) ∧ Below w.heap.size w w')
    (first
      | exact ⟨c0, c1, H2.out.drew⟩
      | (go_split_ands; exact ⟨‹_›, ‹_›, ‹_›⟩)
      | (go_split_ands; exact ⟨keep_cell hbz ‹_›, keep_cell hbz ‹_›, below_then ‹_› hbz⟩)
      | go_keep)
    (first
      | (go_at_call 47; refine (Doubling_field _ _ _ _ _).mono ?_; rintro e v1 ⟨rfl, hbz⟩; have HB1 := Lib.hid (below_then H2.out.drew hbz))
      | (go_at_call 82; refine (impl_mul n (by omega) p _ _ _ _ _ _ m xs ys zs _ HM.out (HX.out.keep HB1.out) hc HC.out HST.out (HY.out.keep HB1.out) hd HD.out (HZ.out.keep HB1.out) hr HR.out h0 h1).mono ?_; rintro e v2 ⟨D, t, rfl, ht1, ht2, ho, hbz⟩))
  rename_i hh
  obtain ⟨_, _, hbl⟩ := hh
  have HO := Lib.hid (ho.less (B' := w.heap.size) HB1.out.size)
  clear ho
  go_wp2
  go_ret
  exact ⟨D, t, rfl, ht1, ht2, HO.out, hbl⟩

def dtL (p : Int) (xs ys zs : List Int) : List Int := if codeD p xs (2 ^ xs.length) [ys, zs] = 0 then mulR p xs.reverse ys zs else []
theorem dtL_len (p : Int) (xs ys zs : List Int) : (dtL p xs ys zs).length ≤ 1000000000 := by
  unfold dtL
  by_cases h : codeD p xs (2 ^ xs.length) [ys, zs] = 0
  · rw [if_pos h, mulR_len, List.length_reverse]
    have h4 := (dblB_true (codeD_zero h).1).2.2.1
    have := pow_le6 (show xs.length ≤ 6 by omega)
    omega
  · rw [if_neg h]; simp

theorem spec_DoubleTimes (p : Int) (A B C : Option Addr) (n c m d q r : Nat) (xs ys zs : List Int) (w : World) (hx : Ints w A n xs) (hy : Ints w B m ys) (hz : Ints w C q zs) (hc : n = c) (hd : m = d) (hr : q = r) :
    Calls Try.prog 42 #[.agg #[.int .i64 p, .slice A n c], .slice B m d, .slice C q r] w fun e w' => ∃ D t, e = .returned (.tuple #[.slice D (dtL p xs ys zs).length t, .int .i64 (codeD p xs (2 ^ xs.length) [ys, zs])]) ∧ Own w.heap.size w' D (dtL p xs ys zs).length (dtL p xs ys zs) ∧ Below w.heap.size w w' := by
  subst hc hd hr
  have HX := Lib.hid hx
  have hm := hx.2.1
  have HN := Lib.hid hx.1
  clear hx
  unfold maxLen at hm
  have H2 := Lib.hid (show Below w.heap.size w (w.alloc (.cells #[.int .i64 p, .slice A n n] 27)) from (Below.refl _ _).alloc (Nat.le_refl _) _)
  have HY := Lib.hid hy
  have HZ := Lib.hid hz
  clear hy hz
  rw [HN.out]
  by_cases hcz : codeD p xs (2 ^ n) [ys, zs] = 0
  · have HV := Lib.hid (show dtL p xs ys zs = mulR p xs.reverse ys zs by unfold dtL; rw [HN.out, if_pos hcz])
    obtain ⟨hsp, hall⟩ := codeD_zero hcz
    obtain ⟨hp, _, hl1, hst⟩ := dblB_true hsp
    have h0 := prime_lo hp
    have h1 := prime_hi hp
    rw [HN.out] at hl1
    have hl6 : n ≤ 6 := by omega
    simp only [List.all_cons, List.all_nil, Bool.and_true, Bool.and_eq_true] at hall
    obtain ⟨hly, hny⟩ := lstB_true hall.1
    obtain ⟨hlz, hnz⟩ := lstB_true hall.2
    have HM := Lib.hid (show m = 2 ^ n by rw [← HY.out.1, hly])
    obtain rfl : q = m := by rw [← HZ.out.1, ← HY.out.1, hlz, hly]
    have HM1 := Lib.hid hny
    have HM2 := Lib.hid hnz
    have HST := Lib.hid hst
    have HL := Lib.hid (show (dtL p xs ys zs).length = q by rw [HV.out, mulR_len, List.length_reverse, HN.out, HM.out])
    have HZc := Lib.hid hcz
    rw [HL.out, HV.out, hcz]
    clear hcz hly hny hlz hnz hall hp hst hsp
    go_enter Try.func42, Try.ntmps42
    have c0 : (w.alloc (.cells #[.int .i64 p, .slice A n n] 27)).cell? ⟨w.heap.size, 0, none⟩ = some (.int .i64 p) := by simp [go_sem]
    have c1 : (w.alloc (.cells #[.int .i64 p, .slice A n n] 27)).cell? ⟨w.heap.size, 1, none⟩ = some (.slice A n n) := by simp [go_sem]
    have HW := Lib.hid (Below.refl (w.alloc (.cells #[.int .i64 p, .slice A n n] 27)).heap.size (w.alloc (.cells #[.int .i64 p, .slice A n n] 27)))
    have hb : Below (w.alloc (.cells #[.int .i64 p, .slice A n n] 27)).heap.size (w.alloc (.cells #[.int .i64 p, .slice A n n] 27)) ((w.alloc (.cells #[.int .i64 p, .slice A n n] 27)).alloc (.cells #[.slice B q q, .slice C q q] 22)) := (Below.refl _ _).alloc (Nat.le_refl _) _
    go_wp2_with fail
    refine (spec_l11Code p A _ n n 2 _ xs [ys, zs] _ (HX.out.keep (H2.out.trans (hb.mono H2.out.size))) (Lists.mk2 _ _ (by simp) (HY.out.keep H2.out) (HZ.out.keep H2.out))).mono ?_
    rw [HZc.out]
    rintro e v ⟨rfl, hv⟩
    have hs1 : w.heap.size ≤ v.heap.size := (H2.out.trans ((below_then hb hv).mono H2.out.size)).size
    replace c0 := keep_cell (below_then hb hv) c0
    replace c1 := keep_cell (below_then hb hv) c1
    replace HW := Lib.hid (below_then (below_then HW.out hb) hv)
    clear hb hv
    go_wp2_with fail
    refine (spec_l11Times p _ _ _ n n q q q xs ys zs _ (HX.out.keep (H2.out.trans (HW.out.mono H2.out.size))) (Nat.le_refl _) HX.out.2.1 HST.out (by omega) ⟨HY.out.keep (H2.out.trans (HW.out.mono H2.out.size)), HM1.out⟩ HM.out (Nat.le_refl _) HY.out.2.1 ⟨HZ.out.keep (H2.out.trans (HW.out.mono H2.out.size)), HM2.out⟩ (Nat.le_refl _) HY.out.2.1 h0 h1).mono ?_
    rintro e v2 ⟨CC, qq, rfl, _, _, ho, hb⟩
    have HO := Lib.hid (ho.less (B' := w.heap.size) (by omega))
    clear ho
    replace c0 := keep_cell hb c0
    replace c1 := keep_cell hb c1
    replace HW := Lib.hid (below_then HW.out hb)
    clear hb
    go_wp2_with fail
    go_ret2
    exact ⟨CC, qq, rfl, HO.out, (H2.out.trans (HW.out.mono H2.out.size))⟩
  · have HV := Lib.hid (show dtL p xs ys zs = [] by unfold dtL; rw [HN.out, if_neg hcz])
    rw [HV.out]
    have hc' : (codeD p xs (2 ^ n) [ys, zs] == 0) = false := by simpa using hcz
    have hc2 : (codeD p xs (2 ^ n) [ys, zs] != 0) = true := by rw [bne, hc']; rfl
    go_enter Try.func42, Try.ntmps42
    have c0 : (w.alloc (.cells #[.int .i64 p, .slice A n n] 27)).cell? ⟨w.heap.size, 0, none⟩ = some (.int .i64 p) := by simp [go_sem]
    have c1 : (w.alloc (.cells #[.int .i64 p, .slice A n n] 27)).cell? ⟨w.heap.size, 1, none⟩ = some (.slice A n n) := by simp [go_sem]
    have HW := Lib.hid (Below.refl (w.alloc (.cells #[.int .i64 p, .slice A n n] 27)).heap.size (w.alloc (.cells #[.int .i64 p, .slice A n n] 27)))
    have hb : Below (w.alloc (.cells #[.int .i64 p, .slice A n n] 27)).heap.size (w.alloc (.cells #[.int .i64 p, .slice A n n] 27)) ((w.alloc (.cells #[.int .i64 p, .slice A n n] 27)).alloc (.cells #[.slice B m m, .slice C q q] 22)) := (Below.refl _ _).alloc (Nat.le_refl _) _
    go_wp2_with fail
    refine (spec_l11Code p A _ n n 2 _ xs [ys, zs] _ (HX.out.keep (H2.out.trans (hb.mono H2.out.size))) (Lists.mk2 _ _ (by simp) (HY.out.keep H2.out) (HZ.out.keep H2.out))).mono ?_
    rintro e v ⟨rfl, hv⟩
    have hs1 : w.heap.size ≤ v.heap.size := (H2.out.trans ((below_then hb hv).mono H2.out.size)).size
    replace c0 := keep_cell (below_then hb hv) c0
    replace c1 := keep_cell (below_then hb hv) c1
    replace HW := Lib.hid (below_then (below_then HW.out hb) hv)
    clear hb hv
    go_wp2_with fail
    go_ret2
    exact ⟨none, 0, rfl, Own.nil _ _, (H2.out.trans (HW.out.mono H2.out.size))⟩

theorem impl_DoubleTimes (p : Int) (A B C : Option Addr) (n c m d q r : Nat) (xs ys zs : List Int) (w : World) (hx : Ints w A n xs) (hy : Ints w B m ys) (hz : Ints w C q zs) (hc : n = c) (hd : m = d) (hr : q = r) :
    Calls Try.prog 43 #[.agg #[.int .i64 p, .slice A n c], .slice B m d, .slice C q r] w fun e w' => ∃ D t, e = .returned (.tuple #[.slice D (dtL p xs ys zs).length t, .int .i64 (codeD p xs (2 ^ xs.length) [ys, zs])]) ∧ Own w.heap.size w' D (dtL p xs ys zs).length (dtL p xs ys zs) ∧ Below w.heap.size w w' := by
  subst hc hd hr
  have HX := Lib.hid hx
  have hm := hx.2.1
  have HN := Lib.hid hx.1
  clear hx
  unfold maxLen at hm
  have H2 := Lib.hid (show Below w.heap.size w (w.alloc (.cells #[.int .i64 p, .slice A n n] 27)) from (Below.refl _ _).alloc (Nat.le_refl _) _)
  have HY := Lib.hid hy
  have HZ := Lib.hid hz
  clear hy hz
  rw [HN.out]
  by_cases hcz : codeD p xs (2 ^ n) [ys, zs] = 0
  · have HV := Lib.hid (show dtL p xs ys zs = mulR p xs.reverse ys zs by unfold dtL; rw [HN.out, if_pos hcz])
    obtain ⟨hsp, hall⟩ := codeD_zero hcz
    obtain ⟨hp, _, hl1, hst⟩ := dblB_true hsp
    have h0 := prime_lo hp
    have h1 := prime_hi hp
    rw [HN.out] at hl1
    have hl6 : n ≤ 6 := by omega
    simp only [List.all_cons, List.all_nil, Bool.and_true, Bool.and_eq_true] at hall
    obtain ⟨hly, hny⟩ := lstB_true hall.1
    obtain ⟨hlz, hnz⟩ := lstB_true hall.2
    have HM := Lib.hid (show m = 2 ^ n by rw [← HY.out.1, hly])
    obtain rfl : q = m := by rw [← HZ.out.1, ← HY.out.1, hlz, hly]
    have HM1 := Lib.hid hny
    have HM2 := Lib.hid hnz
    have HST := Lib.hid hst
    have HL := Lib.hid (show (dtL p xs ys zs).length = q by rw [HV.out, mulR_len, List.length_reverse, HN.out, HM.out])
    have HZc := Lib.hid hcz
    rw [HL.out, HV.out, hcz]
    clear hcz hly hny hlz hnz hall hp hst hsp
    go_enter Try.func43, Try.ntmps43
    have c0 : (w.alloc (.cells #[.int .i64 p, .slice A n n] 27)).cell? ⟨w.heap.size, 0, none⟩ = some (.int .i64 p) := by simp [go_sem]
    have c1 : (w.alloc (.cells #[.int .i64 p, .slice A n n] 27)).cell? ⟨w.heap.size, 1, none⟩ = some (.slice A n n) := by simp [go_sem]
    have HW := Lib.hid (Below.refl (w.alloc (.cells #[.int .i64 p, .slice A n n] 27)).heap.size (w.alloc (.cells #[.int .i64 p, .slice A n n] 27)))
    have hb : Below (w.alloc (.cells #[.int .i64 p, .slice A n n] 27)).heap.size (w.alloc (.cells #[.int .i64 p, .slice A n n] 27)) ((w.alloc (.cells #[.int .i64 p, .slice A n n] 27)).alloc (.cells #[.slice B q q, .slice C q q] 22)) := (Below.refl _ _).alloc (Nat.le_refl _) _
    go_wp2_with fail
    refine (impl_checkElements p A _ n n 2 _ xs [ys, zs] _ (HX.out.keep (H2.out.trans (hb.mono H2.out.size))) (Lists.mk2 _ _ (by simp) (HY.out.keep H2.out) (HZ.out.keep H2.out))).mono ?_
    rw [HZc.out]
    rintro e v ⟨rfl, hv⟩
    have hs1 : w.heap.size ≤ v.heap.size := (H2.out.trans ((below_then hb hv).mono H2.out.size)).size
    replace c0 := keep_cell (below_then hb hv) c0
    replace c1 := keep_cell (below_then hb hv) c1
    replace HW := Lib.hid (below_then (below_then HW.out hb) hv)
    clear hb hv
    go_wp2_with fail
    refine (Doubling_times p _ _ _ n n q q q xs ys zs _ (HX.out.keep (H2.out.trans (HW.out.mono H2.out.size))) (Nat.le_refl _) HX.out.2.1 HST.out (by omega) ⟨HY.out.keep (H2.out.trans (HW.out.mono H2.out.size)), HM1.out⟩ HM.out (Nat.le_refl _) HY.out.2.1 ⟨HZ.out.keep (H2.out.trans (HW.out.mono H2.out.size)), HM2.out⟩ (Nat.le_refl _) HY.out.2.1 h0 h1).mono ?_
    rintro e v2 ⟨CC, qq, rfl, _, _, ho, hb⟩
    have HO := Lib.hid (ho.less (B' := w.heap.size) (by omega))
    clear ho
    replace c0 := keep_cell hb c0
    replace c1 := keep_cell hb c1
    replace HW := Lib.hid (below_then HW.out hb)
    clear hb
    go_wp2_with fail
    go_ret2
    exact ⟨CC, qq, rfl, HO.out, (H2.out.trans (HW.out.mono H2.out.size))⟩
  · have HV := Lib.hid (show dtL p xs ys zs = [] by unfold dtL; rw [HN.out, if_neg hcz])
    rw [HV.out]
    have hc' : (codeD p xs (2 ^ n) [ys, zs] == 0) = false := by simpa using hcz
    have hc2 : (codeD p xs (2 ^ n) [ys, zs] != 0) = true := by rw [bne, hc']; rfl
    go_enter Try.func43, Try.ntmps43
    have c0 : (w.alloc (.cells #[.int .i64 p, .slice A n n] 27)).cell? ⟨w.heap.size, 0, none⟩ = some (.int .i64 p) := by simp [go_sem]
    have c1 : (w.alloc (.cells #[.int .i64 p, .slice A n n] 27)).cell? ⟨w.heap.size, 1, none⟩ = some (.slice A n n) := by simp [go_sem]
    have HW := Lib.hid (Below.refl (w.alloc (.cells #[.int .i64 p, .slice A n n] 27)).heap.size (w.alloc (.cells #[.int .i64 p, .slice A n n] 27)))
    have hb : Below (w.alloc (.cells #[.int .i64 p, .slice A n n] 27)).heap.size (w.alloc (.cells #[.int .i64 p, .slice A n n] 27)) ((w.alloc (.cells #[.int .i64 p, .slice A n n] 27)).alloc (.cells #[.slice B m m, .slice C q q] 22)) := (Below.refl _ _).alloc (Nat.le_refl _) _
    go_wp2_with fail
    refine (impl_checkElements p A _ n n 2 _ xs [ys, zs] _ (HX.out.keep (H2.out.trans (hb.mono H2.out.size))) (Lists.mk2 _ _ (by simp) (HY.out.keep H2.out) (HZ.out.keep H2.out))).mono ?_
    rintro e v ⟨rfl, hv⟩
    have hs1 : w.heap.size ≤ v.heap.size := (H2.out.trans ((below_then hb hv).mono H2.out.size)).size
    replace c0 := keep_cell (below_then hb hv) c0
    replace c1 := keep_cell (below_then hb hv) c1
    replace HW := Lib.hid (below_then (below_then HW.out hb) hv)
    clear hb hv
    go_wp2_with fail
    go_ret2
    exact ⟨none, 0, rfl, Own.nil _ _, (H2.out.trans (HW.out.mono H2.out.size))⟩

end Go.Proofs.Ytjfkgocpkjdleaa
