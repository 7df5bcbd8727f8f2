/- Contracts: norms and diagonals, the exported functions. Conditions stand in each theorem. -/
import Derived.Test.YtjfkgocpkjdleaaNorm
import Derived.Test.YtjfkgocpkjdleaaGrid
namespace Go.Proofs.Ytjfkgocpkjdleaa
open Go.RowKit
set_option linter.unusedVariables false
set_option linter.unusedSimpArgs false

def nrV (p : Int) (st ys : List Int) : Int := okOr (codeD p st (2 ^ st.length) [ys]) (normV p st.reverse ys)
theorem unitV_nums {p : Int} (hp : 3 ≤ p) (n j : Nat) : numsB p (unitV n j) = true := numsB_of fun x hx => by
  unfold unitV at hx
  rcases List.mem_or_eq_of_mem_set hx with h | h
  · rw [(List.mem_replicate.1 h).2]; omega
  · omega
def dgL (p : Int) (st : List Int) : List Int := if dblB p st then diagR p st.reverse else []
theorem dgL_len (p : Int) (st : List Int) : (dgL p st).length ≤ 1000000000 := by
  unfold dgL
  cases h : dblB p st with
  | true =>
    rw [if_pos rfl, diagR_len, List.length_reverse]
    have h4 := (dblB_true h).2.2.1
    have := pow_le6 (show st.length ≤ 6 by omega)
    omega
  | false => simp

theorem spec_DoubleNorm (p : Int) (A B : Option Addr) (n c m d : Nat) (xs ys : List Int) (w : World) (hx : Ints w A n xs) (hy : Ints w B m ys) (hc : n = c) (hd : m = d) :
    Calls Try.prog 40 #[.agg #[.int .i64 p, .slice A n c], .slice B m d] w fun e w' => e = .returned (.tuple #[.int .i64 (nrV p xs ys), .int .i64 (codeD p xs (2 ^ xs.length) [ys])]) ∧ Below w.heap.size w w' := by
  subst hc hd
  have HX := Lib.hid hx
  have hm := hx.2.1
  have HN := Lib.hid hx.1
  clear hx
  unfold maxLen at hm
  have H2 := Lib.hid (show Below w.heap.size w (w.alloc (.cells #[.int .i64 p, .slice A n n] 27)) from (Below.refl _ _).alloc (Nat.le_refl _) _)
  have HY := Lib.hid hy
  clear hy
  rw [HN.out]
  by_cases hcz : codeD p xs (2 ^ n) [ys] = 0
  · have HV := Lib.hid (show nrV p xs ys = normV p xs.reverse ys by unfold nrV; rw [HN.out, hcz]; rfl)
    obtain ⟨hsp, hall⟩ := codeD_zero hcz
    obtain ⟨hp, _, hl1, hst⟩ := dblB_true hsp
    have h0 := prime_lo hp
    have h1 := prime_hi hp
    rw [HN.out] at hl1
    have hl6 : n ≤ 6 := by omega
    obtain ⟨g0, g1, g2⟩ := ipow_le6 hl6
    simp only [List.all_cons, List.all_nil, Bool.and_true] at hall
    obtain ⟨hly, hny⟩ := lstB_true hall
    have hm64 : m ≤ 64 := by rw [← HY.out.1, hly]; exact pow_le6 hl6
    have hm0 : 0 < m := by rw [← HY.out.1, hly]; exact Nat.two_pow_pos _
    have HM1 := Lib.hid hny
    have HLY := Lib.hid hly
    have HST := Lib.hid hst
    have HM := Lib.hid (show m = 2 ^ n by rw [← HY.out.1, hly])
    have hl4 : n ≤ 4 := hl1
    have HZc := Lib.hid hcz
    rw [HV.out, hcz]
    clear hcz hly hny hall hp hst hsp
    go_enter Try.func40, Try.ntmps40
    have c0 : (w.alloc (.cells #[.int .i64 p, .slice A n n] 27)).cell? ⟨w.heap.size, 0, none⟩ = some (.int .i64 p) := by simp [go_sem]
    have c1 : (w.alloc (.cells #[.int .i64 p, .slice A n n] 27)).cell? ⟨w.heap.size, 1, none⟩ = some (.slice A n n) := by simp [go_sem]
    have HW := Lib.hid (Below.refl (w.alloc (.cells #[.int .i64 p, .slice A n n] 27)).heap.size (w.alloc (.cells #[.int .i64 p, .slice A n n] 27)))
    have hb : Below (w.alloc (.cells #[.int .i64 p, .slice A n n] 27)).heap.size (w.alloc (.cells #[.int .i64 p, .slice A n n] 27)) ((w.alloc (.cells #[.int .i64 p, .slice A n n] 27)).alloc (.cells #[.slice B m m] 22)) := (Below.refl _ _).alloc (Nat.le_refl _) _
    go_wp2_with fail
    refine (spec_l11Code p A _ n n 1 _ xs [ys] _ (HX.out.keep (H2.out.trans (hb.mono H2.out.size))) (Lists.mk1 _ _ (by simp) (HY.out.keep H2.out))).mono ?_
    rw [HZc.out]
    rintro e v ⟨rfl, hv⟩
    have hs1 : w.heap.size ≤ v.heap.size := (H2.out.trans ((below_then hb hv).mono H2.out.size)).size
    replace c0 := keep_cell (below_then hb hv) c0
    replace c1 := keep_cell (below_then hb hv) c1
    replace HW := Lib.hid (below_then (below_then HW.out hb) hv)
    clear hb hv
    go_wp2_with fail
    refine (spec_l11Norm p _ _ _ _ _ _ xs ys _ (HX.out.keep (H2.out.trans (HW.out.mono H2.out.size))) hl4 h0 h1 HST.out ⟨HY.out.keep (H2.out.trans (HW.out.mono H2.out.size)), HM1.out⟩ HM.out).mono ?_
    rintro e v2 ⟨rfl, hb⟩
    replace c0 := keep_cell hb c0
    replace c1 := keep_cell hb c1
    replace HW := Lib.hid (below_then HW.out hb)
    clear hb
    go_wp2_with fail
    go_ret2
    exact ⟨rfl, (H2.out.trans (HW.out.mono H2.out.size))⟩
  · have HV := Lib.hid (show nrV p xs ys = 0 by unfold nrV okOr; rw [HN.out, if_neg hcz])
    rw [HV.out]
    have hc' : (codeD p xs (2 ^ n) [ys] == 0) = false := by simpa using hcz
    have hc2 : (codeD p xs (2 ^ n) [ys] != 0) = true := by rw [bne, hc']; rfl
    go_enter Try.func40, Try.ntmps40
    have c0 : (w.alloc (.cells #[.int .i64 p, .slice A n n] 27)).cell? ⟨w.heap.size, 0, none⟩ = some (.int .i64 p) := by simp [go_sem]
    have c1 : (w.alloc (.cells #[.int .i64 p, .slice A n n] 27)).cell? ⟨w.heap.size, 1, none⟩ = some (.slice A n n) := by simp [go_sem]
    have HW := Lib.hid (Below.refl (w.alloc (.cells #[.int .i64 p, .slice A n n] 27)).heap.size (w.alloc (.cells #[.int .i64 p, .slice A n n] 27)))
    have hb : Below (w.alloc (.cells #[.int .i64 p, .slice A n n] 27)).heap.size (w.alloc (.cells #[.int .i64 p, .slice A n n] 27)) ((w.alloc (.cells #[.int .i64 p, .slice A n n] 27)).alloc (.cells #[.slice B m m] 22)) := (Below.refl _ _).alloc (Nat.le_refl _) _
    go_wp2_with fail
    refine (spec_l11Code p A _ n n 1 _ xs [ys] _ (HX.out.keep (H2.out.trans (hb.mono H2.out.size))) (Lists.mk1 _ _ (by simp) (HY.out.keep H2.out))).mono ?_
    rintro e v ⟨rfl, hv⟩
    have hs1 : w.heap.size ≤ v.heap.size := (H2.out.trans ((below_then hb hv).mono H2.out.size)).size
    replace c0 := keep_cell (below_then hb hv) c0
    replace c1 := keep_cell (below_then hb hv) c1
    replace HW := Lib.hid (below_then (below_then HW.out hb) hv)
    clear hb hv
    go_wp2_with fail
    go_ret2
    exact ⟨rfl, (H2.out.trans (HW.out.mono H2.out.size))⟩

theorem impl_DoubleNorm (p : Int) (A B : Option Addr) (n c m d : Nat) (xs ys : List Int) (w : World) (hx : Ints w A n xs) (hy : Ints w B m ys) (hc : n = c) (hd : m = d) :
    Calls Try.prog 41 #[.agg #[.int .i64 p, .slice A n c], .slice B m d] w fun e w' => e = .returned (.tuple #[.int .i64 (nrV p xs ys), .int .i64 (codeD p xs (2 ^ xs.length) [ys])]) ∧ Below w.heap.size w w' := by
  subst hc hd
  have HX := Lib.hid hx
  have hm := hx.2.1
  have HN := Lib.hid hx.1
  clear hx
  unfold maxLen at hm
  have H2 := Lib.hid (show Below w.heap.size w (w.alloc (.cells #[.int .i64 p, .slice A n n] 27)) from (Below.refl _ _).alloc (Nat.le_refl _) _)
  have HY := Lib.hid hy
  clear hy
  rw [HN.out]
  by_cases hcz : codeD p xs (2 ^ n) [ys] = 0
  · have HV := Lib.hid (show nrV p xs ys = normV p xs.reverse ys by unfold nrV; rw [HN.out, hcz]; rfl)
    obtain ⟨hsp, hall⟩ := codeD_zero hcz
    obtain ⟨hp, _, hl1, hst⟩ := dblB_true hsp
    have h0 := prime_lo hp
    have h1 := prime_hi hp
    rw [HN.out] at hl1
    have hl6 : n ≤ 6 := by omega
    obtain ⟨g0, g1, g2⟩ := ipow_le6 hl6
    simp only [List.all_cons, List.all_nil, Bool.and_true] at hall
    obtain ⟨hly, hny⟩ := lstB_true hall
    have hm64 : m ≤ 64 := by rw [← HY.out.1, hly]; exact pow_le6 hl6
    have hm0 : 0 < m := by rw [← HY.out.1, hly]; exact Nat.two_pow_pos _
    have HM1 := Lib.hid hny
    have HLY := Lib.hid hly
    have HST := Lib.hid hst
    have HM := Lib.hid (show m = 2 ^ n by rw [← HY.out.1, hly])
    have hl4 : n ≤ 4 := hl1
    have HZc := Lib.hid hcz
    rw [HV.out, hcz]
    clear hcz hly hny hall hp hst hsp
    go_enter Try.func41, Try.ntmps41
    have c0 : (w.alloc (.cells #[.int .i64 p, .slice A n n] 27)).cell? ⟨w.heap.size, 0, none⟩ = some (.int .i64 p) := by simp [go_sem]
    have c1 : (w.alloc (.cells #[.int .i64 p, .slice A n n] 27)).cell? ⟨w.heap.size, 1, none⟩ = some (.slice A n n) := by simp [go_sem]
    have HW := Lib.hid (Below.refl (w.alloc (.cells #[.int .i64 p, .slice A n n] 27)).heap.size (w.alloc (.cells #[.int .i64 p, .slice A n n] 27)))
    have hb : Below (w.alloc (.cells #[.int .i64 p, .slice A n n] 27)).heap.size (w.alloc (.cells #[.int .i64 p, .slice A n n] 27)) ((w.alloc (.cells #[.int .i64 p, .slice A n n] 27)).alloc (.cells #[.slice B m m] 22)) := (Below.refl _ _).alloc (Nat.le_refl _) _
    go_wp2_with fail
    refine (impl_checkElements p A _ n n 1 _ xs [ys] _ (HX.out.keep (H2.out.trans (hb.mono H2.out.size))) (Lists.mk1 _ _ (by simp) (HY.out.keep H2.out))).mono ?_
    rw [HZc.out]
    rintro e v ⟨rfl, hv⟩
    have hs1 : w.heap.size ≤ v.heap.size := (H2.out.trans ((below_then hb hv).mono H2.out.size)).size
    replace c0 := keep_cell (below_then hb hv) c0
    replace c1 := keep_cell (below_then hb hv) c1
    replace HW := Lib.hid (below_then (below_then HW.out hb) hv)
    clear hb hv
    go_wp2_with fail
    refine (Doubling_norm p _ _ _ _ _ _ xs ys _ (HX.out.keep (H2.out.trans (HW.out.mono H2.out.size))) (Nat.le_refl _) HX.out.2.1 hl4 h0 h1 HST.out ⟨HY.out.keep (H2.out.trans (HW.out.mono H2.out.size)), HM1.out⟩ HM.out (Nat.le_refl _) HY.out.2.1).mono ?_
    rintro e v2 ⟨rfl, hb⟩
    replace c0 := keep_cell hb c0
    replace c1 := keep_cell hb c1
    replace HW := Lib.hid (below_then HW.out hb)
    clear hb
    go_wp2_with fail
    go_ret2
    exact ⟨rfl, (H2.out.trans (HW.out.mono H2.out.size))⟩
  · have HV := Lib.hid (show nrV p xs ys = 0 by unfold nrV okOr; rw [HN.out, if_neg hcz])
    rw [HV.out]
    have hc' : (codeD p xs (2 ^ n) [ys] == 0) = false := by simpa using hcz
    have hc2 : (codeD p xs (2 ^ n) [ys] != 0) = true := by rw [bne, hc']; rfl
    go_enter Try.func41, Try.ntmps41
    have c0 : (w.alloc (.cells #[.int .i64 p, .slice A n n] 27)).cell? ⟨w.heap.size, 0, none⟩ = some (.int .i64 p) := by simp [go_sem]
    have c1 : (w.alloc (.cells #[.int .i64 p, .slice A n n] 27)).cell? ⟨w.heap.size, 1, none⟩ = some (.slice A n n) := by simp [go_sem]
    have HW := Lib.hid (Below.refl (w.alloc (.cells #[.int .i64 p, .slice A n n] 27)).heap.size (w.alloc (.cells #[.int .i64 p, .slice A n n] 27)))
    have hb : Below (w.alloc (.cells #[.int .i64 p, .slice A n n] 27)).heap.size (w.alloc (.cells #[.int .i64 p, .slice A n n] 27)) ((w.alloc (.cells #[.int .i64 p, .slice A n n] 27)).alloc (.cells #[.slice B m m] 22)) := (Below.refl _ _).alloc (Nat.le_refl _) _
    go_wp2_with fail
    refine (impl_checkElements p A _ n n 1 _ xs [ys] _ (HX.out.keep (H2.out.trans (hb.mono H2.out.size))) (Lists.mk1 _ _ (by simp) (HY.out.keep H2.out))).mono ?_
    rintro e v ⟨rfl, hv⟩
    have hs1 : w.heap.size ≤ v.heap.size := (H2.out.trans ((below_then hb hv).mono H2.out.size)).size
    replace c0 := keep_cell (below_then hb hv) c0
    replace c1 := keep_cell (below_then hb hv) c1
    replace HW := Lib.hid (below_then (below_then HW.out hb) hv)
    clear hb hv
    go_wp2_with fail
    go_ret2
    exact ⟨rfl, (H2.out.trans (HW.out.mono H2.out.size))⟩

theorem Doubling_norm_unit (p : Int) (A B : Option Addr) (n c m d j : Nat) (xs : List Int) (w : World) (hx : Ints w A n xs) (hc : n ≤ c) (hcm : c ≤ maxLen) (hn : n ≤ 4) (h0 : 3 ≤ p) (h1 : p ≤ 13) (hst : stepsB p xs = true) (hy : Ints w B m (unitV (2 ^ n) j)) (hm : m = 2 ^ n) (hd : m ≤ d) (hdm : d ≤ maxLen) (hj : j < 2 ^ n) :
    Calls Try.prog 67 #[.agg #[.int .i64 p, .slice A n c], .slice B m d] w fun e w' => e = .returned (.int .i64 ((diagR p xs.reverse).getD j 0)) ∧ Below w.heap.size w w' := by
  have hl : xs.reverse.length = n := by rw [List.length_reverse, hx.1]
  have h := Doubling_norm p A B n c m d xs (unitV (2 ^ n) j) w hx hc hcm hn h0 h1 hst ⟨hy, unitV_nums h0 _ _⟩ hm hd hdm
  have e : normV p xs.reverse (unitV (2 ^ n) j) = (diagR p xs.reverse).getD j 0 := by
    have t := norm_unit h0 xs.reverse (j := j) (by rw [hl]; exact hj)
    rw [hl] at t
    exact t
  rw [e] at h
  exact h

set_option maxHeartbeats 1000000 in
theorem Doubling_diagonal (p : Int) (A : Option Addr) (n c : Nat) (xs : List Int) (w : World) (hx : Ints w A n xs) (hc : n ≤ c) (hcm : c ≤ maxLen) (hn : n ≤ 4) (h0 : 3 ≤ p) (h1 : p ≤ 13) (hst : stepsB p xs = true) :
    Calls Try.prog 63 #[.agg #[.int .i64 p, .slice A n c]] w fun e w' => ∃ C q, e = .returned (.slice C (2 ^ n) q) ∧ Own w.heap.size w' C (2 ^ n) (diagR p xs.reverse) ∧ Below w.heap.size w w' := by
  have HX := Lib.hid hx
  have HN := Lib.hid hx.1
  have HST := Lib.hid hst
  have HC := Lib.hid hcm
  clear hx hst hcm
  obtain ⟨i0, hi0, hz0, hz1, hz2⟩ := info_parts int_info
  obtain ⟨N, HP⟩ : ∃ q, Hid (2 ^ n = q) := ⟨_, Lib.hid rfl⟩
  have hN1 : 1 ≤ N := by rw [← HP.out]; exact Nat.one_le_two_pow
  have hN2 : N ≤ 64 := by rw [← HP.out]; exact pow_le6 (by omega)
  have HL := Lib.hid (show (diagR p xs.reverse).length = N by rw [diagR_len, List.length_reverse, HN.out, HP.out])
  rw [HP.out]
  have HSZ := Lib.hid (show ∀ w, Calls Try.prog 51 #[.agg #[.int .i64 p, .slice A n c]] w fun e w' => e = .returned (.int .i64 (N : Nat)) ∧ Below w.heap.size w w' from fun w => by
    have h := Doubling_size p A n c w (by omega)
    rw [ipow_cast, HP.out] at h
    exact h)
  have H2 := Lib.hid (show Below w.heap.size w (w.alloc (.cells #[.int .i64 p, .slice A n c] 27)) from (Below.refl _ _).alloc (Nat.le_refl _) _)
  go_enter Try.func63, Try.ntmps63
  have c0 : (w.alloc (.cells #[.int .i64 p, .slice A n c] 27)).cell? ⟨w.heap.size, 0, none⟩ = some (.int .i64 p) := by simp [go_sem]
  have c1 : (w.alloc (.cells #[.int .i64 p, .slice A n c] 27)).cell? ⟨w.heap.size, 1, none⟩ = some (.slice A n c) := by simp [go_sem]
  have HW := Lib.hid (Below.refl (w.alloc (.cells #[.int .i64 p, .slice A n c] 27)).heap.size (w.alloc (.cells #[.int .i64 p, .slice A n c] 27)))
  have c0a := keep_cell (below_alloc (w.alloc (.cells #[.int .i64 p, .slice A n c] 27)) (.cells #[] 2)) c0
  have c1a := keep_cell (below_alloc (w.alloc (.cells #[.int .i64 p, .slice A n c] 27)) (.cells #[] 2)) c1
  have HBA := Lib.hid (below_then H2.out (below_alloc (w.alloc (.cells #[.int .i64 p, .slice A n c] 27)) (.cells #[] 2)))
  have HO0 := Lib.hid (own_empty (w.alloc (.cells #[.int .i64 p, .slice A n c] 27)) 2 (w.heap.size + 1) (w.heap.size + 1) (by simp) (Nat.le_refl _))
  clear c0 c1 HW
  go_wp2_with fail
  refine (HSZ.out _).mono ?_
  rintro e v ⟨rfl, hb⟩
  have hsz := hb.size
  simp at hsz
  replace c0a := keep_cell hb c0a
  replace c1a := keep_cell hb c1a
  replace HBA := Lib.hid (below_then HBA.out hb)
  replace HO0 := Lib.hid (own_keep hb HO0.out)
  clear hb
  go_wp2_with fail
  refine (impl_unit N _ hN1 (by omega)).mono ?_
  rintro e v2 ⟨oo, cs, rfl, hr, hb⟩
  have hsz2 := hb.size
  replace c0a := keep_cell hb c0a
  replace c1a := keep_cell hb c1a
  replace HBA := Lib.hid (below_then HBA.out hb)
  replace HO0 := Lib.hid (own_keep hb HO0.out)
  obtain ⟨L, lc, rfl, hri⟩ := hr.in_ (by omega)
  have HR0 := Lib.hid hri
  clear hb hr hri
  go_wp2
  go_loopw [3, 11] (fun o i wr => ∃ k : Nat, k ≤ N ∧ i = .int .i64 k ∧ wr.ownsRow (w.heap.size + 1) 2 1 o k (((diagR p xs.reverse).take k).map (Value.int .i64)) ∧ RowsIn v.heap.size v2.heap.size wr L N (unitK N N) ∧ (∀ b, o.ownBlock = some b → b < v.heap.size ∨ v2.heap.size ≤ b) ∧ wr.cell? ⟨w.heap.size, 0, none⟩ = some (.int .i64 p) ∧ wr.cell? ⟨w.heap.size, 1, none⟩ = some (.slice A n c) ∧ Below w.heap.size w wr) (fun _ i _ => N - (intOf i).toNat)
  case atStart =>
    refine ⟨0, Nat.zero_le _, rfl, HO0.out, HR0.out, fun b hb => ?_, c0a, c1a, HBA.out⟩
    left
    have e : w.heap.size + 1 = b := by simpa [Value.ownBlock] using hb
    omega
  case round =>
    clear c0a c1a HO0 HR0 HBA
    obtain ⟨k, hk, rfl, hown, hrows, hblk, c0, c1, hbel⟩ := hrel
    have HO := Lib.hid hown
    have HR := Lib.hid hrows
    have HB := Lib.hid hbel
    have HK := Lib.hid hblk
    clear hown hrows hbel hblk
    by_cases hlt : k < N
    · obtain ⟨b, off, u, B, nn, cc, rfl, hu, hcell, hcc1, hcc2, hou⟩ := HR.out.at_ hlt
      rw [unitK_get hlt] at hu
      injection hu with hu
      subst hu
      obtain rfl : nn = N := by have := hou.1; rw [unitV_len] at this; omega
      have HU := Lib.hid (show Ints wr B nn (unitV (2 ^ n) k) by rw [HP.out]; exact hou.ints)
      have HM := Lib.hid hcc2
      have hkN : (k : Int) < nn := by omega
      clear hou hcc2
      go_wp2_with fail
      refine (Doubling_norm_unit p A _ n c _ _ k xs _ (HX.out.keep HB.out) hc HC.out hn h0 h1 HST.out HU.out HP.out.symm hcc1 HM.out (by rw [HP.out]; exact hlt)).mono ?_
      rintro e vn ⟨rfl, hb⟩
      have hszn := hb.size
      have hszw := HB.out.size
      have O2 := Lib.hid (own_keep hb HO.out)
      have R2 := Lib.hid (HR.out.keep hb)
      have B2 := Lib.hid (below_then HB.out hb)
      have e0 := keep_cell hb c0
      have e1 := keep_cell hb c1
      have hR2 := R2.out.2.2.1
      have hw1 : w.heap.size + 1 ≤ wr.heap.size := by have := World.block_lt_of_cell? _ _ c0; show w.heap.size < wr.heap.size; exact this
      clear hb c0 c1 HO
      go_wp2_with (at_builtin; refine wpList_append_lies _ rfl _ _ 22 rfl (w.heap.size + 1) 2 i0 _ 1 8 Try.underlying22 hi0 hz0 hz1 hz2 rfl (by omega) u3 k _ rfl (O2.out.alloc _) ⟨_, 0, none⟩ 1 1 [.int .i64 ((diagR p xs.reverse).getD k 0)] rfl rfl (cell_one_at _ _ _ _ (by simp)) (by simp [Value.oneCell']) (by omega) (by unfold maxLen; omega) (by omega) (by simp; omega) (vn.heap.size + 1) (by simp) ?_; intro gg cap w1 hown1 hgrow hat hlt1)
      have HO1 := Lib.hid hown1
      have HR1 := Lib.hid ((R2.out.keep (below_alloc _ _)).grown hgrow HK.out)
      have HB1 := Lib.hid (below_own (O2.out.alloc _) hgrow (B2.out.alloc B2.out.size _) (by omega) (by have := B2.out.size; simp; omega))
      have e0' := cell_grown (O2.out.alloc _) hgrow (keep_cell (below_alloc _ _) e0) (by simp)
      have e1' := cell_grown (O2.out.alloc _) hgrow (keep_cell (below_alloc _ _) e1) (by simp)
      have HKK := Lib.hid (show ∀ b, (Value.slice (some ⟨gg, 0, none⟩) (k + 1) cap).ownBlock = some b → b < v.heap.size ∨ v2.heap.size ≤ b from fun b hb => by
        have eb : gg = b := by simpa [Value.ownBlock] using hb
        rcases hat with h | h
        · exact HK.out b (by rw [h, eb])
        · right; omega)
      clear hown1 hgrow hat hlt1 e0 e1 O2 R2 HK
      go_wp2
      go_roundw
      case rel => exact ⟨k + 1, by omega, by go_num, by
          have hx : (diagR p xs.reverse)[k]? = some ((diagR p xs.reverse).getD k 0) := by rw [List.getD_eq_getElem?_getD, List.getElem?_eq_getElem (by rw [HL.out]; exact hlt)]; rfl
          rw [take_snoc hx, List.map_append]; exact HO1.out, HR1.out, HKK.out, e0', e1', HB1.out⟩
      case measure => simp [intOf]; omega
    · obtain rfl : k = N := by omega
      obtain ⟨C, q, rfl, ho⟩ := Own.of_own HO.out
      have HOO := Lib.hid (ho.less (B' := w.heap.size) (by omega))
      clear ho
      go_wp2
      go_ret
      refine ⟨C, q, rfl, ?_, HB.out⟩
      have t := HOO.out
      rw [List.take_of_length_le (by rw [HL.out]; exact Nat.le_refl _)] at t
      exact t

theorem spec_NormDiagonal (p : Int) (A : Option Addr) (n c : Nat) (xs : List Int) (w : World) (hx : Ints w A n xs) (hc : n = c) :
    Calls Try.prog 36 #[.agg #[.int .i64 p, .slice A n c]] w fun e w' => ∃ C q, e = .returned (.tuple #[.slice C (dgL p xs).length q, .int .i64 (codeD p xs 0 [])]) ∧ Own w.heap.size w' C (dgL p xs).length (dgL p xs) ∧ Below w.heap.size w w' := by
  subst hc
  have HX := Lib.hid hx
  have hm := hx.2.1
  have HN := Lib.hid hx.1
  clear hx
  unfold maxLen at hm
  have H2 := Lib.hid (show Below w.heap.size w (w.alloc (.cells #[.int .i64 p, .slice A n n] 27)) from (Below.refl _ _).alloc (Nat.le_refl _) _)
  cases hs : dblB p xs with
  | true =>
    obtain ⟨hp, _, hl4, hst⟩ := dblB_true hs
    rw [HN.out] at hl4
    have h0 := prime_lo hp
    have h1 := prime_hi hp
    have HST := Lib.hid hst
    have HS := Lib.hid hs
    have HC := Lib.hid (show codeD p xs 0 [] = 0 by simp [codeD, hs])
    have HV := Lib.hid (show dgL p xs = diagR p xs.reverse by unfold dgL; rw [hs]; rfl)
    have HL := Lib.hid (show (dgL p xs).length = 2 ^ n by rw [HV.out, diagR_len, List.length_reverse, HN.out])
    rw [HL.out, HV.out, HC.out]
    clear hp hst hs
    go_enter Try.func36, Try.ntmps36
    have c0 : (w.alloc (.cells #[.int .i64 p, .slice A n n] 27)).cell? ⟨w.heap.size, 0, none⟩ = some (.int .i64 p) := by simp [go_sem]
    have c1 : (w.alloc (.cells #[.int .i64 p, .slice A n n] 27)).cell? ⟨w.heap.size, 1, none⟩ = some (.slice A n n) := by simp [go_sem]
    have HW := Lib.hid (Below.refl (w.alloc (.cells #[.int .i64 p, .slice A n n] 27)).heap.size (w.alloc (.cells #[.int .i64 p, .slice A n n] 27)))
    go_wp2_with fail
    refine (spec_l11Is _ _ _ _ xs _ (HX.out.keep (H2.out.trans (HW.out.mono H2.out.size)))).mono ?_
    rw [HS.out]
    rintro e v ⟨rfl, hb⟩
    have hs1 := hb.size
    replace c0 := keep_cell hb c0
    replace c1 := keep_cell hb c1
    replace HW := Lib.hid (below_then HW.out hb)
    clear hb
    have hs2 : w.heap.size + 1 ≤ v.heap.size := by simpa using hs1
    go_wp2_with fail
    refine (spec_l11Diagonal p _ _ _ xs _ (HX.out.keep (H2.out.trans (HW.out.mono H2.out.size))) hl4 h0 h1 HST.out).mono ?_
    rintro e v2 ⟨CC, qq, rfl, _, _, ho, hb⟩
    have HO := Lib.hid (ho.less (B' := w.heap.size) (by omega))
    clear ho
    replace c0 := keep_cell hb c0
    replace c1 := keep_cell hb c1
    replace HW := Lib.hid (below_then HW.out hb)
    clear hb
    go_wp2_with fail
    go_ret2
    exact ⟨_, _, rfl, HO.out, (H2.out.trans (HW.out.mono H2.out.size))⟩
  | false =>
    have HS := Lib.hid hs
    have HC := Lib.hid (show codeD p xs 0 [] = 1 by simp [codeD, hs])
    have HV := Lib.hid (show dgL p xs = [] by unfold dgL; rw [hs]; rfl)
    rw [HV.out, HC.out]
    clear hs
    go_enter Try.func36, Try.ntmps36
    have c0 : (w.alloc (.cells #[.int .i64 p, .slice A n n] 27)).cell? ⟨w.heap.size, 0, none⟩ = some (.int .i64 p) := by simp [go_sem]
    have c1 : (w.alloc (.cells #[.int .i64 p, .slice A n n] 27)).cell? ⟨w.heap.size, 1, none⟩ = some (.slice A n n) := by simp [go_sem]
    have HW := Lib.hid (Below.refl (w.alloc (.cells #[.int .i64 p, .slice A n n] 27)).heap.size (w.alloc (.cells #[.int .i64 p, .slice A n n] 27)))
    go_wp2_with fail
    refine (spec_l11Is _ _ _ _ xs _ (HX.out.keep (H2.out.trans (HW.out.mono H2.out.size)))).mono ?_
    rw [HS.out]
    rintro e v ⟨rfl, hb⟩
    have hs1 := hb.size
    replace c0 := keep_cell hb c0
    replace c1 := keep_cell hb c1
    replace HW := Lib.hid (below_then HW.out hb)
    clear hb
    have hs2 : w.heap.size + 1 ≤ v.heap.size := by simpa using hs1
    go_wp2_with fail
    go_ret2
    exact ⟨_, _, rfl, Own.nil _ _, (H2.out.trans (HW.out.mono H2.out.size))⟩

theorem impl_NormDiagonal (p : Int) (A : Option Addr) (n c : Nat) (xs : List Int) (w : World) (hx : Ints w A n xs) (hc : n = c) :
    Calls Try.prog 37 #[.agg #[.int .i64 p, .slice A n c]] w fun e w' => ∃ C q, e = .returned (.tuple #[.slice C (dgL p xs).length q, .int .i64 (codeD p xs 0 [])]) ∧ Own w.heap.size w' C (dgL p xs).length (dgL p xs) ∧ Below w.heap.size w w' := by
  subst hc
  have HX := Lib.hid hx
  have hm := hx.2.1
  have HN := Lib.hid hx.1
  clear hx
  unfold maxLen at hm
  have H2 := Lib.hid (show Below w.heap.size w (w.alloc (.cells #[.int .i64 p, .slice A n n] 27)) from (Below.refl _ _).alloc (Nat.le_refl _) _)
  cases hs : dblB p xs with
  | true =>
    obtain ⟨hp, _, hl4, hst⟩ := dblB_true hs
    rw [HN.out] at hl4
    have h0 := prime_lo hp
    have h1 := prime_hi hp
    have HST := Lib.hid hst
    have HS := Lib.hid hs
    have HC := Lib.hid (show codeD p xs 0 [] = 0 by simp [codeD, hs])
    have HV := Lib.hid (show dgL p xs = diagR p xs.reverse by unfold dgL; rw [hs]; rfl)
    have HL := Lib.hid (show (dgL p xs).length = 2 ^ n by rw [HV.out, diagR_len, List.length_reverse, HN.out])
    rw [HL.out, HV.out, HC.out]
    clear hp hst hs
    go_enter Try.func37, Try.ntmps37
    have c0 : (w.alloc (.cells #[.int .i64 p, .slice A n n] 27)).cell? ⟨w.heap.size, 0, none⟩ = some (.int .i64 p) := by simp [go_sem]
    have c1 : (w.alloc (.cells #[.int .i64 p, .slice A n n] 27)).cell? ⟨w.heap.size, 1, none⟩ = some (.slice A n n) := by simp [go_sem]
    have HW := Lib.hid (Below.refl (w.alloc (.cells #[.int .i64 p, .slice A n n] 27)).heap.size (w.alloc (.cells #[.int .i64 p, .slice A n n] 27)))
    go_wp2_with fail
    refine (impl_IsDoubling _ _ _ _ xs _ (HX.out.keep (H2.out.trans (HW.out.mono H2.out.size)))).mono ?_
    rw [HS.out]
    rintro e v ⟨rfl, hb⟩
    have hs1 := hb.size
    replace c0 := keep_cell hb c0
    replace c1 := keep_cell hb c1
    replace HW := Lib.hid (below_then HW.out hb)
    clear hb
    have hs2 : w.heap.size + 1 ≤ v.heap.size := by simpa using hs1
    go_wp2_with fail
    refine (Doubling_diagonal p _ _ _ xs _ (HX.out.keep (H2.out.trans (HW.out.mono H2.out.size))) (Nat.le_refl _) HX.out.2.1 hl4 h0 h1 HST.out).mono ?_
    rintro e v2 ⟨CC, qq, rfl, ho, hb⟩
    have HO := Lib.hid (ho.less (B' := w.heap.size) (by omega))
    clear ho
    replace c0 := keep_cell hb c0
    replace c1 := keep_cell hb c1
    replace HW := Lib.hid (below_then HW.out hb)
    clear hb
    go_wp2_with fail
    go_ret2
    exact ⟨_, _, rfl, HO.out, (H2.out.trans (HW.out.mono H2.out.size))⟩
  | false =>
    have HS := Lib.hid hs
    have HC := Lib.hid (show codeD p xs 0 [] = 1 by simp [codeD, hs])
    have HV := Lib.hid (show dgL p xs = [] by unfold dgL; rw [hs]; rfl)
    rw [HV.out, HC.out]
    clear hs
    go_enter Try.func37, Try.ntmps37
    have c0 : (w.alloc (.cells #[.int .i64 p, .slice A n n] 27)).cell? ⟨w.heap.size, 0, none⟩ = some (.int .i64 p) := by simp [go_sem]
    have c1 : (w.alloc (.cells #[.int .i64 p, .slice A n n] 27)).cell? ⟨w.heap.size, 1, none⟩ = some (.slice A n n) := by simp [go_sem]
    have HW := Lib.hid (Below.refl (w.alloc (.cells #[.int .i64 p, .slice A n n] 27)).heap.size (w.alloc (.cells #[.int .i64 p, .slice A n n] 27)))
    go_wp2_with fail
    refine (impl_IsDoubling _ _ _ _ xs _ (HX.out.keep (H2.out.trans (HW.out.mono H2.out.size)))).mono ?_
    rw [HS.out]
    rintro e v ⟨rfl, hb⟩
    have hs1 := hb.size
    replace c0 := keep_cell hb c0
    replace c1 := keep_cell hb c1
    replace HW := Lib.hid (below_then HW.out hb)
    clear hb
    have hs2 : w.heap.size + 1 ≤ v.heap.size := by simpa using hs1
    go_wp2_with fail
    go_ret2
    exact ⟨_, _, rfl, Own.nil _ _, (H2.out.trans (HW.out.mono H2.out.size))⟩

end Go.Proofs.Ytjfkgocpkjdleaa
