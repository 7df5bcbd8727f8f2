/- Contracts: the tests of a list of vectors. Conditions stand in each theorem. -/
import Derived.Test.YtcgghjhccnjeoaaElI
import Derived.Test.YtcgghjhccnjeoaaGT
namespace Go.Proofs.Ytcgghjhccnjeoaa
open Go.RowKit
set_option linter.unusedVariables false
set_option linter.unusedSimpArgs false

def rowB (p : Int) (n : Nat) (r : List Int) : Bool := decide (r.length = n) && (decide (1 ≤ r.length) && (decide (r.length ≤ 16) && numsB p r))
def tblB (p : Int) (vs : List (List Int)) : Bool := decide (vs.length ≤ 16) && vs.all (rowB p (rowAt vs 0).length)
def spnB (p : Int) (vs : List (List Int)) : Bool := primeB p && tblB p vs
theorem rowB_true {p : Int} {n : Nat} {r : List Int} (h : rowB p n r = true) : r.length = n ∧ 1 ≤ r.length ∧ r.length ≤ 16 ∧ numsB p r = true := by
  simpa [rowB] using h
theorem rowB_of {p : Int} {n : Nat} {r : List Int} (h1 : r.length = n) (h2 : 1 ≤ r.length) (h3 : r.length ≤ 16) (h4 : numsB p r = true) : rowB p n r = true := by
  simp [rowB, h4]; omega
theorem tblB_true {p : Int} {vs : List (List Int)} (h : tblB p vs = true) : vs.length ≤ 16 ∧ TabP p (rowAt vs 0).length vs ∧ (0 < vs.length → 1 ≤ (rowAt vs 0).length ∧ (rowAt vs 0).length ≤ 16) := by
  unfold tblB at h
  rw [Bool.and_eq_true] at h
  obtain ⟨h1, h2⟩ := h
  have h3 : ∀ r ∈ vs, rowB p (rowAt vs 0).length r = true := List.all_eq_true.1 h2
  refine ⟨of_decide_eq_true h1, fun r hr => ⟨(rowB_true (h3 r hr)).1, (rowB_true (h3 r hr)).2.2.2⟩, fun h0 => ?_⟩
  have := rowB_true (h3 _ (List.mem_of_getElem? (rowAt_get h0)))
  exact ⟨this.2.1, this.2.2.1⟩
theorem all_upto {f : List Int → Bool} {vs : List (List Int)} {k : Nat} (hk : k < vs.length) (h : (vs.take k).all f = true) (hv : f (rowAt vs k) = true) : (vs.take (k + 1)).all f = true := by
  rw [take_snoc' (rowAt_get hk), List.all_append, h]; simpa using hv
theorem tbl_bad {p : Int} {vs : List (List Int)} {k : Nat} (hk : k < vs.length) (hv : rowB p (rowAt vs 0).length (rowAt vs k) = false) : tblB p vs = false := by
  unfold tblB
  rw [Bool.and_eq_false_iff]
  right
  cases e : vs.all (rowB p (rowAt vs 0).length) with
  | false => rfl
  | true => have := List.all_eq_true.1 e _ (List.mem_of_getElem? (rowAt_get hk)); rw [hv] at this; cases this
theorem rowB_len {p : Int} {n : Nat} {r : List Int} (h : ¬ r.length = n) : rowB p n r = false := by unfold rowB; rw [decide_eq_false h]; rfl
theorem rowB_lo {p : Int} {n : Nat} {r : List Int} (h : r.length < 1) : rowB p n r = false := by unfold rowB; rw [decide_eq_false (show ¬ 1 ≤ r.length by omega)]; simp
theorem rowB_hi {p : Int} {n : Nat} {r : List Int} (h : 16 < r.length) : rowB p n r = false := by unfold rowB; rw [decide_eq_false (show ¬ r.length ≤ 16 by omega)]; simp
theorem rowB_num {p : Int} {n : Nat} {r : List Int} (h : numsB p r = false) : rowB p n r = false := by unfold rowB; rw [h]; simp

set_option maxHeartbeats 1000000 in
theorem field_isTable (p : Int) (L : Option Addr) (m c : Nat) (vs : List (List Int)) (w : World) (hl : LL w L m vs) (h0 : 1 ≤ p) (h1 : p ≤ 13) :
    Calls Try.prog 45 #[.int .i64 p, .slice L m c] w fun e w' => e = .returned (.bool (tblB p vs)) ∧ w = w' := by
  have HL := Lib.hid hl
  have HVL := Lib.hid hl.1
  have hm := hl.2.1
  unfold maxLen at hm
  clear hl
  by_cases hbig : m ≤ 16
  · go_enter Try.func45, Try.ntmps45
    go_wp2_with fail
    go_loop [12] (fun i => ∃ k : Nat, k ≤ m ∧ i = .int .i64 k ∧ Hid ((vs.take k).all (rowB p (rowAt vs 0).length) = true)) (fun i => m - (intOf i).toNat)
    case atStart => exact ⟨0, Nat.zero_le _, rfl, Lib.hid rfl⟩
    case round =>
      obtain ⟨k, hk, rfl, HA⟩ := hrel
      by_cases hlt : k < m
      · obtain ⟨b, off, B, c1, hLe, hb, hcell, hints⟩ := HL.out.at_ hlt
        obtain ⟨b', off', B0, c0, hLe', hb', hcell0, hints0⟩ := HL.out.at_ (show 0 < m by omega)
        rw [hLe] at hLe'
        injection hLe' with e1
        injection e1 with e1 e2
        subst e1 e2
        rw [Nat.add_zero] at hcell0
        have HI := Lib.hid hints
        have hkl : k < vs.length := by rw [HVL.out]; exact hlt
        have hkz : (k : Int) < m := by omega
        obtain ⟨n, HN⟩ : ∃ n, Hid ((rowAt vs k).length = n) := ⟨_, Lib.hid rfl⟩
        obtain ⟨n0, HN0⟩ : ∃ n0, Hid ((rowAt vs 0).length = n0) := ⟨_, Lib.hid rfl⟩
        have hnm := hints.2.1
        unfold maxLen at hnm
        rw [HN.out] at hcell HI hnm
        rw [HN0.out] at hcell0
        have HKL := Lib.hid hkl
        subst hLe
        clear hints hints0 hb hb' hkl
        by_cases h2 : n = n0
        · have hn1 : ((n : Int) == n0) = true := by rw [h2, beq_self_eq_true]
          have hn2 : ((n : Int) != n0) = false := by rw [h2, bne_self_eq_false]
          have H2 := Lib.hid h2
          clear h2
          by_cases h3 : n < 1
          · have HB := Lib.hid (tbl_bad (p := p) HKL.out (rowB_lo (by rw [HN.out]; exact h3)))
            have h3z : (n : Int) < 1 := by omega
            go_wp2_with fail
            go_ret
            exact ⟨ret_bool HB.out.symm, rfl⟩
          · have h3z : ¬ (n : Int) < 1 := by omega
            by_cases h4 : 16 < n
            · have HB := Lib.hid (tbl_bad (p := p) HKL.out (rowB_hi (by rw [HN.out]; exact h4)))
              have h4z : (16 : Int) < n := by omega
              go_wp2_with fail
              go_ret
              exact ⟨ret_bool HB.out.symm, rfl⟩
            · have h4z : ¬ (16 : Int) < n := by omega
              cases h5 : numsB p (rowAt vs k) with
              | true =>
                have H5 := Lib.hid h5
                have HS := Lib.hid (all_upto HKL.out HA.out (rowB_of (p := p) (n := (rowAt vs 0).length) (HN.out.trans (H2.out.trans HN0.out.symm)) (by rw [HN.out]; omega) (by rw [HN.out]; omega) h5))
                clear h5
                go_wp2_with fail
                refine (impl_is _ _ n _ (rowAt vs k) _ h0 h1 HI.out).mono ?_
                rw [H5.out]
                rintro e w' ⟨rfl, rfl⟩
                go_wp2_with fail
                go_round
                case rel => exact ⟨k + 1, by omega, by go_num, HS⟩
                case measure => simp [intOf]; omega
              | false =>
                have H5 := Lib.hid h5
                have HB := Lib.hid (tbl_bad (p := p) HKL.out (rowB_num h5))
                clear h5
                go_wp2_with fail
                refine (impl_is _ _ n _ (rowAt vs k) _ h0 h1 HI.out).mono ?_
                rw [H5.out]
                rintro e w' ⟨rfl, rfl⟩
                go_wp2_with fail
                go_ret
                exact ⟨ret_bool HB.out.symm, rfl⟩
        · have hn1 : ((n : Int) == n0) = false := by rw [beq_eq_false_iff_ne]; omega
          have hn2 : ((n : Int) != n0) = true := by rw [bne_iff_ne]; omega
          have HB := Lib.hid (tbl_bad (p := p) HKL.out (rowB_len (by rw [HN.out, HN0.out]; exact h2)))
          clear h2
          go_wp2_with fail
          go_ret
          exact ⟨ret_bool HB.out.symm, rfl⟩
      · obtain rfl : k = m := by omega
        have HT := Lib.hid (show tblB p vs = true by
          have := HA.out
          rw [List.take_of_length_le (by rw [HVL.out]; exact Nat.le_refl _)] at this
          unfold tblB
          rw [this, decide_eq_true (by rw [HVL.out]; exact hbig)]
          rfl)
        go_wp2_with fail
        go_ret
        exact ⟨ret_bool HT.out.symm, rfl⟩
  · have HT := Lib.hid (show tblB p vs = false by unfold tblB; rw [decide_eq_false (by rw [HVL.out]; exact hbig)]; rfl)
    go_enter Try.func45, Try.ntmps45
    go_wp2_with fail
    go_ret
    exact ⟨ret_bool HT.out.symm, rfl⟩
end Go.Proofs.Ytcgghjhccnjeoaa
