/- Contracts: the reference's test of a list, and SpanBasis of both. Conditions stand in each theorem. -/
import Derived.Test.YtcgghjhccnjeoaaSpan
import Derived.Deep.RegionHeld3
namespace Go.Proofs.Ytcgghjhccnjeoaa
open Go.RowKit
set_option linter.unusedVariables false
set_option linter.unusedSimpArgs false

set_option maxHeartbeats 4000000 in
theorem spec_l02Is (p : Int) (L : Option Addr) (m c : Nat) (vs : List (List Int)) (w : World) (hl : LL w L m vs) (hp : primeB p = true) (hm0 : 1 ≤ m) :
    Calls Try.prog 68 #[.int .i64 p, .slice L m c] w fun e w' => e = .returned (.bool (tblB p vs)) ∧ Below w.heap.size w w' := by
  have h0 := prime_lo hp
  have h1 := prime_hi hp
  have HL := Lib.hid hl
  have HVL := Lib.hid hl.1
  have HP := Lib.hid hp
  have hm := hl.2.1
  unfold maxLen at hm
  clear hl hp
  have hm0z : ¬ (m : Int) < 1 := by omega
  by_cases hbig : m ≤ 16
  rotate_left
  · have HT := Lib.hid (show tblB p vs = false by unfold tblB; rw [decide_eq_false (by rw [HVL.out]; exact hbig)]; rfl)
    have hbz : (16 : Int) < m := by omega
    go_enter Try.func68, Try.ntmps68
    go_wp2_with fail
    refine (spec_l01Prime p _).mono ?_
    rw [HP.out]
    rintro e w' ⟨rfl, rfl⟩
    go_wp2_with fail
    go_ret
    exact ⟨ret_bool HT.out.symm, Below.refl _ _⟩
  have hbz : ¬ (16 : Int) < m := by omega
  obtain ⟨b, off, B0, c0, rfl, hb0, hcell0, hints0⟩ := HL.out.at_ (show 0 < m by omega)
  rw [Nat.add_zero] at hcell0
  obtain ⟨n0, HN0⟩ : ∃ n0, Hid ((rowAt vs 0).length = n0) := ⟨_, Lib.hid rfl⟩
  have hn0m := hints0.2.1
  unfold maxLen at hn0m
  rw [HN0.out] at hcell0 hn0m
  have HC0 := Lib.hid hcell0
  have hv0 : 0 < vs.length := by rw [HVL.out]; omega
  have HV0 := Lib.hid hv0
  clear hints0 hv0
  by_cases hlo : n0 < 1
  · have HT := Lib.hid (tbl_bad (p := p) HV0.out (rowB_lo (by rw [HN0.out]; exact hlo)))
    have hloz : (n0 : Int) < 1 := by omega
    go_enter Try.func68, Try.ntmps68
    go_wp2_with fail
    refine (spec_l01Prime p _).mono ?_
    rw [HP.out]
    rintro e w' ⟨rfl, rfl⟩
    go_wp2_with fail
    go_ret
    exact ⟨ret_bool HT.out.symm, Below.refl _ _⟩
  have hloz : ¬ (n0 : Int) < 1 := by omega
  by_cases hhi : 16 < n0
  · have HT := Lib.hid (tbl_bad (p := p) HV0.out (rowB_hi (by rw [HN0.out]; exact hhi)))
    have hhiz : (16 : Int) < n0 := by omega
    go_enter Try.func68, Try.ntmps68
    go_wp2_with fail
    refine (spec_l01Prime p _).mono ?_
    rw [HP.out]
    rintro e w' ⟨rfl, rfl⟩
    go_wp2_with fail
    go_ret
    exact ⟨ret_bool HT.out.symm, Below.refl _ _⟩
  have hhiz : ¬ (16 : Int) < n0 := by omega
  go_enter Try.func68, Try.ntmps68
  go_wp2_with fail
  refine (spec_l01Prime p _).mono ?_
  rw [HP.out]
  rintro e w' ⟨rfl, rfl⟩
  go_wp2_with fail
  go_loopw [5] (fun i wr => ∃ k : Nat, k ≤ m ∧ i = .int .i64 k ∧ Hid ((vs.take k).all (rowB p (rowAt vs 0).length) = true) ∧ Hid (Below w.heap.size w wr)) (fun i _ => m - (intOf i).toNat)
  case atStart => exact ⟨0, Nat.zero_le _, rfl, Lib.hid rfl, Lib.hid (Below.refl _ _)⟩
  case round =>
    clear hcell0
    obtain ⟨k, hk, rfl, HA, HB⟩ := hrel
    by_cases hlt : k < m
    · obtain ⟨b', off', B, c1, hLe, hb, hcell, hints⟩ := (HL.out.keep HB.out).at_ hlt
      injection hLe with e1
      injection e1 with e1 e2
      subst e1 e2
      have hcell0 := keep_cell HB.out (a := ⟨b, off, none⟩) HC0.out
      have HI := Lib.hid hints
      have hkz : (k : Int) < m := by omega
      obtain ⟨n, HN⟩ : ∃ n, Hid ((rowAt vs k).length = n) := ⟨_, Lib.hid rfl⟩
      have hnm := hints.2.1
      unfold maxLen at hnm
      rw [HN.out] at hcell HI hnm
      have HKL := Lib.hid (show k < vs.length by rw [HVL.out]; exact hlt)
      clear hints hb
      by_cases h2 : n = n0
      · have hn1 : ((n : Int) == n0) = true := by rw [h2, beq_self_eq_true]
        have hn2 : ((n : Int) != n0) = false := by rw [h2, bne_self_eq_false]
        have H2 := Lib.hid h2
        clear h2
        cases h5 : numsB p (rowAt vs k) with
        | true =>
          have H5 := Lib.hid h5
          have HS := Lib.hid (all_upto HKL.out HA.out (rowB_of (p := p) (n := (rowAt vs 0).length) (HN.out.trans (H2.out.trans HN0.out.symm)) (by rw [HN.out, H2.out]; omega) (by rw [HN.out, H2.out]; omega) h5))
          have HCN := Lib.hid (fun (v : World) (hv : Ints v B n (rowAt vs k)) => show Calls Try.prog 49 #[.int .i64 p, .slice B n c1] v fun e w' => e = .returned (.bool true) ∧ v = w' from by
            have h := spec_l01Numbers p B n c1 (rowAt vs k) v (by omega) h1 hv
            rw [H5.out] at h
            exact h)
          clear h5
          go_wp2_with fail
          go_region_held3 (fun w' => w'.cell? ⟨b, off + k, none⟩ = some (.slice B n c1) ∧ w'.cell? ⟨b, off, none⟩ = some (.slice B0 n0 c0) ∧ Below w.heap.size w w')
            (first
              | exact ⟨hcell, hcell0, HB.out.drew⟩
              | (go_split_ands; exact ⟨‹_›, ‹_›, ‹_›⟩)
              | go_keep)
            (first
              | (go_at_call 49; refine (HCN.out _ HI.out.drew).mono ?_; rintro e w2 ⟨rfl, rfl⟩))
          all_goals
            go_wp2_with fail
            go_roundw
            case rel => exact ⟨k + 1, by omega, by go_num, HS, Lib.hid (by go_split_ands; assumption)⟩
            case measure => simp [intOf]; omega
        | false =>
          have H5 := Lib.hid h5
          have HT := Lib.hid (tbl_bad (p := p) HKL.out (rowB_num h5))
          have HCN := Lib.hid (fun (v : World) (hv : Ints v B n (rowAt vs k)) => show Calls Try.prog 49 #[.int .i64 p, .slice B n c1] v fun e w' => e = .returned (.bool false) ∧ v = w' from by
            have h := spec_l01Numbers p B n c1 (rowAt vs k) v (by omega) h1 hv
            rw [H5.out] at h
            exact h)
          clear h5
          go_wp2_with fail
          go_region_held3 (fun w' => w'.cell? ⟨b, off + k, none⟩ = some (.slice B n c1) ∧ w'.cell? ⟨b, off, none⟩ = some (.slice B0 n0 c0) ∧ Below w.heap.size w w')
            (first
              | exact ⟨hcell, hcell0, HB.out.drew⟩
              | (go_split_ands; exact ⟨‹_›, ‹_›, ‹_›⟩)
              | go_keep)
            (first
              | (go_at_call 49; refine (HCN.out _ HI.out.drew).mono ?_; rintro e w2 ⟨rfl, rfl⟩))
          all_goals
            go_wp2_with fail
            go_ret
            exact ⟨ret_bool HT.out.symm, by go_split_ands; assumption⟩
      · have hn1 : ((n : Int) == n0) = false := by rw [beq_eq_false_iff_ne]; omega
        have hn2 : ((n : Int) != n0) = true := by rw [bne_iff_ne]; omega
        have HT := Lib.hid (tbl_bad (p := p) HKL.out (rowB_len (by rw [HN.out, HN0.out]; exact h2)))
        clear h2
        go_wp2_with fail
        go_quiet (fail)
        go_wp2_with fail
        go_ret
        exact ⟨ret_bool HT.out.symm, below_drewN HB.out _⟩
    · obtain rfl : k = m := by omega
      have HT := Lib.hid (show tblB p vs = true by
        have := HA.out
        rw [List.take_of_length_le (by rw [HVL.out]; exact Nat.le_refl _)] at this
        unfold tblB
        rw [this, decide_eq_true (by rw [HVL.out]; exact hbig)]
        rfl)
      go_wp2_with fail
      go_ret
      exact ⟨ret_bool HT.out.symm, HB.out⟩

theorem tblB_nil (p : Int) : tblB p [] = true := rfl

theorem spec_l02List (p : Int) (L : Option Addr) (m c : Nat) (vs : List (List Int)) (w : World) (hl : LL w L m vs) :
    Calls Try.prog 42 #[.int .i64 p, .slice L m c] w fun e w' => e = .returned (.bool (spnB p vs)) ∧ Below w.heap.size w w' := by
  have HL := Lib.hid hl
  have hm := hl.2.1
  unfold maxLen at hm
  clear hl
  cases hp : primeB p with
  | false =>
    have HP := Lib.hid hp
    have HT := Lib.hid (show spnB p vs = false by unfold spnB; rw [hp]; rfl)
    clear hp
    go_enter Try.func42, Try.ntmps42
    go_wp2_with fail
    refine (spec_l01Prime p _).mono ?_
    rw [HP.out]
    rintro e w' ⟨rfl, rfl⟩
    go_wp2_with fail
    go_ret
    exact ⟨ret_bool HT.out.symm, Below.refl _ _⟩
  | true =>
    have HP := Lib.hid hp
    have HT := Lib.hid (show spnB p vs = tblB p vs by unfold spnB; rw [hp]; rfl)
    clear hp
    by_cases hm0 : m = 0
    · subst hm0
      have HV := Lib.hid (List.eq_nil_of_length_eq_zero HL.out.1)
      go_enter Try.func42, Try.ntmps42
      go_wp2_with fail
      refine (spec_l01Prime p _).mono ?_
      rw [HP.out]
      rintro e w' ⟨rfl, rfl⟩
      go_wp2_with fail
      go_ret
      exact ⟨ret_bool (by rw [HT.out, HV.out]; rfl), Below.refl _ _⟩
    · have hm1 : ((m : Int) == 0) = false := by rw [beq_eq_false_iff_ne]; omega
      have hm2 : 1 ≤ m := by omega
      clear hm0
      go_enter Try.func42, Try.ntmps42
      go_wp2_with fail
      refine (spec_l01Prime p _).mono ?_
      rw [HP.out]
      rintro e w' ⟨rfl, rfl⟩
      go_wp2_with fail
      refine (spec_l02Is p L m c vs _ HL.out HP.out hm2).mono ?_
      rintro e w2 ⟨rfl, hb⟩
      have HB := Lib.hid hb
      clear hb
      go_wp2_with fail
      go_ret
      exact ⟨ret_bool HT.out.symm, HB.out⟩
end Go.Proofs.Ytcgghjhccnjeoaa
