/- Contracts: the pseudoscalar, blades. Conditions stand in each theorem. -/
import Derived.Test.YtincppklphahpaaBlade
namespace Go.Proofs.Ytincppklphahpaa
open Go.RowKit
set_option linter.unusedVariables false

theorem Space_blade_top (p : Int) (A : Option Addr) (n c : Nat) (w : World) (hn : n ≤ 6) : Calls Try.prog 54 #[.agg #[.int .i64 p, .slice A n c], .int .i64 (2 ^ n - 1)] w fun e w' => ∃ b, e = .returned (.slice (some ⟨b, 0, none⟩) (2 ^ n) (2 ^ n)) ∧ Own w.heap.size w' (some ⟨b, 0, none⟩) (2 ^ n) ((List.replicate (2 ^ n) 0).set (2 ^ n - 1) 1) ∧ Below w.heap.size w w' := by
  have g4 : 1 ≤ (2 : Nat) ^ n := Nat.one_le_two_pow
  have e : ((2 ^ n - 1 : Nat) : Int) = (2 : Int) ^ n - 1 := by rw [ipow_cast]; omega
  have h := Space_blade p A n c (2 ^ n - 1) w hn (by omega)
  rw [e] at h
  exact h

theorem Space_full (p : Int) (A : Option Addr) (n c : Nat) (xs : List Int) (w : World) (hx : Ints w A n xs) (hn : n ≤ 6) : Calls Try.prog 48 #[.agg #[.int .i64 p, .slice A n c]] w fun e w' => ∃ b, e = .returned (.slice (some ⟨b, 0, none⟩) (2 ^ n) (2 ^ n)) ∧ Own w.heap.size w' (some ⟨b, 0, none⟩) (2 ^ n) ((List.replicate (2 ^ n) 0).set (2 ^ n - 1) 1) ∧ Below w.heap.size w w' := by
  have HX := Lib.hid hx
  have hm := hx.2.1
  have HN := Lib.hid hx.1
  clear hx
  unfold maxLen at hm
  have H2 := Lib.hid (show Below w.heap.size w (w.alloc (.cells #[.int .i64 p, .slice A n c] 28)) from (Below.refl _ _).alloc (Nat.le_refl _) _)
  obtain ⟨g0, g1, g2⟩ := ipow_le6 hn
  have e1 : IntKind.i64.wrap (2 ^ n) = 2 ^ n := IntWalk.i64_in _ (by omega)
  have e2 : IntKind.i64.wrap (2 ^ n - 1) = 2 ^ n - 1 := IntWalk.i64_in _ (by omega)
  go_enter Try.func48, Try.ntmps48
  have c0 : (w.alloc (.cells #[.int .i64 p, .slice A n c] 28)).cell? ⟨w.heap.size, 0, none⟩ = some (.int .i64 p) := by simp [go_sem]
  have c1 : (w.alloc (.cells #[.int .i64 p, .slice A n c] 28)).cell? ⟨w.heap.size, 1, none⟩ = some (.slice A n c) := by simp [go_sem]
  have HW := Lib.hid (Below.refl (w.alloc (.cells #[.int .i64 p, .slice A n c] 28)).heap.size (w.alloc (.cells #[.int .i64 p, .slice A n c] 28)))
  go_wp2_with fail
  go_region_held3 (fun w' => w'.cell? ⟨w.heap.size, 0, none⟩ = some (.int .i64 p) ∧ w'.cell? ⟨w.heap.size, 1, none⟩ = some (.slice A n c) ∧ Ints w' A n xs ∧ Below (w.alloc (.cells #[.int .i64 p, .slice A n c] 28)).heap.size (w.alloc (.cells #[.int .i64 p, .slice A n c] 28)) w')
    (first
      | exact ⟨c0, c1, Ints.drew (HX.out.keep (H2.out.trans (HW.out.mono H2.out.size))), HW.out.drew⟩
      | (go_split_ands; exact ⟨‹_›, ‹_›, ‹_›, ‹_›⟩)
      | (go_split_ands; exact ⟨keep_cell hbz ‹_›, keep_cell hbz ‹_›, Ints.keep ‹_› hbz, below_then ‹_› hbz⟩)
      | go_keep)
    (first
      | (go_at_call 53; refine (Space_dim _ _ _ _ _).mono ?_; rintro e vz ⟨rfl, hbz⟩; have hsz1 := hbz.size)
      | (go_at_call 54; refine (Space_blade_top _ _ _ _ _ hn).mono ?_; rintro e vy ⟨bb, rfl, ho, hbz⟩))
  rename_i hh
  obtain ⟨c0, c1, jq, hbw⟩ := hh
  replace HW := Lib.hid hbw
  clear hbw jq 
  clear e1 e2
  have hsz2 : w.heap.size + 1 ≤ vz.heap.size := by simpa using hsz1
  go_wp2
  go_ret
  exact ⟨bb, rfl, ho.less (by omega), (H2.out.trans (HW.out.mono H2.out.size))⟩

def psL (p : Int) (xs : List Int) : List Int := if spaceB p xs then (List.replicate (2 ^ xs.length) 0).set (2 ^ xs.length - 1) 1 else []
theorem psL_len (p : Int) (xs : List Int) : (psL p xs).length ≤ 1000000000 := by
  unfold psL
  by_cases h : spaceB p xs = true
  · rw [if_pos h, List.length_set, List.length_replicate]
    have := pow_le6 (spaceB_true h).2.2.1
    omega
  · rw [if_neg h]; simp
def blL (p : Int) (xs : List Int) (k : Int) : List Int := if spaceB p xs = true ∧ 0 ≤ k ∧ k < 2 ^ xs.length then (List.replicate (2 ^ xs.length) 0).set k.toNat 1 else []
def blC (p : Int) (xs : List Int) (k : Int) : Int := if spaceB p xs then (if 0 ≤ k ∧ k < 2 ^ xs.length then 0 else 2) else 1
theorem blL_len (p : Int) (xs : List Int) (k : Int) : (blL p xs k).length ≤ 1000000000 := by
  unfold blL
  by_cases h : spaceB p xs = true ∧ 0 ≤ k ∧ k < 2 ^ xs.length
  · rw [if_pos h, List.length_set, List.length_replicate]
    have := pow_le6 (spaceB_true h.1).2.2.1
    omega
  · rw [if_neg h]; simp

theorem spec_PseudoscalarOf (p : Int) (A : Option Addr) (n c : Nat) (xs : List Int) (w : World) (hx : Ints w A n xs) :
    Calls Try.prog 15 #[.agg #[.int .i64 p, .slice A n c]] w fun e w' => ∃ C q, e = .returned (.tuple #[.slice C (psL p xs).length q, .int .i64 (codeS p xs 0 [])]) ∧ Own w.heap.size w' C (psL p xs).length (psL p xs) ∧ Below w.heap.size w w' := by
  have HX := Lib.hid hx
  have hm := hx.2.1
  have HN := Lib.hid hx.1
  clear hx
  unfold maxLen at hm
  have H2 := Lib.hid (show Below w.heap.size w (w.alloc (.cells #[.int .i64 p, .slice A n c] 28)) from (Below.refl _ _).alloc (Nat.le_refl _) _)
  by_cases hs : spaceB p xs = true
  · obtain ⟨hp, hl0, hl1, hn⟩ := spaceB_true hs
    rw [HN.out] at hl0 hl1
    have HS := Lib.hid hs
    have HC := Lib.hid (show codeS p xs 0 [] = 0 by simp [codeS, hs])
    have HV := Lib.hid (show psL p xs = (List.replicate (2 ^ n) 0).set (2 ^ n - 1) 1 by unfold psL; rw [if_pos hs, HN.out])
    have HL := Lib.hid (show (psL p xs).length = 2 ^ n by rw [HV.out, List.length_set, List.length_replicate])
    rw [HL.out, HV.out, HC.out]
    clear hp hn hs
    go_enter Try.func15, Try.ntmps15
    have c0 : (w.alloc (.cells #[.int .i64 p, .slice A n c] 28)).cell? ⟨w.heap.size, 0, none⟩ = some (.int .i64 p) := by simp [go_sem]
    have c1 : (w.alloc (.cells #[.int .i64 p, .slice A n c] 28)).cell? ⟨w.heap.size, 1, none⟩ = some (.slice A n c) := by simp [go_sem]
    have HW := Lib.hid (Below.refl (w.alloc (.cells #[.int .i64 p, .slice A n c] 28)).heap.size (w.alloc (.cells #[.int .i64 p, .slice A n c] 28)))
    go_wp2_with fail
    refine (spec_l03Is _ _ _ _ xs _ (HX.out.keep (H2.out.trans (HW.out.mono H2.out.size)))).mono ?_
    rw [HS.out]
    rintro e v ⟨rfl, hb⟩
    have hs1 := hb.size
    replace c0 := keep_cell hb c0
    replace c1 := keep_cell hb c1
    replace HW := Lib.hid (below_then HW.out hb)
    clear hb
    go_wp2_with fail
    refine (spec_l05Top _ _ _ _ _ hl1).mono ?_
    rintro e v2 ⟨bb, rfl, ho, hb⟩
    have hs2 : w.heap.size + 1 ≤ v.heap.size := by simpa using hs1
    have HO := Lib.hid (ho.less (B' := w.heap.size) (by omega))
    clear ho
    replace c0 := keep_cell hb c0
    replace c1 := keep_cell hb c1
    replace HW := Lib.hid (below_then HW.out hb)
    clear hb
    go_wp2_with fail
    go_ret2
    exact ⟨_, _, rfl, HO.out, (H2.out.trans (HW.out.mono H2.out.size))⟩
  · have hs' : spaceB p xs = false := by simpa using hs
    have HC := Lib.hid (show codeS p xs 0 [] = 1 by simp [codeS, hs'])
    have HV := Lib.hid (show psL p xs = [] by unfold psL; rw [if_neg hs])
    rw [HV.out, HC.out]
    have HS := Lib.hid hs'
    clear hs
    go_enter Try.func15, Try.ntmps15
    have c0 : (w.alloc (.cells #[.int .i64 p, .slice A n c] 28)).cell? ⟨w.heap.size, 0, none⟩ = some (.int .i64 p) := by simp [go_sem]
    have c1 : (w.alloc (.cells #[.int .i64 p, .slice A n c] 28)).cell? ⟨w.heap.size, 1, none⟩ = some (.slice A n c) := by simp [go_sem]
    have HW := Lib.hid (Below.refl (w.alloc (.cells #[.int .i64 p, .slice A n c] 28)).heap.size (w.alloc (.cells #[.int .i64 p, .slice A n c] 28)))
    go_wp2_with fail
    refine (spec_l03Is _ _ _ _ xs _ (HX.out.keep (H2.out.trans (HW.out.mono H2.out.size)))).mono ?_
    rw [HS.out]
    rintro e v ⟨rfl, hb⟩
    have hs1 := hb.size
    replace c0 := keep_cell hb c0
    replace c1 := keep_cell hb c1
    replace HW := Lib.hid (below_then HW.out hb)
    clear hb
    go_wp2_with fail
    go_ret2
    exact ⟨_, _, rfl, Own.nil _ _, (H2.out.trans (HW.out.mono H2.out.size))⟩

theorem impl_PseudoscalarOf (p : Int) (A : Option Addr) (n c : Nat) (xs : List Int) (w : World) (hx : Ints w A n xs) :
    Calls Try.prog 17 #[.agg #[.int .i64 p, .slice A n c]] w fun e w' => ∃ C q, e = .returned (.tuple #[.slice C (psL p xs).length q, .int .i64 (codeS p xs 0 [])]) ∧ Own w.heap.size w' C (psL p xs).length (psL p xs) ∧ Below w.heap.size w w' := by
  have HX := Lib.hid hx
  have hm := hx.2.1
  have HN := Lib.hid hx.1
  clear hx
  unfold maxLen at hm
  have H2 := Lib.hid (show Below w.heap.size w (w.alloc (.cells #[.int .i64 p, .slice A n c] 28)) from (Below.refl _ _).alloc (Nat.le_refl _) _)
  by_cases hs : spaceB p xs = true
  · obtain ⟨hp, hl0, hl1, hn⟩ := spaceB_true hs
    rw [HN.out] at hl0 hl1
    have HS := Lib.hid hs
    have HC := Lib.hid (show codeS p xs 0 [] = 0 by simp [codeS, hs])
    have HV := Lib.hid (show psL p xs = (List.replicate (2 ^ n) 0).set (2 ^ n - 1) 1 by unfold psL; rw [if_pos hs, HN.out])
    have HL := Lib.hid (show (psL p xs).length = 2 ^ n by rw [HV.out, List.length_set, List.length_replicate])
    rw [HL.out, HV.out, HC.out]
    clear hp hn hs
    go_enter Try.func17, Try.ntmps17
    have c0 : (w.alloc (.cells #[.int .i64 p, .slice A n c] 28)).cell? ⟨w.heap.size, 0, none⟩ = some (.int .i64 p) := by simp [go_sem]
    have c1 : (w.alloc (.cells #[.int .i64 p, .slice A n c] 28)).cell? ⟨w.heap.size, 1, none⟩ = some (.slice A n c) := by simp [go_sem]
    have HW := Lib.hid (Below.refl (w.alloc (.cells #[.int .i64 p, .slice A n c] 28)).heap.size (w.alloc (.cells #[.int .i64 p, .slice A n c] 28)))
    go_wp2_with fail
    refine (impl_IsSpace _ _ _ _ xs _ (HX.out.keep (H2.out.trans (HW.out.mono H2.out.size)))).mono ?_
    rw [HS.out]
    rintro e v ⟨rfl, hb⟩
    have hs1 := hb.size
    replace c0 := keep_cell hb c0
    replace c1 := keep_cell hb c1
    replace HW := Lib.hid (below_then HW.out hb)
    clear hb
    go_wp2_with fail
    refine (Space_full _ _ _ _ xs _ (HX.out.keep (H2.out.trans (HW.out.mono H2.out.size))) hl1).mono ?_
    rintro e v2 ⟨bb, rfl, ho, hb⟩
    have hs2 : w.heap.size + 1 ≤ v.heap.size := by simpa using hs1
    have HO := Lib.hid (ho.less (B' := w.heap.size) (by omega))
    clear ho
    replace c0 := keep_cell hb c0
    replace c1 := keep_cell hb c1
    replace HW := Lib.hid (below_then HW.out hb)
    clear hb
    go_wp2_with fail
    go_ret2
    exact ⟨_, _, rfl, HO.out, (H2.out.trans (HW.out.mono H2.out.size))⟩
  · have hs' : spaceB p xs = false := by simpa using hs
    have HC := Lib.hid (show codeS p xs 0 [] = 1 by simp [codeS, hs'])
    have HV := Lib.hid (show psL p xs = [] by unfold psL; rw [if_neg hs])
    rw [HV.out, HC.out]
    have HS := Lib.hid hs'
    clear hs
    go_enter Try.func17, Try.ntmps17
    have c0 : (w.alloc (.cells #[.int .i64 p, .slice A n c] 28)).cell? ⟨w.heap.size, 0, none⟩ = some (.int .i64 p) := by simp [go_sem]
    have c1 : (w.alloc (.cells #[.int .i64 p, .slice A n c] 28)).cell? ⟨w.heap.size, 1, none⟩ = some (.slice A n c) := by simp [go_sem]
    have HW := Lib.hid (Below.refl (w.alloc (.cells #[.int .i64 p, .slice A n c] 28)).heap.size (w.alloc (.cells #[.int .i64 p, .slice A n c] 28)))
    go_wp2_with fail
    refine (impl_IsSpace _ _ _ _ xs _ (HX.out.keep (H2.out.trans (HW.out.mono H2.out.size)))).mono ?_
    rw [HS.out]
    rintro e v ⟨rfl, hb⟩
    have hs1 := hb.size
    replace c0 := keep_cell hb c0
    replace c1 := keep_cell hb c1
    replace HW := Lib.hid (below_then HW.out hb)
    clear hb
    go_wp2_with fail
    go_ret2
    exact ⟨_, _, rfl, Own.nil _ _, (H2.out.trans (HW.out.mono H2.out.size))⟩

theorem spec_in_is (n lo hi : Int) (b : Bool) (w : World) (h : rangeB n lo hi = b) : Calls Try.prog 49 #[.int .i64 n, .int .i64 lo, .int .i64 hi] w fun e w' => e = .returned (.bool b) ∧ w = w' := by
  have h1 := spec_l01In n lo hi w
  rw [h] at h1
  exact h1
theorem impl_in_is (n lo hi : Int) (b : Bool) (w : World) (h : rangeB n lo hi = b) : Calls Try.prog 52 #[.int .i64 n, .int .i64 lo, .int .i64 hi] w fun e w' => e = .returned (.bool b) ∧ w = w' := by
  have h1 := impl_inRange n lo hi w
  rw [h] at h1
  exact h1
theorem blC_in {p : Int} {xs : List Int} {k : Int} (hs : spaceB p xs = true) (h : 0 ≤ k ∧ k < 2 ^ xs.length) : blC p xs k = 0 := by
  unfold blC
  rw [if_pos hs, if_pos h]
theorem blC_out {p : Int} {xs : List Int} {k : Int} (hs : spaceB p xs = true) (h : ¬ (0 ≤ k ∧ k < 2 ^ xs.length)) : blC p xs k = 2 := by
  unfold blC
  rw [if_pos hs, if_neg h]
theorem blC_no {p : Int} {xs : List Int} {k : Int} (hs : ¬ spaceB p xs = true) : blC p xs k = 1 := by
  unfold blC
  rw [if_neg hs]
theorem blL_in {p : Int} {xs : List Int} {k : Int} (hs : spaceB p xs = true) (h : 0 ≤ k ∧ k < 2 ^ xs.length) : blL p xs k = (List.replicate (2 ^ xs.length) 0).set k.toNat 1 := by
  unfold blL
  rw [if_pos ⟨hs, h⟩]
theorem blL_out {p : Int} {xs : List Int} {k : Int} (h : ¬ (spaceB p xs = true ∧ 0 ≤ k ∧ k < 2 ^ xs.length)) : blL p xs k = [] := by
  unfold blL
  rw [if_neg h]

theorem spec_BladeOf (p : Int) (A : Option Addr) (n c : Nat) (xs : List Int) (k : Int) (w : World) (hx : Ints w A n xs) :
    Calls Try.prog 23 #[.agg #[.int .i64 p, .slice A n c], .int .i64 k] w fun e w' => ∃ C q, e = .returned (.tuple #[.slice C (blL p xs k).length q, .int .i64 (blC p xs k)]) ∧ Own w.heap.size w' C (blL p xs k).length (blL p xs k) ∧ Below w.heap.size w w' := by
  have HX := Lib.hid hx
  have hm := hx.2.1
  have HN := Lib.hid hx.1
  clear hx
  unfold maxLen at hm
  have H2 := Lib.hid (show Below w.heap.size w (w.alloc (.cells #[.int .i64 p, .slice A n c] 28)) from (Below.refl _ _).alloc (Nat.le_refl _) _)
  by_cases hs : spaceB p xs = true
  · obtain ⟨hp, hl0, hl1, hn⟩ := spaceB_true hs
    rw [HN.out] at hl0 hl1
    have HS := Lib.hid hs
    obtain ⟨g0, g1, g2⟩ := ipow_le6 hl1
    have g3 := pow_le6 hl1
    have e1 : IntKind.i64.wrap (2 ^ n) = 2 ^ n := IntWalk.i64_in _ (by omega)
    have e2 : IntKind.i64.wrap (2 ^ n - 1) = 2 ^ n - 1 := IntWalk.i64_in _ (by omega)
    by_cases hk : 0 ≤ k ∧ k < 2 ^ xs.length
    · have HC := Lib.hid (blC_in hs hk)
      have HV0 := Lib.hid (blL_in hs hk)
      rw [HN.out] at hk
      obtain ⟨j, rfl⟩ : ∃ j : Nat, k = j := ⟨k.toNat, by omega⟩
      have hj : j < 2 ^ n := by have h3 := ipow_cast n; omega
      have HV := Lib.hid (show blL p xs j = (List.replicate (2 ^ n) 0).set j 1 by rw [HV0.out, HN.out]; rfl)
      have HL := Lib.hid (show (blL p xs j).length = 2 ^ n by rw [HV.out, List.length_set, List.length_replicate])
      rw [HL.out, HV.out, HC.out]
      have HR := Lib.hid (show rangeB (j : Int) 0 (2 ^ n - 1) = true by simp only [rangeB, decide_eq_true_eq, Bool.and_eq_true]; omega)
      clear hp hn hs HV0 HV HL
      go_enter Try.func23, Try.ntmps23
      have c0 : (w.alloc (.cells #[.int .i64 p, .slice A n c] 28)).cell? ⟨w.heap.size, 0, none⟩ = some (.int .i64 p) := by simp [go_sem]
      have c1 : (w.alloc (.cells #[.int .i64 p, .slice A n c] 28)).cell? ⟨w.heap.size, 1, none⟩ = some (.slice A n c) := by simp [go_sem]
      have HW := Lib.hid (Below.refl (w.alloc (.cells #[.int .i64 p, .slice A n c] 28)).heap.size (w.alloc (.cells #[.int .i64 p, .slice A n c] 28)))
      go_wp2_with fail
      refine (spec_l03Is _ _ _ _ xs _ (HX.out.keep (H2.out.trans (HW.out.mono H2.out.size)))).mono ?_
      rw [HS.out]
      rintro e v ⟨rfl, hb⟩
      have hs1 := hb.size
      replace c0 := keep_cell hb c0
      replace c1 := keep_cell hb c1
      replace HW := Lib.hid (below_then HW.out hb)
      clear hb
      have hs2 : w.heap.size + 1 ≤ v.heap.size := by simpa using hs1
      go_wp2_with fail
      refine (spec_l04Size _ _ _ _ _ hl1).mono ?_
      rintro e vz ⟨rfl, hb⟩
      have hsz1 := hb.size
      replace c0 := keep_cell hb c0
      replace c1 := keep_cell hb c1
      replace HW := Lib.hid (below_then HW.out hb)
      clear hb
      have hs3 : w.heap.size + 1 ≤ vz.heap.size := Nat.le_trans hs2 hsz1
      go_wp2_with fail
      refine (spec_in_is _ _ _ true _ HR.out).mono ?_
      rintro e _v ⟨rfl, rfl⟩
      clear e1 e2
      go_wp2_with fail
      refine (spec_l04Zero _ _ _ _ _ hl1).mono ?_
      rintro e v2 ⟨b, rfl, ho, hb⟩
      have HO := Lib.hid (ho.less (B' := w.heap.size) (by omega))
      have hB := ho.2.2 (by omega)
      clear ho
      replace c0 := keep_cell hb c0
      replace c1 := keep_cell hb c1
      replace HW := Lib.hid (below_then HW.out hb)
      clear hb
      obtain ⟨b', off', e', hb1, hb2, hcl, hfz⟩ := hB
      injection e' with e'
      injection e' with e1' e2'
      subst e1' e2'
      have hcell := hcl j 0 (by rw [List.getElem?_replicate, if_pos (by omega)])
      have hfr := hfz j (by omega)
      clear hcl hfz
      have hb3 : w.heap.size ≤ b := by omega
      simp only [Nat.zero_add] at hcell hfr
      go_wp2
      go_ret2
      refine ⟨_, _, rfl, ?_, (H2.out.trans (HW.out.mono H2.out.size)).setCell hb3 _⟩
      have hq := HO.out.set_ (j := j) (by omega) 1
      simpa only [Nat.zero_add] using hq
    · have HC := Lib.hid (blC_out hs hk)
      have HV := Lib.hid (blL_out (p := p) (k := k) (fun h => hk h.2))
      rw [HN.out] at hk
      rw [HV.out, HC.out]
      have HR := Lib.hid (show rangeB k 0 (2 ^ n - 1) = false by
        cases hr : rangeB k 0 (2 ^ n - 1) with
        | false => rfl
        | true => have h2 := rangeB_true hr; exact absurd (show 0 ≤ k ∧ k < 2 ^ n by omega) hk)
      clear hp hn hs hk
      go_enter Try.func23, Try.ntmps23
      have c0 : (w.alloc (.cells #[.int .i64 p, .slice A n c] 28)).cell? ⟨w.heap.size, 0, none⟩ = some (.int .i64 p) := by simp [go_sem]
      have c1 : (w.alloc (.cells #[.int .i64 p, .slice A n c] 28)).cell? ⟨w.heap.size, 1, none⟩ = some (.slice A n c) := by simp [go_sem]
      have HW := Lib.hid (Below.refl (w.alloc (.cells #[.int .i64 p, .slice A n c] 28)).heap.size (w.alloc (.cells #[.int .i64 p, .slice A n c] 28)))
      go_wp2_with fail
      refine (spec_l03Is _ _ _ _ xs _ (HX.out.keep (H2.out.trans (HW.out.mono H2.out.size)))).mono ?_
      rw [HS.out]
      rintro e v ⟨rfl, hb⟩
      have hs1 := hb.size
      replace c0 := keep_cell hb c0
      replace c1 := keep_cell hb c1
      replace HW := Lib.hid (below_then HW.out hb)
      clear hb
      have hs2 : w.heap.size + 1 ≤ v.heap.size := by simpa using hs1
      go_wp2_with fail
      refine (spec_l04Size _ _ _ _ _ hl1).mono ?_
      rintro e vz ⟨rfl, hb⟩
      have hsz1 := hb.size
      replace c0 := keep_cell hb c0
      replace c1 := keep_cell hb c1
      replace HW := Lib.hid (below_then HW.out hb)
      clear hb
      have hs3 : w.heap.size + 1 ≤ vz.heap.size := Nat.le_trans hs2 hsz1
      go_wp2_with fail
      refine (spec_in_is _ _ _ false _ HR.out).mono ?_
      rintro e _v ⟨rfl, rfl⟩
      go_wp2_with fail
      go_ret2
      exact ⟨_, _, rfl, Own.nil _ _, (H2.out.trans (HW.out.mono H2.out.size))⟩
  · have hs' : spaceB p xs = false := by simpa using hs
    have HC := Lib.hid (blC_no (p := p) (k := k) hs)
    have HV := Lib.hid (blL_out (p := p) (k := k) (fun h => hs h.1))
    rw [HV.out, HC.out]
    have HS := Lib.hid hs'
    clear hs
    go_enter Try.func23, Try.ntmps23
    have c0 : (w.alloc (.cells #[.int .i64 p, .slice A n c] 28)).cell? ⟨w.heap.size, 0, none⟩ = some (.int .i64 p) := by simp [go_sem]
    have c1 : (w.alloc (.cells #[.int .i64 p, .slice A n c] 28)).cell? ⟨w.heap.size, 1, none⟩ = some (.slice A n c) := by simp [go_sem]
    have HW := Lib.hid (Below.refl (w.alloc (.cells #[.int .i64 p, .slice A n c] 28)).heap.size (w.alloc (.cells #[.int .i64 p, .slice A n c] 28)))
    go_wp2_with fail
    refine (spec_l03Is _ _ _ _ xs _ (HX.out.keep (H2.out.trans (HW.out.mono H2.out.size)))).mono ?_
    rw [HS.out]
    rintro e v ⟨rfl, hb⟩
    have hs1 := hb.size
    replace c0 := keep_cell hb c0
    replace c1 := keep_cell hb c1
    replace HW := Lib.hid (below_then HW.out hb)
    clear hb
    have hs2 : w.heap.size + 1 ≤ v.heap.size := by simpa using hs1
    go_wp2_with fail
    go_ret2
    exact ⟨_, _, rfl, Own.nil _ _, (H2.out.trans (HW.out.mono H2.out.size))⟩

theorem impl_BladeOf (p : Int) (A : Option Addr) (n c : Nat) (xs : List Int) (k : Int) (w : World) (hx : Ints w A n xs) :
    Calls Try.prog 24 #[.agg #[.int .i64 p, .slice A n c], .int .i64 k] w fun e w' => ∃ C q, e = .returned (.tuple #[.slice C (blL p xs k).length q, .int .i64 (blC p xs k)]) ∧ Own w.heap.size w' C (blL p xs k).length (blL p xs k) ∧ Below w.heap.size w w' := by
  have HX := Lib.hid hx
  have hm := hx.2.1
  have HN := Lib.hid hx.1
  clear hx
  unfold maxLen at hm
  have H2 := Lib.hid (show Below w.heap.size w (w.alloc (.cells #[.int .i64 p, .slice A n c] 28)) from (Below.refl _ _).alloc (Nat.le_refl _) _)
  by_cases hs : spaceB p xs = true
  · obtain ⟨hp, hl0, hl1, hn⟩ := spaceB_true hs
    rw [HN.out] at hl0 hl1
    have HS := Lib.hid hs
    obtain ⟨g0, g1, g2⟩ := ipow_le6 hl1
    have g3 := pow_le6 hl1
    have e1 : IntKind.i64.wrap (2 ^ n) = 2 ^ n := IntWalk.i64_in _ (by omega)
    have e2 : IntKind.i64.wrap (2 ^ n - 1) = 2 ^ n - 1 := IntWalk.i64_in _ (by omega)
    by_cases hk : 0 ≤ k ∧ k < 2 ^ xs.length
    · have HC := Lib.hid (blC_in hs hk)
      have HV0 := Lib.hid (blL_in hs hk)
      rw [HN.out] at hk
      obtain ⟨j, rfl⟩ : ∃ j : Nat, k = j := ⟨k.toNat, by omega⟩
      have hj : j < 2 ^ n := by have h3 := ipow_cast n; omega
      have HV := Lib.hid (show blL p xs j = (List.replicate (2 ^ n) 0).set j 1 by rw [HV0.out, HN.out]; rfl)
      have HL := Lib.hid (show (blL p xs j).length = 2 ^ n by rw [HV.out, List.length_set, List.length_replicate])
      rw [HL.out, HV.out, HC.out]
      have HR := Lib.hid (show rangeB (j : Int) 0 (2 ^ n - 1) = true by simp only [rangeB, decide_eq_true_eq, Bool.and_eq_true]; omega)
      clear hp hn hs HV0 HV HL
      go_enter Try.func24, Try.ntmps24
      have c0 : (w.alloc (.cells #[.int .i64 p, .slice A n c] 28)).cell? ⟨w.heap.size, 0, none⟩ = some (.int .i64 p) := by simp [go_sem]
      have c1 : (w.alloc (.cells #[.int .i64 p, .slice A n c] 28)).cell? ⟨w.heap.size, 1, none⟩ = some (.slice A n c) := by simp [go_sem]
      have HW := Lib.hid (Below.refl (w.alloc (.cells #[.int .i64 p, .slice A n c] 28)).heap.size (w.alloc (.cells #[.int .i64 p, .slice A n c] 28)))
      go_wp2_with fail
      refine (impl_IsSpace _ _ _ _ xs _ (HX.out.keep (H2.out.trans (HW.out.mono H2.out.size)))).mono ?_
      rw [HS.out]
      rintro e v ⟨rfl, hb⟩
      have hs1 := hb.size
      replace c0 := keep_cell hb c0
      replace c1 := keep_cell hb c1
      replace HW := Lib.hid (below_then HW.out hb)
      clear hb
      have hs2 : w.heap.size + 1 ≤ v.heap.size := by simpa using hs1
      go_wp2_with fail
      refine (Space_dim _ _ _ _ _).mono ?_
      rintro e vz ⟨rfl, hb⟩
      have hsz1 := hb.size
      replace c0 := keep_cell hb c0
      replace c1 := keep_cell hb c1
      replace HW := Lib.hid (below_then HW.out hb)
      clear hb
      have hs3 : w.heap.size + 1 ≤ vz.heap.size := Nat.le_trans hs2 hsz1
      go_wp2_with fail
      refine (impl_in_is _ _ _ true _ HR.out).mono ?_
      rintro e _v ⟨rfl, rfl⟩
      clear e1 e2
      go_wp2_with fail
      refine (Space_blade _ _ _ _ j _ hl1 hj).mono ?_
      rintro e v2 ⟨bb, rfl, ho, hb⟩
      have HO := Lib.hid (ho.less (B' := w.heap.size) (by omega))
      clear ho
      replace c0 := keep_cell hb c0
      replace c1 := keep_cell hb c1
      replace HW := Lib.hid (below_then HW.out hb)
      clear hb
      go_wp2_with fail
      go_ret2
      exact ⟨_, _, rfl, HO.out, (H2.out.trans (HW.out.mono H2.out.size))⟩
    · have HC := Lib.hid (blC_out hs hk)
      have HV := Lib.hid (blL_out (p := p) (k := k) (fun h => hk h.2))
      rw [HN.out] at hk
      rw [HV.out, HC.out]
      have HR := Lib.hid (show rangeB k 0 (2 ^ n - 1) = false by
        cases hr : rangeB k 0 (2 ^ n - 1) with
        | false => rfl
        | true => have h2 := rangeB_true hr; exact absurd (show 0 ≤ k ∧ k < 2 ^ n by omega) hk)
      clear hp hn hs hk
      go_enter Try.func24, Try.ntmps24
      have c0 : (w.alloc (.cells #[.int .i64 p, .slice A n c] 28)).cell? ⟨w.heap.size, 0, none⟩ = some (.int .i64 p) := by simp [go_sem]
      have c1 : (w.alloc (.cells #[.int .i64 p, .slice A n c] 28)).cell? ⟨w.heap.size, 1, none⟩ = some (.slice A n c) := by simp [go_sem]
      have HW := Lib.hid (Below.refl (w.alloc (.cells #[.int .i64 p, .slice A n c] 28)).heap.size (w.alloc (.cells #[.int .i64 p, .slice A n c] 28)))
      go_wp2_with fail
      refine (impl_IsSpace _ _ _ _ xs _ (HX.out.keep (H2.out.trans (HW.out.mono H2.out.size)))).mono ?_
      rw [HS.out]
      rintro e v ⟨rfl, hb⟩
      have hs1 := hb.size
      replace c0 := keep_cell hb c0
      replace c1 := keep_cell hb c1
      replace HW := Lib.hid (below_then HW.out hb)
      clear hb
      have hs2 : w.heap.size + 1 ≤ v.heap.size := by simpa using hs1
      go_wp2_with fail
      refine (Space_dim _ _ _ _ _).mono ?_
      rintro e vz ⟨rfl, hb⟩
      have hsz1 := hb.size
      replace c0 := keep_cell hb c0
      replace c1 := keep_cell hb c1
      replace HW := Lib.hid (below_then HW.out hb)
      clear hb
      have hs3 : w.heap.size + 1 ≤ vz.heap.size := Nat.le_trans hs2 hsz1
      go_wp2_with fail
      refine (impl_in_is _ _ _ false _ HR.out).mono ?_
      rintro e _v ⟨rfl, rfl⟩
      go_wp2_with fail
      go_ret2
      exact ⟨_, _, rfl, Own.nil _ _, (H2.out.trans (HW.out.mono H2.out.size))⟩
  · have hs' : spaceB p xs = false := by simpa using hs
    have HC := Lib.hid (blC_no (p := p) (k := k) hs)
    have HV := Lib.hid (blL_out (p := p) (k := k) (fun h => hs h.1))
    rw [HV.out, HC.out]
    have HS := Lib.hid hs'
    clear hs
    go_enter Try.func24, Try.ntmps24
    have c0 : (w.alloc (.cells #[.int .i64 p, .slice A n c] 28)).cell? ⟨w.heap.size, 0, none⟩ = some (.int .i64 p) := by simp [go_sem]
    have c1 : (w.alloc (.cells #[.int .i64 p, .slice A n c] 28)).cell? ⟨w.heap.size, 1, none⟩ = some (.slice A n c) := by simp [go_sem]
    have HW := Lib.hid (Below.refl (w.alloc (.cells #[.int .i64 p, .slice A n c] 28)).heap.size (w.alloc (.cells #[.int .i64 p, .slice A n c] 28)))
    go_wp2_with fail
    refine (impl_IsSpace _ _ _ _ xs _ (HX.out.keep (H2.out.trans (HW.out.mono H2.out.size)))).mono ?_
    rw [HS.out]
    rintro e v ⟨rfl, hb⟩
    have hs1 := hb.size
    replace c0 := keep_cell hb c0
    replace c1 := keep_cell hb c1
    replace HW := Lib.hid (below_then HW.out hb)
    clear hb
    have hs2 : w.heap.size + 1 ≤ v.heap.size := by simpa using hs1
    go_wp2_with fail
    go_ret2
    exact ⟨_, _, rfl, Own.nil _ _, (H2.out.trans (HW.out.mono H2.out.size))⟩

end Go.Proofs.Ytincppklphahpaa
