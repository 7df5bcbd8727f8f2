/- Contracts: Witt index, number of bivectors. Conditions stand in each theorem. -/
import Derived.Test.YtcieohpbeckjfaaLists
import Derived.Test.YtcieohpbeckjfaaInv
namespace Go.Proofs.Ytcieohpbeckjfaa
open Go.RowKit
set_option linter.unusedVariables false

def wittN (p : Int) (n : Nat) (d : Int) : Int := if (n : Int) % 2 = 1 then n / 2 else if 0 ≤ rootN p (if (n : Int) / 2 % 2 = 1 then (p - d) % p else d) then n / 2 else n / 2 - 1
theorem neg_mod (p d : Int) : (-d) % p = (p - d) % p := by rw [show p - d = -d + p by omega, Int.add_emod_right]
theorem mod_self_of {p d : Int} (h0 : 0 ≤ d) (h1 : d < p) : d % p = d := Int.emod_eq_of_lt h0 h1

theorem spec_l03Witt (p : Int) (A : Option Addr) (n c : Nat) (xs : List Int) (w : World) (hx : Ints w A n xs) (hp : primeB p = true) (hl0 : 1 ≤ n) (hl1 : n ≤ 6) (hn : numsB p xs = true) :
    Calls Try.prog 66 #[.agg #[.int .i64 p, .slice A n c]] w fun e w' => e = .returned (.int .i64 (wittN p n (discN p xs))) ∧ Below w.heap.size w w' := by
  have HX := Lib.hid hx
  have hm := hx.2.1
  have HN := Lib.hid hx.1
  clear hx
  unfold maxLen at hm
  have H2 := Lib.hid (show Below w.heap.size w (w.alloc (.cells #[.int .i64 p, .slice A n c] 27)) from (Below.refl _ _).alloc (Nat.le_refl _) _)
  have h0 := prime_lo hp
  have h1 := prime_hi hp
  have hd := discN_bounds h0 xs
  have hd0 := hd.1
  have hd1 := hd.2
  clear hd
  have HP := Lib.hid hp
  have HM := Lib.hid hn
  clear hp hn
  by_cases ho : (n : Int) % 2 = 1
  · have HV := Lib.hid (show wittN p n (discN p xs) = n / 2 by unfold wittN; rw [if_pos ho])
    rw [HV.out]
    have q1 : ((n : Int) % 2 == 1) = true := by simpa using ho
    clear ho
    go_enter Try.func66, Try.ntmps66
    have c0 : (w.alloc (.cells #[.int .i64 p, .slice A n c] 27)).cell? ⟨w.heap.size, 0, none⟩ = some (.int .i64 p) := by simp [go_sem]
    have c1 : (w.alloc (.cells #[.int .i64 p, .slice A n c] 27)).cell? ⟨w.heap.size, 1, none⟩ = some (.slice A n c) := by simp [go_sem]
    have HW := Lib.hid (Below.refl (w.alloc (.cells #[.int .i64 p, .slice A n c] 27)).heap.size (w.alloc (.cells #[.int .i64 p, .slice A n c] 27)))
    go_wp2
    go_ret
    exact ⟨rfl, (H2.out.trans (HW.out.mono H2.out.size))⟩
  · have q1 : ((n : Int) % 2 == 1) = false := by simpa using ho
    by_cases hk : (n : Int) / 2 % 2 = 1
    · have q2 : ((n : Int) / 2 % 2 == 1) = true := by simpa using hk
      have HV := Lib.hid (show wittN p n (discN p xs) = if 0 ≤ rootN p ((p - discN p xs) % p) then (n : Int) / 2 else n / 2 - 1 by unfold wittN; rw [if_neg ho, if_pos hk])
      clear ho hk
      by_cases hr : 0 ≤ rootN p ((p - discN p xs) % p)
      · have HV2 := Lib.hid (HV.out.trans (if_pos hr))
        rw [HV2.out]
        have hr2 : 0 ≤ rootN p (-discN p xs % p) := by rw [neg_mod]; exact hr
        go_enter Try.func66, Try.ntmps66
        have c0 : (w.alloc (.cells #[.int .i64 p, .slice A n c] 27)).cell? ⟨w.heap.size, 0, none⟩ = some (.int .i64 p) := by simp [go_sem]
        have c1 : (w.alloc (.cells #[.int .i64 p, .slice A n c] 27)).cell? ⟨w.heap.size, 1, none⟩ = some (.slice A n c) := by simp [go_sem]
        have HW := Lib.hid (Below.refl (w.alloc (.cells #[.int .i64 p, .slice A n c] 27)).heap.size (w.alloc (.cells #[.int .i64 p, .slice A n c] 27)))
        go_wp2_with fail
        refine (spec_l03Disc _ _ _ _ xs _ (HX.out.keep (H2.out.trans (HW.out.mono H2.out.size))) HP.out HM.out).mono ?_
        rintro e v ⟨rfl, hb⟩
        replace c0 := keep_cell hb c0
        replace c1 := keep_cell hb c1
        replace HW := Lib.hid (below_then HW.out hb)
        clear hb
        go_wp2_with (go_at_call 86; refine (spec_l01Root _ _ _ h0 h1).mono ?_; rintro e w' ⟨rfl, rfl⟩)
        go_ret
        exact ⟨rfl, (H2.out.trans (HW.out.mono H2.out.size))⟩
      · have HV2 := Lib.hid (HV.out.trans (if_neg hr))
        rw [HV2.out]
        have hr2 : rootN p (-discN p xs % p) < 0 := by rw [neg_mod]; omega
        go_enter Try.func66, Try.ntmps66
        have c0 : (w.alloc (.cells #[.int .i64 p, .slice A n c] 27)).cell? ⟨w.heap.size, 0, none⟩ = some (.int .i64 p) := by simp [go_sem]
        have c1 : (w.alloc (.cells #[.int .i64 p, .slice A n c] 27)).cell? ⟨w.heap.size, 1, none⟩ = some (.slice A n c) := by simp [go_sem]
        have HW := Lib.hid (Below.refl (w.alloc (.cells #[.int .i64 p, .slice A n c] 27)).heap.size (w.alloc (.cells #[.int .i64 p, .slice A n c] 27)))
        go_wp2_with fail
        refine (spec_l03Disc _ _ _ _ xs _ (HX.out.keep (H2.out.trans (HW.out.mono H2.out.size))) HP.out HM.out).mono ?_
        rintro e v ⟨rfl, hb⟩
        replace c0 := keep_cell hb c0
        replace c1 := keep_cell hb c1
        replace HW := Lib.hid (below_then HW.out hb)
        clear hb
        go_wp2_with (go_at_call 86; refine (spec_l01Root _ _ _ h0 h1).mono ?_; rintro e w' ⟨rfl, rfl⟩)
        go_ret
        exact ⟨rfl, (H2.out.trans (HW.out.mono H2.out.size))⟩
    · have q2 : ((n : Int) / 2 % 2 == 1) = false := by simpa using hk
      have HV := Lib.hid (show wittN p n (discN p xs) = if 0 ≤ rootN p (discN p xs) then (n : Int) / 2 else n / 2 - 1 by unfold wittN; rw [if_neg ho, if_neg hk])
      clear ho hk
      by_cases hr : 0 ≤ rootN p (discN p xs)
      · have HV2 := Lib.hid (HV.out.trans (if_pos hr))
        rw [HV2.out]
        go_enter Try.func66, Try.ntmps66
        have c0 : (w.alloc (.cells #[.int .i64 p, .slice A n c] 27)).cell? ⟨w.heap.size, 0, none⟩ = some (.int .i64 p) := by simp [go_sem]
        have c1 : (w.alloc (.cells #[.int .i64 p, .slice A n c] 27)).cell? ⟨w.heap.size, 1, none⟩ = some (.slice A n c) := by simp [go_sem]
        have HW := Lib.hid (Below.refl (w.alloc (.cells #[.int .i64 p, .slice A n c] 27)).heap.size (w.alloc (.cells #[.int .i64 p, .slice A n c] 27)))
        go_wp2_with fail
        refine (spec_l03Disc _ _ _ _ xs _ (HX.out.keep (H2.out.trans (HW.out.mono H2.out.size))) HP.out HM.out).mono ?_
        rintro e v ⟨rfl, hb⟩
        replace c0 := keep_cell hb c0
        replace c1 := keep_cell hb c1
        replace HW := Lib.hid (below_then HW.out hb)
        clear hb
        go_wp2_with (go_at_call 86; refine (spec_l01Root _ _ _ h0 h1).mono ?_; rintro e w' ⟨rfl, rfl⟩)
        go_ret
        exact ⟨rfl, (H2.out.trans (HW.out.mono H2.out.size))⟩
      · have HV2 := Lib.hid (HV.out.trans (if_neg hr))
        rw [HV2.out]
        go_enter Try.func66, Try.ntmps66
        have c0 : (w.alloc (.cells #[.int .i64 p, .slice A n c] 27)).cell? ⟨w.heap.size, 0, none⟩ = some (.int .i64 p) := by simp [go_sem]
        have c1 : (w.alloc (.cells #[.int .i64 p, .slice A n c] 27)).cell? ⟨w.heap.size, 1, none⟩ = some (.slice A n c) := by simp [go_sem]
        have HW := Lib.hid (Below.refl (w.alloc (.cells #[.int .i64 p, .slice A n c] 27)).heap.size (w.alloc (.cells #[.int .i64 p, .slice A n c] 27)))
        go_wp2_with fail
        refine (spec_l03Disc _ _ _ _ xs _ (HX.out.keep (H2.out.trans (HW.out.mono H2.out.size))) HP.out HM.out).mono ?_
        rintro e v ⟨rfl, hb⟩
        replace c0 := keep_cell hb c0
        replace c1 := keep_cell hb c1
        replace HW := Lib.hid (below_then HW.out hb)
        clear hb
        go_wp2_with (go_at_call 86; refine (spec_l01Root _ _ _ h0 h1).mono ?_; rintro e w' ⟨rfl, rfl⟩)
        go_ret
        exact ⟨rfl, (H2.out.trans (HW.out.mono H2.out.size))⟩

def codeR (p : Int) (xs : List Int) : Int := if spaceB p xs then (if regB xs then 0 else 5) else 1
def wittV (p : Int) (xs : List Int) : Int := if codeR p xs = 0 then wittN p xs.length (discN p xs) else 0

theorem spec_l05Regular (p : Int) (A : Option Addr) (n c : Nat) (xs : List Int) (w : World) (hx : Ints w A n xs) :
    Calls Try.prog 72 #[.agg #[.int .i64 p, .slice A n c], .slice none 0 0] w fun e w' => e = .returned (.int .i64 (codeR p xs)) ∧ Below w.heap.size w w' := by
  have HX := Lib.hid hx
  have hm := hx.2.1
  have HN := Lib.hid hx.1
  clear hx
  unfold maxLen at hm
  have H2 := Lib.hid (show Below w.heap.size w (w.alloc (.cells #[.int .i64 p, .slice A n c] 27)) from (Below.refl _ _).alloc (Nat.le_refl _) _)
  by_cases hs : spaceB p xs = true
  · obtain ⟨hp, hl0, hl1, hn⟩ := spaceB_true hs
    have hrd := regB_disc hp hn
    have HP := Lib.hid hp
    have HM := Lib.hid hn
    have HZ := Lib.hid (show codeS p xs (2 ^ n) [] = 0 by simp [codeS, hs])
    cases hr : regB xs with
    | true =>
      have HC := Lib.hid (show codeR p xs = 0 by simp [codeR, hs, hr])
      rw [HC.out]
      have hdz : (discN p xs == 0) = false := by rw [hr] at hrd; simpa using hrd
      have HR := Lib.hid hr
      clear hp hn hrd hr hs
      go_enter Try.func72, Try.ntmps72
      have c0 : (w.alloc (.cells #[.int .i64 p, .slice A n c] 27)).cell? ⟨w.heap.size, 0, none⟩ = some (.int .i64 p) := by simp [go_sem]
      have c1 : (w.alloc (.cells #[.int .i64 p, .slice A n c] 27)).cell? ⟨w.heap.size, 1, none⟩ = some (.slice A n c) := by simp [go_sem]
      have HW := Lib.hid (Below.refl (w.alloc (.cells #[.int .i64 p, .slice A n c] 27)).heap.size (w.alloc (.cells #[.int .i64 p, .slice A n c] 27)))
      go_wp2_with fail
      refine (spec_l04Code _ _ _ _ _ _ _ xs [] _ (HX.out.keep (H2.out.trans (HW.out.mono H2.out.size))) (Lists.nil _)).mono ?_
      rw [HZ.out]
      rintro e v ⟨rfl, hb⟩
      replace c0 := keep_cell hb c0
      replace c1 := keep_cell hb c1
      replace HW := Lib.hid (below_then HW.out hb)
      clear hb
      go_wp2_with fail
      refine (spec_l03Disc _ _ _ _ xs _ (HX.out.keep (H2.out.trans (HW.out.mono H2.out.size))) HP.out HM.out).mono ?_
      rintro e v ⟨rfl, hb⟩
      replace c0 := keep_cell hb c0
      replace c1 := keep_cell hb c1
      replace HW := Lib.hid (below_then HW.out hb)
      clear hb
      go_wp2_with fail
      go_ret
      exact ⟨rfl, (H2.out.trans (HW.out.mono H2.out.size))⟩
    | false =>
      have HC := Lib.hid (show codeR p xs = 5 by simp [codeR, hs, hr])
      rw [HC.out]
      have hdz : (discN p xs == 0) = true := by rw [hr] at hrd; simpa using hrd
      have HR := Lib.hid hr
      clear hp hn hrd hr hs
      go_enter Try.func72, Try.ntmps72
      have c0 : (w.alloc (.cells #[.int .i64 p, .slice A n c] 27)).cell? ⟨w.heap.size, 0, none⟩ = some (.int .i64 p) := by simp [go_sem]
      have c1 : (w.alloc (.cells #[.int .i64 p, .slice A n c] 27)).cell? ⟨w.heap.size, 1, none⟩ = some (.slice A n c) := by simp [go_sem]
      have HW := Lib.hid (Below.refl (w.alloc (.cells #[.int .i64 p, .slice A n c] 27)).heap.size (w.alloc (.cells #[.int .i64 p, .slice A n c] 27)))
      go_wp2_with fail
      refine (spec_l04Code _ _ _ _ _ _ _ xs [] _ (HX.out.keep (H2.out.trans (HW.out.mono H2.out.size))) (Lists.nil _)).mono ?_
      rw [HZ.out]
      rintro e v ⟨rfl, hb⟩
      replace c0 := keep_cell hb c0
      replace c1 := keep_cell hb c1
      replace HW := Lib.hid (below_then HW.out hb)
      clear hb
      go_wp2_with fail
      refine (spec_l03Disc _ _ _ _ xs _ (HX.out.keep (H2.out.trans (HW.out.mono H2.out.size))) HP.out HM.out).mono ?_
      rintro e v ⟨rfl, hb⟩
      replace c0 := keep_cell hb c0
      replace c1 := keep_cell hb c1
      replace HW := Lib.hid (below_then HW.out hb)
      clear hb
      go_wp2_with fail
      go_ret
      exact ⟨rfl, (H2.out.trans (HW.out.mono H2.out.size))⟩
  · have hs' : spaceB p xs = false := by simpa using hs
    have HC := Lib.hid (show codeR p xs = 1 by simp [codeR, hs'])
    have HZ := Lib.hid (show codeS p xs (2 ^ n) [] = 1 by simp [codeS, hs'])
    rw [HC.out]
    clear hs
    go_enter Try.func72, Try.ntmps72
    have c0 : (w.alloc (.cells #[.int .i64 p, .slice A n c] 27)).cell? ⟨w.heap.size, 0, none⟩ = some (.int .i64 p) := by simp [go_sem]
    have c1 : (w.alloc (.cells #[.int .i64 p, .slice A n c] 27)).cell? ⟨w.heap.size, 1, none⟩ = some (.slice A n c) := by simp [go_sem]
    have HW := Lib.hid (Below.refl (w.alloc (.cells #[.int .i64 p, .slice A n c] 27)).heap.size (w.alloc (.cells #[.int .i64 p, .slice A n c] 27)))
    go_wp2_with fail
    refine (spec_l04Code _ _ _ _ _ _ _ xs [] _ (HX.out.keep (H2.out.trans (HW.out.mono H2.out.size))) (Lists.nil _)).mono ?_
    rw [HZ.out]
    rintro e v ⟨rfl, hb⟩
    replace c0 := keep_cell hb c0
    replace c1 := keep_cell hb c1
    replace HW := Lib.hid (below_then HW.out hb)
    clear hb
    go_wp2_with fail
    go_ret
    exact ⟨rfl, (H2.out.trans (HW.out.mono H2.out.size))⟩

theorem impl_checkRegular (p : Int) (A : Option Addr) (n c : Nat) (xs : List Int) (w : World) (hx : Ints w A n xs) :
    Calls Try.prog 73 #[.agg #[.int .i64 p, .slice A n c], .slice none 0 0] w fun e w' => e = .returned (.int .i64 (codeR p xs)) ∧ Below w.heap.size w w' := by
  have HX := Lib.hid hx
  have hm := hx.2.1
  have HN := Lib.hid hx.1
  clear hx
  unfold maxLen at hm
  have H2 := Lib.hid (show Below w.heap.size w (w.alloc (.cells #[.int .i64 p, .slice A n c] 27)) from (Below.refl _ _).alloc (Nat.le_refl _) _)
  by_cases hs : spaceB p xs = true
  · obtain ⟨hp, hl0, hl1, hn⟩ := spaceB_true hs
    have hrd := regB_disc hp hn
    have HP := Lib.hid hp
    have HM := Lib.hid hn
    have HZ := Lib.hid (show codeS p xs (2 ^ n) [] = 0 by simp [codeS, hs])
    cases hr : regB xs with
    | true =>
      have HC := Lib.hid (show codeR p xs = 0 by simp [codeR, hs, hr])
      rw [HC.out]
      have hdz : (discN p xs == 0) = false := by rw [hr] at hrd; simpa using hrd
      have HR := Lib.hid hr
      clear hp hn hrd hr hs
      go_enter Try.func73, Try.ntmps73
      have c0 : (w.alloc (.cells #[.int .i64 p, .slice A n c] 27)).cell? ⟨w.heap.size, 0, none⟩ = some (.int .i64 p) := by simp [go_sem]
      have c1 : (w.alloc (.cells #[.int .i64 p, .slice A n c] 27)).cell? ⟨w.heap.size, 1, none⟩ = some (.slice A n c) := by simp [go_sem]
      have HW := Lib.hid (Below.refl (w.alloc (.cells #[.int .i64 p, .slice A n c] 27)).heap.size (w.alloc (.cells #[.int .i64 p, .slice A n c] 27)))
      go_wp2_with fail
      refine (impl_checkMultis _ _ _ _ _ _ _ xs [] _ (HX.out.keep (H2.out.trans (HW.out.mono H2.out.size))) (Lists.nil _)).mono ?_
      rw [HZ.out]
      rintro e v ⟨rfl, hb⟩
      replace c0 := keep_cell hb c0
      replace c1 := keep_cell hb c1
      replace HW := Lib.hid (below_then HW.out hb)
      clear hb
      go_wp2_with fail
      refine (Space_regular _ _ _ _ xs _ (HX.out.keep (H2.out.trans (HW.out.mono H2.out.size)))).mono ?_
      rw [HR.out]
      rintro e v ⟨rfl, hb⟩
      replace c0 := keep_cell hb c0
      replace c1 := keep_cell hb c1
      replace HW := Lib.hid (below_then HW.out hb)
      clear hb
      go_wp2_with fail
      go_ret
      exact ⟨rfl, (H2.out.trans (HW.out.mono H2.out.size))⟩
    | false =>
      have HC := Lib.hid (show codeR p xs = 5 by simp [codeR, hs, hr])
      rw [HC.out]
      have hdz : (discN p xs == 0) = true := by rw [hr] at hrd; simpa using hrd
      have HR := Lib.hid hr
      clear hp hn hrd hr hs
      go_enter Try.func73, Try.ntmps73
      have c0 : (w.alloc (.cells #[.int .i64 p, .slice A n c] 27)).cell? ⟨w.heap.size, 0, none⟩ = some (.int .i64 p) := by simp [go_sem]
      have c1 : (w.alloc (.cells #[.int .i64 p, .slice A n c] 27)).cell? ⟨w.heap.size, 1, none⟩ = some (.slice A n c) := by simp [go_sem]
      have HW := Lib.hid (Below.refl (w.alloc (.cells #[.int .i64 p, .slice A n c] 27)).heap.size (w.alloc (.cells #[.int .i64 p, .slice A n c] 27)))
      go_wp2_with fail
      refine (impl_checkMultis _ _ _ _ _ _ _ xs [] _ (HX.out.keep (H2.out.trans (HW.out.mono H2.out.size))) (Lists.nil _)).mono ?_
      rw [HZ.out]
      rintro e v ⟨rfl, hb⟩
      replace c0 := keep_cell hb c0
      replace c1 := keep_cell hb c1
      replace HW := Lib.hid (below_then HW.out hb)
      clear hb
      go_wp2_with fail
      refine (Space_regular _ _ _ _ xs _ (HX.out.keep (H2.out.trans (HW.out.mono H2.out.size)))).mono ?_
      rw [HR.out]
      rintro e v ⟨rfl, hb⟩
      replace c0 := keep_cell hb c0
      replace c1 := keep_cell hb c1
      replace HW := Lib.hid (below_then HW.out hb)
      clear hb
      go_wp2_with fail
      go_ret
      exact ⟨rfl, (H2.out.trans (HW.out.mono H2.out.size))⟩
  · have hs' : spaceB p xs = false := by simpa using hs
    have HC := Lib.hid (show codeR p xs = 1 by simp [codeR, hs'])
    have HZ := Lib.hid (show codeS p xs (2 ^ n) [] = 1 by simp [codeS, hs'])
    rw [HC.out]
    clear hs
    go_enter Try.func73, Try.ntmps73
    have c0 : (w.alloc (.cells #[.int .i64 p, .slice A n c] 27)).cell? ⟨w.heap.size, 0, none⟩ = some (.int .i64 p) := by simp [go_sem]
    have c1 : (w.alloc (.cells #[.int .i64 p, .slice A n c] 27)).cell? ⟨w.heap.size, 1, none⟩ = some (.slice A n c) := by simp [go_sem]
    have HW := Lib.hid (Below.refl (w.alloc (.cells #[.int .i64 p, .slice A n c] 27)).heap.size (w.alloc (.cells #[.int .i64 p, .slice A n c] 27)))
    go_wp2_with fail
    refine (impl_checkMultis _ _ _ _ _ _ _ xs [] _ (HX.out.keep (H2.out.trans (HW.out.mono H2.out.size))) (Lists.nil _)).mono ?_
    rw [HZ.out]
    rintro e v ⟨rfl, hb⟩
    replace c0 := keep_cell hb c0
    replace c1 := keep_cell hb c1
    replace HW := Lib.hid (below_then HW.out hb)
    clear hb
    go_wp2_with fail
    go_ret
    exact ⟨rfl, (H2.out.trans (HW.out.mono H2.out.size))⟩

def bivV (p : Int) (xs : List Int) : Int := if codeR p xs = 0 then (xs.length : Int) * ((xs.length : Int) - 1) / 2 else 0
theorem biv_bounds {n : Nat} (h0 : 1 ≤ n) (h1 : n ≤ 6) : 0 ≤ (n : Int) * ((n : Int) - 1) ∧ (n : Int) * ((n : Int) - 1) ≤ 30 :=
  ⟨Int.mul_nonneg (by omega) (by omega), by have := Int.mul_le_mul (show (n : Int) ≤ 6 by omega) (show (n : Int) - 1 ≤ 5 by omega) (by omega) (by omega); omega⟩

theorem spec_CountBivectors (p : Int) (A : Option Addr) (n c : Nat) (xs : List Int) (w : World) (hx : Ints w A n xs) :
    Calls Try.prog 40 #[.agg #[.int .i64 p, .slice A n c]] w fun e w' => e = .returned (.tuple #[.int .i64 (bivV p xs), .int .i64 (codeR p xs)]) ∧ Below w.heap.size w w' := by
  have HX := Lib.hid hx
  have hm := hx.2.1
  have HN := Lib.hid hx.1
  clear hx
  unfold maxLen at hm
  have H2 := Lib.hid (show Below w.heap.size w (w.alloc (.cells #[.int .i64 p, .slice A n c] 27)) from (Below.refl _ _).alloc (Nat.le_refl _) _)
  by_cases hc : codeR p xs = 0
  · have hs : spaceB p xs = true := by
      cases e : spaceB p xs with
      | true => rfl
      | false => simp [codeR, e] at hc
    obtain ⟨hp, hl0, hl1, hn⟩ := spaceB_true hs
    rw [HN.out] at hl0 hl1
    obtain ⟨g0, g1⟩ := biv_bounds hl0 hl1
    have HV := Lib.hid (show bivV p xs = (n : Int) * ((n : Int) - 1) / 2 by unfold bivV; rw [if_pos hc, HN.out])
    rw [HV.out, hc]
    have HC := Lib.hid hc
    clear hp hn hs hc
    go_enter Try.func40, Try.ntmps40
    have c0 : (w.alloc (.cells #[.int .i64 p, .slice A n c] 27)).cell? ⟨w.heap.size, 0, none⟩ = some (.int .i64 p) := by simp [go_sem]
    have c1 : (w.alloc (.cells #[.int .i64 p, .slice A n c] 27)).cell? ⟨w.heap.size, 1, none⟩ = some (.slice A n c) := by simp [go_sem]
    have HW := Lib.hid (Below.refl (w.alloc (.cells #[.int .i64 p, .slice A n c] 27)).heap.size (w.alloc (.cells #[.int .i64 p, .slice A n c] 27)))
    go_wp2_with fail
    refine (spec_l05Regular _ _ _ _ xs _ (HX.out.keep (H2.out.trans (HW.out.mono H2.out.size)))).mono ?_
    rw [HC.out]
    rintro e v ⟨rfl, hb⟩
    replace c0 := keep_cell hb c0
    replace c1 := keep_cell hb c1
    replace HW := Lib.hid (below_then HW.out hb)
    clear hb
    go_wp2_with fail
    go_ret2
    exact ⟨rfl, (H2.out.trans (HW.out.mono H2.out.size))⟩
  · have HV := Lib.hid (show bivV p xs = 0 by unfold bivV; rw [if_neg hc])
    rw [HV.out]
    go_enter Try.func40, Try.ntmps40
    have c0 : (w.alloc (.cells #[.int .i64 p, .slice A n c] 27)).cell? ⟨w.heap.size, 0, none⟩ = some (.int .i64 p) := by simp [go_sem]
    have c1 : (w.alloc (.cells #[.int .i64 p, .slice A n c] 27)).cell? ⟨w.heap.size, 1, none⟩ = some (.slice A n c) := by simp [go_sem]
    have HW := Lib.hid (Below.refl (w.alloc (.cells #[.int .i64 p, .slice A n c] 27)).heap.size (w.alloc (.cells #[.int .i64 p, .slice A n c] 27)))
    go_wp2_with fail
    refine (spec_l05Regular _ _ _ _ xs _ (HX.out.keep (H2.out.trans (HW.out.mono H2.out.size)))).mono ?_
    rintro e v ⟨rfl, hb⟩
    replace c0 := keep_cell hb c0
    replace c1 := keep_cell hb c1
    replace HW := Lib.hid (below_then HW.out hb)
    clear hb
    go_wp2_with fail
    go_ret2
    exact ⟨rfl, (H2.out.trans (HW.out.mono H2.out.size))⟩

theorem impl_CountBivectors (p : Int) (A : Option Addr) (n c : Nat) (xs : List Int) (w : World) (hx : Ints w A n xs) :
    Calls Try.prog 41 #[.agg #[.int .i64 p, .slice A n c]] w fun e w' => e = .returned (.tuple #[.int .i64 (bivV p xs), .int .i64 (codeR p xs)]) ∧ Below w.heap.size w w' := by
  have HX := Lib.hid hx
  have hm := hx.2.1
  have HN := Lib.hid hx.1
  clear hx
  unfold maxLen at hm
  have H2 := Lib.hid (show Below w.heap.size w (w.alloc (.cells #[.int .i64 p, .slice A n c] 27)) from (Below.refl _ _).alloc (Nat.le_refl _) _)
  by_cases hc : codeR p xs = 0
  · have hs : spaceB p xs = true := by
      cases e : spaceB p xs with
      | true => rfl
      | false => simp [codeR, e] at hc
    obtain ⟨hp, hl0, hl1, hn⟩ := spaceB_true hs
    rw [HN.out] at hl0 hl1
    obtain ⟨g0, g1⟩ := biv_bounds hl0 hl1
    have HV := Lib.hid (show bivV p xs = (n : Int) * ((n : Int) - 1) / 2 by unfold bivV; rw [if_pos hc, HN.out])
    rw [HV.out, hc]
    have HC := Lib.hid hc
    clear hp hn hs hc
    go_enter Try.func41, Try.ntmps41
    have c0 : (w.alloc (.cells #[.int .i64 p, .slice A n c] 27)).cell? ⟨w.heap.size, 0, none⟩ = some (.int .i64 p) := by simp [go_sem]
    have c1 : (w.alloc (.cells #[.int .i64 p, .slice A n c] 27)).cell? ⟨w.heap.size, 1, none⟩ = some (.slice A n c) := by simp [go_sem]
    have HW := Lib.hid (Below.refl (w.alloc (.cells #[.int .i64 p, .slice A n c] 27)).heap.size (w.alloc (.cells #[.int .i64 p, .slice A n c] 27)))
    go_wp2_with fail
    refine (impl_checkRegular _ _ _ _ xs _ (HX.out.keep (H2.out.trans (HW.out.mono H2.out.size)))).mono ?_
    rw [HC.out]
    rintro e v ⟨rfl, hb⟩
    replace c0 := keep_cell hb c0
    replace c1 := keep_cell hb c1
    replace HW := Lib.hid (below_then HW.out hb)
    clear hb
    go_wp2_with fail
    refine (Space_dim _ _ _ _ _).mono ?_
    rintro e v ⟨rfl, hb⟩
    replace c0 := keep_cell hb c0
    replace c1 := keep_cell hb c1
    replace HW := Lib.hid (below_then HW.out hb)
    clear hb
    go_wp2_with fail
    go_ret2
    exact ⟨rfl, (H2.out.trans (HW.out.mono H2.out.size))⟩
  · have HV := Lib.hid (show bivV p xs = 0 by unfold bivV; rw [if_neg hc])
    rw [HV.out]
    go_enter Try.func41, Try.ntmps41
    have c0 : (w.alloc (.cells #[.int .i64 p, .slice A n c] 27)).cell? ⟨w.heap.size, 0, none⟩ = some (.int .i64 p) := by simp [go_sem]
    have c1 : (w.alloc (.cells #[.int .i64 p, .slice A n c] 27)).cell? ⟨w.heap.size, 1, none⟩ = some (.slice A n c) := by simp [go_sem]
    have HW := Lib.hid (Below.refl (w.alloc (.cells #[.int .i64 p, .slice A n c] 27)).heap.size (w.alloc (.cells #[.int .i64 p, .slice A n c] 27)))
    go_wp2_with fail
    refine (impl_checkRegular _ _ _ _ xs _ (HX.out.keep (H2.out.trans (HW.out.mono H2.out.size)))).mono ?_
    rintro e v ⟨rfl, hb⟩
    replace c0 := keep_cell hb c0
    replace c1 := keep_cell hb c1
    replace HW := Lib.hid (below_then HW.out hb)
    clear hb
    go_wp2_with fail
    go_ret2
    exact ⟨rfl, (H2.out.trans (HW.out.mono H2.out.size))⟩

end Go.Proofs.Ytcieohpbeckjfaa
