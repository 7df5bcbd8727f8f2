/- Contracts: the exported functions over numbers, of the program and of the reference. No condition but those that stand in each theorem. -/
import Derived.Test.YtcgghjhccnjeoaaInv
namespace Go.Proofs.Ytcgghjhccnjeoaa
open Go.RowKit

theorem impl_powI (p a k : Int) (w : World) (hp : primeB p = true) (h0 : 0 ≤ a) (h1 : a < p) (hk0 : 0 ≤ k) (hk : k ≤ 1000) : Calls Try.prog 64 #[.int .i64 p, .int .i64 a, .int .i64 k] w fun e w' => e = .returned (.int .i64 (powN p a k.toNat)) ∧ w = w' := by
  obtain ⟨m, rfl⟩ : ∃ m : Nat, k = m := ⟨k.toNat, by omega⟩
  exact impl_pow p a m w hp h0 h1 (by omega)

theorem impl_AddNumbers (p a b : Int) (w : World) :
    Calls Try.prog 36 #[.int .i64 p, .int .i64 a, .int .i64 b] w fun e w' => e = .returned (.tuple #[.int .i64 (okOr (codeN p [a, b]) ((a + b) % p)), .int .i64 (codeN p [a, b])]) ∧ Below w.heap.size w w' := by
  by_cases hc : codeN p [a, b] = 0
  · obtain ⟨hp, hn⟩ := codeN_zero hc
    have h0 := prime_lo hp
    have h1 := prime_hi hp
    obtain ⟨⟨ha0, ha1⟩, hb0, hb1⟩ := nums2 hn
    have HV := Lib.hid (show okOr (codeN p [a, b]) ((a + b) % p) = (a + b) % p by simp [okOr, hc])
    rw [HV.out, hc]
    clear hp hn
    skip
    go_enter Try.func36, Try.ntmps36
    go_wp2_with (first | (go_at_call 55; refine (impl_checkNumbers _ _ _ _ [a, b] _ (Ints.mk2 _ _ _ _)).mono ?_; rintro e w' ⟨rfl, rfl⟩) | (go_at_call 60; refine (impl_num _ _ _ (by omega) (by omega)).mono ?_; rintro e w' ⟨rfl, rfl⟩))
    go_ret2
    exact ⟨rfl, (Below.refl _ _).alloc (Nat.le_refl _) _⟩
  · have HV := Lib.hid (show okOr (codeN p [a, b]) ((a + b) % p) = 0 by simp [okOr, hc])
    rw [HV.out]
    go_enter Try.func36, Try.ntmps36
    go_wp2_with (go_at_call 55; refine (impl_checkNumbers _ _ _ _ [a, b] _ (Ints.mk2 _ _ _ _)).mono ?_; rintro e w' ⟨rfl, rfl⟩)
    go_ret2
    exact ⟨rfl, (Below.refl _ _).alloc (Nat.le_refl _) _⟩

theorem impl_SubtractNumbers (p a b : Int) (w : World) :
    Calls Try.prog 37 #[.int .i64 p, .int .i64 a, .int .i64 b] w fun e w' => e = .returned (.tuple #[.int .i64 (okOr (codeN p [a, b]) ((a - b) % p)), .int .i64 (codeN p [a, b])]) ∧ Below w.heap.size w w' := by
  by_cases hc : codeN p [a, b] = 0
  · obtain ⟨hp, hn⟩ := codeN_zero hc
    have h0 := prime_lo hp
    have h1 := prime_hi hp
    obtain ⟨⟨ha0, ha1⟩, hb0, hb1⟩ := nums2 hn
    have HV := Lib.hid (show okOr (codeN p [a, b]) ((a - b) % p) = (a - b) % p by simp [okOr, hc])
    rw [HV.out, hc]
    clear hp hn
    skip
    go_enter Try.func37, Try.ntmps37
    go_wp2_with (first | (go_at_call 55; refine (impl_checkNumbers _ _ _ _ [a, b] _ (Ints.mk2 _ _ _ _)).mono ?_; rintro e w' ⟨rfl, rfl⟩) | (go_at_call 60; refine (impl_num _ _ _ (by omega) (by omega)).mono ?_; rintro e w' ⟨rfl, rfl⟩))
    go_ret2
    exact ⟨rfl, (Below.refl _ _).alloc (Nat.le_refl _) _⟩
  · have HV := Lib.hid (show okOr (codeN p [a, b]) ((a - b) % p) = 0 by simp [okOr, hc])
    rw [HV.out]
    go_enter Try.func37, Try.ntmps37
    go_wp2_with (go_at_call 55; refine (impl_checkNumbers _ _ _ _ [a, b] _ (Ints.mk2 _ _ _ _)).mono ?_; rintro e w' ⟨rfl, rfl⟩)
    go_ret2
    exact ⟨rfl, (Below.refl _ _).alloc (Nat.le_refl _) _⟩

theorem impl_MultiplyNumbers (p a b : Int) (w : World) :
    Calls Try.prog 35 #[.int .i64 p, .int .i64 a, .int .i64 b] w fun e w' => e = .returned (.tuple #[.int .i64 (okOr (codeN p [a, b]) ((a * b) % p)), .int .i64 (codeN p [a, b])]) ∧ Below w.heap.size w w' := by
  by_cases hc : codeN p [a, b] = 0
  · obtain ⟨hp, hn⟩ := codeN_zero hc
    have h0 := prime_lo hp
    have h1 := prime_hi hp
    obtain ⟨⟨ha0, ha1⟩, hb0, hb1⟩ := nums2 hn
    have HV := Lib.hid (show okOr (codeN p [a, b]) ((a * b) % p) = (a * b) % p by simp [okOr, hc])
    rw [HV.out, hc]
    clear hp hn
    obtain ⟨m0, m1⟩ := mul_bounds (a := a) (b := b) (p := p) (by omega) (by omega) (by omega) (by omega) (by omega)
    go_enter Try.func35, Try.ntmps35
    go_wp2_with (first | (go_at_call 55; refine (impl_checkNumbers _ _ _ _ [a, b] _ (Ints.mk2 _ _ _ _)).mono ?_; rintro e w' ⟨rfl, rfl⟩) | (go_at_call 60; refine (impl_num _ _ _ (by omega) (by omega)).mono ?_; rintro e w' ⟨rfl, rfl⟩))
    go_ret2
    exact ⟨rfl, (Below.refl _ _).alloc (Nat.le_refl _) _⟩
  · have HV := Lib.hid (show okOr (codeN p [a, b]) ((a * b) % p) = 0 by simp [okOr, hc])
    rw [HV.out]
    go_enter Try.func35, Try.ntmps35
    go_wp2_with (go_at_call 55; refine (impl_checkNumbers _ _ _ _ [a, b] _ (Ints.mk2 _ _ _ _)).mono ?_; rintro e w' ⟨rfl, rfl⟩)
    go_ret2
    exact ⟨rfl, (Below.refl _ _).alloc (Nat.le_refl _) _⟩

theorem spec_DivideNumbers (p a b : Int) (w : World) :
    Calls Try.prog 30 #[.int .i64 p, .int .i64 a, .int .i64 b] w fun e w' => e = .returned (.tuple #[.int .i64 (divV p a b), .int .i64 (divC p a b)]) ∧ Below w.heap.size w w' := by
  by_cases hc : codeN p [a, b] = 0
  · obtain ⟨hp, hn⟩ := codeN_zero hc
    have h0 := prime_lo hp
    have h1 := prime_hi hp
    obtain ⟨⟨ha0, ha1⟩, hb0, hb1⟩ := nums2 hn
    by_cases hb : b = 0
    · subst hb
      have HC := Lib.hid (show divC p a 0 = 5 by simp [divC, hc])
      have HV := Lib.hid (show divV p a 0 = 0 by simp [divV, HC.out])
      rw [HV.out, HC.out]
      clear hp hn
      go_enter Try.func30, Try.ntmps30
      go_wp2_with (go_at_call 57; refine (spec_l01Code _ _ _ _ [a, 0] _ (Ints.mk2 _ _ _ _)).mono ?_; rintro e w' ⟨rfl, rfl⟩)
      go_ret2
      exact ⟨rfl, (Below.refl _ _).alloc (Nat.le_refl _) _⟩
    · have hb2 : 1 ≤ b := by omega
      have HC := Lib.hid (show divC p a b = 0 by simp [divC, hc, hb])
      have HV := Lib.hid (show divV p a b = (a * invN p b) % p by simp [divV, HC.out])
      rw [HV.out, HC.out]
      obtain ⟨i0, i1, _⟩ := inv_facts hp hb2 hb1
      obtain ⟨m0, m1⟩ := mul_bounds (a := a) (b := invN p b) (p := p) (by omega) (by omega) (by omega) (by omega) (by omega)
      have HP := Lib.hid hp
      rename_i hx
      clear hp hn hb hx
      go_enter Try.func30, Try.ntmps30
      go_wp2_with (first | (go_at_call 57; refine (spec_l01Code _ _ _ _ [a, b] _ (Ints.mk2 _ _ _ _)).mono ?_; rintro e w' ⟨rfl, rfl⟩) | (go_at_call 65; refine (spec_l01Inv _ _ _ HP.out (by omega) (by omega)).mono ?_; rintro e w' ⟨rfl, rfl⟩))
      go_ret2
      exact ⟨rfl, (Below.refl _ _).alloc (Nat.le_refl _) _⟩
  · have HC := Lib.hid (show divC p a b = codeN p [a, b] by simp [divC, hc])
    have HV := Lib.hid (show divV p a b = 0 by simp [divV, HC.out, hc])
    rw [HV.out, HC.out]
    have hc' : (codeN p [a, b] == 0) = false := by simpa using hc
    go_enter Try.func30, Try.ntmps30
    go_wp2_with (go_at_call 57; refine (spec_l01Code _ _ _ _ [a, b] _ (Ints.mk2 _ _ _ _)).mono ?_; rintro e w' ⟨rfl, rfl⟩)
    go_ret2
    exact ⟨rfl, (Below.refl _ _).alloc (Nat.le_refl _) _⟩

theorem impl_DivideNumbers (p a b : Int) (w : World) :
    Calls Try.prog 29 #[.int .i64 p, .int .i64 a, .int .i64 b] w fun e w' => e = .returned (.tuple #[.int .i64 (divV p a b), .int .i64 (divC p a b)]) ∧ Below w.heap.size w w' := by
  by_cases hc : codeN p [a, b] = 0
  · obtain ⟨hp, hn⟩ := codeN_zero hc
    have h0 := prime_lo hp
    have h1 := prime_hi hp
    obtain ⟨⟨ha0, ha1⟩, hb0, hb1⟩ := nums2 hn
    by_cases hb : b = 0
    · subst hb
      have HC := Lib.hid (show divC p a 0 = 5 by simp [divC, hc])
      have HV := Lib.hid (show divV p a 0 = 0 by simp [divV, HC.out])
      rw [HV.out, HC.out]
      clear hp hn
      go_enter Try.func29, Try.ntmps29
      go_wp2_with (go_at_call 55; refine (impl_checkNumbers _ _ _ _ [a, 0] _ (Ints.mk2 _ _ _ _)).mono ?_; rintro e w' ⟨rfl, rfl⟩)
      go_ret2
      exact ⟨rfl, (Below.refl _ _).alloc (Nat.le_refl _) _⟩
    · have hb2 : 1 ≤ b := by omega
      have HC := Lib.hid (show divC p a b = 0 by simp [divC, hc, hb])
      have HV := Lib.hid (show divV p a b = (a * invN p b) % p by simp [divV, HC.out])
      rw [HV.out, HC.out]
      obtain ⟨i0, i1, _⟩ := inv_facts hp hb2 hb1
      obtain ⟨m0, m1⟩ := mul_bounds (a := a) (b := invN p b) (p := p) (by omega) (by omega) (by omega) (by omega) (by omega)
      have HP := Lib.hid hp
      rename_i hx
      clear hp hn hb hx
      go_enter Try.func29, Try.ntmps29
      go_wp2_with (first | (go_at_call 55; refine (impl_checkNumbers _ _ _ _ [a, b] _ (Ints.mk2 _ _ _ _)).mono ?_; rintro e w' ⟨rfl, rfl⟩) | (go_at_call 63; refine (impl_inv _ _ _ HP.out (by omega) (by omega)).mono ?_; rintro e w' ⟨rfl, rfl⟩) | (go_at_call 60; refine (impl_num _ _ _ (by omega) (by omega)).mono ?_; rintro e w' ⟨rfl, rfl⟩))
      go_ret2
      exact ⟨rfl, (Below.refl _ _).alloc (Nat.le_refl _) _⟩
  · have HC := Lib.hid (show divC p a b = codeN p [a, b] by simp [divC, hc])
    have HV := Lib.hid (show divV p a b = 0 by simp [divV, HC.out, hc])
    rw [HV.out, HC.out]
    have hc' : (codeN p [a, b] == 0) = false := by simpa using hc
    go_enter Try.func29, Try.ntmps29
    go_wp2_with (go_at_call 55; refine (impl_checkNumbers _ _ _ _ [a, b] _ (Ints.mk2 _ _ _ _)).mono ?_; rintro e w' ⟨rfl, rfl⟩)
    go_ret2
    exact ⟨rfl, (Below.refl _ _).alloc (Nat.le_refl _) _⟩

theorem impl_PowerNumber (p a k : Int) (w : World) :
    Calls Try.prog 26 #[.int .i64 p, .int .i64 a, .int .i64 k] w fun e w' => e = .returned (.tuple #[.int .i64 (pwV p a k), .int .i64 (pwC p a k)]) ∧ Below w.heap.size w w' := by
  by_cases hc : codeN p [a] = 0
  · obtain ⟨hp, hn⟩ := codeN_zero hc
    have h0 := prime_lo hp
    have h1 := prime_hi hp
    obtain ⟨ha0, ha1⟩ := nums1 hn
    by_cases hr : rangeB k (-1000) 1000 = true
    · obtain ⟨hk0, hk1⟩ := rangeB_true hr
      by_cases hk : k < 0
      · by_cases ha : a = 0
        · subst ha
          have HC := Lib.hid (show pwC p 0 k = 5 by simp [pwC, hc, hr, hk])
          have HV := Lib.hid (show pwV p 0 k = 0 by simp [pwV, HC.out])
          rw [HV.out, HC.out]
          clear hp hn
          go_enter Try.func26, Try.ntmps26
          go_wp2_with (first | (go_at_call 55; refine (impl_checkNumbers _ _ _ _ [0] _ (Ints.mk1 _ _ _)).mono ?_; rintro e w' ⟨rfl, rfl⟩) | (go_at_call 62; refine (impl_inRange _ _ _ _).mono ?_; rintro e w' ⟨rfl, rfl⟩))
          go_ret2
          exact ⟨rfl, (Below.refl _ _).alloc (Nat.le_refl _) _⟩
        · have ha2 : 1 ≤ a := by omega
          have HC := Lib.hid (show pwC p a k = 0 by simp [pwC, hc, hr, ha])
          have HV := Lib.hid (show pwV p a k = powN p (invN p a) (-k).toNat by simp [pwV, HC.out, hk])
          rw [HV.out, HC.out]
          obtain ⟨i0, i1, hx⟩ := inv_facts hp ha2 ha1
          have HP := Lib.hid hp
          clear hp hn ha hx
          go_enter Try.func26, Try.ntmps26
          go_wp2_with (first | (go_at_call 55; refine (impl_checkNumbers _ _ _ _ [a] _ (Ints.mk1 _ _ _)).mono ?_; rintro e w' ⟨rfl, rfl⟩) | (go_at_call 62; refine (impl_inRange _ _ _ _).mono ?_; rintro e w' ⟨rfl, rfl⟩) | (go_at_call 63; refine (impl_inv _ _ _ HP.out (by omega) (by omega)).mono ?_; rintro e w' ⟨rfl, rfl⟩) | (go_at_call 64; refine (impl_powI _ _ _ _ HP.out (by omega) (by omega) (by omega) (by omega)).mono ?_; rintro e w' ⟨rfl, rfl⟩))
          go_ret2
          exact ⟨rfl, (Below.refl _ _).alloc (Nat.le_refl _) _⟩
      · have HC := Lib.hid (show pwC p a k = 0 by simp [pwC, hc, hr, hk])
        have HV := Lib.hid (show pwV p a k = powN p a k.toNat by simp [pwV, HC.out, hk])
        rw [HV.out, HC.out]
        have HP := Lib.hid hp
        have hk2 : 0 ≤ k := by omega
        clear hp hn
        by_cases ha : a = 0
        · subst ha
          go_enter Try.func26, Try.ntmps26
          go_wp2_with (first | (go_at_call 55; refine (impl_checkNumbers _ _ _ _ [0] _ (Ints.mk1 _ _ _)).mono ?_; rintro e w' ⟨rfl, rfl⟩) | (go_at_call 62; refine (impl_inRange _ _ _ _).mono ?_; rintro e w' ⟨rfl, rfl⟩) | (go_at_call 64; refine (impl_powI _ _ _ _ HP.out (by omega) (by omega) (by omega) (by omega)).mono ?_; rintro e w' ⟨rfl, rfl⟩))
          go_ret2
          exact ⟨rfl, (Below.refl _ _).alloc (Nat.le_refl _) _⟩
        · have ha2 : 1 ≤ a := by omega
          clear ha
          go_enter Try.func26, Try.ntmps26
          go_wp2_with (first | (go_at_call 55; refine (impl_checkNumbers _ _ _ _ [a] _ (Ints.mk1 _ _ _)).mono ?_; rintro e w' ⟨rfl, rfl⟩) | (go_at_call 62; refine (impl_inRange _ _ _ _).mono ?_; rintro e w' ⟨rfl, rfl⟩) | (go_at_call 64; refine (impl_powI _ _ _ _ HP.out (by omega) (by omega) (by omega) (by omega)).mono ?_; rintro e w' ⟨rfl, rfl⟩))
          go_ret2
          exact ⟨rfl, (Below.refl _ _).alloc (Nat.le_refl _) _⟩
    · have hr' : rangeB k (-1000) 1000 = false := by simpa using hr
      have HC := Lib.hid (show pwC p a k = 2 by simp [pwC, hc, hr'])
      have HV := Lib.hid (show pwV p a k = 0 by simp [pwV, HC.out])
      rw [HV.out, HC.out]
      clear hp hn hr
      go_enter Try.func26, Try.ntmps26
      go_wp2_with (first | (go_at_call 55; refine (impl_checkNumbers _ _ _ _ [a] _ (Ints.mk1 _ _ _)).mono ?_; rintro e w' ⟨rfl, rfl⟩) | (go_at_call 62; refine (impl_inRange _ _ _ _).mono ?_; rintro e w' ⟨rfl, rfl⟩))
      go_ret2
      exact ⟨rfl, (Below.refl _ _).alloc (Nat.le_refl _) _⟩
  · have HC := Lib.hid (show pwC p a k = codeN p [a] by simp [pwC, hc])
    have HV := Lib.hid (show pwV p a k = 0 by simp [pwV, HC.out, hc])
    rw [HV.out, HC.out]
    have hc' : (codeN p [a] == 0) = false := by simpa using hc
    go_enter Try.func26, Try.ntmps26
    go_wp2_with (go_at_call 55; refine (impl_checkNumbers _ _ _ _ [a] _ (Ints.mk1 _ _ _)).mono ?_; rintro e w' ⟨rfl, rfl⟩)
    go_ret2
    exact ⟨rfl, (Below.refl _ _).alloc (Nat.le_refl _) _⟩

theorem spec_IsSquare (p a : Int) (w : World) :
    Calls Try.prog 23 #[.int .i64 p, .int .i64 a] w fun e w' => e = .returned (.tuple #[.bool (sqB p a), .int .i64 (codeN p [a])]) ∧ Below w.heap.size w w' := by
  by_cases hc : codeN p [a] = 0
  · obtain ⟨hp, hn⟩ := codeN_zero hc
    have h0 := prime_lo hp
    have h1 := prime_hi hp
    have HV := Lib.hid (show sqB p a = okB (rootN p a) by simp [sqB, hc])
    rw [HV.out, hc]
    clear hp hn
    go_enter Try.func23, Try.ntmps23
    go_wp2_with (first | (go_at_call 57; refine (spec_l01Code _ _ _ _ [a] _ (Ints.mk1 _ _ _)).mono ?_; rintro e w' ⟨rfl, rfl⟩) | (go_at_call 58; refine (spec_l01Root _ _ _ (by omega) (by omega)).mono ?_; rintro e w' ⟨rfl, rfl⟩))
    all_goals
      go_ret2
      exact ⟨by first | rfl | simp [okB], (Below.refl _ _).alloc (Nat.le_refl _) _⟩
  · have HV := Lib.hid (show sqB p a = false by simp [sqB, hc])
    rw [HV.out]
    go_enter Try.func23, Try.ntmps23
    go_wp2_with (go_at_call 57; refine (spec_l01Code _ _ _ _ [a] _ (Ints.mk1 _ _ _)).mono ?_; rintro e w' ⟨rfl, rfl⟩)
    go_ret2
    exact ⟨rfl, (Below.refl _ _).alloc (Nat.le_refl _) _⟩

theorem impl_IsSquare (p a : Int) (w : World) :
    Calls Try.prog 22 #[.int .i64 p, .int .i64 a] w fun e w' => e = .returned (.tuple #[.bool (sqB p a), .int .i64 (codeN p [a])]) ∧ Below w.heap.size w w' := by
  by_cases hc : codeN p [a] = 0
  · obtain ⟨hp, hn⟩ := codeN_zero hc
    have h0 := prime_lo hp
    have h1 := prime_hi hp
    have HV := Lib.hid (show sqB p a = okB (rootN p a) by simp [sqB, hc])
    rw [HV.out, hc]
    clear hp hn
    go_enter Try.func22, Try.ntmps22
    go_wp2_with (first | (go_at_call 55; refine (impl_checkNumbers _ _ _ _ [a] _ (Ints.mk1 _ _ _)).mono ?_; rintro e w' ⟨rfl, rfl⟩) | (go_at_call 59; refine (impl_isSquare _ _ _ (by omega) (by omega)).mono ?_; rintro e w' ⟨rfl, rfl⟩))
    all_goals
      go_ret2
      exact ⟨by first | rfl | simp [okB], (Below.refl _ _).alloc (Nat.le_refl _) _⟩
  · have HV := Lib.hid (show sqB p a = false by simp [sqB, hc])
    rw [HV.out]
    go_enter Try.func22, Try.ntmps22
    go_wp2_with (go_at_call 55; refine (impl_checkNumbers _ _ _ _ [a] _ (Ints.mk1 _ _ _)).mono ?_; rintro e w' ⟨rfl, rfl⟩)
    go_ret2
    exact ⟨rfl, (Below.refl _ _).alloc (Nat.le_refl _) _⟩

theorem spec_SquareRoot (p a : Int) (w : World) :
    Calls Try.prog 21 #[.int .i64 p, .int .i64 a] w fun e w' => e = .returned (.tuple #[.int .i64 (srV p a), .int .i64 (srC p a)]) ∧ Below w.heap.size w w' := by
  by_cases hc : codeN p [a] = 0
  · obtain ⟨hp, hn⟩ := codeN_zero hc
    have h0 := prime_lo hp
    have h1 := prime_hi hp
    by_cases hr : rootN p a < 0
    · have HC := Lib.hid (show srC p a = 4 by simp [srC, hc, hr])
      have HV := Lib.hid (show srV p a = 0 by simp [srV, HC.out])
      rw [HV.out, HC.out]
      have hok : okB (rootN p a) = false := by simp [okB]; omega
      clear hp hn
      go_enter Try.func21, Try.ntmps21
      go_wp2_with (first | (go_at_call 57; refine (spec_l01Code _ _ _ _ [a] _ (Ints.mk1 _ _ _)).mono ?_; rintro e w' ⟨rfl, rfl⟩) | (go_at_call 58; refine (spec_l01Root _ _ _ (by omega) (by omega)).mono ?_; rintro e w' ⟨rfl, rfl⟩))
      go_ret2
      exact ⟨rfl, (Below.refl _ _).alloc (Nat.le_refl _) _⟩
    · have HC := Lib.hid (show srC p a = 0 by simp [srC, hc, hr])
      have HV := Lib.hid (show srV p a = rootN p a by simp [srV, HC.out])
      rw [HV.out, HC.out]
      have hok : okB (rootN p a) = true := by simp [okB]; omega
      have HR := Lib.hid (show rootV (rootN p a) = rootN p a by unfold rootV; rw [if_neg hr])
      have hr2 : 0 ≤ rootN p a := by omega
      clear hp hn
      go_enter Try.func21, Try.ntmps21
      go_wp2_with (first | (go_at_call 57; refine (spec_l01Code _ _ _ _ [a] _ (Ints.mk1 _ _ _)).mono ?_; rintro e w' ⟨rfl, rfl⟩) | (go_at_call 58; refine (spec_l01Root _ _ _ (by omega) (by omega)).mono ?_; rintro e w' ⟨rfl, rfl⟩))
      go_ret2
      exact ⟨rfl, (Below.refl _ _).alloc (Nat.le_refl _) _⟩
  · have HC := Lib.hid (show srC p a = codeN p [a] by simp [srC, hc])
    have HV := Lib.hid (show srV p a = 0 by simp [srV, HC.out, hc])
    rw [HV.out, HC.out]
    go_enter Try.func21, Try.ntmps21
    go_wp2_with (go_at_call 57; refine (spec_l01Code _ _ _ _ [a] _ (Ints.mk1 _ _ _)).mono ?_; rintro e w' ⟨rfl, rfl⟩)
    go_ret2
    exact ⟨rfl, (Below.refl _ _).alloc (Nat.le_refl _) _⟩

theorem impl_SquareRoot (p a : Int) (w : World) :
    Calls Try.prog 20 #[.int .i64 p, .int .i64 a] w fun e w' => e = .returned (.tuple #[.int .i64 (srV p a), .int .i64 (srC p a)]) ∧ Below w.heap.size w w' := by
  by_cases hc : codeN p [a] = 0
  · obtain ⟨hp, hn⟩ := codeN_zero hc
    have h0 := prime_lo hp
    have h1 := prime_hi hp
    by_cases hr : rootN p a < 0
    · have HC := Lib.hid (show srC p a = 4 by simp [srC, hc, hr])
      have HV := Lib.hid (show srV p a = 0 by simp [srV, HC.out])
      rw [HV.out, HC.out]
      have hok : okB (rootN p a) = false := by simp [okB]; omega
      clear hp hn
      go_enter Try.func20, Try.ntmps20
      go_wp2_with (first | (go_at_call 55; refine (impl_checkNumbers _ _ _ _ [a] _ (Ints.mk1 _ _ _)).mono ?_; rintro e w' ⟨rfl, rfl⟩) | (go_at_call 56; refine (impl_root _ _ _ (by omega) (by omega)).mono ?_; rintro e w' ⟨rfl, rfl⟩))
      go_ret2
      exact ⟨rfl, (Below.refl _ _).alloc (Nat.le_refl _) _⟩
    · have HC := Lib.hid (show srC p a = 0 by simp [srC, hc, hr])
      have HV := Lib.hid (show srV p a = rootN p a by simp [srV, HC.out])
      rw [HV.out, HC.out]
      have hok : okB (rootN p a) = true := by simp [okB]; omega
      have HR := Lib.hid (show rootV (rootN p a) = rootN p a by unfold rootV; rw [if_neg hr])
      have hr2 : 0 ≤ rootN p a := by omega
      clear hp hn
      go_enter Try.func20, Try.ntmps20
      go_wp2_with (first | (go_at_call 55; refine (impl_checkNumbers _ _ _ _ [a] _ (Ints.mk1 _ _ _)).mono ?_; rintro e w' ⟨rfl, rfl⟩) | (go_at_call 56; refine (impl_root _ _ _ (by omega) (by omega)).mono ?_; rintro e w' ⟨rfl, rfl⟩))
      go_ret2
      exact ⟨ret_pair HR.out, (Below.refl _ _).alloc (Nat.le_refl _) _⟩
  · have HC := Lib.hid (show srC p a = codeN p [a] by simp [srC, hc])
    have HV := Lib.hid (show srV p a = 0 by simp [srV, HC.out, hc])
    rw [HV.out, HC.out]
    go_enter Try.func20, Try.ntmps20
    go_wp2_with (go_at_call 55; refine (impl_checkNumbers _ _ _ _ [a] _ (Ints.mk1 _ _ _)).mono ?_; rintro e w' ⟨rfl, rfl⟩)
    go_ret2
    exact ⟨rfl, (Below.refl _ _).alloc (Nat.le_refl _) _⟩

theorem impl_OrderOfNumber (p a : Int) (w : World) :
    Calls Try.prog 39 #[.int .i64 p, .int .i64 a] w fun e w' => e = .returned (.tuple #[.int .i64 (ordV p a), .int .i64 (ordC p a)]) ∧ Below w.heap.size w w' := by
  by_cases hc : codeN p [a] = 0
  · obtain ⟨hp, hn⟩ := codeN_zero hc
    have h0 := prime_lo hp
    have h1 := prime_hi hp
    obtain ⟨ha0, ha1⟩ := nums1 hn
    by_cases ha : a = 0
    · subst ha
      have HC := Lib.hid (show ordC p 0 = 5 by simp [ordC, hc])
      have HV := Lib.hid (show ordV p 0 = 0 by simp [ordV, HC.out])
      rw [HV.out, HC.out]
      clear hp hn
      go_enter Try.func39, Try.ntmps39
      go_wp2_with (go_at_call 55; refine (impl_checkNumbers _ _ _ _ [0] _ (Ints.mk1 _ _ _)).mono ?_; rintro e w' ⟨rfl, rfl⟩)
      go_ret2
      exact ⟨rfl, (Below.refl _ _).alloc (Nat.le_refl _) _⟩
    · have ha2 : 1 ≤ a := by omega
      have HC := Lib.hid (show ordC p a = 0 by simp [ordC, hc, ha])
      have HV := Lib.hid (show ordV p a = orderN p a by simp [ordV, HC.out])
      rw [HV.out, HC.out]
      have HP := Lib.hid hp
      clear hp hn ha
      go_enter Try.func39, Try.ntmps39
      go_wp2_with (first | (go_at_call 55; refine (impl_checkNumbers _ _ _ _ [a] _ (Ints.mk1 _ _ _)).mono ?_; rintro e w' ⟨rfl, rfl⟩) | (go_at_call 67; refine (impl_order _ _ _ HP.out (by omega) (by omega)).mono ?_; rintro e w' ⟨rfl, rfl⟩))
      go_ret2
      exact ⟨rfl, (Below.refl _ _).alloc (Nat.le_refl _) _⟩
  · have HC := Lib.hid (show ordC p a = codeN p [a] by simp [ordC, hc])
    have HV := Lib.hid (show ordV p a = 0 by simp [ordV, HC.out, hc])
    rw [HV.out, HC.out]
    have hc' : (codeN p [a] == 0) = false := by simpa using hc
    go_enter Try.func39, Try.ntmps39
    go_wp2_with (go_at_call 55; refine (impl_checkNumbers _ _ _ _ [a] _ (Ints.mk1 _ _ _)).mono ?_; rintro e w' ⟨rfl, rfl⟩)
    go_ret2
    exact ⟨rfl, (Below.refl _ _).alloc (Nat.le_refl _) _⟩

theorem impl_NumberOf (p n : Int) (w : World) :
    Calls Try.prog 38 #[.int .i64 p, .int .i64 n] w fun e w' => e = .returned (.tuple #[.int .i64 (nofV p n), .int .i64 (priC p)]) ∧ w = w' := by
  by_cases hp : primeB p = true
  · have h0 := prime_lo hp
    have h1 := prime_hi hp
    have HC := Lib.hid (show priC p = 0 by simp [priC, hp])
    have HV := Lib.hid (show nofV p n = n % p by simp [nofV, hp])
    rw [HV.out, HC.out]
    go_enter Try.func38, Try.ntmps38
    go_wp2_with (first | (go_at_call 31; refine (impl_IsPrime _ _).mono ?_; rintro e w' ⟨rfl, rfl⟩) | (go_at_call 60; refine (impl_num _ _ _ (by omega) (by omega)).mono ?_; rintro e w' ⟨rfl, rfl⟩))
    go_ret2
    exact ⟨rfl, rfl⟩
  · have hp' : primeB p = false := by simpa using hp
    have HC := Lib.hid (show priC p = 1 by simp [priC, hp'])
    have HV := Lib.hid (show nofV p n = 0 by simp [nofV, hp'])
    rw [HV.out, HC.out]
    clear hp
    go_enter Try.func38, Try.ntmps38
    go_wp2_with (go_at_call 31; refine (impl_IsPrime _ _).mono ?_; rintro e w' ⟨rfl, rfl⟩)
    go_ret2
    exact ⟨rfl, rfl⟩

theorem impl_PrimitiveNumber (p : Int) (w : World) :
    Calls Try.prog 40 #[.int .i64 p] w fun e w' => e = .returned (.tuple #[.int .i64 (priV p), .int .i64 (priC p)]) ∧ w = w' := by
  by_cases hp : primeB p = true
  · have h0 := prime_lo hp
    have h1 := prime_hi hp
    obtain ⟨q0, q1, hq, hu⟩ := prim_facts hp
    have HQ := Lib.hid hq
    have HU := Lib.hid hu
    clear hq hu
    have HC := Lib.hid (show priC p = 0 by simp [priC, hp])
    have HV := Lib.hid (show priV p = primN p by simp [priV, hp])
    rw [HV.out, HC.out]
    have HP := Lib.hid hp
    go_enter Try.func40, Try.ntmps40
    go_wp2_with (go_at_call 31; refine (impl_IsPrime _ _).mono ?_; rintro e w' ⟨rfl, rfl⟩)
    go_loop [4] (fun i => ∃ a : Int, 2 ≤ a ∧ a ≤ primN p ∧ i = .int .i64 a) (fun i => (primN p - intOf i).toNat)
    case atStart => exact ⟨2, by omega, by omega, rfl⟩
    case round =>
      obtain ⟨a, ha0, ha1, rfl⟩ := hrel
      by_cases ht : orderN p a = p - 1
      · have HB := Lib.hid (show a = primN p by have := HU.out a (by omega) (by omega) ht; omega)
        have ht1 : (orderN p a == p - 1) = true := by simpa using ht
        have ht2 : (orderN p a != p - 1) = false := by simpa using ht
        clear ht
        go_wp2_with (go_at_call 67; refine (impl_order _ _ _ HP.out (by omega) (by omega)).mono ?_; rintro e w' ⟨rfl, rfl⟩)
        go_ret2
        exact ⟨ret_pair HB.out, rfl⟩
      · have hb2 : a + 1 ≤ primN p := by
          by_cases e : a = primN p
          · exfalso; apply ht; rw [e]; exact HQ.out
          · omega
        have ht1 : (orderN p a == p - 1) = false := by simpa using ht
        have ht2 : (orderN p a != p - 1) = true := by simpa using ht
        clear ht
        go_wp2_with (go_at_call 67; refine (impl_order _ _ _ HP.out (by omega) (by omega)).mono ?_; rintro e w' ⟨rfl, rfl⟩)
        go_round
        case rel => exact ⟨a + 1, by omega, by omega, rfl⟩
        case measure => simp [intOf]; omega
  · have hp' : primeB p = false := by simpa using hp
    have HC := Lib.hid (show priC p = 1 by simp [priC, hp'])
    have HV := Lib.hid (show priV p = 0 by simp [priV, hp'])
    rw [HV.out, HC.out]
    clear hp
    go_enter Try.func40, Try.ntmps40
    go_wp2_with (go_at_call 31; refine (impl_IsPrime _ _).mono ?_; rintro e w' ⟨rfl, rfl⟩)
    go_ret2
    exact ⟨rfl, rfl⟩

theorem spec_SumOfSquares (p a : Int) (w : World) :
    Calls Try.prog 25 #[.int .i64 p, .int .i64 a] w fun e w' => e = .returned (.tuple #[.int .i64 (ssT p a).1, .int .i64 (ssT p a).2.1, .int .i64 (ssT p a).2.2]) ∧ Below w.heap.size w w' := by
  by_cases hc : codeN p [a] = 0
  · obtain ⟨hp, hn⟩ := codeN_zero hc
    have h0 := prime_lo hp
    have h1 := prime_hi hp
    obtain ⟨ha0, ha1⟩ := nums1 hn
    have HV := Lib.hid (show ssT p a = sumN p a by simp [ssT, hc])
    rw [HV.out]
    clear hp hn
    go_enter Try.func25, Try.ntmps25
    go_wp2_with (go_at_call 57; refine (spec_l01Code _ _ _ _ [a] _ (Ints.mk1 _ _ _)).mono ?_; rintro e w' ⟨rfl, rfl⟩)
    go_loop [8] (fun i => ∃ k : Int, 0 ≤ k ∧ k ≤ p ∧ i = .int .i64 k ∧ sumN p a = sumFrom p a k (p - k).toNat) (fun i => (p - intOf i).toNat)
    case atStart => exact ⟨0, by omega, by omega, rfl, by simp [sumN]⟩
    case round =>
      obtain ⟨k, hk0, hk1, rfl, hr⟩ := hrel
      have HR := Lib.hid hr
      clear hr
      by_cases hlt : k < p
      · obtain ⟨m0, m1⟩ := mul_bounds (a := k) (b := k) (p := p) (by omega) (by omega) (by omega) (by omega) (by omega)
        by_cases ht : 0 ≤ rootN p ((a - k * k) % p)
        · have HB := Lib.hid (HR.out.trans (sumFrom_hit hlt ht))
          have hok : okB (rootN p ((a - k * k) % p)) = true := by simp [okB]; omega
          have HT := Lib.hid (show rootV (rootN p ((a - k * k) % p)) = rootN p ((a - k * k) % p) by unfold rootV; rw [if_neg (by omega)])
          go_wp2_with (first | (go_at_call 61; refine (spec_l01Mod _ _ _ (by omega) (by omega)).mono ?_; rintro e w' ⟨rfl, rfl⟩) | (go_at_call 58; refine (spec_l01Root _ _ _ (by omega) (by omega)).mono ?_; rintro e w' ⟨rfl, rfl⟩))
          go_ret3
          exact ⟨by rw [HB.out]; exact rfl, (Below.refl _ _).alloc (Nat.le_refl _) _⟩
        · have HB := Lib.hid (HR.out.trans (sumFrom_miss hlt ht))
          have hok : okB (rootN p ((a - k * k) % p)) = false := by simp [okB]; omega
          go_wp2_with (first | (go_at_call 61; refine (spec_l01Mod _ _ _ (by omega) (by omega)).mono ?_; rintro e w' ⟨rfl, rfl⟩) | (go_at_call 58; refine (spec_l01Root _ _ _ (by omega) (by omega)).mono ?_; rintro e w' ⟨rfl, rfl⟩))
          go_round
          case rel => exact ⟨k + 1, by omega, by omega, rfl, HB.out⟩
          case measure => simp [intOf]; omega
      · have HB := Lib.hid (HR.out.trans (sumFrom_end (by omega)))
        go_wp2
        go_ret3
        exact ⟨by rw [HB.out]; rfl, (Below.refl _ _).alloc (Nat.le_refl _) _⟩
  · have HV := Lib.hid (show ssT p a = (0, 0, codeN p [a]) by simp [ssT, hc])
    rw [HV.out]
    go_enter Try.func25, Try.ntmps25
    go_wp2_with (go_at_call 57; refine (spec_l01Code _ _ _ _ [a] _ (Ints.mk1 _ _ _)).mono ?_; rintro e w' ⟨rfl, rfl⟩)
    go_ret3
    exact ⟨rfl, (Below.refl _ _).alloc (Nat.le_refl _) _⟩

theorem impl_SumOfSquares (p a : Int) (w : World) :
    Calls Try.prog 24 #[.int .i64 p, .int .i64 a] w fun e w' => e = .returned (.tuple #[.int .i64 (ssT p a).1, .int .i64 (ssT p a).2.1, .int .i64 (ssT p a).2.2]) ∧ Below w.heap.size w w' := by
  by_cases hc : codeN p [a] = 0
  · obtain ⟨hp, hn⟩ := codeN_zero hc
    have h0 := prime_lo hp
    have h1 := prime_hi hp
    obtain ⟨ha0, ha1⟩ := nums1 hn
    have HV := Lib.hid (show ssT p a = sumN p a by simp [ssT, hc])
    rw [HV.out]
    clear hp hn
    go_enter Try.func24, Try.ntmps24
    go_wp2_with (go_at_call 55; refine (impl_checkNumbers _ _ _ _ [a] _ (Ints.mk1 _ _ _)).mono ?_; rintro e w' ⟨rfl, rfl⟩)
    go_loop [19] (fun i => ∃ k : Int, 0 ≤ k ∧ k ≤ p ∧ i = .int .i64 k ∧ sumN p a = sumFrom p a k (p - k).toNat) (fun i => (p - intOf i).toNat)
    case atStart => exact ⟨0, by omega, by omega, rfl, by simp [sumN]⟩
    case round =>
      obtain ⟨k, hk0, hk1, rfl, hr⟩ := hrel
      have HR := Lib.hid hr
      clear hr
      by_cases hlt : k < p
      · obtain ⟨m0, m1⟩ := mul_bounds (a := k) (b := k) (p := p) (by omega) (by omega) (by omega) (by omega) (by omega)
        by_cases ht : 0 ≤ rootN p ((a - k * k) % p)
        · have HB := Lib.hid (HR.out.trans (sumFrom_hit hlt ht))
          have hok : okB (rootN p ((a - k * k) % p)) = true := by simp [okB]; omega
          have HT := Lib.hid (show rootV (rootN p ((a - k * k) % p)) = rootN p ((a - k * k) % p) by unfold rootV; rw [if_neg (by omega)])
          go_wp2_with (first | (go_at_call 60; refine (impl_num _ _ _ (by omega) (by omega)).mono ?_; rintro e w' ⟨rfl, rfl⟩) | (go_at_call 56; refine (impl_root _ _ _ (by omega) (by omega)).mono ?_; rintro e w' ⟨rfl, rfl⟩))
          go_ret3
          exact ⟨by rw [HB.out]; exact ret_mid HT.out, (Below.refl _ _).alloc (Nat.le_refl _) _⟩
        · have HB := Lib.hid (HR.out.trans (sumFrom_miss hlt ht))
          have hok : okB (rootN p ((a - k * k) % p)) = false := by simp [okB]; omega
          go_wp2_with (first | (go_at_call 60; refine (impl_num _ _ _ (by omega) (by omega)).mono ?_; rintro e w' ⟨rfl, rfl⟩) | (go_at_call 56; refine (impl_root _ _ _ (by omega) (by omega)).mono ?_; rintro e w' ⟨rfl, rfl⟩))
          go_round
          case rel => exact ⟨k + 1, by omega, by omega, rfl, HB.out⟩
          case measure => simp [intOf]; omega
      · have HB := Lib.hid (HR.out.trans (sumFrom_end (by omega)))
        go_wp2
        go_ret3
        exact ⟨by rw [HB.out]; rfl, (Below.refl _ _).alloc (Nat.le_refl _) _⟩
  · have HV := Lib.hid (show ssT p a = (0, 0, codeN p [a]) by simp [ssT, hc])
    rw [HV.out]
    go_enter Try.func24, Try.ntmps24
    go_wp2_with (go_at_call 55; refine (impl_checkNumbers _ _ _ _ [a] _ (Ints.mk1 _ _ _)).mono ?_; rintro e w' ⟨rfl, rfl⟩)
    go_ret3
    exact ⟨rfl, (Below.refl _ _).alloc (Nat.le_refl _) _⟩
end Go.Proofs.Ytcgghjhccnjeoaa
