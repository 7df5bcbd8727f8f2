/- Contracts: the dot product of the program and of the reference. Conditions stand in each theorem. -/
import Derived.Test.YtldiinmcohijaaaMem
import Derived.Test.YtldiinmcohijaaaCode
import Derived.Test.YtldiinmcohijaaaDotP
namespace Go.Proofs.Ytldiinmcohijaaa
open Go.RowKit

theorem spec_l01Dot (p : Int) (A B : Option Addr) (n m c d : Nat) (xs ys : List Int) (w : World) (h0 : 3 ≤ p) (h1 : p ≤ 13) (hx : Ints w A n xs) (hy : Ints w B m ys) (hnm : n ≤ m) (hn : numsB p xs = true) (hn' : numsB p ys = true) :
    Calls Try.prog 53 #[.int .i64 p, .slice A n c, .slice B m d] w fun e w' => e = .returned (.int .i64 (dotL (xs.take n) (ys.take n) % p)) ∧ Below w.heap.size w w' := by
  have HX := Lib.hid hx
  have HY := Lib.hid hy
  have HN := Lib.hid hn
  have HN' := Lib.hid hn'
  have hmax := hx.2.1
  have hmax2 := hy.2.1
  clear hx hy hn hn'
  unfold maxLen at hmax hmax2
  go_enter Try.func53, Try.ntmps53
  go_wp2
  go_loopw [7, 8] (fun o i wr => ∃ (k : Nat) (s : Int), k ≤ n ∧ i = .int .i64 k ∧ o = .int .i64 s ∧ 0 ≤ s ∧ s < p ∧ s = dotL (xs.take k) (ys.take k) % p ∧ Below w.heap.size w wr) (fun _ i _ => n - (intOf i).toNat)
  case atStart => exact ⟨0, 0, Nat.zero_le _, rfl, rfl, by omega, by omega, by simp [dotL], Below.refl _ _⟩
  case round =>
    obtain ⟨k, s, hk, rfl, rfl, hs0, hs1, hs, hbel⟩ := hrel
    have HB := Lib.hid hbel
    have HS := Lib.hid hs
    clear hs hbel
    by_cases hlt : k < n
    · obtain ⟨b1, off1, x, rfl, hb1, hxk, hck1⟩ := (HX.out.keep HB.out).at_ hlt
      obtain ⟨b2, off2, y, rfl, hb2, hyk, hck2⟩ := (HY.out.keep HB.out).at_ (show k < m by omega)
      obtain ⟨hx0, hx1⟩ := numB_true (numsB_at HN.out hxk)
      obtain ⟨hy0, hy1⟩ := numB_true (numsB_at HN'.out hyk)
      obtain ⟨m0, m1⟩ := mul_bounds (a := x) (b := y) (p := p) (by omega) (by omega) (by omega) (by omega) (by omega)
      have HK := Lib.hid hxk
      have HL := Lib.hid hyk
      clear hxk hyk hb1 hb2
      have hkm : (k : Int) < m := by omega
      have e1 : IntKind.i64.wrap (x * y) = x * y := IntWalk.i64_in _ (by omega)
      have e2 : IntKind.i64.wrap (s + x * y) = s + x * y := IntWalk.i64_in _ (by omega)
      have e3 : (s + x * y).tmod p = (s + x * y) % p := Int.tmod_eq_emod_of_nonneg (by omega)
      go_wp2
      go_quiet (fail)
      clear e1 e2 e3
      go_wp2
      go_roundw
      case rel => exact ⟨k + 1, (s + x * y) % p, by omega, by go_num, rfl, Int.emod_nonneg _ (by omega), Int.emod_lt_of_pos _ (by omega), by rw [dotL_step HK.out HL.out, HS.out, Int.emod_add_emod], below_drewN HB.out _⟩
      case measure => simp [intOf]; omega
    · obtain rfl : k = n := by omega
      go_wp2
      go_ret
      exact ⟨ret_int HS.out, HB.out⟩

theorem impl_dot (p : Int) (A B : Option Addr) (n m c d : Nat) (xs ys : List Int) (w : World) (h0 : 3 ≤ p) (h1 : p ≤ 13) (hx : Ints w A n xs) (hy : Ints w B m ys) (hnm : n ≤ m) (hn64 : n ≤ 64) (hn : numsB p xs = true) (hn' : numsB p ys = true) :
    Calls Try.prog 55 #[.int .i64 p, .slice A n c, .slice B m d] w fun e w' => e = .returned (.int .i64 (dotL (xs.take n) (ys.take n) % p)) ∧ w = w' := by
  have HX := Lib.hid hx
  have HY := Lib.hid hy
  have HN := Lib.hid hn
  have HN' := Lib.hid hn'
  have hmax := hx.2.1
  have hmax2 := hy.2.1
  clear hx hy hn hn'
  unfold maxLen at hmax hmax2
  go_enter Try.func55, Try.ntmps55
  go_wp2
  go_loop [7, 12] (fun o i => ∃ (k : Nat) (s : Int), k ≤ n ∧ i = .int .i64 k ∧ o = .int .i64 s ∧ 0 ≤ s ∧ s ≤ 144 * k ∧ s = dotL (xs.take k) (ys.take k)) (fun _ i => n - (intOf i).toNat)
  case atStart => exact ⟨0, 0, Nat.zero_le _, rfl, rfl, by omega, by omega, by simp [dotL]⟩
  case round =>
    obtain ⟨k, s, hk, rfl, rfl, hs0, hs1, hs⟩ := hrel
    have HS := Lib.hid hs
    clear hs
    by_cases hlt : k < n
    · obtain ⟨b1, off1, x, rfl, hb1, hxk, hck1⟩ := HX.out.at_ hlt
      obtain ⟨b2, off2, y, rfl, hb2, hyk, hck2⟩ := HY.out.at_ (show k < m by omega)
      obtain ⟨hx0, hx1⟩ := numB_true (numsB_at HN.out hxk)
      obtain ⟨hy0, hy1⟩ := numB_true (numsB_at HN'.out hyk)
      obtain ⟨m0, m1⟩ := mul_bounds (a := x) (b := y) (p := p) (by omega) (by omega) (by omega) (by omega) (by omega)
      have HK := Lib.hid hxk
      have HL := Lib.hid hyk
      clear hxk hyk hb1 hb2
      go_wp2
      go_round
      case rel => exact ⟨k + 1, s + x * y, by omega, by go_num, rfl, by omega, by omega, by rw [dotL_step HK.out HL.out, HS.out]⟩
      case measure => simp [intOf]; omega
    · obtain rfl : k = n := by omega
      go_wp2_with (go_at_call 47; refine (impl_num _ _ _ (by omega) (by omega)).mono ?_; rintro e w' ⟨rfl, rfl⟩)
      go_ret
      exact ⟨ret_int (by rw [HS.out]), rfl⟩

set_option maxHeartbeats 1000000 in
theorem spec_DotOf (p : Int) (A B : Option Addr) (n m c d : Nat) (xs ys : List Int) (w : World) (hx : Ints w A n xs) (hy : Ints w B m ys) :
    Calls Try.prog 29 #[.int .i64 p, .slice A n c, .slice B m d] w fun e w' => e = .returned (.tuple #[.int .i64 (dotV p xs ys), .int .i64 (dotC p xs ys)]) ∧ Below w.heap.size w w' := by
  have HX := Lib.hid hx
  have HY := Lib.hid hy
  have hmax := hx.2.1
  have hmax2 := hy.2.1
  have HLX := Lib.hid hx.1
  have HLY := Lib.hid hy.1
  clear hx hy
  unfold maxLen at hmax hmax2
  by_cases hp : primeB p = true
  · have h0 := prime_lo hp
    have h1 := prime_hi hp
    by_cases hnx : numsB p xs = true
    · by_cases hny : numsB p ys = true
      · by_cases hnm : n = m
        · subst hnm
          by_cases h64 : n ≤ 64
          · have HC := Lib.hid (show dotC p xs ys = 0 by unfold dotC; rw [if_pos hp, if_pos ⟨by rw [HLX.out, HLY.out], by rw [HLX.out]; exact h64, hnx, hny⟩])
            have HV := Lib.hid (show dotV p xs ys = dotL (xs.take n) (ys.take n) % p by unfold dotV; rw [if_pos HC.out, List.take_of_length_le (by have := HLX.out; omega), List.take_of_length_le (by have := HLY.out; omega)])
            rw [HV.out, HC.out]
            go_enter Try.func29, Try.ntmps29
            go_wp2_with fail
            refine (spec_l01Prime _ _).mono ?_
            rintro e w' ⟨rfl, rfl⟩
            go_wp2_with fail
            refine (spec_l01Numbers _ _ _ _ xs _ (by omega) (by omega) HX.out).mono ?_
            rintro e w' ⟨rfl, rfl⟩
            go_wp2_with fail
            refine (spec_l01Numbers _ _ _ _ ys _ (by omega) (by omega) HY.out).mono ?_
            rintro e w' ⟨rfl, rfl⟩
            go_wp2_with (go_at_call 53; refine (spec_l01Dot _ _ _ _ _ _ _ xs ys _ (by omega) (by omega) HX.out HY.out (by omega) ‹_› ‹_›).mono ?_; rintro e w' ⟨rfl, hb⟩)
            go_ret2
            exact ⟨rfl, hb⟩
          · have HC := Lib.hid (show dotC p xs ys = 2 by unfold dotC; rw [if_pos hp, if_neg (by rw [HLX.out]; intro h; exact h64 h.2.1)])
            have HV := Lib.hid (show dotV p xs ys = 0 by unfold dotV; rw [HC.out]; rfl)
            rw [HV.out, HC.out]
            go_enter Try.func29, Try.ntmps29
            go_wp2_with fail
            refine (spec_l01Prime _ _).mono ?_
            rintro e w' ⟨rfl, rfl⟩
            go_wp2_with fail
            go_ret2
            exact ⟨rfl, Below.refl _ _⟩
        · have HC := Lib.hid (show dotC p xs ys = 2 by unfold dotC; rw [if_pos hp, if_neg (by rw [HLX.out, HLY.out]; intro h; exact hnm h.1)])
          have HV := Lib.hid (show dotV p xs ys = 0 by unfold dotV; rw [HC.out]; rfl)
          rw [HV.out, HC.out]
          have g1 : ((n : Int) == (m : Int)) = false := by simp; omega
          have g2 : ((n : Int) != (m : Int)) = true := by simp; omega
          clear hnm
          go_enter Try.func29, Try.ntmps29
          go_wp2_with fail
          refine (spec_l01Prime _ _).mono ?_
          rintro e w' ⟨rfl, rfl⟩
          go_wp2_with fail
          go_ret2
          exact ⟨rfl, Below.refl _ _⟩
      · have hny' : numsB p ys = false := by simpa using hny
        have HC := Lib.hid (show dotC p xs ys = 2 by unfold dotC; rw [if_pos hp, if_neg (by intro h; exact hny h.2.2.2)])
        have HV := Lib.hid (show dotV p xs ys = 0 by unfold dotV; rw [HC.out]; rfl)
        rw [HV.out, HC.out]
        clear hny
        go_enter Try.func29, Try.ntmps29
        go_wp2_with (first | (go_at_call 45; refine (spec_l01Prime _ _).mono ?_; rintro e w' ⟨rfl, rfl⟩) | (go_at_call 52; first | ((with_reducible refine (spec_l01Numbers p A n c xs _ (by omega) (by omega) HX.out).mono ?_); rintro e w' ⟨rfl, rfl⟩) | ((with_reducible refine (spec_l01Numbers p B m d ys _ (by omega) (by omega) HY.out).mono ?_); rintro e w' ⟨rfl, rfl⟩)))
        all_goals
          go_ret2
          exact ⟨rfl, Below.refl _ _⟩
    · have hnx' : numsB p xs = false := by simpa using hnx
      have HC := Lib.hid (show dotC p xs ys = 2 by unfold dotC; rw [if_pos hp, if_neg (by intro h; exact hnx h.2.2.1)])
      have HV := Lib.hid (show dotV p xs ys = 0 by unfold dotV; rw [HC.out]; rfl)
      rw [HV.out, HC.out]
      clear hnx
      go_enter Try.func29, Try.ntmps29
      go_wp2_with (first | (go_at_call 45; refine (spec_l01Prime _ _).mono ?_; rintro e w' ⟨rfl, rfl⟩) | (go_at_call 52; first | ((with_reducible refine (spec_l01Numbers p A n c xs _ (by omega) (by omega) HX.out).mono ?_); rintro e w' ⟨rfl, rfl⟩) | ((with_reducible refine (spec_l01Numbers p B m d ys _ (by omega) (by omega) HY.out).mono ?_); rintro e w' ⟨rfl, rfl⟩)))
      all_goals
        go_ret2
        exact ⟨rfl, Below.refl _ _⟩
  · have hp' : primeB p = false := by simpa using hp
    have HC := Lib.hid (show dotC p xs ys = 1 by unfold dotC; rw [hp']; rfl)
    have HV := Lib.hid (show dotV p xs ys = 0 by unfold dotV; rw [HC.out]; rfl)
    rw [HV.out, HC.out]
    clear hp
    go_enter Try.func29, Try.ntmps29
    go_wp2_with (go_at_call 45; refine (spec_l01Prime _ _).mono ?_; rintro e w' ⟨rfl, rfl⟩)
    go_ret2
    exact ⟨rfl, Below.refl _ _⟩

set_option maxHeartbeats 1000000 in
theorem impl_DotOf (p : Int) (A B : Option Addr) (n m c d : Nat) (xs ys : List Int) (w : World) (hx : Ints w A n xs) (hy : Ints w B m ys) :
    Calls Try.prog 31 #[.int .i64 p, .slice A n c, .slice B m d] w fun e w' => e = .returned (.tuple #[.int .i64 (dotV p xs ys), .int .i64 (dotC p xs ys)]) ∧ Below w.heap.size w w' := by
  have HX := Lib.hid hx
  have HY := Lib.hid hy
  have hmax := hx.2.1
  have hmax2 := hy.2.1
  have HLX := Lib.hid hx.1
  have HLY := Lib.hid hy.1
  clear hx hy
  unfold maxLen at hmax hmax2
  by_cases hp : primeB p = true
  · have h0 := prime_lo hp
    have h1 := prime_hi hp
    by_cases hnx : numsB p xs = true
    · by_cases hny : numsB p ys = true
      · by_cases hnm : n = m
        · subst hnm
          by_cases h64 : n ≤ 64
          · have HC := Lib.hid (show dotC p xs ys = 0 by unfold dotC; rw [if_pos hp, if_pos ⟨by rw [HLX.out, HLY.out], by rw [HLX.out]; exact h64, hnx, hny⟩])
            have HV := Lib.hid (show dotV p xs ys = dotL (xs.take n) (ys.take n) % p by unfold dotV; rw [if_pos HC.out, List.take_of_length_le (by have := HLX.out; omega), List.take_of_length_le (by have := HLY.out; omega)])
            rw [HV.out, HC.out]
            go_enter Try.func31, Try.ntmps31
            go_wp2_with fail
            refine (impl_IsPrime _ _).mono ?_
            rintro e w' ⟨rfl, rfl⟩
            go_wp2_with fail
            refine (impl_is _ _ _ _ xs _ (by omega) (by omega) HX.out).mono ?_
            rintro e w' ⟨rfl, rfl⟩
            go_wp2_with fail
            refine (impl_is _ _ _ _ ys _ (by omega) (by omega) HY.out).mono ?_
            rintro e w' ⟨rfl, rfl⟩
            go_wp2_with (go_at_call 55; refine (impl_dot _ _ _ _ _ _ _ xs ys _ (by omega) (by omega) HX.out HY.out (by omega) (by omega) ‹_› ‹_›).mono ?_; rintro e w' ⟨rfl, rfl⟩)
            go_ret2
            exact ⟨rfl, Below.refl _ _⟩
          · have HC := Lib.hid (show dotC p xs ys = 2 by unfold dotC; rw [if_pos hp, if_neg (by rw [HLX.out]; intro h; exact h64 h.2.1)])
            have HV := Lib.hid (show dotV p xs ys = 0 by unfold dotV; rw [HC.out]; rfl)
            rw [HV.out, HC.out]
            go_enter Try.func31, Try.ntmps31
            go_wp2_with fail
            refine (impl_IsPrime _ _).mono ?_
            rintro e w' ⟨rfl, rfl⟩
            go_wp2_with fail
            refine (impl_is _ _ _ _ xs _ (by omega) (by omega) HX.out).mono ?_
            rintro e w' ⟨rfl, rfl⟩
            go_wp2_with fail
            refine (impl_is _ _ _ _ ys _ (by omega) (by omega) HY.out).mono ?_
            rintro e w' ⟨rfl, rfl⟩
            go_wp2_with fail
            go_ret2
            exact ⟨rfl, Below.refl _ _⟩
        · have HC := Lib.hid (show dotC p xs ys = 2 by unfold dotC; rw [if_pos hp, if_neg (by rw [HLX.out, HLY.out]; intro h; exact hnm h.1)])
          have HV := Lib.hid (show dotV p xs ys = 0 by unfold dotV; rw [HC.out]; rfl)
          rw [HV.out, HC.out]
          have g1 : ((n : Int) == (m : Int)) = false := by simp; omega
          have g2 : ((n : Int) != (m : Int)) = true := by simp; omega
          clear hnm
          go_enter Try.func31, Try.ntmps31
          go_wp2_with fail
          refine (impl_IsPrime _ _).mono ?_
          rintro e w' ⟨rfl, rfl⟩
          go_wp2_with fail
          refine (impl_is _ _ _ _ xs _ (by omega) (by omega) HX.out).mono ?_
          rintro e w' ⟨rfl, rfl⟩
          go_wp2_with fail
          refine (impl_is _ _ _ _ ys _ (by omega) (by omega) HY.out).mono ?_
          rintro e w' ⟨rfl, rfl⟩
          go_wp2_with fail
          go_ret2
          exact ⟨rfl, Below.refl _ _⟩
      · have hny' : numsB p ys = false := by simpa using hny
        have HC := Lib.hid (show dotC p xs ys = 2 by unfold dotC; rw [if_pos hp, if_neg (by intro h; exact hny h.2.2.2)])
        have HV := Lib.hid (show dotV p xs ys = 0 by unfold dotV; rw [HC.out]; rfl)
        rw [HV.out, HC.out]
        clear hny
        go_enter Try.func31, Try.ntmps31
        go_wp2_with (first | (go_at_call 18; refine (impl_IsPrime _ _).mono ?_; rintro e w' ⟨rfl, rfl⟩) | (go_at_call 54; first | ((with_reducible refine (impl_is p A n c xs _ (by omega) (by omega) HX.out).mono ?_); rintro e w' ⟨rfl, rfl⟩) | ((with_reducible refine (impl_is p B m d ys _ (by omega) (by omega) HY.out).mono ?_); rintro e w' ⟨rfl, rfl⟩)))
        all_goals
          go_ret2
          exact ⟨rfl, Below.refl _ _⟩
    · have hnx' : numsB p xs = false := by simpa using hnx
      have HC := Lib.hid (show dotC p xs ys = 2 by unfold dotC; rw [if_pos hp, if_neg (by intro h; exact hnx h.2.2.1)])
      have HV := Lib.hid (show dotV p xs ys = 0 by unfold dotV; rw [HC.out]; rfl)
      rw [HV.out, HC.out]
      clear hnx
      go_enter Try.func31, Try.ntmps31
      go_wp2_with (first | (go_at_call 18; refine (impl_IsPrime _ _).mono ?_; rintro e w' ⟨rfl, rfl⟩) | (go_at_call 54; first | ((with_reducible refine (impl_is p A n c xs _ (by omega) (by omega) HX.out).mono ?_); rintro e w' ⟨rfl, rfl⟩) | ((with_reducible refine (impl_is p B m d ys _ (by omega) (by omega) HY.out).mono ?_); rintro e w' ⟨rfl, rfl⟩)))
      all_goals
        go_ret2
        exact ⟨rfl, Below.refl _ _⟩
  · have hp' : primeB p = false := by simpa using hp
    have HC := Lib.hid (show dotC p xs ys = 1 by unfold dotC; rw [hp']; rfl)
    have HV := Lib.hid (show dotV p xs ys = 0 by unfold dotV; rw [HC.out]; rfl)
    rw [HV.out, HC.out]
    clear hp
    go_enter Try.func31, Try.ntmps31
    go_wp2_with (go_at_call 18; refine (impl_IsPrime _ _).mono ?_; rintro e w' ⟨rfl, rfl⟩)
    go_ret2
    exact ⟨rfl, Below.refl _ _⟩
end Go.Proofs.Ytldiinmcohijaaa
