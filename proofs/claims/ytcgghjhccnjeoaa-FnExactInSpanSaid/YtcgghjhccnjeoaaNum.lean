/- Contracts of the number layer's small functions. Conditions stand in each theorem. -/
import Derived.Test.YtcgghjhccnjeoaaBase
namespace Go.Proofs.Ytcgghjhccnjeoaa
open Go.RowKit

theorem impl_IsPrime (p : Int) (w : World) : Calls Try.prog 31 #[.int .i64 p] w fun e w' => e = .returned (.bool (primeB p)) ∧ w = w' := by
  by_cases h : primeB p = true
  · rcases prime_cases h with rfl | rfl | rfl | rfl | rfl <;>
    · go_enter Try.func31, Try.ntmps31
      go_wp2
      go_ret
      exact ⟨by rw [h]; rfl, rfl⟩
  · have h' : primeB p = false := by simpa using h
    have h3 : (p == 3) = false ∧ (p == 5) = false ∧ (p == 7) = false ∧ (p == 11) = false ∧ (p == 13) = false := by
      simp [primeB] at h'; simp; omega
    obtain ⟨h3, h5, h7, h11, h13⟩ := h3
    rw [h']
    clear h h'
    go_enter Try.func31, Try.ntmps31
    go_wp2
    go_ret
    exact ⟨rfl, rfl⟩

theorem spec_l01Prime (p : Int) (w : World) : Calls Try.prog 66 #[.int .i64 p] w fun e w' => e = .returned (.bool (primeB p)) ∧ w = w' := by
  go_enter Try.func66, Try.ntmps66
  go_wp2
  all_goals
    go_ret
    exact ⟨ret_bool (by simp_all [primeB]), rfl⟩

theorem impl_num (p n : Int) (w : World) (h0 : 1 ≤ p) (h1 : p ≤ 13) : Calls Try.prog 60 #[.int .i64 p, .int .i64 n] w fun e w' => e = .returned (.int .i64 (n % p)) ∧ w = w' := by
  have hlo : -p < n.tmod p := Int.lt_tmod_of_pos n (by omega)
  have hhi : n.tmod p < p := Int.tmod_lt_of_pos n (by omega)
  have H := Lib.hid (tmod_num2 p n (by omega))
  go_enter Try.func60, Try.ntmps60
  go_wp2
  go_ret
  exact ⟨ret_int H.out, rfl⟩

theorem spec_l01Mod (p n : Int) (w : World) (h0 : 1 ≤ p) (h1 : p ≤ 13) : Calls Try.prog 61 #[.int .i64 p, .int .i64 n] w fun e w' => e = .returned (.int .i64 (n % p)) ∧ w = w' := by
  have hlo : -p < n.tmod p := Int.lt_tmod_of_pos n (by omega)
  have hhi : n.tmod p < p := Int.tmod_lt_of_pos n (by omega)
  have H := Lib.hid (tmod_num2 p n (by omega))
  go_enter Try.func61, Try.ntmps61
  go_wp2
  go_ret
  exact ⟨ret_int H.out, rfl⟩

theorem impl_inRange (n lo hi : Int) (w : World) : Calls Try.prog 62 #[.int .i64 n, .int .i64 lo, .int .i64 hi] w fun e w' => e = .returned (.bool (rangeB n lo hi)) ∧ w = w' := by
  go_enter Try.func62, Try.ntmps62
  go_wp2
  all_goals
    go_ret
    exact ⟨ret_bool (by simp [rangeB]; try omega), rfl⟩

theorem spec_l01In (n lo hi : Int) (w : World) : Calls Try.prog 75 #[.int .i64 n, .int .i64 lo, .int .i64 hi] w fun e w' => e = .returned (.bool (rangeB n lo hi)) ∧ w = w' := by
  go_enter Try.func75, Try.ntmps75
  go_wp2
  all_goals
    go_ret
    exact ⟨ret_bool (by simp [rangeB]; try omega), rfl⟩

theorem impl_is (p : Int) (A : Option Addr) (n c : Nat) (xs : List Int) (w : World) (h0 : 1 ≤ p) (h1 : p ≤ 13) (hx : Ints w A n xs) :
    Calls Try.prog 52 #[.int .i64 p, .slice A n c] w fun e w' => e = .returned (.bool (numsB p xs)) ∧ w = w' := by
  have hmax := hx.2.1
  have HX := Lib.hid hx
  clear hx
  unfold maxLen at hmax
  go_enter Try.func52, Try.ntmps52
  go_wp2
  go_loop [9] (fun i => ∃ k : Nat, k ≤ n ∧ i = .int .i64 k ∧ numsB p (xs.take k) = true) (fun i => n - (intOf i).toNat)
  case atStart => exact ⟨0, Nat.zero_le _, rfl, rfl⟩
  case round =>
    obtain ⟨k, hk, rfl, hall⟩ := hrel
    have HA := Lib.hid hall
    clear hall
    by_cases hlt : k < n
    · obtain ⟨b, off, x, rfl, hb, hxk, hck⟩ := HX.out.at_ hlt
      have HK := Lib.hid hxk
      clear hxk hb
      by_cases hn : rangeB x 0 (p - 1) = true
      · go_wp2_with (go_at_call 62; refine (impl_inRange _ _ _ _).mono ?_; rintro e w' ⟨rfl, rfl⟩)
        go_round
        case rel => exact ⟨k + 1, by omega, by go_num, numsB_step HK.out HA.out (by rw [← rangeB_num]; exact hn)⟩
        case measure => simp [intOf]; omega
      · have hn' : rangeB x 0 (p - 1) = false := by simpa using hn
        clear hn
        go_wp2_with (go_at_call 62; refine (impl_inRange _ _ _ _).mono ?_; rintro e w' ⟨rfl, rfl⟩)
        go_ret
        exact ⟨ret_bool (numsB_bad HK.out (by rw [← rangeB_num]; exact hn')).symm, rfl⟩
    · go_wp2
      go_ret
      exact ⟨ret_bool (by have := HA.out; rw [List.take_of_length_le (by have := HX.out.1; omega)] at this; exact this.symm), rfl⟩

end Go.Proofs.Ytcgghjhccnjeoaa
