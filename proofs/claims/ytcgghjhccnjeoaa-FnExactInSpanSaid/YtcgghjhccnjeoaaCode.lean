/- Contracts of the number layer: codes, and the functions over two numbers. Conditions stand in each theorem. -/
import Derived.Test.YtcgghjhccnjeoaaNum
namespace Go.Proofs.Ytcgghjhccnjeoaa
open Go.RowKit

theorem spec_l01Numbers (p : Int) (A : Option Addr) (n c : Nat) (xs : List Int) (w : World) (h0 : 1 ≤ p) (h1 : p ≤ 13) (hx : Ints w A n xs) :
    Calls Try.prog 49 #[.int .i64 p, .slice A n c] w fun e w' => e = .returned (.bool (numsB p xs)) ∧ w = w' := by
  have hmax := hx.2.1
  have HX := Lib.hid hx
  clear hx
  unfold maxLen at hmax
  go_enter Try.func49, Try.ntmps49
  go_wp2
  go_loop [5] (fun i => ∃ k : Nat, k ≤ n ∧ i = .int .i64 k ∧ numsB p (xs.take k) = true) (fun i => n - (intOf i).toNat)
  case atStart => exact ⟨0, Nat.zero_le _, rfl, rfl⟩
  case round =>
    obtain ⟨k, hk, rfl, hall⟩ := hrel
    have HA := Lib.hid hall
    clear hall
    by_cases hlt : k < n
    · obtain ⟨b, off, x, rfl, hb, hxk, hck⟩ := HX.out.at_ hlt
      have HK := Lib.hid hxk
      clear hxk hb
      by_cases hn : rangeB x 0 (p - 1) = true
      · go_wp2_with (go_at_call 75; refine (spec_l01In _ _ _ _).mono ?_; rintro e w' ⟨rfl, rfl⟩)
        go_round
        case rel => exact ⟨k + 1, by omega, by go_num, numsB_step HK.out HA.out (by rw [← rangeB_num]; exact hn)⟩
        case measure => simp [intOf]; omega
      · have hn' : rangeB x 0 (p - 1) = false := by simpa using hn
        clear hn
        go_wp2_with (go_at_call 75; refine (spec_l01In _ _ _ _).mono ?_; rintro e w' ⟨rfl, rfl⟩)
        go_ret
        exact ⟨ret_bool (numsB_bad HK.out (by rw [← rangeB_num]; exact hn')).symm, rfl⟩
    · go_wp2
      go_ret
      exact ⟨ret_bool (by have := HA.out; rw [List.take_of_length_le (by have := HX.out.1; omega)] at this; exact this.symm), rfl⟩

theorem spec_l01Code (p : Int) (A : Option Addr) (n c : Nat) (xs : List Int) (w : World) (hx : Ints w A n xs) :
    Calls Try.prog 57 #[.int .i64 p, .slice A n c] w fun e w' => e = .returned (.int .i64 (codeN p xs)) ∧ w = w' := by
  have HX := Lib.hid hx
  clear hx
  rcases codeN_cases p xs with ⟨hc, hp, hn⟩ | ⟨hc, hp⟩ | ⟨hc, hp, hn⟩
  · have h0 := prime_lo hp
    have h1 := prime_hi hp
    rw [hc]
    clear hc
    go_enter Try.func57, Try.ntmps57
    go_wp2_with (first | (go_at_call 66; refine (spec_l01Prime _ _).mono ?_; rintro e w' ⟨rfl, rfl⟩) | (go_at_call 49; refine (spec_l01Numbers _ _ _ _ _ _ (by omega) (by omega) HX.out).mono ?_; rintro e w' ⟨rfl, rfl⟩))
    go_ret
    exact ⟨rfl, rfl⟩
  · rw [hc]
    clear hc
    go_enter Try.func57, Try.ntmps57
    go_wp2_with (go_at_call 66; refine (spec_l01Prime _ _).mono ?_; rintro e w' ⟨rfl, rfl⟩)
    go_ret
    exact ⟨rfl, rfl⟩
  · have h0 := prime_lo hp
    have h1 := prime_hi hp
    rw [hc]
    clear hc
    go_enter Try.func57, Try.ntmps57
    go_wp2_with (first | (go_at_call 66; refine (spec_l01Prime _ _).mono ?_; rintro e w' ⟨rfl, rfl⟩) | (go_at_call 49; refine (spec_l01Numbers _ _ _ _ _ _ (by omega) (by omega) HX.out).mono ?_; rintro e w' ⟨rfl, rfl⟩))
    go_ret
    exact ⟨rfl, rfl⟩

theorem impl_checkNumbers (p : Int) (A : Option Addr) (n c : Nat) (xs : List Int) (w : World) (hx : Ints w A n xs) :
    Calls Try.prog 55 #[.int .i64 p, .slice A n c] w fun e w' => e = .returned (.int .i64 (codeN p xs)) ∧ w = w' := by
  have HX := Lib.hid hx
  clear hx
  rcases codeN_cases p xs with ⟨hc, hp, hn⟩ | ⟨hc, hp⟩ | ⟨hc, hp, hn⟩
  · have h0 := prime_lo hp
    have h1 := prime_hi hp
    rw [hc]
    clear hc
    go_enter Try.func55, Try.ntmps55
    go_wp2_with (first | (go_at_call 31; refine (impl_IsPrime _ _).mono ?_; rintro e w' ⟨rfl, rfl⟩) | (go_at_call 52; refine (impl_is _ _ _ _ _ _ (by omega) (by omega) HX.out).mono ?_; rintro e w' ⟨rfl, rfl⟩))
    go_ret
    exact ⟨rfl, rfl⟩
  · rw [hc]
    clear hc
    go_enter Try.func55, Try.ntmps55
    go_wp2_with (go_at_call 31; refine (impl_IsPrime _ _).mono ?_; rintro e w' ⟨rfl, rfl⟩)
    go_ret
    exact ⟨rfl, rfl⟩
  · have h0 := prime_lo hp
    have h1 := prime_hi hp
    rw [hc]
    clear hc
    go_enter Try.func55, Try.ntmps55
    go_wp2_with (first | (go_at_call 31; refine (impl_IsPrime _ _).mono ?_; rintro e w' ⟨rfl, rfl⟩) | (go_at_call 52; refine (impl_is _ _ _ _ _ _ (by omega) (by omega) HX.out).mono ?_; rintro e w' ⟨rfl, rfl⟩))
    go_ret
    exact ⟨rfl, rfl⟩
end Go.Proofs.Ytcgghjhccnjeoaa
