/- Contracts: powers, inverses, roots, orders. Conditions stand in each theorem. -/
import Derived.Test.YtcieohpbeckjfaaCode
import Derived.Test.YtcieohpbeckjfaaField
namespace Go.Proofs.Ytcieohpbeckjfaa
open Go.RowKit

theorem spec_l01Root (p a : Int) (w : World) (hlo : 3 ≤ p) (hhi : p ≤ 13) : Calls Try.prog 86 #[.int .i64 p, .int .i64 a] w fun e w' => e = .returned (.int .i64 (rootN p a)) ∧ w = w' := by
  go_enter Try.func86, Try.ntmps86
  go_wp2
  go_loop [5] (fun i => ∃ k : Int, 0 ≤ k ∧ k ≤ p ∧ i = .int .i64 k ∧ rootN p a = rootFrom p a k (p - k).toNat) (fun i => (p - intOf i).toNat)
  case atStart => exact ⟨0, by omega, by omega, rfl, by simp [rootN]⟩
  case round =>
    obtain ⟨k, hk0, hk1, rfl, hr⟩ := hrel
    have HR := Lib.hid hr
    clear hr
    by_cases hlt : k < p
    · obtain ⟨m0, m1⟩ := mul_bounds (a := k) (b := k) (p := p) (by omega) (by omega) (by omega) (by omega) (by omega)
      by_cases ht : (k * k) % p = a
      · have HB := Lib.hid (HR.out.trans (rootFrom_hit hlt ht))
        have ht' : ((k * k) % p == a) = true := by simpa using ht
        clear ht
        go_wp2
        go_ret
        exact ⟨ret_int HB.out.symm, rfl⟩
      · have HB := Lib.hid (HR.out.trans (rootFrom_miss hlt ht))
        have ht' : ((k * k) % p == a) = false := by simpa using ht
        clear ht
        go_wp2
        go_round
        case rel => exact ⟨k + 1, by omega, by omega, rfl, HB.out⟩
        case measure => simp [intOf]; omega
    · have HB := Lib.hid (HR.out.trans (rootFrom_end (by omega)))
      go_wp2
      go_ret
      exact ⟨ret_int HB.out.symm, rfl⟩

theorem impl_root (p a : Int) (w : World) (hlo : 3 ≤ p) (hhi : p ≤ 13) : Calls Try.prog 87 #[.int .i64 p, .int .i64 a] w fun e w' => e = .returned (.tuple #[.int .i64 (rootV (rootN p a)), .bool (okB (rootN p a))]) ∧ w = w' := by
  go_enter Try.func87, Try.ntmps87
  go_wp2
  go_loop [8] (fun i => ∃ k : Int, 0 ≤ k ∧ k ≤ p ∧ i = .int .i64 k ∧ rootN p a = rootFrom p a k (p - k).toNat) (fun i => (p - intOf i).toNat)
  case atStart => exact ⟨0, by omega, by omega, rfl, by simp [rootN]⟩
  case round =>
    obtain ⟨k, hk0, hk1, rfl, hr⟩ := hrel
    have HR := Lib.hid hr
    clear hr
    by_cases hlt : k < p
    · obtain ⟨m0, m1⟩ := mul_bounds (a := k) (b := k) (p := p) (by omega) (by omega) (by omega) (by omega) (by omega)
      by_cases ht : (k * k) % p = a
      · have HB := Lib.hid (HR.out.trans (rootFrom_hit hlt ht))
        have ht' : ((k * k) % p == a) = true := by simpa using ht
        clear ht
        go_wp2_with (go_at_call 58; refine (impl_num _ _ _ (by omega) (by omega)).mono ?_; rintro e w' ⟨rfl, rfl⟩)
        go_ret2
        exact ⟨by rw [HB.out, show rootV k = k by unfold rootV; rw [if_neg (by omega)], show okB k = true by unfold okB; exact decide_eq_true hk0]; rfl, rfl⟩
      · have HB := Lib.hid (HR.out.trans (rootFrom_miss hlt ht))
        have ht' : ((k * k) % p == a) = false := by simpa using ht
        clear ht
        go_wp2_with (go_at_call 58; refine (impl_num _ _ _ (by omega) (by omega)).mono ?_; rintro e w' ⟨rfl, rfl⟩)
        go_round
        case rel => exact ⟨k + 1, by omega, by omega, rfl, HB.out⟩
        case measure => simp [intOf]; omega
    · have HB := Lib.hid (HR.out.trans (rootFrom_end (by omega)))
      go_wp2
      go_ret2
      exact ⟨by rw [HB.out]; rfl, rfl⟩

theorem impl_isSquare (p a : Int) (w : World) (hlo : 3 ≤ p) (hhi : p ≤ 13) : Calls Try.prog 68 #[.int .i64 p, .int .i64 a] w fun e w' => e = .returned (.bool (okB (rootN p a))) ∧ w = w' := by
  go_enter Try.func68, Try.ntmps68
  go_wp2_with (go_at_call 87; refine (impl_root _ _ _ (by omega) (by omega)).mono ?_; rintro e w' ⟨rfl, rfl⟩)
  go_ret
  exact ⟨rfl, rfl⟩

end Go.Proofs.Ytcieohpbeckjfaa
