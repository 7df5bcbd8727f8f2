/- Contracts: powers, inverses, roots, orders. Conditions stand in each theorem. -/
import Derived.Test.YtcgghjhccnjeoaaCode
import Derived.Test.YtcgghjhccnjeoaaField
namespace Go.Proofs.Ytcgghjhccnjeoaa
open Go.RowKit

theorem spec_l01Inv (p a : Int) (w : World) (hp : primeB p = true) (h0 : 1 ≤ a) (h1 : a < p) : Calls Try.prog 65 #[.int .i64 p, .int .i64 a] w fun e w' => e = .returned (.int .i64 (invN p a)) ∧ w = w' := by
  have hlo := prime_lo hp
  have hhi := prime_hi hp
  obtain ⟨i0, i1, hi, hu⟩ := inv_facts hp h0 h1
  have HI := Lib.hid hi
  clear hi
  have HU := Lib.hid hu
  clear hu hp
  go_enter Try.func65, Try.ntmps65
  go_wp2
  go_loop [5] (fun i => ∃ b : Int, 1 ≤ b ∧ b ≤ invN p a ∧ i = .int .i64 b) (fun i => (invN p a - intOf i).toNat)
  case atStart => exact ⟨1, by omega, by omega, rfl⟩
  case round =>
    obtain ⟨b, hb0, hb1, rfl⟩ := hrel
    obtain ⟨m0, m1⟩ := mul_bounds (a := a) (b := b) (p := p) (by omega) (by omega) (by omega) (by omega) (by omega)
    by_cases ht : (a * b) % p = 1
    · have HB := Lib.hid (HU.out b (by omega) (by omega) ht)
      have ht' : ((a * b) % p == 1) = true := by simpa using ht
      have ht'' : ((a * b) % p != 1) = false := by simpa using ht
      clear ht
      go_wp2
      go_ret
      exact ⟨ret_int HB.out, rfl⟩
    · have hb : b ≠ invN p a := by intro e; apply ht; rw [e]; exact HI.out
      have hb2 : b + 1 ≤ invN p a := by omega
      have ht' : ((a * b) % p == 1) = false := by simpa using ht
      have ht'' : ((a * b) % p != 1) = true := by simpa using ht
      clear ht hb
      go_wp2
      go_round
      case rel => exact ⟨b + 1, by omega, by omega, rfl⟩
      case measure => simp [intOf]; omega

theorem impl_pow (p a : Int) (k : Nat) (w : World) (hp : primeB p = true) (h0 : 0 ≤ a) (h1 : a < p) (hk : k ≤ 1000) : Calls Try.prog 64 #[.int .i64 p, .int .i64 a, .int .i64 k] w fun e w' => e = .returned (.int .i64 (powN p a k)) ∧ w = w' := by
  have hlo := prime_lo hp
  have hhi := prime_hi hp
  have HP := Lib.hid hp
  clear hp
  go_enter Try.func64, Try.ntmps64
  go_wp2
  go_loop [7, 9] (fun o i => ∃ j : Nat, j ≤ k ∧ i = .int .i64 j ∧ o = .int .i64 (powN p a j)) (fun _ i => k - (intOf i).toNat)
  case atStart => exact ⟨0, by omega, rfl, rfl⟩
  case round =>
    obtain ⟨j, hj, rfl, rfl⟩ := hrel
    obtain ⟨b0, b1⟩ := powN_bounds (a := a) HP.out j
    obtain ⟨m0, m1⟩ := mul_bounds (a := powN p a j) (b := a) (p := p) (by omega) (by omega) (by omega) (by omega) (by omega)
    by_cases hlt : j < k
    · go_wp2_with (go_at_call 60; refine (impl_num _ _ _ (by omega) (by omega)).mono ?_; rintro e w' ⟨rfl, rfl⟩)
      go_round
      case rel => exact ⟨j + 1, by omega, by go_num, rfl⟩
      case measure => simp [intOf]; omega
    · obtain rfl : j = k := by omega
      go_wp2
      go_ret
      exact ⟨rfl, rfl⟩

theorem impl_inv (p a : Int) (w : World) (hp : primeB p = true) (h0 : 0 ≤ a) (h1 : a < p) : Calls Try.prog 63 #[.int .i64 p, .int .i64 a] w fun e w' => e = .returned (.int .i64 (invN p a)) ∧ w = w' := by
  have hlo := prime_lo hp
  have hhi := prime_hi hp
  obtain ⟨k, HK, HK'⟩ : ∃ k : Nat, Hid ((k : Int) = p - 2) ∧ Hid (p.toNat - 2 = k) := ⟨(p - 2).toNat, Lib.hid (by omega), Lib.hid (by omega)⟩
  unfold invN
  rw [HK'.out]
  have HP := Lib.hid hp
  clear hp
  go_enter Try.func63, Try.ntmps63
  go_wp2_with fail
  rw [← HK.out]
  refine (impl_pow p a k _ HP.out h0 h1 (by have := HK.out; omega)).mono ?_
  rintro e w' ⟨rfl, rfl⟩
  go_wp2
  go_ret
  exact ⟨rfl, rfl⟩

theorem spec_l01Root (p a : Int) (w : World) (hlo : 3 ≤ p) (hhi : p ≤ 13) : Calls Try.prog 58 #[.int .i64 p, .int .i64 a] w fun e w' => e = .returned (.int .i64 (rootN p a)) ∧ w = w' := by
  go_enter Try.func58, Try.ntmps58
  go_wp2
  go_loop [5] (fun i => ∃ k : Int, 0 ≤ k ∧ k ≤ p ∧ i = .int .i64 k ∧ rootN p a = rootFrom p a k (p - k).toNat) (fun i => (p - intOf i).toNat)
  case atStart => exact ⟨0, by omega, by omega, rfl, by simp [rootN]⟩
  case round =>
    obtain ⟨k, hk0, hk1, rfl, hr⟩ := hrel
    have HR := Lib.hid hr
    clear hr
    by_cases hlt : k < p
    · obtain ⟨m0, m1⟩ := mul_bounds (a := k) (b := k) (p := p) (by omega) (by omega) (by omega) (by omega) (by omega)
      by_cases ht : (k * k) % p = a
      · have HB := Lib.hid (HR.out.trans (rootFrom_hit hlt ht))
        have ht' : ((k * k) % p == a) = true := by simpa using ht
        clear ht
        go_wp2
        go_ret
        exact ⟨ret_int HB.out.symm, rfl⟩
      · have HB := Lib.hid (HR.out.trans (rootFrom_miss hlt ht))
        have ht' : ((k * k) % p == a) = false := by simpa using ht
        clear ht
        go_wp2
        go_round
        case rel => exact ⟨k + 1, by omega, by omega, rfl, HB.out⟩
        case measure => simp [intOf]; omega
    · have HB := Lib.hid (HR.out.trans (rootFrom_end (by omega)))
      go_wp2
      go_ret
      exact ⟨ret_int HB.out.symm, rfl⟩

theorem impl_root (p a : Int) (w : World) (hlo : 3 ≤ p) (hhi : p ≤ 13) : Calls Try.prog 56 #[.int .i64 p, .int .i64 a] w fun e w' => e = .returned (.tuple #[.int .i64 (rootV (rootN p a)), .bool (okB (rootN p a))]) ∧ w = w' := by
  go_enter Try.func56, Try.ntmps56
  go_wp2
  go_loop [8] (fun i => ∃ k : Int, 0 ≤ k ∧ k ≤ p ∧ i = .int .i64 k ∧ rootN p a = rootFrom p a k (p - k).toNat) (fun i => (p - intOf i).toNat)
  case atStart => exact ⟨0, by omega, by omega, rfl, by simp [rootN]⟩
  case round =>
    obtain ⟨k, hk0, hk1, rfl, hr⟩ := hrel
    have HR := Lib.hid hr
    clear hr
    by_cases hlt : k < p
    · obtain ⟨m0, m1⟩ := mul_bounds (a := k) (b := k) (p := p) (by omega) (by omega) (by omega) (by omega) (by omega)
      by_cases ht : (k * k) % p = a
      · have HB := Lib.hid (HR.out.trans (rootFrom_hit hlt ht))
        have ht' : ((k * k) % p == a) = true := by simpa using ht
        clear ht
        go_wp2_with (go_at_call 60; refine (impl_num _ _ _ (by omega) (by omega)).mono ?_; rintro e w' ⟨rfl, rfl⟩)
        go_ret2
        exact ⟨by rw [HB.out, show rootV k = k by unfold rootV; rw [if_neg (by omega)], show okB k = true by unfold okB; exact decide_eq_true hk0]; rfl, rfl⟩
      · have HB := Lib.hid (HR.out.trans (rootFrom_miss hlt ht))
        have ht' : ((k * k) % p == a) = false := by simpa using ht
        clear ht
        go_wp2_with (go_at_call 60; refine (impl_num _ _ _ (by omega) (by omega)).mono ?_; rintro e w' ⟨rfl, rfl⟩)
        go_round
        case rel => exact ⟨k + 1, by omega, by omega, rfl, HB.out⟩
        case measure => simp [intOf]; omega
    · have HB := Lib.hid (HR.out.trans (rootFrom_end (by omega)))
      go_wp2
      go_ret2
      exact ⟨by rw [HB.out]; rfl, rfl⟩

theorem impl_isSquare (p a : Int) (w : World) (hlo : 3 ≤ p) (hhi : p ≤ 13) : Calls Try.prog 59 #[.int .i64 p, .int .i64 a] w fun e w' => e = .returned (.bool (okB (rootN p a))) ∧ w = w' := by
  go_enter Try.func59, Try.ntmps59
  go_wp2_with (go_at_call 56; refine (impl_root _ _ _ (by omega) (by omega)).mono ?_; rintro e w' ⟨rfl, rfl⟩)
  go_ret
  exact ⟨rfl, rfl⟩

theorem impl_order (p a : Int) (w : World) (hp : primeB p = true) (h0 : 1 ≤ a) (h1 : a < p) : Calls Try.prog 67 #[.int .i64 p, .int .i64 a] w fun e w' => e = .returned (.int .i64 (orderN p a)) ∧ w = w' := by
  have hlo := prime_lo hp
  have hhi := prime_hi hp
  obtain ⟨o0, o1, oh, ou⟩ := order_facts hp h0 h1
  have HP := Lib.hid hp
  have HI := Lib.hid oh
  have HU := Lib.hid ou
  clear oh ou hp
  go_enter Try.func67, Try.ntmps67
  go_wp2
  go_loop [5, 6] (fun i o => ∃ k : Nat, 1 ≤ k ∧ (k : Int) ≤ orderN p a ∧ i = .int .i64 k ∧ o = .int .i64 (powN p a k)) (fun i _ => (orderN p a - intOf i).toNat)
  case atStart => exact ⟨1, by omega, by omega, rfl, by rw [powN_one (by omega) h1]⟩
  case round =>
    obtain ⟨k, hk0, hk1, rfl, rfl⟩ := hrel
    obtain ⟨b0, b1⟩ := powN_bounds (a := a) HP.out k
    obtain ⟨m0, m1⟩ := mul_bounds (a := powN p a k) (b := a) (p := p) (by omega) (by omega) (by omega) (by omega) (by omega)
    by_cases ht : powN p a k = 1
    · have HB := Lib.hid (show (k : Int) = orderN p a by have := HU.out k hk0 (by omega) ht; omega)
      have ht' : (powN p a k == 1) = true := by simpa using ht
      have ht'' : (powN p a k != 1) = false := by simpa using ht
      clear ht
      go_wp2
      go_ret
      exact ⟨ret_int HB.out, rfl⟩
    · have hb2 : (k : Int) + 1 ≤ orderN p a := by
        by_cases e : (k : Int) = orderN p a
        · exfalso; apply ht; have := HI.out; rw [← e] at this; simpa using this
        · omega
      have ht' : (powN p a k == 1) = false := by simpa using ht
      have ht'' : (powN p a k != 1) = true := by simpa using ht
      clear ht
      go_wp2_with (go_at_call 60; refine (impl_num _ _ _ (by omega) (by omega)).mono ?_; rintro e w' ⟨rfl, rfl⟩)
      go_round
      case rel => exact ⟨k + 1, by omega, by omega, by go_num, rfl⟩
      case measure => simp [intOf]; omega
end Go.Proofs.Ytcgghjhccnjeoaa
