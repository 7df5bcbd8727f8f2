/- Contracts: the grade of a mask. Conditions stand in each theorem. -/
import Derived.Test.YtincppklphahpaaMark
namespace Go.Proofs.Ytincppklphahpaa
open Go.RowKit
set_option linter.unusedVariables false

def gradeF : Nat → Nat → Nat
  | 0, _ => 0
  | f + 1, m => m % 2 + gradeF f (m / 2)
def gradeN (m : Nat) : Nat := gradeF 6 m

theorem cases64 {m : Nat} (hm : m < 64) : m = 0 ∨ m = 1 ∨ m = 2 ∨ m = 3 ∨ m = 4 ∨ m = 5 ∨ m = 6 ∨ m = 7 ∨ m = 8 ∨ m = 9 ∨ m = 10 ∨ m = 11 ∨ m = 12 ∨ m = 13 ∨ m = 14 ∨ m = 15 ∨ m = 16 ∨ m = 17 ∨ m = 18 ∨ m = 19 ∨ m = 20 ∨ m = 21 ∨ m = 22 ∨ m = 23 ∨ m = 24 ∨ m = 25 ∨ m = 26 ∨ m = 27 ∨ m = 28 ∨ m = 29 ∨ m = 30 ∨ m = 31 ∨ m = 32 ∨ m = 33 ∨ m = 34 ∨ m = 35 ∨ m = 36 ∨ m = 37 ∨ m = 38 ∨ m = 39 ∨ m = 40 ∨ m = 41 ∨ m = 42 ∨ m = 43 ∨ m = 44 ∨ m = 45 ∨ m = 46 ∨ m = 47 ∨ m = 48 ∨ m = 49 ∨ m = 50 ∨ m = 51 ∨ m = 52 ∨ m = 53 ∨ m = 54 ∨ m = 55 ∨ m = 56 ∨ m = 57 ∨ m = 58 ∨ m = 59 ∨ m = 60 ∨ m = 61 ∨ m = 62 ∨ m = 63 := by omega

theorem bits_OnesCount64 (m : Nat) (hm : m < 64) (w : World) : Calls Try.prog 106 #[.int .u64 m] w fun e w' => e = .returned (.int .i64 (gradeN m)) ∧ w = w' := by
  go_enter Try.func106, Try.ntmps106
  go_wp2
  go_ret
  refine ⟨?_, rfl⟩
  rcases cases64 hm with rfl | rfl | rfl | rfl | rfl | rfl | rfl | rfl | rfl | rfl | rfl | rfl | rfl | rfl | rfl | rfl | rfl | rfl | rfl | rfl | rfl | rfl | rfl | rfl | rfl | rfl | rfl | rfl | rfl | rfl | rfl | rfl | rfl | rfl | rfl | rfl | rfl | rfl | rfl | rfl | rfl | rfl | rfl | rfl | rfl | rfl | rfl | rfl | rfl | rfl | rfl | rfl | rfl | rfl | rfl | rfl | rfl | rfl | rfl | rfl | rfl | rfl | rfl | rfl <;> (show _ = _; kernel_rfl)

theorem bits_OnesCount (m : Nat) (hm : m < 64) (w : World) : Calls Try.prog 96 #[.int .u64 m] w fun e w' => e = .returned (.int .i64 (gradeN m)) ∧ w = w' := by
  go_enter Try.func96, Try.ntmps96
  go_wp2_with (go_at_call 106; refine (bits_OnesCount64 _ hm _).mono ?_; rintro e w' ⟨rfl, rfl⟩)
  go_ret
  exact ⟨rfl, rfl⟩

theorem impl_gradeOf (m : Nat) (hm : m < 64) (w : World) : Calls Try.prog 72 #[.int .i64 m] w fun e w' => e = .returned (.int .i64 (gradeN m)) ∧ w = w' := by
  have e1 : IntKind.u64.wrap m = m := by unfold IntKind.wrap; simp [IntKind.bits]; omega
  go_enter Try.func72, Try.ntmps72
  go_wp2_with (go_at_call 96; refine (bits_OnesCount _ hm _).mono ?_; rintro e w' ⟨rfl, rfl⟩)
  go_ret
  exact ⟨rfl, rfl⟩

theorem gradeF_zero (f : Nat) : gradeF f 0 = 0 := by
  induction f with
  | zero => rfl
  | succ f ih => show 0 % 2 + gradeF f (0 / 2) = 0; rw [Nat.zero_div, ih]
theorem gradeF_le (f q : Nat) : gradeF f q ≤ f := by
  induction f generalizing q with
  | zero => exact Nat.le_refl _
  | succ f ih => have := ih (q / 2); show q % 2 + gradeF f (q / 2) ≤ f + 1; omega
theorem gradeN_le (m : Nat) : gradeN m ≤ 6 := gradeF_le 6 m

theorem spec_l04Grade (m : Nat) (hm : m < 64) (w : World) : Calls Try.prog 70 #[.int .i64 m] w fun e w' => e = .returned (.int .i64 (gradeN m)) ∧ w = w' := by
  go_enter Try.func70, Try.ntmps70
  go_wp2
  go_loopw [0, 3] (fun a b wr => ∃ f q g : Nat, a = .int .i64 q ∧ b = .int .i64 g ∧ g + gradeF f q = gradeN m ∧ q < 2 ^ f ∧ f ≤ 6 ∧ w = wr) (fun a _ _ => (intOf a).toNat)
  case atStart => exact ⟨6, m, 0, rfl, rfl, by rw [Nat.zero_add]; rfl, hm, by omega, rfl⟩
  case round =>
    obtain ⟨f, q, g, rfl, rfl, hg, hq, hf, rfl⟩ := hrel
    have hle := gradeN_le m
    by_cases h0 : q = 0
    · subst h0
      rw [gradeF_zero, Nat.add_zero] at hg
      subst hg
      go_wp2
      go_ret
      exact ⟨rfl, rfl⟩
    · have hqq : (0 : Int) < q := by omega
      obtain ⟨f', rfl⟩ : ∃ f', f = f' + 1 := by
        cases f with
        | zero => simp at hq; omega
        | succ f' => exact ⟨f', rfl⟩
      have hstep : gradeF (f' + 1) q = q % 2 + gradeF f' (q / 2) := rfl
      have hb : q < 64 := Nat.lt_of_lt_of_le hq (show 2 ^ (f' + 1) ≤ 2 ^ 6 from Nat.pow_le_pow_right (by omega) hf)
      have hq2 : q / 2 < 2 ^ f' := by rw [Nat.pow_succ] at hq; omega
      have HG := Lib.hid (show (g + q % 2) + gradeF f' (q / 2) = gradeN m by omega)
      have hgl : g + q % 2 ≤ 6 := by omega
      clear hg hstep hle hq
      go_wp2
      go_roundw
      case rel => exact ⟨f', q / 2, g + q % 2, by go_num, by go_num, HG.out, hq2, by omega, trivial⟩
      case measure => simp [intOf]; omega

end Go.Proofs.Ytincppklphahpaa
