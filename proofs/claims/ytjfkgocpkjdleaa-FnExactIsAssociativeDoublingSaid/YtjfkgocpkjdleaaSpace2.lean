/- Contracts: discriminant, regularity, multivectors as arguments. Conditions stand in each theorem. -/
import Derived.Test.YtjfkgocpkjdleaaSpace
namespace Go.Proofs.Ytjfkgocpkjdleaa
open Go.RowKit
set_option linter.unusedVariables false

theorem slices_Index0 (A : Option Addr) (n c : Nat) (xs : List Int) (w : World) (hx : Ints w A n xs) :
    Calls Try.prog 73 #[.slice A n c, .int .i64 0] w fun e w' => ∃ r : Int, e = .returned (.int .i64 r) ∧ -1 ≤ r ∧ r < 9223372036854775807 ∧ (0 ≤ r ↔ (0 : Int) ∈ xs) ∧ w = w' := by
  have HX := Lib.hid hx
  have hm := hx.2.1
  clear hx
  unfold maxLen at hm
  go_enter Try.func73, Try.ntmps73
  go_wp2
  go_loop [8] (fun i => ∃ k : Nat, k ≤ n ∧ i = .int .i64 k ∧ ¬ (0 : Int) ∈ xs.take k) (fun i => n - (intOf i).toNat)
  case atStart => exact ⟨0, Nat.zero_le _, rfl, by simp⟩
  case round =>
    obtain ⟨k, hk, rfl, hall⟩ := hrel
    have HA := Lib.hid hall
    clear hall
    by_cases hlt : k < n
    · obtain ⟨b1, off1, x, rfl, hb1, hxk, hck1⟩ := HX.out.at_ hlt
      have HK := Lib.hid hxk
      clear hxk hb1
      by_cases h0 : x = 0
      · subst h0
        go_wp2
        go_ret
        exact ⟨k, rfl, by omega, by omega, ⟨fun _ => List.mem_of_getElem? HK.out, fun _ => by omega⟩, rfl⟩
      · have g1 : (0 == x) = false := by simp; omega
        have H0 := Lib.hid h0
        clear h0
        go_wp2
        go_round
        case rel => exact ⟨k + 1, by omega, by go_num, by rw [take_snoc HK.out]; intro h; rcases List.mem_append.1 h with h | h
                                                          · exact HA.out h
                                                          · exact H0.out (List.mem_singleton.1 h).symm⟩
        case measure => simp [intOf]; omega
    · obtain rfl : k = n := by omega
      go_wp2
      go_ret
      exact ⟨-1, rfl, by omega, by omega, ⟨fun h => by omega, fun h => by have := HA.out; rw [List.take_of_length_le (by have := HX.out.1; omega)] at this; exact absurd h this⟩, rfl⟩

theorem slices_Contains0 (A : Option Addr) (n c : Nat) (xs : List Int) (w : World) (hx : Ints w A n xs) :
    Calls Try.prog 49 #[.slice A n c, .int .i64 0] w fun e w' => e = .returned (.bool (xs.contains 0)) ∧ w = w' := by
  have HX := Lib.hid hx
  clear hx
  go_enter Try.func49, Try.ntmps49
  go_wp2_with fail
  refine (slices_Index0 _ _ _ xs _ HX.out).mono ?_
  rintro e w' ⟨r, rfl, hr0, hr1, hr, rfl⟩
  have HR := Lib.hid hr
  clear hr
  by_cases h : (0 : Int) ≤ r
  · go_wp2
    go_ret
    exact ⟨ret_bool (List.contains_iff_mem.2 (HR.out.1 h)).symm, rfl⟩
  · go_wp2
    go_ret
    exact ⟨ret_bool (by
      cases e : xs.contains 0 with
      | false => exact decide_eq_false (by omega)
      | true => have := HR.out.2 (List.contains_iff_mem.1 e); omega), rfl⟩

def regV (p : Int) (xs : List Int) : Bool := if spaceB p xs then regB xs else false

end Go.Proofs.Ytjfkgocpkjdleaa
