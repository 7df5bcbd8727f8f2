/- Contracts: the dot product of the program and of the reference. Conditions stand in each theorem. -/
import Derived.Test.YtincppklphahpaaMem
import Derived.Test.YtincppklphahpaaCode
import Derived.Test.YtincppklphahpaaDotP
namespace Go.Proofs.Ytincppklphahpaa
open Go.RowKit

theorem impl_dot (p : Int) (A B : Option Addr) (n m c d : Nat) (xs ys : List Int) (w : World) (h0 : 3 ≤ p) (h1 : p ≤ 13) (hx : Ints w A n xs) (hy : Ints w B m ys) (hnm : n ≤ m) (hn64 : n ≤ 64) (hn : numsB p xs = true) (hn' : numsB p ys = true) :
    Calls Try.prog 107 #[.int .i64 p, .slice A n c, .slice B m d] w fun e w' => e = .returned (.int .i64 (dotL (xs.take n) (ys.take n) % p)) ∧ w = w' := by
  have HX := Lib.hid hx
  have HY := Lib.hid hy
  have HN := Lib.hid hn
  have HN' := Lib.hid hn'
  have hmax := hx.2.1
  have hmax2 := hy.2.1
  clear hx hy hn hn'
  unfold maxLen at hmax hmax2
  go_enter Try.func107, Try.ntmps107
  go_wp2
  go_loop [7, 12] (fun o i => ∃ (k : Nat) (s : Int), k ≤ n ∧ i = .int .i64 k ∧ o = .int .i64 s ∧ 0 ≤ s ∧ s ≤ 144 * k ∧ s = dotL (xs.take k) (ys.take k)) (fun _ i => n - (intOf i).toNat)
  case atStart => exact ⟨0, 0, Nat.zero_le _, rfl, rfl, by omega, by omega, by simp [dotL]⟩
  case round =>
    obtain ⟨k, s, hk, rfl, rfl, hs0, hs1, hs⟩ := hrel
    have HS := Lib.hid hs
    clear hs
    by_cases hlt : k < n
    · obtain ⟨b1, off1, x, rfl, hb1, hxk, hck1⟩ := HX.out.at_ hlt
      obtain ⟨b2, off2, y, rfl, hb2, hyk, hck2⟩ := HY.out.at_ (show k < m by omega)
      obtain ⟨hx0, hx1⟩ := numB_true (numsB_at HN.out hxk)
      obtain ⟨hy0, hy1⟩ := numB_true (numsB_at HN'.out hyk)
      obtain ⟨m0, m1⟩ := mul_bounds (a := x) (b := y) (p := p) (by omega) (by omega) (by omega) (by omega) (by omega)
      have HK := Lib.hid hxk
      have HL := Lib.hid hyk
      clear hxk hyk hb1 hb2
      go_wp2
      go_round
      case rel => exact ⟨k + 1, s + x * y, by omega, by go_num, rfl, by omega, by omega, by rw [dotL_step HK.out HL.out, HS.out]⟩
      case measure => simp [intOf]; omega
    · obtain rfl : k = n := by omega
      go_wp2_with (go_at_call 95; refine (impl_num _ _ _ (by omega) (by omega)).mono ?_; rintro e w' ⟨rfl, rfl⟩)
      go_ret
      exact ⟨ret_int (by rw [HS.out]), rfl⟩

end Go.Proofs.Ytincppklphahpaa
