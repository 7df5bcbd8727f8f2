/- Contracts: the draws that the laws take. Conditions stand in each theorem. -/
import Derived.Test.YtcgghjhccnjeoaaDoorDraw
import Derived.BigRegion
namespace Go.Proofs.YtcgghjhccnjeoaaDoor
open Go.RowKit
set_option linter.unusedVariables false
set_option linter.unusedSimpArgs false

theorem spec_l01From (A : Option Addr) (n c : Nat) (bs : List Int) (w : World) (hb : Bts w A n bs) (hn : n ≤ 4096) :
    Calls Tryd.prog 20 #[.slice A n c] w fun e w' => ∃ s, e = .returned (.pointer (some ⟨s, 0, none⟩)) ∧ w.heap.size ≤ s ∧ SrcW w' s ∧ Below w.heap.size w w' := by
  have HX := Lib.hid hb
  clear hb
  have hq : IntKind.u64.wrap (n : Int) = n := IntWalk.u64_in _ (by omega)
  have hq2 : IntKind.u64.wrap (4409 + (n : Int)) = 4409 + n := IntWalk.u64_in _ (by omega)
  have hlo : (0 : Int) ≤ 4409 + (n : Int) := by omega
  have hhi : (4409 : Int) + n < 18446744073709551616 := by omega
  have HB0 := Lib.hid (show Below w.heap.size w (w.alloc (.cells #[.slice A n c, .int .i64 0, .int .u64 (4409 + (n : Int))] 53)) from (Below.refl _ _).alloc (Nat.le_refl _) _)
  have HS0 := Lib.hid (show Src (w.alloc (.cells #[.slice A n c, .int .i64 0, .int .u64 (4409 + (n : Int))] 53)) w.heap.size A n c 0 (4409 + (n : Int)) from
    ⟨by simp [go_sem], by simp [go_sem], by simp [go_sem], by simp [go_sem], by simp [go_sem], Nat.zero_le _, hlo, hhi⟩)
  have HA := Lib.hid (show ∀ b off, A = some ⟨b, off, none⟩ → 0 < n → b ≠ w.heap.size by
    intro b off ha hn0
    obtain ⟨b', off', e, hl, _⟩ := HX.out.2.2 hn0
    rw [e] at ha
    injection ha with ha
    injection ha with h1 _
    omega)
  clear hhi hlo
  go_enter Tryd.func20, Tryd.ntmps20
  go_wp2
  go_loopw [4] (fun i wr => ∃ k : Nat, ∃ h : Int, k ≤ n ∧ i = .int .i64 k ∧ Hid (Src wr w.heap.size A n c 0 h) ∧ Hid (Tch w.heap.size (w.alloc (.cells #[.slice A n c, .int .i64 0, .int .u64 (4409 + (n : Int))] 53)) wr)) (fun i _ => n - (intOf i).toNat)
  case atStart => exact ⟨0, _, Nat.zero_le _, rfl, HS0, Lib.hid (Tch.refl _ _)⟩
  case round =>
    obtain ⟨k, h, hk, rfl, HS, HT⟩ := hrel
    by_cases hlt : k < n
    · obtain ⟨b, off, y, hAe, hbl, hyk, hck, hy0, hy1⟩ := HX.out.at_ hlt
      have hbs : b ≠ w.heap.size := HA.out b off hAe (by omega)
      have hck2 := HT.out.cell ((HB0.out.cell (p := ⟨b, off + k, none⟩) hbl).trans hck) hbs
      obtain ⟨c0, c1, c2, f1, f2, _, hh0, hh1⟩ := HS.out
      subst hAe
      have hklt : (k : Int) < n := by omega
      have hk4 : (k : Int) < 4096 := by omega
      have HH1 := Lib.hid hh1
      clear hck hyk hbl c1 f1 hh1
      obtain ⟨g, HG⟩ : ∃ g, Hid (IntKind.u64.wrap (IntKind.u64.wrap (IntKind.u64.wrap (h * 1099511628211) + y) + 11) = g) := ⟨_, Lib.hid rfl⟩
      have HG0 := Lib.hid (show 0 ≤ g ∧ g < 18446744073709551616 by rw [← HG.out, u64_wrap]; omega)
      go_wp2
      go_region
      go_wp2
      go_roundw
      case rel =>
        refine ⟨k + 1, g, by omega, by go_num, Lib.hid ?_, Lib.hid ?_⟩
        · rw [← HG.out]
          rw [← HG.out] at HG0
          exact (src_step HS.out HG0.out.1 HG0.out.2).drew
        · exact (HT.out.set 2 _).drew
      case measure => simp [intOf]; omega
    · go_wp2
      go_ret
      have HB1 := Lib.hid (HT.out.below HB0.out (Nat.le_refl _))
      refine ⟨w.heap.size, rfl, Nat.le_refl _, ⟨A, n, c, 0, h, bs, HS.out, (HX.out.keep HB1.out), fun hn0 a ha => ?_, by omega⟩, HB1.out⟩
      obtain ⟨b, off, e, _⟩ := HX.out.2.2 hn0
      rw [e] at ha
      injection ha with ha
      subst ha
      exact HA.out b off e hn0

theorem spec_l01Pair (A : Option Addr) (n c : Nat) (bs : List Int) (w : World) (hb : Bts w A n bs) (hn : n ≤ 4096) :
    Calls Tryd.prog 13 #[.slice A n c] w fun e w' => ∃ p a b, e = .returned (.tuple #[.int .i64 p, .int .i64 a, .int .i64 b]) ∧ Below w.heap.size w w' := by
  have HX := Lib.hid hb
  clear hb
  go_enter Tryd.func13, Tryd.ntmps13
  go_wp2_with fail
  refine (spec_l01From A n c bs _ HX.out hn).mono ?_
  rintro e w1 ⟨s, rfl, hs, h1, hb1⟩
  have HS := Lib.hid h1
  have HB := Lib.hid hb1
  clear h1 hb1
  go_wp2_with fail
  refine (spec_l01Bad s _ HS.out).mono ?_
  rintro e w2 ⟨p, rfl, h1, ht⟩
  replace HS := Lib.hid h1
  replace HB := Lib.hid (ht.below HB.out hs)
  clear h1 ht
  go_wp2_with fail
  refine (spec_l01Spoil s p _ HS.out).mono ?_
  rintro e w3 ⟨a, rfl, h1, ht⟩
  replace HS := Lib.hid h1
  replace HB := Lib.hid (ht.below HB.out hs)
  clear h1 ht
  go_wp2_with fail
  refine (spec_l01Spoil s p _ HS.out).mono ?_
  rintro e w4 ⟨b, rfl, h1, ht⟩
  replace HB := Lib.hid (ht.below HB.out hs)
  clear h1 ht
  go_wp2_with fail
  go_ret3
  exact ⟨p, a, b, rfl, HB.out⟩

theorem spec_DrawNumberText (A : Option Addr) (n c : Nat) (bs : List Int) (w : World) (hb : Bts w A n bs) (hn : n ≤ 4096) :
    Calls Tryd.prog 7 #[.slice A n c] w fun e w' => ∃ p a, e = .returned (.tuple #[.int .i64 p, .int .i64 a]) ∧ Below w.heap.size w w' := by
  have HX := Lib.hid hb
  clear hb
  go_enter Tryd.func7, Tryd.ntmps7
  go_wp2_with fail
  refine (spec_l01Pair A n c bs _ HX.out hn).mono ?_
  rintro e w1 ⟨p, a, b, rfl, hb1⟩
  have HB := Lib.hid hb1
  clear hb1
  go_wp2_with fail
  go_ret2
  exact ⟨p, a, rfl, HB.out⟩

end Go.Proofs.YtcgghjhccnjeoaaDoor
