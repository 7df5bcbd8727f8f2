/- Contracts: the laws' own dice. Conditions stand in each theorem. -/
import Derived.Test.YtcgghjhccnjeoaaDraw2
namespace Go.Proofs.Ytcgghjhccnjeoaa
open Go.RowKit
set_option linter.unusedVariables false
set_option linter.unusedSimpArgs false

theorem dice_below0 (s : Nat) (m : Int) (w : World) (hm : m < 1) :
    Calls Try.prog 34 #[.pointer (some ⟨s, 0, none⟩), .int .i64 m] w fun e w' => e = .returned (.int .i64 0) ∧ w = w' := by
  go_enter Try.func34, Try.ntmps34
  go_wp2
  go_ret
  exact ⟨rfl, rfl⟩


theorem dice_below (s : Nat) (A : Option Addr) (n c at_ : Nat) (h m : Int) (bs : List Int) (w : World) (hs : Src w s A n c at_ h) (hb : Bts w A n bs) (hA : 0 < n → ∀ a, A = some a → a.block ≠ s) (hn : n ≤ 1000000) (hm : 1 ≤ m) :
    Calls Try.prog 34 #[.pointer (some ⟨s, 0, none⟩), .int .i64 m] w fun e w' => ∃ r, e = .returned (.int .i64 r) ∧ Nxt s A n c at_ h m r w w' := by
  have HSR := Lib.hid hs
  obtain ⟨c0, c1, c2, f1, f2, hle, hh0, hh1⟩ := hs
  have HX := Lib.hid hb
  have HA := Lib.hid hA
  clear hb hA
  have hE : IntKind.u64.wrap (IntKind.u64.wrap (h * 6364136223846793005) + 1442695040888963407) = lcg h := by
    rw [u64_wrap, u64_wrap]; unfold lcg stp; omega
  obtain ⟨g, HG⟩ : ∃ g, Hid (lcg h = g) := ⟨_, Lib.hid rfl⟩
  obtain ⟨g0, g1⟩ := lcg_bounds h
  rw [HG.out] at g0 g1 hE
  obtain ⟨x, HXX⟩ : ∃ x, Hid (lcgX g = x) := ⟨_, Lib.hid rfl⟩
  obtain ⟨x0, x1⟩ := lcgX_bounds g
  have hBB : bits BinOp.and IntKind.u64 (g / 8589934592) 16777215 = x := by
    rw [← HXX.out]
    exact u64_and _ (by omega) (by omega)
  rw [HXX.out] at x0 x1
  have HG1 := Lib.hid g1
  have HH1 := Lib.hid hh1
  clear g1 hh1
  by_cases hlt : at_ < n
  · obtain ⟨b, off, y, rfl, hbl, hyk, hck, hy0, hy1⟩ := HX.out.at_ hlt
    have hck2 := (World.cell?_setCell_far w ⟨s, 2, none⟩ ⟨b, off + at_, none⟩ (.int .u64 g) (fun e => HA.out (by omega) ⟨b, off, none⟩ rfl e.symm)).trans hck
    have hlz : (at_ : Int) < n := by omega
    clear hck hyk hbl
    go_enter Try.func34, Try.ntmps34
    go_wp2
    go_quiet (fail)
    go_wp2
    go_quiet (fail)
    go_wp2
    go_ret
    refine ⟨_, rfl, at_ + 1, ?_, fun _ => rfl, fun h => absurd h (by omega), Int.emod_nonneg _ (by omega), Int.emod_lt_of_pos _ (by omega), ?_⟩
    · rw [HG.out]
      exact src_pos ((src_step HSR.out g0 HG1.out).drewN _) hlt
    · exact (((Tch.refl s w).set 2 _).drewN _).set 1 _
  · obtain rfl : at_ = n := by omega
    go_enter Try.func34, Try.ntmps34
    go_wp2
    go_quiet (fail)
    go_wp2
    go_ret
    refine ⟨_, rfl, at_, ?_, fun h => absurd h (by omega), fun _ => ⟨rfl, ?_⟩, Int.emod_nonneg _ (by omega), Int.emod_lt_of_pos _ (by omega), ?_⟩
    · rw [HG.out]
      exact (src_step HSR.out g0 HG1.out).drewN _
    · rw [HG.out, HXX.out]
    · exact ((Tch.refl s w).set 2 _).drewN _

theorem dice_w (s : Nat) (m : Int) (w : World) (hs : SrcW w s) :
    Calls Try.prog 34 #[.pointer (some ⟨s, 0, none⟩), .int .i64 m] w fun e w' => ∃ r, e = .returned (.int .i64 r) ∧ (1 ≤ m → 0 ≤ r ∧ r < m) ∧ SrcW w' s ∧ Tch s w w' := by
  by_cases hm : 1 ≤ m
  · obtain ⟨A, n, c, at_, k, bs, h1, h2, h3, h4⟩ := hs
    refine (dice_below s A n c at_ k m bs w h1 h2 h3 h4 hm).mono ?_
    rintro e w' ⟨r, rfl, a2, k1, _, _, r0, r1, kt⟩
    exact ⟨r, rfl, fun _ => ⟨r0, r1⟩, ⟨A, n, c, a2, _, bs, k1, h2.tch kt h3, h3, h4⟩, kt⟩
  · refine (dice_below0 s m w (by omega)).mono ?_
    rintro e w' ⟨rfl, rfl⟩
    exact ⟨0, rfl, fun h => absurd h hm, hs, Tch.refl _ _⟩

theorem laws_roll (A : Option Addr) (n c : Nat) (bs : List Int) (w : World) (hb : Bts w A n bs) (hn : n ≤ 4096) :
    Calls Try.prog 33 #[.slice A n c, .int .u64 831] w fun e w' => ∃ s, e = .returned (.pointer (some ⟨s, 0, none⟩)) ∧ w.heap.size ≤ s ∧ SrcW w' s ∧ Below w.heap.size w w' := by
  have HX := Lib.hid hb
  clear hb
  have h831 : IntKind.u64.wrap (831 * 7681) = 6382911 := by decide
  have hq : IntKind.u64.wrap (n : Int) = n := IntWalk.u64_in _ (by omega)
  have hq2 : IntKind.u64.wrap (6382911 + (n : Int)) = 6382911 + n := IntWalk.u64_in _ (by omega)
  have hlo : (0 : Int) ≤ 6382911 + (n : Int) := by omega
  have hhi : (6382911 : Int) + n < 18446744073709551616 := by omega
  have HB0 := Lib.hid (show Below w.heap.size w (w.alloc (.cells #[.slice A n c, .int .i64 0, .int .u64 (6382911 + (n : Int))] 66)) from (Below.refl _ _).alloc (Nat.le_refl _) _)
  have HS0 := Lib.hid (show Src (w.alloc (.cells #[.slice A n c, .int .i64 0, .int .u64 (6382911 + (n : Int))] 66)) w.heap.size A n c 0 (6382911 + (n : Int)) from
    ⟨by simp [go_sem], by simp [go_sem], by simp [go_sem], by simp [go_sem], by simp [go_sem], Nat.zero_le _, hlo, hhi⟩)
  have HA := Lib.hid (show ∀ b off, A = some ⟨b, off, none⟩ → 0 < n → b ≠ w.heap.size by
    intro b off ha hn0
    obtain ⟨b', off', e, hl, _⟩ := HX.out.2.2 hn0
    rw [e] at ha
    injection ha with ha
    injection ha with h1 _
    omega)
  clear hhi hlo
  go_enter Try.func33, Try.ntmps33
  go_wp2
  go_loopw [6] (fun i wr => ∃ k : Nat, ∃ h : Int, k ≤ n ∧ i = .int .i64 k ∧ Hid (Src wr w.heap.size A n c 0 h) ∧ Hid (Tch w.heap.size (w.alloc (.cells #[.slice A n c, .int .i64 0, .int .u64 (6382911 + (n : Int))] 66)) wr)) (fun i _ => n - (intOf i).toNat)
  case atStart => exact ⟨0, _, Nat.zero_le _, rfl, HS0, Lib.hid (Tch.refl _ _)⟩
  case round =>
    obtain ⟨k, h, hk, rfl, HS, HT⟩ := hrel
    by_cases hlt : k < n
    · obtain ⟨b, off, y, hAe, hbl, hyk, hck, hy0, hy1⟩ := HX.out.at_ hlt
      have hbs : b ≠ w.heap.size := HA.out b off hAe (by omega)
      have hck2 := HT.out.cell ((HB0.out.cell (p := ⟨b, off + k, none⟩) hbl).trans hck) hbs
      obtain ⟨c0, c1, c2, f1, f2, _, hh0, hh1⟩ := HS.out
      subst hAe
      have hklt : (k : Int) < n := by omega
      have hk4 : (k : Int) < 4096 := by omega
      have HH1 := Lib.hid hh1
      clear hck hyk hbl c1 f1 hh1
      obtain ⟨g, HG⟩ : ∃ g, Hid (IntKind.u64.wrap (IntKind.u64.wrap (IntKind.u64.wrap (h * 1099511628211) + y) + 5) = g) := ⟨_, Lib.hid rfl⟩
      have HG0 := Lib.hid (show 0 ≤ g ∧ g < 18446744073709551616 by rw [← HG.out, u64_wrap]; omega)
      go_wp2
      go_region
      go_wp2
      go_roundw
      case rel =>
        refine ⟨k + 1, g, by omega, by go_num, Lib.hid ?_, Lib.hid ?_⟩
        · rw [← HG.out]
          rw [← HG.out] at HG0
          exact (src_step HS.out HG0.out.1 HG0.out.2).drew
        · exact (HT.out.set 2 _).drew
      case measure => simp [intOf]; omega
    · go_wp2
      go_ret
      have HB1 := Lib.hid (HT.out.below HB0.out (Nat.le_refl _))
      refine ⟨w.heap.size, rfl, Nat.le_refl _, ⟨A, n, c, 0, h, bs, HS.out, (HX.out.keep HB1.out), fun hn0 a ha => ?_, by omega⟩, HB1.out⟩
      obtain ⟨b, off, e, _⟩ := HX.out.2.2 hn0
      rw [e] at ha
      injection ha with ha
      subst ha
      exact HA.out b off e hn0

end Go.Proofs.Ytcgghjhccnjeoaa
