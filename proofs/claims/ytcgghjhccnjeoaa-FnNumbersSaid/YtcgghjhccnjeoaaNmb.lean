/- The walk of the law on numbers. No condition but those that stand in each theorem. -/
import Derived.Test.YtcgghjhccnjeoaaNmbP
import Derived.Test.YtcgghjhccnjeoaaSqu
import Derived.Test.YtcgghjhccnjeoaaRoll
namespace Go.Proofs.Ytcgghjhccnjeoaa
open Go.RowKit
set_option linter.unusedVariables false
set_option linter.unusedSimpArgs false

theorem spec_IsPrime (p : Int) (w : World) : Calls Try.prog 32 #[.int .i64 p] w fun e w' => e = .returned (.bool (primeB p)) ∧ w = w' := by
  go_enter Try.func32, Try.ntmps32
  go_wp2_with (go_at_call 66; refine (spec_l01Prime _ _).mono ?_; rintro e w' ⟨rfl, rfl⟩)
  go_ret
  exact ⟨rfl, rfl⟩

set_option maxRecDepth 100000 in
set_option maxHeartbeats 4000000 in
theorem nmb_walk (A : Option Addr) (n c : Nat) (bs : List Int) (w : World) (hb : Bts w A n bs) :
    Calls Try.prog 6 #[.slice A n c] w fun e w' => e = .returned (.bool true) ∧ Below w.heap.size w w' := by
  have HX := Lib.hid hb
  have hm := hb.2.1
  clear hb
  by_cases hn : n ≤ 4096
  · have hd : decide (4096 < n) = false := decide_eq_false (by omega)
    go_enter Try.func6, Try.ntmps6
    go_wp2_with fail
    refine (laws_big A n c _ hm).mono ?_
    rw [hd]
    rintro e w' ⟨rfl, rfl⟩
    go_wp2_with fail
    refine (spec_DrawDivideNumbers A n c bs _ HX.out hn).mono ?_
    rintro e w1 ⟨p, a, b, rfl, hb⟩
    have HB := Lib.hid hb
    clear hb hd
    by_cases hc : divC p a b = 0
    · obtain ⟨hcc, hbz⟩ : codeN p [a, b] = 0 ∧ ¬ b = 0 := by
        unfold divC at hc
        by_cases h : codeN p [a, b] = 0
        · rw [if_pos h] at hc
          refine ⟨h, fun e => ?_⟩
          rw [if_pos e] at hc
          omega
        · rw [if_neg h] at hc
          exact absurd hc h
      obtain ⟨hp, hnn⟩ := codeN_zero hcc
      have h0 := prime_lo hp
      have h1 := prime_hi hp
      obtain ⟨⟨ha0, ha1⟩, hb0, hb1⟩ := nums2 hnn
      have hb2 : 1 ≤ b := by omega
      obtain ⟨i0, i1, _, _⟩ := inv_facts hp hb2 hb1
      have HP := Lib.hid hp
      have HC := Lib.hid hc
      -- the quotient
      obtain ⟨q, hq⟩ : ∃ q, (a * invN p b) % p = q := ⟨_, rfl⟩
      have q0 : 0 ≤ q := by rw [← hq]; exact Int.emod_nonneg _ (by omega)
      have q1 : q < p := by rw [← hq]; exact Int.emod_lt_of_pos _ (by omega)
      have E1 := Lib.hid (show divV p a b = q by unfold divV; rw [if_pos hc, hq])
      have hback := back_law hp ha0 ha1 hb2 hb1
      rw [hq] at hback
      have B0 := codeN_two hp q0 q1 hb0 hb1
      have X3 := Lib.hid (show okOr (codeN p [q, b]) ((q * b) % p) = a by unfold okOr; rw [if_pos B0, hback])
      have C3 := Lib.hid B0
      -- the sum
      obtain ⟨s, hs⟩ : ∃ s, (a + b) % p = s := ⟨_, rfl⟩
      have s0 : 0 ≤ s := by rw [← hs]; exact Int.emod_nonneg _ (by omega)
      have s1 : s < p := by rw [← hs]; exact Int.emod_lt_of_pos _ (by omega)
      have X4 := Lib.hid (show okOr (codeN p [a, b]) ((a + b) % p) = s by unfold okOr; rw [if_pos hcc, hs])
      have C4 := Lib.hid hcc
      have B5 := codeN_two hp s0 s1 hb0 hb1
      have hless := less_law (p := p) (a := a) (b := b) ha0 ha1
      rw [hs] at hless
      have X5 := Lib.hid (show okOr (codeN p [s, b]) ((s - b) % p) = a by unfold okOr; rw [if_pos B5, hless])
      have C5 := Lib.hid B5
      have HS := Lib.hid hs
      -- orders
      obtain ⟨k, hk⟩ : ∃ k, orderN p b = k := ⟨_, rfl⟩
      obtain ⟨k0, k1, kp, ku⟩ := order_facts hp hb2 hb1
      have kd := ord_dvd hp hb2 hb1
      rw [hk] at k0 k1 kp ku kd
      have B1 := codeN_one hp hb0 hb1
      have C11 := Lib.hid (show ordC p b = 0 by unfold ordC; rw [if_pos B1, if_neg hbz])
      have X11 := Lib.hid (show ordV p b = k by unfold ordV; rw [if_pos C11.out, hk])
      have KP := Lib.hid kp
      have KU := Lib.hid ku
      have kdt : ((p - 1) % k == 0) = true := by simpa using kd
      have kdf : ((p - 1) % k != 0) = false := by simpa using kd
      obtain ⟨g, hg⟩ : ∃ g, primN p = g := ⟨_, rfl⟩
      obtain ⟨g0, g1, gp, _⟩ := prim_facts hp
      rw [hg] at g0 g1 gp
      have C12 := Lib.hid (show priC p = 0 by unfold priC; rw [if_pos hp])
      have X12 := Lib.hid (show priV p = g by unfold priV; rw [if_pos hp, hg])
      have B13 := codeN_one hp (show 0 ≤ g by omega) g1
      have C13 := Lib.hid (show ordC p g = 0 by unfold ordC; rw [if_pos B13, if_neg (by omega)])
      have X13 := Lib.hid (show ordV p g = p - 1 by unfold ordV; rw [if_pos C13.out, gp])
      have HBZ := Lib.hid hbz
      clear hc hcc hnn hq hback B0 hs B5 hless hk kp ku kd B1 hg gp B13 i0 i1 hbz
      go_wp2_with fail
      refine (impl_DivideNumbers p a b _).mono ?_
      rw [E1.out, HC.out]
      rintro e w2 ⟨rfl, hb⟩
      replace HB := Lib.hid (below_then HB.out hb)
      clear hb
      go_wp2_with fail
      refine (spec_DivideNumbers p a b _).mono ?_
      rw [E1.out, HC.out]
      rintro e w3 ⟨rfl, hb⟩
      replace HB := Lib.hid (below_then HB.out hb)
      clear hb
      go_wp2_with fail
      refine (impl_IsPrime p _).mono ?_
      rw [HP.out]
      rintro e w31 ⟨rfl, rfl⟩
      go_wp2_with fail
      refine (spec_IsPrime p _).mono ?_
      rw [HP.out]
      rintro e w32 ⟨rfl, rfl⟩
      go_wp2_with fail
      refine (laws_roll A n c bs _ (HX.out.keep HB.out) hn).mono ?_
      rintro e w4 ⟨s2, rfl, hs2, hsw, hb⟩
      have HS2 := Lib.hid (Nat.le_trans HB.out.size hs2)
      have HSW := Lib.hid hsw
      replace HB := Lib.hid (below_then HB.out hb)
      clear hb hs2 hsw
      go_wp2_with fail
      refine (dice_w s2 p _ HSW.out).mono ?_
      rintro e w5 ⟨cc, rfl, hcc, hsw, ht⟩
      obtain ⟨c0, c1⟩ := hcc (by omega)
      replace HSW := Lib.hid hsw
      replace HB := Lib.hid (ht.below HB.out HS2.out)
      clear hsw ht hcc
      go_wp2_with fail
      refine (dice_w s2 40 _ HSW.out).mono ?_
      rintro e w6 ⟨m, rfl, hcc, hsw, ht⟩
      obtain ⟨m0, m1⟩ := hcc (by omega)
      replace HSW := Lib.hid hsw
      replace HB := Lib.hid (ht.below HB.out HS2.out)
      clear hsw ht hcc
      go_wp2_with fail
      refine (dice_w s2 40 _ HSW.out).mono ?_
      rintro e w7 ⟨nn, rfl, hcc, hsw, ht⟩
      obtain ⟨n0, n1⟩ := hcc (by omega)
      replace HB := Lib.hid (ht.below HB.out HS2.out)
      clear hsw ht hcc HSW HS2
      -- the products and powers of the draws
      have B6 := codeN_two hp s0 s1 c0 c1
      obtain ⟨l, hl⟩ : ∃ l, (s * cc) % p = l := ⟨_, rfl⟩
      have X6 := Lib.hid (show okOr (codeN p [s, cc]) ((s * cc) % p) = l by unfold okOr; rw [if_pos B6, hl])
      have C6 := Lib.hid B6
      have X10 := Lib.hid (show nofV p (a * cc + b * cc - 7 * p) = l by unfold nofV; rw [if_pos hp, ← left_law, HS.out, hl])
      obtain ⟨r0, r1⟩ := mul_bounds (a := a) (b := cc) (p := p) ha0 ha1 c0 c1 h1
      obtain ⟨r2, r3⟩ := mul_bounds (a := b) (b := cc) (p := p) hb0 hb1 c0 c1 h1
      have P7 := pwV_of (k := m - 20) hp hb2 hb1 (by omega) (by omega)
      have P8 := pwV_of (k := nn - 20) hp hb2 hb1 (by omega) (by omega)
      have P9 := pwV_of (k := m - 20 + (nn - 20)) hp hb2 hb1 (by omega) (by omega)
      have hlaw := pow_law (m := m - 20) (n := nn - 20) hp hb2 hb1 (by omega) (by omega) (by omega) (by omega)
      obtain ⟨x0, x1⟩ := pwI_bounds (b := b) hp (m - 20)
      obtain ⟨y0, y1⟩ := pwI_bounds (b := b) hp (nn - 20)
      obtain ⟨x, hx⟩ : ∃ x, pwI p b (m - 20) = x := ⟨_, rfl⟩
      obtain ⟨y, hy⟩ : ∃ y, pwI p b (nn - 20) = y := ⟨_, rfl⟩
      obtain ⟨z, hz⟩ : ∃ z, pwI p b (m - 20 + (nn - 20)) = z := ⟨_, rfl⟩
      rw [hx] at x0 x1 P7 hlaw
      rw [hy] at y0 y1 P8 hlaw
      rw [hz] at P9 hlaw
      obtain ⟨t0, t1⟩ := mul_bounds (a := x) (b := y) (p := p) x0 x1 y0 y1 h1
      have hzt : ((x * y) % p == z) = true := by simpa using hlaw
      have hzf : ((x * y) % p != z) = false := by simpa using hlaw
      have C7 := Lib.hid P7.1
      have X7 := Lib.hid P7.2
      have C8 := Lib.hid P8.1
      have X8 := Lib.hid P8.2
      have C9 := Lib.hid P9.1
      have X9 := Lib.hid P9.2
      clear B6 hl P7 P8 P9 hlaw hx hy hz hp
      go_wp2_with fail
      refine (impl_MultiplyNumbers p q b _).mono ?_
      rw [X3.out, C3.out]
      rintro e w8 ⟨rfl, hb⟩
      replace HB := Lib.hid (below_then HB.out hb)
      clear hb
      go_wp2_with fail
      refine (impl_AddNumbers p a b _).mono ?_
      rw [X4.out, C4.out]
      rintro e w9 ⟨rfl, hb⟩
      replace HB := Lib.hid (below_then HB.out hb)
      clear hb
      go_wp2_with fail
      refine (impl_SubtractNumbers p s b _).mono ?_
      rw [X5.out, C5.out]
      rintro e w10 ⟨rfl, hb⟩
      replace HB := Lib.hid (below_then HB.out hb)
      clear hb
      go_wp2_with fail
      refine (impl_MultiplyNumbers p s cc _).mono ?_
      rw [X6.out, C6.out]
      rintro e w11 ⟨rfl, hb⟩
      replace HB := Lib.hid (below_then HB.out hb)
      clear hb
      go_wp2_with fail
      refine (impl_PowerNumber p b (m - 20) _).mono ?_
      rw [X7.out, C7.out]
      rintro e w12 ⟨rfl, hb⟩
      replace HB := Lib.hid (below_then HB.out hb)
      clear hb
      go_wp2_with fail
      refine (impl_PowerNumber p b (nn - 20) _).mono ?_
      rw [X8.out, C8.out]
      rintro e w13 ⟨rfl, hb⟩
      replace HB := Lib.hid (below_then HB.out hb)
      clear hb
      go_wp2_with fail
      refine (impl_PowerNumber p b (m - 20 + (nn - 20)) _).mono ?_
      rw [X9.out, C9.out]
      rintro e w14 ⟨rfl, hb⟩
      replace HB := Lib.hid (below_then HB.out hb)
      clear hb
      go_wp2_with fail
      refine (impl_NumberOf p (a * cc + b * cc - 7 * p) _).mono ?_
      rw [X10.out, C12.out]
      rintro e w15 ⟨rfl, rfl⟩
      go_wp2_with fail
      refine (impl_OrderOfNumber p b _).mono ?_
      rw [X11.out, C11.out]
      rintro e w16 ⟨rfl, hb⟩
      replace HB := Lib.hid (below_then HB.out hb)
      clear hb
      go_wp2_with fail
      refine (impl_PrimitiveNumber p _).mono ?_
      rw [X12.out, C12.out]
      rintro e w17 ⟨rfl, rfl⟩
      go_wp2_with fail
      refine (impl_OrderOfNumber p g _).mono ?_
      rw [X13.out, C13.out]
      rintro e w18 ⟨rfl, hb⟩
      replace HB := Lib.hid (below_then HB.out hb)
      clear hb
      go_wp2_with fail
      refine (laws_mod5 p _ _ (by omega) h1).mono ?_
      rintro e w19 ⟨rfl, rfl⟩
      go_wp2_with fail
      go_loop [36, 37] (fun o i => ∃ j : Nat, 1 ≤ j ∧ (j : Int) ≤ k ∧ i = .int .i64 j ∧ o = .int .i64 (powN p b j)) (fun _ i => (k - intOf i).toNat)
      case atStart => exact ⟨1, by omega, by omega, rfl, by rw [powN_one (by omega) hb1]⟩
      case round =>
        obtain ⟨j, hj0, hj1, rfl, rfl⟩ := hrel
        obtain ⟨v0, v1⟩ := powN_bounds (a := b) HP.out j
        obtain ⟨v2, v3⟩ := mul_bounds (a := powN p b j) (b := b) (p := p) v0 v1 hb0 hb1 h1
        by_cases hlt : (j : Int) < k
        · have hne : (powN p b j == 1) = false := by
            have : ¬ powN p b j = 1 := fun h => by have := KU.out j hj0 (by omega) h; omega
            simpa using this
          go_wp2_with fail
          go_round
          case rel => exact ⟨j + 1, by omega, by omega, by go_num, rfl⟩
          case measure => simp [intOf]; omega
        · have hjk : (j : Int) = k := by omega
          have heq : (powN p b j == 1) = true := by
            have := KP.out
            rw [← hjk] at this
            simpa using this
          clear hjk
          go_wp2_with fail
          go_ret
          exact ⟨rfl, HB.out⟩
    · obtain ⟨k, HK⟩ : ∃ k, Hid (divC p a b = k) := ⟨_, Lib.hid rfl⟩
      have E1 := Lib.hid (show divV p a b = 0 from if_neg hc)
      obtain ⟨t, HP⟩ : ∃ t, Hid (primeB p = t) := ⟨_, Lib.hid rfl⟩
      have hk : (k == 0) = false := by rw [← HK.out]; simpa using hc
      have hk2 : (k != 0) = true := by rw [← HK.out]; simpa using hc
      clear hc
      go_wp2_with fail
      refine (impl_DivideNumbers p a b _).mono ?_
      rw [E1.out, HK.out]
      rintro e w2 ⟨rfl, hb⟩
      replace HB := Lib.hid (below_then HB.out hb)
      clear hb
      go_wp2_with fail
      refine (spec_DivideNumbers p a b _).mono ?_
      rw [E1.out, HK.out]
      rintro e w3 ⟨rfl, hb⟩
      replace HB := Lib.hid (below_then HB.out hb)
      clear hb
      go_wp2_with fail
      refine (impl_IsPrime p _).mono ?_
      rw [HP.out]
      rintro e w3 ⟨rfl, rfl⟩
      go_wp2_with fail
      refine (spec_IsPrime p _).mono ?_
      rw [HP.out]
      rintro e w4 ⟨rfl, rfl⟩
      go_wp2_with fail
      go_ret
      exact ⟨rfl, HB.out⟩
  · have hd : decide (4096 < n) = true := decide_eq_true (by omega)
    go_enter Try.func6, Try.ntmps6
    go_wp2_with fail
    refine (laws_big A n c _ hm).mono ?_
    rw [hd]
    rintro e w' ⟨rfl, rfl⟩
    go_wp2_with fail
    go_ret
    exact ⟨rfl, Below.refl _ _⟩
end Go.Proofs.Ytcgghjhccnjeoaa
