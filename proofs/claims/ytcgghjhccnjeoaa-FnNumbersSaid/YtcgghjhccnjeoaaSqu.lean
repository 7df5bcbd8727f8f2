/- The walk of the law on squares. No condition but those that stand in each theorem. -/
import Derived.Test.YtcgghjhccnjeoaaSquP
import Derived.Test.YtcgghjhccnjeoaaOps
import Derived.Test.YtcgghjhccnjeoaaDraw2
namespace Go.Proofs.Ytcgghjhccnjeoaa
open Go.RowKit
set_option linter.unusedVariables false
set_option linter.unusedSimpArgs false

theorem laws_big (A : Option Addr) (n c : Nat) (w : World) (hn : n ≤ maxLen) :
    Calls Try.prog 18 #[.slice A n c] w fun e w' => e = .returned (.bool (decide (4096 < n))) ∧ w = w' := by
  unfold maxLen at hn
  by_cases h : 4096 < n
  · have e : decide (4096 < n) = true := decide_eq_true h
    rw [e]
    go_enter Try.func18, Try.ntmps18
    go_wp2
    go_ret
    exact ⟨ret_bool (by simp; omega), rfl⟩
  · have e : decide (4096 < n) = false := decide_eq_false h
    rw [e]
    go_enter Try.func18, Try.ntmps18
    go_wp2
    go_ret
    exact ⟨ret_bool (by simp; omega), rfl⟩

theorem laws_mod5 (p n : Int) (w : World) (h0 : 1 ≤ p) (h1 : p ≤ 13) : Calls Try.prog 27 #[.int .i64 p, .int .i64 n] w fun e w' => e = .returned (.int .i64 (n % p)) ∧ w = w' := by
  have hlo : -p < n.tmod p := Int.lt_tmod_of_pos n (by omega)
  have hhi : n.tmod p < p := Int.tmod_lt_of_pos n (by omega)
  have H := Lib.hid (tmod_num2 p n (by omega))
  go_enter Try.func27, Try.ntmps27
  go_wp2
  go_ret
  exact ⟨ret_int H.out, rfl⟩

set_option maxRecDepth 100000 in
set_option maxHeartbeats 2000000 in
theorem squ_walk (A : Option Addr) (n c : Nat) (bs : List Int) (w : World) (hb : Bts w A n bs) :
    Calls Try.prog 5 #[.slice A n c] w fun e w' => e = .returned (.bool true) ∧ Below w.heap.size w w' := by
  have HX := Lib.hid hb
  have hm := hb.2.1
  clear hb
  by_cases hn : n ≤ 4096
  · have hd : decide (4096 < n) = false := decide_eq_false (by omega)
    go_enter Try.func5, Try.ntmps5
    go_wp2_with fail
    refine (laws_big A n c _ hm).mono ?_
    rw [hd]
    rintro e w' ⟨rfl, rfl⟩
    go_wp2_with fail
    refine (spec_DrawSquareRoot A n c bs _ HX.out hn).mono ?_
    rintro e w1 ⟨p, a, rfl, hb⟩
    have HB := Lib.hid hb
    clear hb hd
    by_cases hc : codeN p [a] = 0
    · obtain ⟨hp, hn1⟩ := codeN_zero hc
      have h0 := prime_lo hp
      have h1 := prime_hi hp
      obtain ⟨ha0, ha1⟩ := nums1 hn1
      obtain ⟨⟨g1, g2, g3, g4, g5, g6⟩, gs, gl⟩ := squ_facts hp ha0 ha1
      have gr := rootN_range (p := p) (a := a) (by omega)
      obtain ⟨x, y, hxy⟩ : ∃ x y, sumN p a = (x, y, 0) := ⟨(sumN p a).1, (sumN p a).2.1, by rw [← g1]⟩
      rw [hxy] at g2 g3 g4 g5 g6
      simp only at g2 g3 g4 g5 g6
      have e4 : ssT p a = (x, y, 0) := by unfold ssT; rw [if_pos hc, hxy]
      obtain ⟨q0, q1⟩ := mul_bounds (a := x) (b := x) (p := p) g2 g3 g2 g3 h1
      obtain ⟨q2, q3⟩ := mul_bounds (a := y) (b := y) (p := p) g4 g5 g4 g5 h1
      have g6t : ((x * x + y * y) % p == a) = true := by simpa using g6
      have g6f : ((x * x + y * y) % p != a) = false := by simpa using g6
      have hk : rangeB ((p - 1) / 2) (-1000) 1000 = true := by simp [rangeB]; omega
      have e6 : pwC p a ((p - 1) / 2) = 0 := by unfold pwC; rw [if_pos hc, if_pos hk, if_neg (by omega)]
      obtain ⟨pw, hpw⟩ : ∃ pw, powN p a ((p - 1) / 2).toNat = pw := ⟨_, rfl⟩
      have e5 : pwV p a ((p - 1) / 2) = pw := by unfold pwV; rw [if_pos e6, if_neg (by omega), hpw]
      rw [hpw] at gs
      clear g1 hk hpw hn1 hp g6
      by_cases ha : a = 0
      · have hat : (a == 0) = true := by simpa using ha
        have hr0 : 0 ≤ rootN p a := gs.2 (.inl ha)
        have gl2 := gl hr0
        have gr2 : 0 ≤ rootN p a ∧ rootN p a < p ∧ (rootN p a * rootN p a) % p = a := by
          rcases gr with h | h
          · omega
          · exact h
        have e2 : srC p a = 0 := by unfold srC; rw [if_pos hc, if_neg (by omega)]
        have e1 : srV p a = rootN p a := by unfold srV; rw [if_pos e2]
        have e3 : sqB p a = true := by unfold sqB; rw [if_pos hc]; exact decide_eq_true hr0
        clear gr gs gl hr0
        generalize rootN p a = r at *
        obtain ⟨r0, r1, r2⟩ := gr2
        obtain ⟨q4, q5⟩ := mul_bounds (a := r) (b := r) (p := p) r0 r1 r0 r1 h1
        have r2t : ((r * r) % p == a) = true := by simpa using r2
        clear r2
        clear ha
        have HXY := Lib.hid hxy
        have E1 := Lib.hid e1
        have E2 := Lib.hid e2
        have E3 := Lib.hid e3
        have E4 := Lib.hid e4
        have E5 := Lib.hid e5
        have E6 := Lib.hid e6
        have HC := Lib.hid hc
        clear e1 e2 e3 e4 e5 e6 hc hxy
        go_wp2_with fail
        refine (impl_SquareRoot p a _).mono ?_
        rw [E1.out, E2.out]
        rintro e w2 ⟨rfl, hb⟩
        replace HB := Lib.hid (below_then HB.out hb)
        clear hb
        go_wp2_with fail
        refine (spec_SquareRoot p a _).mono ?_
        rw [E1.out, E2.out]
        rintro e w3 ⟨rfl, hb⟩
        replace HB := Lib.hid (below_then HB.out hb)
        clear hb
        go_wp2_with fail
        refine (impl_IsSquare p a _).mono ?_
        rw [E3.out, HC.out]
        rintro e w4 ⟨rfl, hb⟩
        replace HB := Lib.hid (below_then HB.out hb)
        clear hb
        go_wp2_with fail
        refine (spec_IsSquare p a _).mono ?_
        rw [E3.out, HC.out]
        rintro e w5 ⟨rfl, hb⟩
        replace HB := Lib.hid (below_then HB.out hb)
        clear hb
        go_wp2_with fail
        refine (impl_SumOfSquares p a _).mono ?_
        rw [E4.out]
        rintro e w6 ⟨rfl, hb⟩
        replace HB := Lib.hid (below_then HB.out hb)
        clear hb
        go_wp2_with fail
        refine (spec_SumOfSquares p a _).mono ?_
        rw [E4.out]
        rintro e w7 ⟨rfl, hb⟩
        replace HB := Lib.hid (below_then HB.out hb)
        clear hb
        go_wp2_with fail
        refine (impl_PowerNumber p a ((p - 1) / 2) _).mono ?_
        rw [E5.out, E6.out]
        rintro e w8 ⟨rfl, hb⟩
        replace HB := Lib.hid (below_then HB.out hb)
        clear hb
        go_wp2_with fail
        refine (laws_mod5 p _ _ (by omega) h1).mono ?_
        rintro e w9 ⟨rfl, rfl⟩
        go_wp2_with fail
        refine (laws_mod5 p _ _ (by omega) h1).mono ?_
        rintro e w10 ⟨rfl, rfl⟩
        go_wp2_with fail
        go_ret
        exact ⟨rfl, HB.out⟩
      · by_cases hpw1 : pw = 1
        · have hat : (a == 0) = false := by simpa using ha
          have hpt : (pw == 1) = true := by simpa using hpw1
          have hr0 : 0 ≤ rootN p a := gs.2 (.inr hpw1)
          have gl2 := gl hr0
          have gr2 : 0 ≤ rootN p a ∧ rootN p a < p ∧ (rootN p a * rootN p a) % p = a := by
            rcases gr with h | h
            · omega
            · exact h
          have e2 : srC p a = 0 := by unfold srC; rw [if_pos hc, if_neg (by omega)]
          have e1 : srV p a = rootN p a := by unfold srV; rw [if_pos e2]
          have e3 : sqB p a = true := by unfold sqB; rw [if_pos hc]; exact decide_eq_true hr0
          clear gr gs gl hr0
          generalize rootN p a = r at *
          obtain ⟨r0, r1, r2⟩ := gr2
          obtain ⟨q4, q5⟩ := mul_bounds (a := r) (b := r) (p := p) r0 r1 r0 r1 h1
          have r2t : ((r * r) % p == a) = true := by simpa using r2
          clear r2
          clear ha hpw1
          have HXY := Lib.hid hxy
          have E1 := Lib.hid e1
          have E2 := Lib.hid e2
          have E3 := Lib.hid e3
          have E4 := Lib.hid e4
          have E5 := Lib.hid e5
          have E6 := Lib.hid e6
          have HC := Lib.hid hc
          clear e1 e2 e3 e4 e5 e6 hc hxy
          go_wp2_with fail
          refine (impl_SquareRoot p a _).mono ?_
          rw [E1.out, E2.out]
          rintro e w2 ⟨rfl, hb⟩
          replace HB := Lib.hid (below_then HB.out hb)
          clear hb
          go_wp2_with fail
          refine (spec_SquareRoot p a _).mono ?_
          rw [E1.out, E2.out]
          rintro e w3 ⟨rfl, hb⟩
          replace HB := Lib.hid (below_then HB.out hb)
          clear hb
          go_wp2_with fail
          refine (impl_IsSquare p a _).mono ?_
          rw [E3.out, HC.out]
          rintro e w4 ⟨rfl, hb⟩
          replace HB := Lib.hid (below_then HB.out hb)
          clear hb
          go_wp2_with fail
          refine (spec_IsSquare p a _).mono ?_
          rw [E3.out, HC.out]
          rintro e w5 ⟨rfl, hb⟩
          replace HB := Lib.hid (below_then HB.out hb)
          clear hb
          go_wp2_with fail
          refine (impl_SumOfSquares p a _).mono ?_
          rw [E4.out]
          rintro e w6 ⟨rfl, hb⟩
          replace HB := Lib.hid (below_then HB.out hb)
          clear hb
          go_wp2_with fail
          refine (spec_SumOfSquares p a _).mono ?_
          rw [E4.out]
          rintro e w7 ⟨rfl, hb⟩
          replace HB := Lib.hid (below_then HB.out hb)
          clear hb
          go_wp2_with fail
          refine (impl_PowerNumber p a ((p - 1) / 2) _).mono ?_
          rw [E5.out, E6.out]
          rintro e w8 ⟨rfl, hb⟩
          replace HB := Lib.hid (below_then HB.out hb)
          clear hb
          go_wp2_with fail
          refine (laws_mod5 p _ _ (by omega) h1).mono ?_
          rintro e w9 ⟨rfl, rfl⟩
          go_wp2_with fail
          refine (laws_mod5 p _ _ (by omega) h1).mono ?_
          rintro e w10 ⟨rfl, rfl⟩
          go_wp2_with fail
          go_ret
          exact ⟨rfl, HB.out⟩
        · have hat : (a == 0) = false := by simpa using ha
          have hpt : (pw == 1) = false := by simpa using hpw1
          have hr0 : rootN p a < 0 := by
            rcases Int.lt_or_le (rootN p a) 0 with h | h
            · exact h
            · rcases gs.1 h with h | h
              · exact absurd h ha
              · exact absurd h hpw1
          have e2 : srC p a = 4 := by unfold srC; rw [if_pos hc, if_pos hr0]
          have e1 : srV p a = 0 := by unfold srV; rw [if_neg (by rw [e2]; decide)]
          have e3 : sqB p a = false := by unfold sqB; rw [if_pos hc]; exact decide_eq_false (by omega)
          clear gr gs gl hr0 ha hpw1
          have HXY := Lib.hid hxy
          have E1 := Lib.hid e1
          have E2 := Lib.hid e2
          have E3 := Lib.hid e3
          have E4 := Lib.hid e4
          have E5 := Lib.hid e5
          have E6 := Lib.hid e6
          have HC := Lib.hid hc
          clear e1 e2 e3 e4 e5 e6 hc hxy
          go_wp2_with fail
          refine (impl_SquareRoot p a _).mono ?_
          rw [E1.out, E2.out]
          rintro e w2 ⟨rfl, hb⟩
          replace HB := Lib.hid (below_then HB.out hb)
          clear hb
          go_wp2_with fail
          refine (spec_SquareRoot p a _).mono ?_
          rw [E1.out, E2.out]
          rintro e w3 ⟨rfl, hb⟩
          replace HB := Lib.hid (below_then HB.out hb)
          clear hb
          go_wp2_with fail
          refine (impl_IsSquare p a _).mono ?_
          rw [E3.out, HC.out]
          rintro e w4 ⟨rfl, hb⟩
          replace HB := Lib.hid (below_then HB.out hb)
          clear hb
          go_wp2_with fail
          refine (spec_IsSquare p a _).mono ?_
          rw [E3.out, HC.out]
          rintro e w5 ⟨rfl, hb⟩
          replace HB := Lib.hid (below_then HB.out hb)
          clear hb
          go_wp2_with fail
          refine (impl_SumOfSquares p a _).mono ?_
          rw [E4.out]
          rintro e w6 ⟨rfl, hb⟩
          replace HB := Lib.hid (below_then HB.out hb)
          clear hb
          go_wp2_with fail
          refine (spec_SumOfSquares p a _).mono ?_
          rw [E4.out]
          rintro e w7 ⟨rfl, hb⟩
          replace HB := Lib.hid (below_then HB.out hb)
          clear hb
          go_wp2_with fail
          refine (impl_PowerNumber p a ((p - 1) / 2) _).mono ?_
          rw [E5.out, E6.out]
          rintro e w8 ⟨rfl, hb⟩
          replace HB := Lib.hid (below_then HB.out hb)
          clear hb
          go_wp2_with fail
          refine (laws_mod5 p _ _ (by omega) h1).mono ?_
          rintro e w9 ⟨rfl, rfl⟩
          go_wp2_with fail
          go_ret
          exact ⟨rfl, HB.out⟩
    · obtain ⟨k, HK⟩ : ∃ k, Hid (codeN p [a] = k) := ⟨_, Lib.hid rfl⟩
      have e1 : srV p a = 0 := by unfold srV srC; rw [if_neg hc, if_neg hc]
      have e2 : srC p a = k := by unfold srC; rw [if_neg hc, HK.out]
      have e3 : sqB p a = false := by unfold sqB; rw [if_neg hc]
      have e4 : ssT p a = (0, 0, k) := by unfold ssT; rw [if_neg hc, HK.out]
      have E1 := Lib.hid e1
      have E2 := Lib.hid e2
      have E3 := Lib.hid e3
      have E4 := Lib.hid e4
      have hk : (k == 0) = false := by rw [← HK.out]; simpa using hc
      have hk2 : (k != 0) = true := by rw [← HK.out]; simpa using hc
      clear e1 e2 e3 e4 hc
      go_wp2_with fail
      refine (impl_SquareRoot p a _).mono ?_
      rw [E1.out, E2.out]
      rintro e w2 ⟨rfl, hb⟩
      replace HB := Lib.hid (below_then HB.out hb)
      clear hb
      go_wp2_with fail
      refine (spec_SquareRoot p a _).mono ?_
      rw [E1.out, E2.out]
      rintro e w3 ⟨rfl, hb⟩
      replace HB := Lib.hid (below_then HB.out hb)
      clear hb
      go_wp2_with fail
      refine (impl_IsSquare p a _).mono ?_
      rw [E3.out, HK.out]
      rintro e w4 ⟨rfl, hb⟩
      replace HB := Lib.hid (below_then HB.out hb)
      clear hb
      go_wp2_with fail
      refine (spec_IsSquare p a _).mono ?_
      rw [E3.out, HK.out]
      rintro e w5 ⟨rfl, hb⟩
      replace HB := Lib.hid (below_then HB.out hb)
      clear hb
      go_wp2_with fail
      refine (impl_SumOfSquares p a _).mono ?_
      rw [E4.out]
      rintro e w6 ⟨rfl, hb⟩
      replace HB := Lib.hid (below_then HB.out hb)
      clear hb
      go_wp2_with fail
      refine (spec_SumOfSquares p a _).mono ?_
      rw [E4.out]
      rintro e w7 ⟨rfl, hb⟩
      replace HB := Lib.hid (below_then HB.out hb)
      clear hb
      go_wp2_with fail
      go_ret
      exact ⟨rfl, HB.out⟩
  · have hd : decide (4096 < n) = true := decide_eq_true (by omega)
    go_enter Try.func5, Try.ntmps5
    go_wp2_with fail
    refine (laws_big A n c _ hm).mono ?_
    rw [hd]
    rintro e w' ⟨rfl, rfl⟩
    go_wp2_with fail
    go_ret
    exact ⟨rfl, Below.refl _ _⟩
end Go.Proofs.Ytcgghjhccnjeoaa
