/- Contracts: how many orthogonal matrices there are. Conditions stand in each theorem. -/
import Derived.Test.YtcieohpbeckjfaaOrthP
import Derived.Test.YtcieohpbeckjfaaWitt2
import Derived.RegionTactic
import Derived.ChangeAlike
import Derived.BigQuiet
namespace Go.Proofs.Ytcieohpbeckjfaa
open Go.RowKit
set_option linter.unusedVariables false
set_option linter.unusedSimpArgs false

theorem impl_whole {p ee v : Int} {e : Nat} (w : World) (hp : primeB p = true) (he : e ≤ 6) (hee : ee = (e : Nat)) (hv : p ^ e = v) :
    Calls Try.prog 91 #[.int .i64 p, .int .i64 ee] w fun x w' => x = .returned (.int .i64 v) ∧ w = w' := by
  subst hv hee
  have HP := Lib.hid hp
  have h0 := prime_lo hp
  have h1 := prime_hi hp
  clear hp
  go_enter Try.func91, Try.ntmps91
  go_wp2
  go_loopw [5, 7] (fun u i wr => ∃ m : Nat, ∃ q : Int, m ≤ e ∧ i = .int .i64 m ∧ u = .int .i64 q ∧ Hid (p ^ m = q) ∧ w = wr) (fun _ i _ => e - (intOf i).toNat)
  case atStart => exact ⟨0, 1, Nat.zero_le _, rfl, rfl, Lib.hid (Int.pow_zero p), (by first | rfl | trivial)⟩
  case round =>
    obtain ⟨m, q, hm, rfl, rfl, HQ, rfl⟩ := hrel
    by_cases hlt : m < e
    · have hme : (m : Int) < e := by omega
      have hf := pow_facts HP.out (show m + 1 ≤ 6 by omega)
      rw [Int.pow_succ, HQ.out] at hf
      obtain ⟨f0, f1⟩ := hf
      go_wp2
      go_roundw
      case rel => exact ⟨m + 1, q * p, by omega, by go_num, rfl, Lib.hid (by rw [Int.pow_succ, HQ.out]), (by first | rfl | trivial)⟩
      case measure => simp [intOf]; omega
    · obtain rfl : e = m := by omega
      go_wp2
      go_ret
      exact ⟨by rw [HQ.out]; rfl, rfl⟩

theorem spec_l08Raise {p ee v : Int} {e : Nat} (w : World) (hp : primeB p = true) (he : e ≤ 6) (hee : ee = (e : Nat)) (hv : p ^ e = v) :
    Calls Try.prog 90 #[.int .i64 p, .int .i64 ee] w fun x w' => x = .returned (.int .i64 v) ∧ w = w' := by
  subst hv hee
  have HP := Lib.hid hp
  have h0 := prime_lo hp
  have h1 := prime_hi hp
  clear hp
  go_enter Try.func90, Try.ntmps90
  go_wp2
  go_loopw [1, 5] (fun i u wr => ∃ m : Nat, ∃ r q : Int, m ≤ e ∧ i = .int .i64 r ∧ Hid (r = (e : Int) - m) ∧ u = .int .i64 q ∧ Hid (p ^ m = q) ∧ w = wr) (fun i _ _ => (intOf i).toNat)
  case atStart => exact ⟨0, e, 1, Nat.zero_le _, rfl, Lib.hid (by omega), rfl, Lib.hid (Int.pow_zero p), (by first | rfl | trivial)⟩
  case round =>
    obtain ⟨m, r, q, hm, rfl, HR, rfl, HQ, rfl⟩ := hrel
    have hR := HR.out
    by_cases hlt : m < e
    · have hme : 0 < r := by omega
      have hr6 : r ≤ 6 := by omega
      clear hR
      have hf := pow_facts HP.out (show m + 1 ≤ 6 by omega)
      rw [Int.pow_succ, HQ.out] at hf
      obtain ⟨f0, f1⟩ := hf
      go_wp2
      go_roundw
      case rel => exact ⟨m + 1, r - 1, q * p, by omega, rfl, Lib.hid (by have := HR.out; omega), rfl, Lib.hid (by rw [Int.pow_succ, HQ.out]), (by first | rfl | trivial)⟩
      case measure => simp [intOf]; omega
    · obtain rfl : e = m := by omega
      have hme : ¬ 0 < r := by omega
      clear hR
      go_wp2
      go_ret
      exact ⟨by rw [HQ.out]; rfl, rfl⟩

set_option maxHeartbeats 2000000 in
theorem spec_l08Count (p : Int) (A : Option Addr) (n c : Nat) (xs : List Int) (w : World) (hx : Ints w A n xs) (hs : spaceB p xs = true) (hr : regB xs = true) :
    Calls Try.prog 74 #[.agg #[.int .i64 p, .slice A n c]] w fun e w' => e = .returned (.int .i64 (ortN p n (wittN p n (discN p xs)))) ∧ Below w.heap.size w w' := by
  have HX := Lib.hid hx
  have hm := hx.2.1
  have HN := Lib.hid hx.1
  clear hx
  unfold maxLen at hm
  have H2 := Lib.hid (show Below w.heap.size w (w.alloc (.cells #[.int .i64 p, .slice A n c] 27)) from (Below.refl _ _).alloc (Nat.le_refl _) _)
  have hs0 := hs
  obtain ⟨hp, hl0, hl1, hn⟩ := spaceB_true hs
  rw [HN.out] at hl0 hl1
  have h0 := prime_lo hp
  have h1 := prime_hi hp
  have HP := Lib.hid hp
  have HM := Lib.hid hn
  have HC := Lib.hid (show codeR p xs = 0 by simp [codeR, hs, hr])
  have HVV := Lib.hid (show wittV p xs = wittN p n (discN p xs) by unfold wittV; rw [if_pos HC.out, HN.out])
  clear hp hn hs hr hs0
  obtain ⟨k, hk⟩ : ∃ k : Nat, k = n / 2 := ⟨_, rfl⟩
  have hki : (n : Int) / 2 = k := by omega
  have hkt : (n : Int).tdiv 2 = k := by rw [Int.tdiv_eq_ediv_of_nonneg (by omega)]; exact hki
  by_cases ho : n % 2 = 1
  · have q1 : (n : Int) % 2 = 1 := by omega
    have q2 : (n : Int).tmod 2 = 1 := by rw [Int.tmod_eq_emod_of_nonneg (by omega)]; exact q1
    have hk2 : k ≤ 2 := by omega
    have HV := Lib.hid (show ortN p n (wittN p n (discN p xs)) = ortOdd p k k by unfold ortN; rw [if_pos ho, hk])
    rw [HV.out]
    have hkk : k * k ≤ 6 := by
      have := Nat.mul_le_mul hk2 hk2; omega
    have HKK := Lib.hid (show (k : Int) * k = ((k * k : Nat) : Int) by rw [Int.natCast_mul])
    obtain ⟨pk, HPK⟩ : ∃ v, Hid (p ^ (k * k) = v) := ⟨_, Lib.hid rfl⟩
    have hpf := pow_facts HP.out hkk
    rw [HPK.out] at hpf
    obtain ⟨pf0, pf1⟩ := hpf
    have kk0 : (0 : Int) ≤ (k : Int) * k ∧ (k : Int) * k ≤ 6 := by rw [HKK.out]; omega
    obtain ⟨kk0, kk1⟩ := kk0
    clear hk ho
    go_enter Try.func74, Try.ntmps74
    have c0 : (w.alloc (.cells #[.int .i64 p, .slice A n c] 27)).cell? ⟨w.heap.size, 0, none⟩ = some (.int .i64 p) := by simp [go_sem]
    have c1 : (w.alloc (.cells #[.int .i64 p, .slice A n c] 27)).cell? ⟨w.heap.size, 1, none⟩ = some (.slice A n c) := by simp [go_sem]
    have HW := Lib.hid (Below.refl (w.alloc (.cells #[.int .i64 p, .slice A n c] 27)).heap.size (w.alloc (.cells #[.int .i64 p, .slice A n c] 27)))
    go_wp2_with fail
    go_quiet (fail)
    go_wp2_with (go_at_call 90; refine (spec_l08Raise _ HP.out (show k * k ≤ 6 by omega) HKK.out HPK.out).mono ?_; rintro e w' ⟨rfl, rfl⟩)
    obtain ⟨o0, HO0⟩ : ∃ v, Hid ((ortOdd p k 0) = v) := ⟨_, Lib.hid rfl⟩
    go_loopw [6, 9] (fun u i wr => ∃ m : Nat, ∃ q r : Int, m ≤ k ∧ i = .int .i64 r ∧ Hid (r = (m : Int) + 1) ∧ u = .int .i64 q ∧ Hid ((ortOdd p k m) = q) ∧ wr.cell? ⟨w.heap.size, 0, none⟩ = some (.int .i64 p) ∧ wr.cell? ⟨w.heap.size, 1, none⟩ = some (.slice A n c) ∧ Below (w.alloc (.cells #[.int .i64 p, .slice A n c] 27)).heap.size (w.alloc (.cells #[.int .i64 p, .slice A n c] 27)) wr) (fun _ i _ => k + 1 - (intOf i).toNat)
    case atStart => exact ⟨0, _, 1, Nat.zero_le _, rfl, Lib.hid rfl, rfl, Lib.hid (by rw [odd_zero, HPK.out]), (by first | exact c0 | simpa using c0), (by first | exact c1 | simpa using c1), (by first | exact HW.out | exact below_drewN HW.out _)⟩
    case round =>
      clear c0 c1 HW
      obtain ⟨m, q, r, hm, rfl, HR, rfl, HQ, c0, c1, hb0⟩ := hrel
      have hr1 := HR.out
      have hr2 : 1 ≤ r := by omega
      have hr3 : r ≤ 4 := by omega
      have HW := Lib.hid hb0
      clear hb0
      by_cases hlt : m < k
      · have hmk : r ≤ (k : Int) := by omega
        have hmk2 : r < (k : Int) + 1 := by omega
        have hmk3 : r ≤ (k : Int) := by omega
        obtain ⟨p2, HP2⟩ : ∃ v, Hid (p ^ (2 * (m + 1)) = v) := ⟨_, Lib.hid rfl⟩
        have hf2 := pow_facts HP.out (show 2 * (m + 1) ≤ 6 by omega)
        rw [HP2.out] at hf2
        obtain ⟨f0, f1⟩ := hf2
        have hf := odd_facts HP.out hk2 (show m + 1 ≤ k by omega)
        rw [odd_step, HQ.out, HP2.out] at hf
        obtain ⟨g0, g1⟩ := hf
        have he2 : 2 * r = ((2 * (m + 1) : Nat) : Int) := by omega
        have HE2 := Lib.hid he2
        clear he2 hr1
        go_wp2_with (go_at_call 90; refine (spec_l08Raise _ HP.out (show 2 * (m + 1) ≤ 6 by omega) HE2.out HP2.out).mono ?_; rintro e w' ⟨rfl, rfl⟩)
        go_roundw
        case rel => exact ⟨m + 1, q * (p2 - 1), r + 1, by omega, rfl, Lib.hid (by have := HR.out; omega), rfl, Lib.hid (by rw [odd_step, HQ.out, HP2.out]), c0, c1, HW.out⟩
        case measure =>
          have hr1 := HR.out
          simp [intOf]; omega
      · obtain rfl : k = m := by omega
        have hmk : ¬ r ≤ (k : Int) := by omega
        have hmk3 : ¬ r ≤ (k : Int) := by omega
        clear hr1
        go_wp2
        go_ret
        exact ⟨by rw [HQ.out]; rfl, (H2.out.trans (HW.out.mono H2.out.size))⟩
  · have q1 : (n : Int) % 2 = 0 := by omega
    have q2 : (n : Int).tmod 2 = 0 := by rw [Int.tmod_eq_emod_of_nonneg (by omega)]; exact q1
    have hk3 : k ≤ 3 := by omega
    have hk1 : 1 ≤ k := by omega
    have hkk6 : k * (k - 1) ≤ 6 := by
      have := Nat.mul_le_mul hk3 (show k - 1 ≤ 2 by omega); omega
    have HKK := Lib.hid (show (k : Int) * ((k : Int) - 1) = ((k * (k - 1) : Nat) : Int) by rw [Int.natCast_mul, Int.natCast_sub hk1]; rfl)
    have kk0 : (0 : Int) ≤ (k : Int) * ((k : Int) - 1) ∧ (k : Int) * ((k : Int) - 1) ≤ 6 := by rw [HKK.out]; omega
    obtain ⟨kk0, kk1⟩ := kk0
    obtain ⟨vw, HVW⟩ : ∃ v, Hid (wittN p n (discN p xs) = v) := ⟨_, Lib.hid rfl⟩
    rw [HVW.out] at HVV ⊢
    obtain ⟨pa, HPK⟩ : ∃ v, Hid (p ^ (k * (k - 1)) = v) := ⟨_, Lib.hid rfl⟩
    obtain ⟨pk, HPk⟩ : ∃ v, Hid (p ^ k = v) := ⟨_, Lib.hid rfl⟩
    cases hvk : decide (vw = (k : Int)) with
    | true =>
      have hvk' : vw = (k : Int) := of_decide_eq_true hvk
      obtain ⟨ww, hww⟩ : ∃ v : Int, v = 1 := ⟨_, rfl⟩
      have HV := Lib.hid (show ortN p n vw = ortEven p k ww (k - 1) by unfold ortN; rw [if_neg (by omega), ← hk, if_pos hvk', hww])
      rw [HV.out]
      have HWW := Lib.hid (show ww = 1 ∨ ww = -1 from Or.inl hww)
      have hef := even_facts2 HP.out HWW.out hk3
      rw [HPK.out, HPk.out] at hef
      obtain ⟨ef0, ef1, ef2, ef3, ef4, ef5, ef6⟩ := hef
      have eg : pa * (pk - ww) * 2 = 2 * pa * (pk - ww) := by grind
      have eg0 : 0 ≤ 2 * pa * (pk - ww) := by omega
      have eg1 : 2 * pa * (pk - ww) ≤ 40000000000 := by omega
      clear hk ho eg hvk
      subst hww
      go_enter Try.func74, Try.ntmps74
      have c0 : (w.alloc (.cells #[.int .i64 p, .slice A n c] 27)).cell? ⟨w.heap.size, 0, none⟩ = some (.int .i64 p) := by simp [go_sem]
      have c1 : (w.alloc (.cells #[.int .i64 p, .slice A n c] 27)).cell? ⟨w.heap.size, 1, none⟩ = some (.slice A n c) := by simp [go_sem]
      have HW := Lib.hid (Below.refl (w.alloc (.cells #[.int .i64 p, .slice A n c] 27)).heap.size (w.alloc (.cells #[.int .i64 p, .slice A n c] 27)))
      go_wp2_with fail
      go_quiet (fail)
      go_wp2_with fail
      refine (spec_l03Witt _ _ _ _ xs _ (HX.out.keep (H2.out.trans ((below_drewN HW.out _).mono H2.out.size))) HP.out hl0 hl1 HM.out).mono ?_
      rw [HVW.out]
      rintro e v ⟨rfl, hb⟩
      replace c0 := keep_cell hb c0
      replace c1 := keep_cell hb c1
      replace HW := Lib.hid (below_then (below_drewN HW.out _) hb)
      clear hb
      go_wp2_with (first
        | (go_at_call 90; with_reducible refine (spec_l08Raise _ HP.out hkk6 HKK.out HPK.out).mono ?_; rintro e w' ⟨rfl, rfl⟩)
        | (go_at_call 90; with_reducible refine (spec_l08Raise _ HP.out (show k ≤ 6 by omega) rfl HPk.out).mono ?_; rintro e w' ⟨rfl, rfl⟩))
      obtain ⟨o0, HO0⟩ : ∃ v, Hid ((ortEven p k 1 0) = v) := ⟨_, Lib.hid rfl⟩
      go_loopw [6, 9] (fun u i wr => ∃ m : Nat, ∃ q r : Int, m ≤ k - 1 ∧ i = .int .i64 r ∧ Hid (r = (m : Int) + 1) ∧ u = .int .i64 q ∧ Hid ((ortEven p k 1 m) = q) ∧ wr.cell? ⟨w.heap.size, 0, none⟩ = some (.int .i64 p) ∧ wr.cell? ⟨w.heap.size, 1, none⟩ = some (.slice A n c) ∧ Below (w.alloc (.cells #[.int .i64 p, .slice A n c] 27)).heap.size (w.alloc (.cells #[.int .i64 p, .slice A n c] 27)) wr) (fun _ i _ => k + 1 - (intOf i).toNat)
      case atStart => exact ⟨0, _, 1, Nat.zero_le _, rfl, Lib.hid rfl, rfl, Lib.hid (by rw [even_zero, HPK.out, HPk.out]; try first | rfl | grind), (by first | exact c0 | simpa using c0), (by first | exact c1 | simpa using c1), (by first | exact HW.out | exact below_drewN HW.out _)⟩
      case round =>
        clear c0 c1 HW
        obtain ⟨m, q, r, hm, rfl, HR, rfl, HQ, c0, c1, hb0⟩ := hrel
        have hr1 := HR.out
        have hr2 : 1 ≤ r := by omega
        have hr3 : r ≤ 4 := by omega
        have HW := Lib.hid hb0
        clear hb0
        by_cases hlt : m < k - 1
        · have hmk : r ≤ ((k : Int) - 1) := by omega
          have hmk2 : r < (k : Int) + 1 := by omega
          have hmk3 : r < (k : Int) := by omega
          obtain ⟨p2, HP2⟩ : ∃ v, Hid (p ^ (2 * (m + 1)) = v) := ⟨_, Lib.hid rfl⟩
          have hf2 := pow_facts HP.out (show 2 * (m + 1) ≤ 6 by omega)
          rw [HP2.out] at hf2
          obtain ⟨f0, f1⟩ := hf2
          have hf := even_facts (w := 1 ) HP.out (by first | exact Or.inl rfl | exact Or.inr rfl) hk3 (show m + 1 < k by omega)
          rw [even_step, HQ.out, HP2.out] at hf
          obtain ⟨g0, g1⟩ := hf
          have he2 : 2 * r = ((2 * (m + 1) : Nat) : Int) := by omega
          have HE2 := Lib.hid he2
          clear he2 hr1
          go_wp2_with (go_at_call 90; refine (spec_l08Raise _ HP.out (show 2 * (m + 1) ≤ 6 by omega) HE2.out HP2.out).mono ?_; rintro e w' ⟨rfl, rfl⟩)
          go_roundw
          case rel => exact ⟨m + 1, q * (p2 - 1), r + 1, by omega, rfl, Lib.hid (by have := HR.out; omega), rfl, Lib.hid (by rw [even_step, HQ.out, HP2.out]), c0, c1, HW.out⟩
          case measure =>
            have hr1 := HR.out
            simp [intOf]; omega
        · obtain rfl : k - 1 = m := by omega
          have hmk : ¬ r ≤ ((k : Int) - 1) := by omega
          have hmk3 : ¬ r < (k : Int) := by omega
          clear hr1
          go_wp2
          go_ret
          exact ⟨by rw [HQ.out]; rfl, (H2.out.trans (HW.out.mono H2.out.size))⟩

    | false =>
      have hvk' : ¬ vw = (k : Int) := of_decide_eq_false hvk
      have hvb : (vw == (k : Int)) = false := by simp; omega
      obtain ⟨ww, hww⟩ : ∃ v : Int, v = -1 := ⟨_, rfl⟩
      have HV := Lib.hid (show ortN p n vw = ortEven p k ww (k - 1) by unfold ortN; rw [if_neg (by omega), ← hk, if_neg hvk', hww])
      rw [HV.out]
      have HWW := Lib.hid (show ww = 1 ∨ ww = -1 from Or.inr hww)
      have hef := even_facts2 HP.out HWW.out hk3
      rw [HPK.out, HPk.out] at hef
      obtain ⟨ef0, ef1, ef2, ef3, ef4, ef5, ef6⟩ := hef
      have eg : pa * (pk - ww) * 2 = 2 * pa * (pk - ww) := by grind
      have eg0 : 0 ≤ 2 * pa * (pk - ww) := by omega
      have eg1 : 2 * pa * (pk - ww) ≤ 40000000000 := by omega
      clear hk ho eg hvk
      subst hww
      rw [show pk - (-1 : Int) = pk + 1 by omega] at ef0 ef1 ef2 eg0 eg1
      go_enter Try.func74, Try.ntmps74
      have c0 : (w.alloc (.cells #[.int .i64 p, .slice A n c] 27)).cell? ⟨w.heap.size, 0, none⟩ = some (.int .i64 p) := by simp [go_sem]
      have c1 : (w.alloc (.cells #[.int .i64 p, .slice A n c] 27)).cell? ⟨w.heap.size, 1, none⟩ = some (.slice A n c) := by simp [go_sem]
      have HW := Lib.hid (Below.refl (w.alloc (.cells #[.int .i64 p, .slice A n c] 27)).heap.size (w.alloc (.cells #[.int .i64 p, .slice A n c] 27)))
      go_wp2_with fail
      go_quiet (fail)
      go_wp2_with fail
      refine (spec_l03Witt _ _ _ _ xs _ (HX.out.keep (H2.out.trans ((below_drewN HW.out _).mono H2.out.size))) HP.out hl0 hl1 HM.out).mono ?_
      rw [HVW.out]
      rintro e v ⟨rfl, hb⟩
      replace c0 := keep_cell hb c0
      replace c1 := keep_cell hb c1
      replace HW := Lib.hid (below_then (below_drewN HW.out _) hb)
      clear hb
      go_wp2_with (first
        | (go_at_call 90; with_reducible refine (spec_l08Raise _ HP.out hkk6 HKK.out HPK.out).mono ?_; rintro e w' ⟨rfl, rfl⟩)
        | (go_at_call 90; with_reducible refine (spec_l08Raise _ HP.out (show k ≤ 6 by omega) rfl HPk.out).mono ?_; rintro e w' ⟨rfl, rfl⟩))
      obtain ⟨o0, HO0⟩ : ∃ v, Hid ((ortEven p k (-1) 0) = v) := ⟨_, Lib.hid rfl⟩
      go_loopw [6, 9] (fun u i wr => ∃ m : Nat, ∃ q r : Int, m ≤ k - 1 ∧ i = .int .i64 r ∧ Hid (r = (m : Int) + 1) ∧ u = .int .i64 q ∧ Hid ((ortEven p k (-1) m) = q) ∧ wr.cell? ⟨w.heap.size, 0, none⟩ = some (.int .i64 p) ∧ wr.cell? ⟨w.heap.size, 1, none⟩ = some (.slice A n c) ∧ Below (w.alloc (.cells #[.int .i64 p, .slice A n c] 27)).heap.size (w.alloc (.cells #[.int .i64 p, .slice A n c] 27)) wr) (fun _ i _ => k + 1 - (intOf i).toNat)
      case atStart => exact ⟨0, _, 1, Nat.zero_le _, rfl, Lib.hid rfl, rfl, Lib.hid (by rw [even_zero, HPK.out, HPk.out]; try first | rfl | grind), (by first | exact c0 | simpa using c0), (by first | exact c1 | simpa using c1), (by first | exact HW.out | exact below_drewN HW.out _)⟩
      case round =>
        clear c0 c1 HW
        obtain ⟨m, q, r, hm, rfl, HR, rfl, HQ, c0, c1, hb0⟩ := hrel
        have hr1 := HR.out
        have hr2 : 1 ≤ r := by omega
        have hr3 : r ≤ 4 := by omega
        have HW := Lib.hid hb0
        clear hb0
        by_cases hlt : m < k - 1
        · have hmk : r ≤ ((k : Int) - 1) := by omega
          have hmk2 : r < (k : Int) + 1 := by omega
          have hmk3 : r < (k : Int) := by omega
          obtain ⟨p2, HP2⟩ : ∃ v, Hid (p ^ (2 * (m + 1)) = v) := ⟨_, Lib.hid rfl⟩
          have hf2 := pow_facts HP.out (show 2 * (m + 1) ≤ 6 by omega)
          rw [HP2.out] at hf2
          obtain ⟨f0, f1⟩ := hf2
          have hf := even_facts (w := (-1) ) HP.out (by first | exact Or.inl rfl | exact Or.inr rfl) hk3 (show m + 1 < k by omega)
          rw [even_step, HQ.out, HP2.out] at hf
          obtain ⟨g0, g1⟩ := hf
          have he2 : 2 * r = ((2 * (m + 1) : Nat) : Int) := by omega
          have HE2 := Lib.hid he2
          clear he2 hr1
          go_wp2_with (go_at_call 90; refine (spec_l08Raise _ HP.out (show 2 * (m + 1) ≤ 6 by omega) HE2.out HP2.out).mono ?_; rintro e w' ⟨rfl, rfl⟩)
          go_roundw
          case rel => exact ⟨m + 1, q * (p2 - 1), r + 1, by omega, rfl, Lib.hid (by have := HR.out; omega), rfl, Lib.hid (by rw [even_step, HQ.out, HP2.out]), c0, c1, HW.out⟩
          case measure =>
            have hr1 := HR.out
            simp [intOf]; omega
        · obtain rfl : k - 1 = m := by omega
          have hmk : ¬ r ≤ ((k : Int) - 1) := by omega
          have hmk3 : ¬ r < (k : Int) := by omega
          clear hr1
          go_wp2
          go_ret
          exact ⟨by rw [HQ.out]; rfl, (H2.out.trans (HW.out.mono H2.out.size))⟩


set_option maxHeartbeats 2000000 in
theorem Space_countOrthogonal (p : Int) (A : Option Addr) (n c : Nat) (xs : List Int) (w : World) (hx : Ints w A n xs) (hs : spaceB p xs = true) (hr : regB xs = true) :
    Calls Try.prog 75 #[.agg #[.int .i64 p, .slice A n c]] w fun e w' => e = .returned (.int .i64 (ortN p n (wittN p n (discN p xs)))) ∧ Below w.heap.size w w' := by
  have HX := Lib.hid hx
  have hm := hx.2.1
  have HN := Lib.hid hx.1
  clear hx
  unfold maxLen at hm
  have H2 := Lib.hid (show Below w.heap.size w (w.alloc (.cells #[.int .i64 p, .slice A n c] 27)) from (Below.refl _ _).alloc (Nat.le_refl _) _)
  have hs0 := hs
  obtain ⟨hp, hl0, hl1, hn⟩ := spaceB_true hs
  rw [HN.out] at hl0 hl1
  have h0 := prime_lo hp
  have h1 := prime_hi hp
  have HP := Lib.hid hp
  have HM := Lib.hid hn
  have HC := Lib.hid (show codeR p xs = 0 by simp [codeR, hs, hr])
  have HVV := Lib.hid (show wittV p xs = wittN p n (discN p xs) by unfold wittV; rw [if_pos HC.out, HN.out])
  clear hp hn hs hr hs0
  obtain ⟨k, hk⟩ : ∃ k : Nat, k = n / 2 := ⟨_, rfl⟩
  have hki : (n : Int) / 2 = k := by omega
  have hkt : (n : Int).tdiv 2 = k := by rw [Int.tdiv_eq_ediv_of_nonneg (by omega)]; exact hki
  by_cases ho : n % 2 = 1
  · have q1 : (n : Int) % 2 = 1 := by omega
    have q2 : (n : Int).tmod 2 = 1 := by rw [Int.tmod_eq_emod_of_nonneg (by omega)]; exact q1
    have hk2 : k ≤ 2 := by omega
    have HV := Lib.hid (show ortN p n (wittN p n (discN p xs)) = ortOdd p k k by unfold ortN; rw [if_pos ho, hk])
    rw [HV.out]
    have hkk : k * k ≤ 6 := by
      have := Nat.mul_le_mul hk2 hk2; omega
    have HKK := Lib.hid (show (k : Int) * k = ((k * k : Nat) : Int) by rw [Int.natCast_mul])
    obtain ⟨pk, HPK⟩ : ∃ v, Hid (p ^ (k * k) = v) := ⟨_, Lib.hid rfl⟩
    have hpf := pow_facts HP.out hkk
    rw [HPK.out] at hpf
    obtain ⟨pf0, pf1⟩ := hpf
    have kk0 : (0 : Int) ≤ (k : Int) * k ∧ (k : Int) * k ≤ 6 := by rw [HKK.out]; omega
    obtain ⟨kk0, kk1⟩ := kk0
    clear hk ho
    go_enter Try.func75, Try.ntmps75
    have c0 : (w.alloc (.cells #[.int .i64 p, .slice A n c] 27)).cell? ⟨w.heap.size, 0, none⟩ = some (.int .i64 p) := by simp [go_sem]
    have c1 : (w.alloc (.cells #[.int .i64 p, .slice A n c] 27)).cell? ⟨w.heap.size, 1, none⟩ = some (.slice A n c) := by simp [go_sem]
    have HW := Lib.hid (Below.refl (w.alloc (.cells #[.int .i64 p, .slice A n c] 27)).heap.size (w.alloc (.cells #[.int .i64 p, .slice A n c] 27)))
    go_wp2_with fail
    refine (Space_dim _ _ _ _ _).mono ?_
    rintro e v ⟨rfl, hb⟩
    replace c0 := keep_cell hb c0
    replace c1 := keep_cell hb c1
    replace HW := Lib.hid (below_then HW.out hb)
    clear hb
    go_wp2_with fail
    refine (Space_dim _ _ _ _ _).mono ?_
    rintro e v ⟨rfl, hb⟩
    replace c0 := keep_cell hb c0
    replace c1 := keep_cell hb c1
    replace HW := Lib.hid (below_then HW.out hb)
    clear hb
    go_wp2_with (go_at_call 91; refine (impl_whole _ HP.out (show k * k ≤ 6 by omega) HKK.out HPK.out).mono ?_; rintro e w' ⟨rfl, rfl⟩)
    obtain ⟨o0, HO0⟩ : ∃ v, Hid ((ortOdd p k 0) = v) := ⟨_, Lib.hid rfl⟩
    go_loopw [4, 5] (fun u i wr => ∃ m : Nat, ∃ q r : Int, m ≤ k ∧ i = .int .i64 r ∧ Hid (r = (m : Int) + 1) ∧ u = .int .i64 q ∧ Hid ((ortOdd p k m) = q) ∧ wr.cell? ⟨w.heap.size, 0, none⟩ = some (.int .i64 p) ∧ wr.cell? ⟨w.heap.size, 1, none⟩ = some (.slice A n c) ∧ Below (w.alloc (.cells #[.int .i64 p, .slice A n c] 27)).heap.size (w.alloc (.cells #[.int .i64 p, .slice A n c] 27)) wr) (fun _ i _ => k + 1 - (intOf i).toNat)
    case atStart => exact ⟨0, _, 1, Nat.zero_le _, rfl, Lib.hid rfl, rfl, Lib.hid (by rw [odd_zero, HPK.out]), (by first | exact c0 | simpa using c0), (by first | exact c1 | simpa using c1), (by first | exact HW.out | exact below_drewN HW.out _)⟩
    case round =>
      clear c0 c1 HW
      obtain ⟨m, q, r, hm, rfl, HR, rfl, HQ, c0, c1, hb0⟩ := hrel
      have hr1 := HR.out
      have hr2 : 1 ≤ r := by omega
      have hr3 : r ≤ 4 := by omega
      have HW := Lib.hid hb0
      clear hb0
      by_cases hlt : m < k
      · have hmk : r ≤ (k : Int) := by omega
        have hmk2 : r < (k : Int) + 1 := by omega
        have hmk3 : r ≤ (k : Int) := by omega
        obtain ⟨p2, HP2⟩ : ∃ v, Hid (p ^ (2 * (m + 1)) = v) := ⟨_, Lib.hid rfl⟩
        have hf2 := pow_facts HP.out (show 2 * (m + 1) ≤ 6 by omega)
        rw [HP2.out] at hf2
        obtain ⟨f0, f1⟩ := hf2
        have hf := odd_facts HP.out hk2 (show m + 1 ≤ k by omega)
        rw [odd_step, HQ.out, HP2.out] at hf
        obtain ⟨g0, g1⟩ := hf
        have he2 : 2 * r = ((2 * (m + 1) : Nat) : Int) := by omega
        have HE2 := Lib.hid he2
        clear he2 hr1
        go_wp2_with (go_at_call 91; refine (impl_whole _ HP.out (show 2 * (m + 1) ≤ 6 by omega) HE2.out HP2.out).mono ?_; rintro e w' ⟨rfl, rfl⟩)
        go_roundw
        case rel => exact ⟨m + 1, q * (p2 - 1), r + 1, by omega, rfl, Lib.hid (by have := HR.out; omega), rfl, Lib.hid (by rw [odd_step, HQ.out, HP2.out]), c0, c1, HW.out⟩
        case measure =>
          have hr1 := HR.out
          simp [intOf]; omega
      · obtain rfl : k = m := by omega
        have hmk : ¬ r ≤ (k : Int) := by omega
        have hmk3 : ¬ r ≤ (k : Int) := by omega
        clear hr1
        go_wp2
        go_ret
        exact ⟨by rw [HQ.out]; rfl, (H2.out.trans (HW.out.mono H2.out.size))⟩
  · have q1 : (n : Int) % 2 = 0 := by omega
    have q2 : (n : Int).tmod 2 = 0 := by rw [Int.tmod_eq_emod_of_nonneg (by omega)]; exact q1
    have hk3 : k ≤ 3 := by omega
    have hk1 : 1 ≤ k := by omega
    have hkk6 : k * (k - 1) ≤ 6 := by
      have := Nat.mul_le_mul hk3 (show k - 1 ≤ 2 by omega); omega
    have HKK := Lib.hid (show (k : Int) * ((k : Int) - 1) = ((k * (k - 1) : Nat) : Int) by rw [Int.natCast_mul, Int.natCast_sub hk1]; rfl)
    have kk0 : (0 : Int) ≤ (k : Int) * ((k : Int) - 1) ∧ (k : Int) * ((k : Int) - 1) ≤ 6 := by rw [HKK.out]; omega
    obtain ⟨kk0, kk1⟩ := kk0
    obtain ⟨vw, HVW⟩ : ∃ v, Hid (wittN p n (discN p xs) = v) := ⟨_, Lib.hid rfl⟩
    rw [HVW.out] at HVV ⊢
    obtain ⟨pa, HPK⟩ : ∃ v, Hid (p ^ (k * (k - 1)) = v) := ⟨_, Lib.hid rfl⟩
    obtain ⟨pk, HPk⟩ : ∃ v, Hid (p ^ k = v) := ⟨_, Lib.hid rfl⟩
    cases hvk : decide (vw = (k : Int)) with
    | true =>
      have hvk' : vw = (k : Int) := of_decide_eq_true hvk
      obtain ⟨ww, hww⟩ : ∃ v : Int, v = 1 := ⟨_, rfl⟩
      have HV := Lib.hid (show ortN p n vw = ortEven p k ww (k - 1) by unfold ortN; rw [if_neg (by omega), ← hk, if_pos hvk', hww])
      rw [HV.out]
      have HWW := Lib.hid (show ww = 1 ∨ ww = -1 from Or.inl hww)
      have hef := even_facts2 HP.out HWW.out hk3
      rw [HPK.out, HPk.out] at hef
      obtain ⟨ef0, ef1, ef2, ef3, ef4, ef5, ef6⟩ := hef
      have eg : pa * (pk - ww) * 2 = 2 * pa * (pk - ww) := by grind
      have eg0 : 0 ≤ 2 * pa * (pk - ww) := by omega
      have eg1 : 2 * pa * (pk - ww) ≤ 40000000000 := by omega
      clear hk ho eg hvk
      subst hww
      go_enter Try.func75, Try.ntmps75
      have c0 : (w.alloc (.cells #[.int .i64 p, .slice A n c] 27)).cell? ⟨w.heap.size, 0, none⟩ = some (.int .i64 p) := by simp [go_sem]
      have c1 : (w.alloc (.cells #[.int .i64 p, .slice A n c] 27)).cell? ⟨w.heap.size, 1, none⟩ = some (.slice A n c) := by simp [go_sem]
      have HW := Lib.hid (Below.refl (w.alloc (.cells #[.int .i64 p, .slice A n c] 27)).heap.size (w.alloc (.cells #[.int .i64 p, .slice A n c] 27)))
      go_wp2_with fail
      refine (Space_dim _ _ _ _ _).mono ?_
      rintro e v ⟨rfl, hb⟩
      replace c0 := keep_cell hb c0
      replace c1 := keep_cell hb c1
      replace HW := Lib.hid (below_then HW.out hb)
      clear hb
      go_wp2_with fail
      refine (Space_dim _ _ _ _ _).mono ?_
      rintro e v ⟨rfl, hb⟩
      replace c0 := keep_cell hb c0
      replace c1 := keep_cell hb c1
      replace HW := Lib.hid (below_then HW.out hb)
      clear hb
      go_wp2_with fail
      refine (impl_WittIndex _ _ _ _ xs _ (HX.out.keep (H2.out.trans (HW.out.mono H2.out.size)))).mono ?_
      rw [HVV.out, HC.out]
      rintro e v ⟨rfl, hb⟩
      replace c0 := keep_cell hb c0
      replace c1 := keep_cell hb c1
      replace HW := Lib.hid (below_then HW.out hb)
      clear hb
      go_wp2_with fail
      go_quiet (first
        | with_reducible exact quiet_left (impl_whole _ HP.out hkk6 HKK.out HPK.out)
        | with_reducible exact quiet_left (impl_whole _ HP.out (show k ≤ 6 by omega) rfl HPk.out))
      go_wp2
      obtain ⟨o0, HO0⟩ : ∃ v, Hid ((ortEven p k 1 0) = v) := ⟨_, Lib.hid rfl⟩
      go_loopw [4, 9] (fun u i wr => ∃ m : Nat, ∃ q r : Int, m ≤ k - 1 ∧ i = .int .i64 r ∧ Hid (r = (m : Int) + 1) ∧ u = .int .i64 q ∧ Hid ((ortEven p k 1 m) = q) ∧ wr.cell? ⟨w.heap.size, 0, none⟩ = some (.int .i64 p) ∧ wr.cell? ⟨w.heap.size, 1, none⟩ = some (.slice A n c) ∧ Below (w.alloc (.cells #[.int .i64 p, .slice A n c] 27)).heap.size (w.alloc (.cells #[.int .i64 p, .slice A n c] 27)) wr) (fun _ i _ => k + 1 - (intOf i).toNat)
      case atStart => exact ⟨0, _, 1, Nat.zero_le _, rfl, Lib.hid rfl, rfl, Lib.hid (by rw [even_zero, HPK.out, HPk.out]; try first | rfl | grind), (by first | exact c0 | simpa using c0), (by first | exact c1 | simpa using c1), (by first | exact HW.out | exact below_drewN HW.out _)⟩
      case round =>
        clear c0 c1 HW
        obtain ⟨m, q, r, hm, rfl, HR, rfl, HQ, c0, c1, hb0⟩ := hrel
        have hr1 := HR.out
        have hr2 : 1 ≤ r := by omega
        have hr3 : r ≤ 4 := by omega
        have HW := Lib.hid hb0
        clear hb0
        by_cases hlt : m < k - 1
        · have hmk : r ≤ ((k : Int) - 1) := by omega
          have hmk2 : r < (k : Int) + 1 := by omega
          have hmk3 : r < (k : Int) := by omega
          obtain ⟨p2, HP2⟩ : ∃ v, Hid (p ^ (2 * (m + 1)) = v) := ⟨_, Lib.hid rfl⟩
          have hf2 := pow_facts HP.out (show 2 * (m + 1) ≤ 6 by omega)
          rw [HP2.out] at hf2
          obtain ⟨f0, f1⟩ := hf2
          have hf := even_facts (w := 1 ) HP.out (by first | exact Or.inl rfl | exact Or.inr rfl) hk3 (show m + 1 < k by omega)
          rw [even_step, HQ.out, HP2.out] at hf
          obtain ⟨g0, g1⟩ := hf
          have he2 : 2 * r = ((2 * (m + 1) : Nat) : Int) := by omega
          have HE2 := Lib.hid he2
          clear he2 hr1
          go_wp2_with (go_at_call 91; refine (impl_whole _ HP.out (show 2 * (m + 1) ≤ 6 by omega) HE2.out HP2.out).mono ?_; rintro e w' ⟨rfl, rfl⟩)
          go_roundw
          case rel => exact ⟨m + 1, q * (p2 - 1), r + 1, by omega, rfl, Lib.hid (by have := HR.out; omega), rfl, Lib.hid (by rw [even_step, HQ.out, HP2.out]), c0, c1, HW.out⟩
          case measure =>
            have hr1 := HR.out
            simp [intOf]; omega
        · obtain rfl : k - 1 = m := by omega
          have hmk : ¬ r ≤ ((k : Int) - 1) := by omega
          have hmk3 : ¬ r < (k : Int) := by omega
          clear hr1
          go_wp2
          go_ret
          exact ⟨by rw [HQ.out]; rfl, (H2.out.trans (HW.out.mono H2.out.size))⟩

    | false =>
      have hvk' : ¬ vw = (k : Int) := of_decide_eq_false hvk
      have hvb : (vw == (k : Int)) = false := by simp; omega
      obtain ⟨ww, hww⟩ : ∃ v : Int, v = -1 := ⟨_, rfl⟩
      have HV := Lib.hid (show ortN p n vw = ortEven p k ww (k - 1) by unfold ortN; rw [if_neg (by omega), ← hk, if_neg hvk', hww])
      rw [HV.out]
      have HWW := Lib.hid (show ww = 1 ∨ ww = -1 from Or.inr hww)
      have hef := even_facts2 HP.out HWW.out hk3
      rw [HPK.out, HPk.out] at hef
      obtain ⟨ef0, ef1, ef2, ef3, ef4, ef5, ef6⟩ := hef
      have eg : pa * (pk - ww) * 2 = 2 * pa * (pk - ww) := by grind
      have eg0 : 0 ≤ 2 * pa * (pk - ww) := by omega
      have eg1 : 2 * pa * (pk - ww) ≤ 40000000000 := by omega
      clear hk ho eg hvk
      subst hww
      rw [show pk - (-1 : Int) = pk + 1 by omega] at ef0 ef1 ef2 eg0 eg1
      go_enter Try.func75, Try.ntmps75
      have c0 : (w.alloc (.cells #[.int .i64 p, .slice A n c] 27)).cell? ⟨w.heap.size, 0, none⟩ = some (.int .i64 p) := by simp [go_sem]
      have c1 : (w.alloc (.cells #[.int .i64 p, .slice A n c] 27)).cell? ⟨w.heap.size, 1, none⟩ = some (.slice A n c) := by simp [go_sem]
      have HW := Lib.hid (Below.refl (w.alloc (.cells #[.int .i64 p, .slice A n c] 27)).heap.size (w.alloc (.cells #[.int .i64 p, .slice A n c] 27)))
      go_wp2_with fail
      refine (Space_dim _ _ _ _ _).mono ?_
      rintro e v ⟨rfl, hb⟩
      replace c0 := keep_cell hb c0
      replace c1 := keep_cell hb c1
      replace HW := Lib.hid (below_then HW.out hb)
      clear hb
      go_wp2_with fail
      refine (Space_dim _ _ _ _ _).mono ?_
      rintro e v ⟨rfl, hb⟩
      replace c0 := keep_cell hb c0
      replace c1 := keep_cell hb c1
      replace HW := Lib.hid (below_then HW.out hb)
      clear hb
      go_wp2_with fail
      refine (impl_WittIndex _ _ _ _ xs _ (HX.out.keep (H2.out.trans (HW.out.mono H2.out.size)))).mono ?_
      rw [HVV.out, HC.out]
      rintro e v ⟨rfl, hb⟩
      replace c0 := keep_cell hb c0
      replace c1 := keep_cell hb c1
      replace HW := Lib.hid (below_then HW.out hb)
      clear hb
      go_wp2_with fail
      go_quiet (first
        | with_reducible exact quiet_left (impl_whole _ HP.out hkk6 HKK.out HPK.out)
        | with_reducible exact quiet_left (impl_whole _ HP.out (show k ≤ 6 by omega) rfl HPk.out))
      go_wp2
      obtain ⟨o0, HO0⟩ : ∃ v, Hid ((ortEven p k (-1) 0) = v) := ⟨_, Lib.hid rfl⟩
      go_loopw [4, 9] (fun u i wr => ∃ m : Nat, ∃ q r : Int, m ≤ k - 1 ∧ i = .int .i64 r ∧ Hid (r = (m : Int) + 1) ∧ u = .int .i64 q ∧ Hid ((ortEven p k (-1) m) = q) ∧ wr.cell? ⟨w.heap.size, 0, none⟩ = some (.int .i64 p) ∧ wr.cell? ⟨w.heap.size, 1, none⟩ = some (.slice A n c) ∧ Below (w.alloc (.cells #[.int .i64 p, .slice A n c] 27)).heap.size (w.alloc (.cells #[.int .i64 p, .slice A n c] 27)) wr) (fun _ i _ => k + 1 - (intOf i).toNat)
      case atStart => exact ⟨0, _, 1, Nat.zero_le _, rfl, Lib.hid rfl, rfl, Lib.hid (by rw [even_zero, HPK.out, HPk.out]; try first | rfl | grind), (by first | exact c0 | simpa using c0), (by first | exact c1 | simpa using c1), (by first | exact HW.out | exact below_drewN HW.out _)⟩
      case round =>
        clear c0 c1 HW
        obtain ⟨m, q, r, hm, rfl, HR, rfl, HQ, c0, c1, hb0⟩ := hrel
        have hr1 := HR.out
        have hr2 : 1 ≤ r := by omega
        have hr3 : r ≤ 4 := by omega
        have HW := Lib.hid hb0
        clear hb0
        by_cases hlt : m < k - 1
        · have hmk : r ≤ ((k : Int) - 1) := by omega
          have hmk2 : r < (k : Int) + 1 := by omega
          have hmk3 : r < (k : Int) := by omega
          obtain ⟨p2, HP2⟩ : ∃ v, Hid (p ^ (2 * (m + 1)) = v) := ⟨_, Lib.hid rfl⟩
          have hf2 := pow_facts HP.out (show 2 * (m + 1) ≤ 6 by omega)
          rw [HP2.out] at hf2
          obtain ⟨f0, f1⟩ := hf2
          have hf := even_facts (w := (-1) ) HP.out (by first | exact Or.inl rfl | exact Or.inr rfl) hk3 (show m + 1 < k by omega)
          rw [even_step, HQ.out, HP2.out] at hf
          obtain ⟨g0, g1⟩ := hf
          have he2 : 2 * r = ((2 * (m + 1) : Nat) : Int) := by omega
          have HE2 := Lib.hid he2
          clear he2 hr1
          go_wp2_with (go_at_call 91; refine (impl_whole _ HP.out (show 2 * (m + 1) ≤ 6 by omega) HE2.out HP2.out).mono ?_; rintro e w' ⟨rfl, rfl⟩)
          go_roundw
          case rel => exact ⟨m + 1, q * (p2 - 1), r + 1, by omega, rfl, Lib.hid (by have := HR.out; omega), rfl, Lib.hid (by rw [even_step, HQ.out, HP2.out]), c0, c1, HW.out⟩
          case measure =>
            have hr1 := HR.out
            simp [intOf]; omega
        · obtain rfl : k - 1 = m := by omega
          have hmk : ¬ r ≤ ((k : Int) - 1) := by omega
          have hmk3 : ¬ r < (k : Int) := by omega
          clear hr1
          go_wp2
          go_ret
          exact ⟨by rw [HQ.out]; rfl, (H2.out.trans (HW.out.mono H2.out.size))⟩


def ortV (p : Int) (xs : List Int) : Int := if codeR p xs = 0 then ortN p xs.length (wittN p xs.length (discN p xs)) else 0

theorem spec_CountOrthogonal (p : Int) (A : Option Addr) (n c : Nat) (xs : List Int) (w : World) (hx : Ints w A n xs) :
    Calls Try.prog 42 #[.agg #[.int .i64 p, .slice A n c]] w fun e w' => e = .returned (.tuple #[.int .i64 (ortV p xs), .int .i64 (codeR p xs)]) ∧ Below w.heap.size w w' := by
  have HX := Lib.hid hx
  have hm := hx.2.1
  have HN := Lib.hid hx.1
  clear hx
  unfold maxLen at hm
  have H2 := Lib.hid (show Below w.heap.size w (w.alloc (.cells #[.int .i64 p, .slice A n c] 27)) from (Below.refl _ _).alloc (Nat.le_refl _) _)
  by_cases hs : spaceB p xs = true
  · obtain ⟨hp, hl0, hl1, hn⟩ := spaceB_true hs
    rw [HN.out] at hl0 hl1
    have h0 := prime_lo hp
    have h1 := prime_hi hp
    have hrd := regB_disc hp hn
    have HP := Lib.hid hp
    have HM := Lib.hid hn
    have HS := Lib.hid hs
    cases hr : regB xs with
    | true =>
      have HC := Lib.hid (show codeR p xs = 0 by simp [codeR, hs, hr])
      have HV := Lib.hid (show ortV p xs = ortN p n (wittN p n (discN p xs)) by unfold ortV; rw [if_pos HC.out, HN.out])
      rw [HV.out, HC.out]
      have hdz : (discN p xs == 0) = false := by rw [hr] at hrd; simpa using hrd
      have HR := Lib.hid hr
      clear hp hn hrd hr hs
      go_enter Try.func42, Try.ntmps42
      have c0 : (w.alloc (.cells #[.int .i64 p, .slice A n c] 27)).cell? ⟨w.heap.size, 0, none⟩ = some (.int .i64 p) := by simp [go_sem]
      have c1 : (w.alloc (.cells #[.int .i64 p, .slice A n c] 27)).cell? ⟨w.heap.size, 1, none⟩ = some (.slice A n c) := by simp [go_sem]
      have HW := Lib.hid (Below.refl (w.alloc (.cells #[.int .i64 p, .slice A n c] 27)).heap.size (w.alloc (.cells #[.int .i64 p, .slice A n c] 27)))
      go_wp2_with fail
      refine (spec_l03Is _ _ _ _ xs _ (HX.out.keep (H2.out.trans (HW.out.mono H2.out.size)))).mono ?_
      rw [HS.out]
      rintro e v ⟨rfl, hb⟩
      replace c0 := keep_cell hb c0
      replace c1 := keep_cell hb c1
      replace HW := Lib.hid (below_then HW.out hb)
      clear hb
      go_wp2_with fail
      refine (spec_l03Disc _ _ _ _ xs _ (HX.out.keep (H2.out.trans (HW.out.mono H2.out.size))) HP.out HM.out).mono ?_
      rintro e v ⟨rfl, hb⟩
      replace c0 := keep_cell hb c0
      replace c1 := keep_cell hb c1
      replace HW := Lib.hid (below_then HW.out hb)
      clear hb
      go_wp2_with fail
      refine (spec_l08Count _ _ _ _ xs _ (HX.out.keep (H2.out.trans (HW.out.mono H2.out.size))) HS.out HR.out).mono ?_
      rintro e v ⟨rfl, hb⟩
      replace c0 := keep_cell hb c0
      replace c1 := keep_cell hb c1
      replace HW := Lib.hid (below_then HW.out hb)
      clear hb
      go_wp2_with fail
      go_ret2
      exact ⟨rfl, (H2.out.trans (HW.out.mono H2.out.size))⟩
    | false =>
      have HC := Lib.hid (show codeR p xs = 5 by simp [codeR, hs, hr])
      have HV := Lib.hid (show ortV p xs = 0 by unfold ortV; rw [if_neg (by rw [HC.out]; omega)])
      rw [HV.out, HC.out]
      have hdz : (discN p xs == 0) = true := by rw [hr] at hrd; simpa using hrd
      have HR := Lib.hid hr
      clear hp hn hrd hr hs
      go_enter Try.func42, Try.ntmps42
      have c0 : (w.alloc (.cells #[.int .i64 p, .slice A n c] 27)).cell? ⟨w.heap.size, 0, none⟩ = some (.int .i64 p) := by simp [go_sem]
      have c1 : (w.alloc (.cells #[.int .i64 p, .slice A n c] 27)).cell? ⟨w.heap.size, 1, none⟩ = some (.slice A n c) := by simp [go_sem]
      have HW := Lib.hid (Below.refl (w.alloc (.cells #[.int .i64 p, .slice A n c] 27)).heap.size (w.alloc (.cells #[.int .i64 p, .slice A n c] 27)))
      go_wp2_with fail
      refine (spec_l03Is _ _ _ _ xs _ (HX.out.keep (H2.out.trans (HW.out.mono H2.out.size)))).mono ?_
      rw [HS.out]
      rintro e v ⟨rfl, hb⟩
      replace c0 := keep_cell hb c0
      replace c1 := keep_cell hb c1
      replace HW := Lib.hid (below_then HW.out hb)
      clear hb
      go_wp2_with fail
      refine (spec_l03Disc _ _ _ _ xs _ (HX.out.keep (H2.out.trans (HW.out.mono H2.out.size))) HP.out HM.out).mono ?_
      rintro e v ⟨rfl, hb⟩
      replace c0 := keep_cell hb c0
      replace c1 := keep_cell hb c1
      replace HW := Lib.hid (below_then HW.out hb)
      clear hb
      go_wp2_with fail
      go_ret2
      exact ⟨rfl, (H2.out.trans (HW.out.mono H2.out.size))⟩
  · have hs' : spaceB p xs = false := by simpa using hs
    have HS := Lib.hid hs'
    have HC := Lib.hid (show codeR p xs = 1 by simp [codeR, hs'])
    have HV := Lib.hid (show ortV p xs = 0 by unfold ortV; rw [if_neg (by rw [HC.out]; omega)])
    rw [HV.out, HC.out]
    clear hs
    go_enter Try.func42, Try.ntmps42
    have c0 : (w.alloc (.cells #[.int .i64 p, .slice A n c] 27)).cell? ⟨w.heap.size, 0, none⟩ = some (.int .i64 p) := by simp [go_sem]
    have c1 : (w.alloc (.cells #[.int .i64 p, .slice A n c] 27)).cell? ⟨w.heap.size, 1, none⟩ = some (.slice A n c) := by simp [go_sem]
    have HW := Lib.hid (Below.refl (w.alloc (.cells #[.int .i64 p, .slice A n c] 27)).heap.size (w.alloc (.cells #[.int .i64 p, .slice A n c] 27)))
    go_wp2_with fail
    refine (spec_l03Is _ _ _ _ xs _ (HX.out.keep (H2.out.trans (HW.out.mono H2.out.size)))).mono ?_
    rw [HS.out]
    rintro e v ⟨rfl, hb⟩
    replace c0 := keep_cell hb c0
    replace c1 := keep_cell hb c1
    replace HW := Lib.hid (below_then HW.out hb)
    clear hb
    go_wp2_with fail
    go_ret2
    exact ⟨rfl, (H2.out.trans (HW.out.mono H2.out.size))⟩

theorem impl_CountOrthogonal (p : Int) (A : Option Addr) (n c : Nat) (xs : List Int) (w : World) (hx : Ints w A n xs) :
    Calls Try.prog 43 #[.agg #[.int .i64 p, .slice A n c]] w fun e w' => e = .returned (.tuple #[.int .i64 (ortV p xs), .int .i64 (codeR p xs)]) ∧ Below w.heap.size w w' := by
  have HX := Lib.hid hx
  have hm := hx.2.1
  have HN := Lib.hid hx.1
  clear hx
  unfold maxLen at hm
  have H2 := Lib.hid (show Below w.heap.size w (w.alloc (.cells #[.int .i64 p, .slice A n c] 27)) from (Below.refl _ _).alloc (Nat.le_refl _) _)
  by_cases hs : spaceB p xs = true
  · obtain ⟨hp, hl0, hl1, hn⟩ := spaceB_true hs
    rw [HN.out] at hl0 hl1
    have h0 := prime_lo hp
    have h1 := prime_hi hp
    have hrd := regB_disc hp hn
    have HP := Lib.hid hp
    have HM := Lib.hid hn
    have HS := Lib.hid hs
    cases hr : regB xs with
    | true =>
      have HC := Lib.hid (show codeR p xs = 0 by simp [codeR, hs, hr])
      have HV := Lib.hid (show ortV p xs = ortN p n (wittN p n (discN p xs)) by unfold ortV; rw [if_pos HC.out, HN.out])
      rw [HV.out, HC.out]
      have hdz : (discN p xs == 0) = false := by rw [hr] at hrd; simpa using hrd
      have HR := Lib.hid hr
      clear hp hn hrd hr hs
      go_enter Try.func43, Try.ntmps43
      have c0 : (w.alloc (.cells #[.int .i64 p, .slice A n c] 27)).cell? ⟨w.heap.size, 0, none⟩ = some (.int .i64 p) := by simp [go_sem]
      have c1 : (w.alloc (.cells #[.int .i64 p, .slice A n c] 27)).cell? ⟨w.heap.size, 1, none⟩ = some (.slice A n c) := by simp [go_sem]
      have HW := Lib.hid (Below.refl (w.alloc (.cells #[.int .i64 p, .slice A n c] 27)).heap.size (w.alloc (.cells #[.int .i64 p, .slice A n c] 27)))
      go_wp2_with fail
      refine (impl_IsSpace _ _ _ _ xs _ (HX.out.keep (H2.out.trans (HW.out.mono H2.out.size)))).mono ?_
      rw [HS.out]
      rintro e v ⟨rfl, hb⟩
      replace c0 := keep_cell hb c0
      replace c1 := keep_cell hb c1
      replace HW := Lib.hid (below_then HW.out hb)
      clear hb
      go_wp2_with fail
      refine (Space_regular _ _ _ _ xs _ (HX.out.keep (H2.out.trans (HW.out.mono H2.out.size)))).mono ?_
      rw [HR.out]
      rintro e v ⟨rfl, hb⟩
      replace c0 := keep_cell hb c0
      replace c1 := keep_cell hb c1
      replace HW := Lib.hid (below_then HW.out hb)
      clear hb
      go_wp2_with fail
      refine (Space_countOrthogonal _ _ _ _ xs _ (HX.out.keep (H2.out.trans (HW.out.mono H2.out.size))) HS.out HR.out).mono ?_
      rintro e v ⟨rfl, hb⟩
      replace c0 := keep_cell hb c0
      replace c1 := keep_cell hb c1
      replace HW := Lib.hid (below_then HW.out hb)
      clear hb
      go_wp2_with fail
      go_ret2
      exact ⟨rfl, (H2.out.trans (HW.out.mono H2.out.size))⟩
    | false =>
      have HC := Lib.hid (show codeR p xs = 5 by simp [codeR, hs, hr])
      have HV := Lib.hid (show ortV p xs = 0 by unfold ortV; rw [if_neg (by rw [HC.out]; omega)])
      rw [HV.out, HC.out]
      have hdz : (discN p xs == 0) = true := by rw [hr] at hrd; simpa using hrd
      have HR := Lib.hid hr
      clear hp hn hrd hr hs
      go_enter Try.func43, Try.ntmps43
      have c0 : (w.alloc (.cells #[.int .i64 p, .slice A n c] 27)).cell? ⟨w.heap.size, 0, none⟩ = some (.int .i64 p) := by simp [go_sem]
      have c1 : (w.alloc (.cells #[.int .i64 p, .slice A n c] 27)).cell? ⟨w.heap.size, 1, none⟩ = some (.slice A n c) := by simp [go_sem]
      have HW := Lib.hid (Below.refl (w.alloc (.cells #[.int .i64 p, .slice A n c] 27)).heap.size (w.alloc (.cells #[.int .i64 p, .slice A n c] 27)))
      go_wp2_with fail
      refine (impl_IsSpace _ _ _ _ xs _ (HX.out.keep (H2.out.trans (HW.out.mono H2.out.size)))).mono ?_
      rw [HS.out]
      rintro e v ⟨rfl, hb⟩
      replace c0 := keep_cell hb c0
      replace c1 := keep_cell hb c1
      replace HW := Lib.hid (below_then HW.out hb)
      clear hb
      go_wp2_with fail
      refine (Space_regular _ _ _ _ xs _ (HX.out.keep (H2.out.trans (HW.out.mono H2.out.size)))).mono ?_
      rw [HR.out]
      rintro e v ⟨rfl, hb⟩
      replace c0 := keep_cell hb c0
      replace c1 := keep_cell hb c1
      replace HW := Lib.hid (below_then HW.out hb)
      clear hb
      go_wp2_with fail
      go_ret2
      exact ⟨rfl, (H2.out.trans (HW.out.mono H2.out.size))⟩
  · have hs' : spaceB p xs = false := by simpa using hs
    have HS := Lib.hid hs'
    have HC := Lib.hid (show codeR p xs = 1 by simp [codeR, hs'])
    have HV := Lib.hid (show ortV p xs = 0 by unfold ortV; rw [if_neg (by rw [HC.out]; omega)])
    rw [HV.out, HC.out]
    clear hs
    go_enter Try.func43, Try.ntmps43
    have c0 : (w.alloc (.cells #[.int .i64 p, .slice A n c] 27)).cell? ⟨w.heap.size, 0, none⟩ = some (.int .i64 p) := by simp [go_sem]
    have c1 : (w.alloc (.cells #[.int .i64 p, .slice A n c] 27)).cell? ⟨w.heap.size, 1, none⟩ = some (.slice A n c) := by simp [go_sem]
    have HW := Lib.hid (Below.refl (w.alloc (.cells #[.int .i64 p, .slice A n c] 27)).heap.size (w.alloc (.cells #[.int .i64 p, .slice A n c] 27)))
    go_wp2_with fail
    refine (impl_IsSpace _ _ _ _ xs _ (HX.out.keep (H2.out.trans (HW.out.mono H2.out.size)))).mono ?_
    rw [HS.out]
    rintro e v ⟨rfl, hb⟩
    replace c0 := keep_cell hb c0
    replace c1 := keep_cell hb c1
    replace HW := Lib.hid (below_then HW.out hb)
    clear hb
    go_wp2_with fail
    go_ret2
    exact ⟨rfl, (H2.out.trans (HW.out.mono H2.out.size))⟩

end Go.Proofs.Ytcieohpbeckjfaa
