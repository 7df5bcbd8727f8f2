/- Contracts: commutative, associative, alternative doublings: the reference's checks. Conditions stand in each theorem. -/
import Derived.Test.YtjfkgocpkjdleaaAssoc
namespace Go.Proofs.Ytjfkgocpkjdleaa
open Go.RowKit
set_option linter.unusedVariables false
set_option linter.unusedSimpArgs false

theorem gapq {p : Int} {st : List Int} {L : Option Addr} {N n c i j k a b : Nat} {g : Int} {w : World} (hl : Lists w L N (basK p st N N)) (hn : n ≤ 4) (hN : 2 ^ n = N) (hi : i < N) (hj : j < N) (hk : k < N) (h0 : 3 ≤ p) (h1 : p ≤ 13) (hg : gapV p st i j k = g) :
    Calls Try.prog 61 #[.int .i64 p, .slice L N c, .int .i64 i, .int .i64 j, .int .i64 k] (w.drewN (b + a)) fun e w' => e = .returned (.int .i64 g) ∧ ∃ m, w' = w.drewN (b + m) :=
  (spec_l11Gap p st L N n c i j k (w.drewN (b + a)) (hl.keep (below_drewN (Below.refl _ _) _)) hn hN hi hj hk h0 h1).mono fun _ _ ⟨he, m, hm⟩ => ⟨by rw [he, hg], a + m, by rw [hm, World.drewN_drewN, Nat.add_assoc]⟩
theorem modq {p n g : Int} {a b : Nat} {w : World} (h0 : 1 ≤ p) (h1 : p ≤ 13) (hg : n % p = g) :
    Calls Try.prog 55 #[.int .i64 p, .int .i64 n] (w.drewN (b + a)) fun e w' => e = .returned (.int .i64 g) ∧ ∃ m, w' = w.drewN (b + m) :=
  (spec_l01Mod p n (w.drewN (b + a)) h0 h1).mono fun _ _ ⟨he, hm⟩ => ⟨by rw [he, hg], a, hm.symm⟩

set_option maxHeartbeats 4000000 in
theorem spec_IsCommutativeDoubling (p : Int) (A : Option Addr) (n c : Nat) (xs : List Int) (w : World) (hx : Ints w A n xs) (hcc : n = c) :
    Calls Try.prog 30 #[.agg #[.int .i64 p, .slice A n c]] w fun e w' => e = .returned (.tuple #[.bool (atB 1 p xs), .int .i64 (codeD p xs 0 [])]) ∧ Below w.heap.size w w' := by
  subst hcc
  have HX := Lib.hid hx
  have hm := hx.2.1
  have HN := Lib.hid hx.1
  clear hx
  unfold maxLen at hm
  have H2 := Lib.hid (show Below w.heap.size w (w.alloc (.cells #[.int .i64 p, .slice A n n] 27)) from (Below.refl _ _).alloc (Nat.le_refl _) _)
  cases hs : dblB p xs with
  | false =>
    have HS := Lib.hid hs
    have HC := Lib.hid (show codeD p xs 0 [] = 1 by simp [codeD, hs])
    have HV := Lib.hid (show atB 1 p xs = false by unfold atB; rw [hs]; rfl)
    rw [HV.out, HC.out]
    clear hs
    go_enter Try.func30, Try.ntmps30
    have c0 : (w.alloc (.cells #[.int .i64 p, .slice A n n] 27)).cell? ⟨w.heap.size, 0, none⟩ = some (.int .i64 p) := by simp [go_sem]
    have c1 : (w.alloc (.cells #[.int .i64 p, .slice A n n] 27)).cell? ⟨w.heap.size, 1, none⟩ = some (.slice A n n) := by simp [go_sem]
    have HW := Lib.hid (Below.refl (w.alloc (.cells #[.int .i64 p, .slice A n n] 27)).heap.size (w.alloc (.cells #[.int .i64 p, .slice A n n] 27)))
    go_wp2_with fail
    refine (spec_l11Is _ _ _ _ xs _ (HX.out.keep (H2.out.trans (HW.out.mono H2.out.size)))).mono ?_
    rw [HS.out]
    rintro e v ⟨rfl, hb⟩
    replace c0 := keep_cell hb c0
    replace c1 := keep_cell hb c1
    replace HW := Lib.hid (below_then HW.out hb)
    clear hb
    go_wp2_with fail
    go_ret2
    exact ⟨rfl, (H2.out.trans (HW.out.mono H2.out.size))⟩
  | true =>
    obtain ⟨hp, _, hn, hst⟩ := dblB_true hs
    rw [HN.out] at hn
    have h0 := prime_lo hp
    have h1 := prime_hi hp
    have HPR := Lib.hid hp
    have HST := Lib.hid hst
    have HSTR := Lib.hid (show stepsB p xs.reverse = true by unfold stepsB at *; rw [List.all_reverse]; exact hst)
    have HLR := Lib.hid (show xs.reverse.length = n by rw [List.length_reverse, HN.out])
    obtain ⟨N, HP⟩ : ∃ q, Hid (2 ^ n = q) := ⟨_, Lib.hid rfl⟩
    have hN16 : N ≤ 16 := by rw [← HP.out]; exact Nat.le_trans (Nat.pow_le_pow_right (by omega) hn) (by decide)
    have HS := Lib.hid hs
    have HC := Lib.hid (show codeD p xs 0 [] = 0 by simp [codeD, hs])
    have HV := Lib.hid (show atB 1 p xs = decide (n ≤ 1) by unfold atB; rw [hs, HN.out]; rfl)
    rw [HV.out, HC.out]
    clear hp hst hs
    go_enter Try.func30, Try.ntmps30
    have c0 : (w.alloc (.cells #[.int .i64 p, .slice A n n] 27)).cell? ⟨w.heap.size, 0, none⟩ = some (.int .i64 p) := by simp [go_sem]
    have c1 : (w.alloc (.cells #[.int .i64 p, .slice A n n] 27)).cell? ⟨w.heap.size, 1, none⟩ = some (.slice A n n) := by simp [go_sem]
    have HW := Lib.hid (Below.refl (w.alloc (.cells #[.int .i64 p, .slice A n n] 27)).heap.size (w.alloc (.cells #[.int .i64 p, .slice A n n] 27)))
    go_wp2_with fail
    refine (spec_l11Is _ _ _ _ xs _ (HX.out.keep (H2.out.trans (HW.out.mono H2.out.size)))).mono ?_
    rw [HS.out]
    rintro e v ⟨rfl, hb⟩
    replace c0 := keep_cell hb c0
    replace c1 := keep_cell hb c1
    replace HW := Lib.hid (below_then HW.out hb)
    clear hb
    go_wp2_with fail
    refine (spec_l11Basis p _ n n N xs _ (HX.out.keep (H2.out.trans (HW.out.mono H2.out.size))) (Nat.le_refl _) HX.out.2.1 hn h0 h1 HST.out HP.out).mono ?_
    rintro e v2 ⟨oo, cs, rfl, hr, hb⟩
    replace c0 := keep_cell hb c0
    replace c1 := keep_cell hb c1
    replace HW := Lib.hid (below_then HW.out hb)
    clear hb
    obtain ⟨L, lc, rfl, hl⟩ := hr.lists (by omega)
    have HL := Lib.hid hl
    have HBW := Lib.hid (H2.out.trans (HW.out.mono H2.out.size))
    clear hr hl
    go_wp2
    go_loopw [5] (fun q1 wr => ∃ i : Nat, i ≤ N ∧ q1 = .int .i64 i ∧ Hid (∀ i', i' < i → ∀ k', k' < N → okC n i' k' = true) ∧ Below v2.heap.size v2 wr) (fun q1 _ => N - (intOf q1).toNat)
    case atStart => exact ⟨0, Nat.zero_le _, rfl, Lib.hid (fun i' hi' => by omega), Below.refl _ _⟩
    case round =>
      obtain ⟨i, hiN, rfl, HI1, hbel⟩ := hrel
      have HB1 := Lib.hid hbel
      have c01 := keep_cell hbel c0
      have c11 := keep_cell hbel c1
      clear hbel
      go_wp2_with fail
      refine (size_at p _ n n N _ (by omega) HP.out).mono ?_
      rintro e wo ⟨rfl, hb⟩
      replace c01 := keep_cell hb c01
      replace c11 := keep_cell hb c11
      replace HB1 := Lib.hid (below_then HB1.out hb)
      clear hb
      by_cases hlt : i < N
      · go_wp2
        go_loopw [6] (fun q2 wr => ∃ j : Nat, j ≤ N ∧ q2 = .int .i64 j ∧ Hid (∀ k', k' < j → okC n i k' = true) ∧ Below v2.heap.size v2 wr) (fun q2 _ => N - (intOf q2).toNat)
        case atStart => exact ⟨0, Nat.zero_le _, rfl, Lib.hid (fun k' hk' => by omega), HB1.out⟩
        case round =>
          obtain ⟨j, hjN, rfl, HI2, hbel⟩ := hrel
          have HB2 := Lib.hid hbel
          have c02 := keep_cell hbel c0
          have c12 := keep_cell hbel c1
          clear hbel
          go_wp2_with fail
          refine (size_at p _ n n N _ (by omega) HP.out).mono ?_
          rintro e wp ⟨rfl, hb⟩
          replace c02 := keep_cell hb c02
          replace c12 := keep_cell hb c12
          replace HB2 := Lib.hid (below_then HB2.out hb)
          clear hb
          by_cases hlt2 : j < N
          · cases hok : okC n i j with
            | true =>
              have HOK := Lib.hid hok
              have HE := Lib.hid (bF_comm (p := p) HPR.out HSTR.out i j)
              obtain ⟨fa, HFA⟩ : ∃ a, Hid (bF p xs.reverse i j = a) := ⟨_, Lib.hid rfl⟩
              obtain ⟨fb, HFB⟩ : ∃ a, Hid (bF p xs.reverse j i = a) := ⟨_, Lib.hid rfl⟩
              have q1 : (fa == fb) = true := by have h := HE.out; rw [HFA.out, HFB.out, HLR.out, HOK.out] at h; exact h
              have q2 : (fa != fb) = false := by rw [bne, q1]; rfl
              clear hok
              go_wp2_with fail
              refine (spec_l11At p xs.reverse _ N _ i j _ (HL.out.keep HB2.out) hlt hlt2).mono ?_
              rw [HFA.out]
              rintro e _v ⟨rfl, rfl⟩
              go_wp2_with fail
              refine (spec_l11At p xs.reverse _ N _ j i _ (HL.out.keep HB2.out) hlt2 hlt).mono ?_
              rw [HFB.out]
              rintro e _v ⟨rfl, rfl⟩
              go_wp2
              go_roundw
              case rel => exact ⟨j + 1, by omega, by go_num, Lib.hid (fun k' hk' => by
                    by_cases e : k' = j
                    · rw [e]; exact HOK.out
                    · exact HI2.out k' (by omega)), HB2.out⟩
              case measure => simp [intOf]; omega
            | false =>
              have HOK := Lib.hid hok
              have HE := Lib.hid (bF_comm (p := p) HPR.out HSTR.out i j)
              obtain ⟨fa, HFA⟩ : ∃ a, Hid (bF p xs.reverse i j = a) := ⟨_, Lib.hid rfl⟩
              obtain ⟨fb, HFB⟩ : ∃ a, Hid (bF p xs.reverse j i = a) := ⟨_, Lib.hid rfl⟩
              have q1 : (fa == fb) = false := by have h := HE.out; rw [HFA.out, HFB.out, HLR.out, HOK.out] at h; exact h
              have q2 : (fa != fb) = true := by rw [bne, q1]; rfl
              have HQ := Lib.hid (finC_false hn (by rw [HP.out]; exact hlt) (by rw [HP.out]; exact hlt2) hok)
              clear hok
              go_wp2_with fail
              refine (spec_l11At p xs.reverse _ N _ i j _ (HL.out.keep HB2.out) hlt hlt2).mono ?_
              rw [HFA.out]
              rintro e _v ⟨rfl, rfl⟩
              go_wp2_with fail
              refine (spec_l11At p xs.reverse _ N _ j i _ (HL.out.keep HB2.out) hlt2 hlt).mono ?_
              rw [HFB.out]
              rintro e _v ⟨rfl, rfl⟩
              go_wp2
              go_ret2
              exact ⟨by rw [HQ.out]; rfl, below_then HBW.out HB2.out⟩
          · obtain rfl : j = N := by omega
            go_wp2
            go_roundw
            case rel => exact ⟨i + 1, by omega, by go_num, Lib.hid (fun i' hi' => by
              by_cases e : i' = i
              · rw [e]; exact HI2.out
              · exact HI1.out i' (by omega)), HB2.out⟩
            case measure => simp [intOf]; omega
      · obtain rfl : i = N := by omega
        have HQ := Lib.hid (finC_true hn (by rw [HP.out]; exact HI1.out))
        go_wp2
        go_ret2
        exact ⟨by rw [HQ.out]; rfl, below_then HBW.out HB1.out⟩

set_option maxHeartbeats 4000000 in
theorem spec_IsAssociativeDoubling (p : Int) (A : Option Addr) (n c : Nat) (xs : List Int) (w : World) (hx : Ints w A n xs) (hcc : n = c) :
    Calls Try.prog 32 #[.agg #[.int .i64 p, .slice A n c]] w fun e w' => e = .returned (.tuple #[.bool (atB 2 p xs), .int .i64 (codeD p xs 0 [])]) ∧ Below w.heap.size w w' := by
  subst hcc
  have HX := Lib.hid hx
  have hm := hx.2.1
  have HN := Lib.hid hx.1
  clear hx
  unfold maxLen at hm
  have H2 := Lib.hid (show Below w.heap.size w (w.alloc (.cells #[.int .i64 p, .slice A n n] 27)) from (Below.refl _ _).alloc (Nat.le_refl _) _)
  cases hs : dblB p xs with
  | false =>
    have HS := Lib.hid hs
    have HC := Lib.hid (show codeD p xs 0 [] = 1 by simp [codeD, hs])
    have HV := Lib.hid (show atB 2 p xs = false by unfold atB; rw [hs]; rfl)
    rw [HV.out, HC.out]
    clear hs
    go_enter Try.func32, Try.ntmps32
    have c0 : (w.alloc (.cells #[.int .i64 p, .slice A n n] 27)).cell? ⟨w.heap.size, 0, none⟩ = some (.int .i64 p) := by simp [go_sem]
    have c1 : (w.alloc (.cells #[.int .i64 p, .slice A n n] 27)).cell? ⟨w.heap.size, 1, none⟩ = some (.slice A n n) := by simp [go_sem]
    have HW := Lib.hid (Below.refl (w.alloc (.cells #[.int .i64 p, .slice A n n] 27)).heap.size (w.alloc (.cells #[.int .i64 p, .slice A n n] 27)))
    go_wp2_with fail
    refine (spec_l11Is _ _ _ _ xs _ (HX.out.keep (H2.out.trans (HW.out.mono H2.out.size)))).mono ?_
    rw [HS.out]
    rintro e v ⟨rfl, hb⟩
    replace c0 := keep_cell hb c0
    replace c1 := keep_cell hb c1
    replace HW := Lib.hid (below_then HW.out hb)
    clear hb
    go_wp2_with fail
    go_ret2
    exact ⟨rfl, (H2.out.trans (HW.out.mono H2.out.size))⟩
  | true =>
    obtain ⟨hp, _, hn, hst⟩ := dblB_true hs
    rw [HN.out] at hn
    have h0 := prime_lo hp
    have h1 := prime_hi hp
    have HPR := Lib.hid hp
    have HST := Lib.hid hst
    have HSTR := Lib.hid (show stepsB p xs.reverse = true by unfold stepsB at *; rw [List.all_reverse]; exact hst)
    have HLR := Lib.hid (show xs.reverse.length = n by rw [List.length_reverse, HN.out])
    obtain ⟨N, HP⟩ : ∃ q, Hid (2 ^ n = q) := ⟨_, Lib.hid rfl⟩
    have hN16 : N ≤ 16 := by rw [← HP.out]; exact Nat.le_trans (Nat.pow_le_pow_right (by omega) hn) (by decide)
    have HS := Lib.hid hs
    have HC := Lib.hid (show codeD p xs 0 [] = 0 by simp [codeD, hs])
    have HV := Lib.hid (show atB 2 p xs = decide (n ≤ 2) by unfold atB; rw [hs, HN.out]; rfl)
    rw [HV.out, HC.out]
    clear hp hst hs
    go_enter Try.func32, Try.ntmps32
    have c0 : (w.alloc (.cells #[.int .i64 p, .slice A n n] 27)).cell? ⟨w.heap.size, 0, none⟩ = some (.int .i64 p) := by simp [go_sem]
    have c1 : (w.alloc (.cells #[.int .i64 p, .slice A n n] 27)).cell? ⟨w.heap.size, 1, none⟩ = some (.slice A n n) := by simp [go_sem]
    have HW := Lib.hid (Below.refl (w.alloc (.cells #[.int .i64 p, .slice A n n] 27)).heap.size (w.alloc (.cells #[.int .i64 p, .slice A n n] 27)))
    go_wp2_with fail
    refine (spec_l11Is _ _ _ _ xs _ (HX.out.keep (H2.out.trans (HW.out.mono H2.out.size)))).mono ?_
    rw [HS.out]
    rintro e v ⟨rfl, hb⟩
    replace c0 := keep_cell hb c0
    replace c1 := keep_cell hb c1
    replace HW := Lib.hid (below_then HW.out hb)
    clear hb
    go_wp2_with fail
    refine (spec_l11Basis p _ n n N xs _ (HX.out.keep (H2.out.trans (HW.out.mono H2.out.size))) (Nat.le_refl _) HX.out.2.1 hn h0 h1 HST.out HP.out).mono ?_
    rintro e v2 ⟨oo, cs, rfl, hr, hb⟩
    replace c0 := keep_cell hb c0
    replace c1 := keep_cell hb c1
    replace HW := Lib.hid (below_then HW.out hb)
    clear hb
    obtain ⟨L, lc, rfl, hl⟩ := hr.lists (by omega)
    have HL := Lib.hid hl
    have HBW := Lib.hid (H2.out.trans (HW.out.mono H2.out.size))
    clear hr hl
    go_wp2
    go_loopw [5] (fun q1 wr => ∃ i : Nat, i ≤ N ∧ q1 = .int .i64 i ∧ Hid (∀ i', i' < i → ∀ j', j' < N → ∀ k', k' < N → okA n i' j' k' = true) ∧ Below v2.heap.size v2 wr) (fun q1 _ => N - (intOf q1).toNat)
    case atStart => exact ⟨0, Nat.zero_le _, rfl, Lib.hid (fun i' hi' => by omega), Below.refl _ _⟩
    case round =>
      obtain ⟨i, hiN, rfl, HI1, hbel⟩ := hrel
      have HB1 := Lib.hid hbel
      have c01 := keep_cell hbel c0
      have c11 := keep_cell hbel c1
      clear hbel
      go_wp2_with fail
      refine (size_at p _ n n N _ (by omega) HP.out).mono ?_
      rintro e wo ⟨rfl, hb⟩
      replace c01 := keep_cell hb c01
      replace c11 := keep_cell hb c11
      replace HB1 := Lib.hid (below_then HB1.out hb)
      clear hb
      by_cases hlt : i < N
      · go_wp2
        go_loopw [6] (fun q2 wr => ∃ j : Nat, j ≤ N ∧ q2 = .int .i64 j ∧ Hid (∀ j', j' < j → ∀ k', k' < N → okA n i j' k' = true) ∧ Below v2.heap.size v2 wr) (fun q2 _ => N - (intOf q2).toNat)
        case atStart => exact ⟨0, Nat.zero_le _, rfl, Lib.hid (fun j' hj' => by omega), HB1.out⟩
        case round =>
          obtain ⟨j, hjN, rfl, HI2, hbel⟩ := hrel
          have HB2 := Lib.hid hbel
          have c02 := keep_cell hbel c0
          have c12 := keep_cell hbel c1
          clear hbel
          go_wp2_with fail
          refine (size_at p _ n n N _ (by omega) HP.out).mono ?_
          rintro e wp ⟨rfl, hb⟩
          replace c02 := keep_cell hb c02
          replace c12 := keep_cell hb c12
          replace HB2 := Lib.hid (below_then HB2.out hb)
          clear hb
          by_cases hlt2 : j < N
          · go_wp2
            go_loopw [7] (fun q3 wr => ∃ k : Nat, k ≤ N ∧ q3 = .int .i64 k ∧ Hid (∀ k', k' < k → okA n i j k' = true) ∧ Below v2.heap.size v2 wr) (fun q3 _ => N - (intOf q3).toNat)
            case atStart => exact ⟨0, Nat.zero_le _, rfl, Lib.hid (fun k' hk' => by omega), HB2.out⟩
            case round =>
              obtain ⟨k, hkN, rfl, HI3, hbel⟩ := hrel
              have HB3 := Lib.hid hbel
              have c03 := keep_cell hbel c0
              have c13 := keep_cell hbel c1
              clear hbel
              go_wp2_with fail
              refine (size_at p _ n n N _ (by omega) HP.out).mono ?_
              rintro e wp3 ⟨rfl, hb⟩
              replace c03 := keep_cell hb c03
              replace c13 := keep_cell hb c13
              replace HB3 := Lib.hid (below_then HB3.out hb)
              clear hb
              by_cases hlt3 : k < N
              · cases hok : okA n i j k with
                | true =>
                  have HOK := Lib.hid hok
                  obtain ⟨ga, HGA⟩ : ∃ a, Hid (gapV p xs.reverse i j k = a) := ⟨_, Lib.hid rfl⟩
                  have q1 : (ga == 0) = true := by
                    have h := gap_zero (p := p) HPR.out HSTR.out (by rw [HLR.out]; exact hn) (i := i) (j := j) (k := k) (by rw [HLR.out, HP.out]; exact hlt) (by rw [HLR.out, HP.out]; exact hlt2) (by rw [HLR.out, HP.out]; exact hlt3)
                    rw [HGA.out, HLR.out, HOK.out] at h; exact h
                  have q2 : (ga != 0) = false := by rw [bne, q1]; rfl
                  clear hok
                  go_wp2_with fail
                  refine (spec_l11Gap p xs.reverse _ N n _ i j k _ (HL.out.keep HB3.out) hn HP.out hlt hlt2 hlt3 h0 h1).mono ?_
                  rw [HGA.out]
                  rintro e _v ⟨rfl, mm, rfl⟩
                  go_wp2
                  go_roundw
                  case rel => exact ⟨k + 1, by omega, by go_num, Lib.hid (fun k' hk' => by
                        by_cases e : k' = k
                        · rw [e]; exact HOK.out
                        · exact HI3.out k' (by omega)), below_drewN HB3.out _⟩
                  case measure => simp [intOf]; omega
                | false =>
                  have HOK := Lib.hid hok
                  obtain ⟨ga, HGA⟩ : ∃ a, Hid (gapV p xs.reverse i j k = a) := ⟨_, Lib.hid rfl⟩
                  have q1 : (ga == 0) = false := by
                    have h := gap_zero (p := p) HPR.out HSTR.out (by rw [HLR.out]; exact hn) (i := i) (j := j) (k := k) (by rw [HLR.out, HP.out]; exact hlt) (by rw [HLR.out, HP.out]; exact hlt2) (by rw [HLR.out, HP.out]; exact hlt3)
                    rw [HGA.out, HLR.out, HOK.out] at h; exact h
                  have q2 : (ga != 0) = true := by rw [bne, q1]; rfl
                  have HQ := Lib.hid (finA_false hn (by rw [HP.out]; exact hlt) (by rw [HP.out]; exact hlt2) (by rw [HP.out]; exact hlt3) hok)
                  clear hok
                  go_wp2_with fail
                  refine (spec_l11Gap p xs.reverse _ N n _ i j k _ (HL.out.keep HB3.out) hn HP.out hlt hlt2 hlt3 h0 h1).mono ?_
                  rw [HGA.out]
                  rintro e _v ⟨rfl, mm, rfl⟩
                  go_wp2
                  go_ret2
                  exact ⟨by rw [HQ.out]; rfl, below_drewN (below_then HBW.out HB3.out) _⟩
              · obtain rfl : k = N := by omega
                go_wp2
                go_roundw
                case rel => exact ⟨j + 1, by omega, by go_num, Lib.hid (fun j' hj' => by
                  by_cases e : j' = j
                  · rw [e]; exact HI3.out
                  · exact HI2.out j' (by omega)), HB3.out⟩
                case measure => simp [intOf]; omega
          · obtain rfl : j = N := by omega
            go_wp2
            go_roundw
            case rel => exact ⟨i + 1, by omega, by go_num, Lib.hid (fun i' hi' => by
              by_cases e : i' = i
              · rw [e]; exact HI2.out
              · exact HI1.out i' (by omega)), HB2.out⟩
            case measure => simp [intOf]; omega
      · obtain rfl : i = N := by omega
        have HQ := Lib.hid (finA_true hn (by rw [HP.out]; exact HI1.out))
        go_wp2
        go_ret2
        exact ⟨by rw [HQ.out]; rfl, below_then HBW.out HB1.out⟩

set_option maxHeartbeats 4000000 in
theorem spec_IsAlternativeDoubling (p : Int) (A : Option Addr) (n c : Nat) (xs : List Int) (w : World) (hx : Ints w A n xs) (hcc : n = c) :
    Calls Try.prog 34 #[.agg #[.int .i64 p, .slice A n c]] w fun e w' => e = .returned (.tuple #[.bool (atB 3 p xs), .int .i64 (codeD p xs 0 [])]) ∧ Below w.heap.size w w' := by
  subst hcc
  have HX := Lib.hid hx
  have hm := hx.2.1
  have HN := Lib.hid hx.1
  clear hx
  unfold maxLen at hm
  have H2 := Lib.hid (show Below w.heap.size w (w.alloc (.cells #[.int .i64 p, .slice A n n] 27)) from (Below.refl _ _).alloc (Nat.le_refl _) _)
  cases hs : dblB p xs with
  | false =>
    have HS := Lib.hid hs
    have HC := Lib.hid (show codeD p xs 0 [] = 1 by simp [codeD, hs])
    have HV := Lib.hid (show atB 3 p xs = false by unfold atB; rw [hs]; rfl)
    rw [HV.out, HC.out]
    clear hs
    go_enter Try.func34, Try.ntmps34
    have c0 : (w.alloc (.cells #[.int .i64 p, .slice A n n] 27)).cell? ⟨w.heap.size, 0, none⟩ = some (.int .i64 p) := by simp [go_sem]
    have c1 : (w.alloc (.cells #[.int .i64 p, .slice A n n] 27)).cell? ⟨w.heap.size, 1, none⟩ = some (.slice A n n) := by simp [go_sem]
    have HW := Lib.hid (Below.refl (w.alloc (.cells #[.int .i64 p, .slice A n n] 27)).heap.size (w.alloc (.cells #[.int .i64 p, .slice A n n] 27)))
    go_wp2_with fail
    refine (spec_l11Is _ _ _ _ xs _ (HX.out.keep (H2.out.trans (HW.out.mono H2.out.size)))).mono ?_
    rw [HS.out]
    rintro e v ⟨rfl, hb⟩
    replace c0 := keep_cell hb c0
    replace c1 := keep_cell hb c1
    replace HW := Lib.hid (below_then HW.out hb)
    clear hb
    go_wp2_with fail
    go_ret2
    exact ⟨rfl, (H2.out.trans (HW.out.mono H2.out.size))⟩
  | true =>
    obtain ⟨hp, _, hn, hst⟩ := dblB_true hs
    rw [HN.out] at hn
    have h0 := prime_lo hp
    have h1 := prime_hi hp
    have HPR := Lib.hid hp
    have HST := Lib.hid hst
    have HSTR := Lib.hid (show stepsB p xs.reverse = true by unfold stepsB at *; rw [List.all_reverse]; exact hst)
    have HLR := Lib.hid (show xs.reverse.length = n by rw [List.length_reverse, HN.out])
    obtain ⟨N, HP⟩ : ∃ q, Hid (2 ^ n = q) := ⟨_, Lib.hid rfl⟩
    have hN16 : N ≤ 16 := by rw [← HP.out]; exact Nat.le_trans (Nat.pow_le_pow_right (by omega) hn) (by decide)
    have HS := Lib.hid hs
    have HC := Lib.hid (show codeD p xs 0 [] = 0 by simp [codeD, hs])
    have HV := Lib.hid (show atB 3 p xs = decide (n ≤ 3) by unfold atB; rw [hs, HN.out]; rfl)
    rw [HV.out, HC.out]
    clear hp hst hs
    go_enter Try.func34, Try.ntmps34
    have c0 : (w.alloc (.cells #[.int .i64 p, .slice A n n] 27)).cell? ⟨w.heap.size, 0, none⟩ = some (.int .i64 p) := by simp [go_sem]
    have c1 : (w.alloc (.cells #[.int .i64 p, .slice A n n] 27)).cell? ⟨w.heap.size, 1, none⟩ = some (.slice A n n) := by simp [go_sem]
    have HW := Lib.hid (Below.refl (w.alloc (.cells #[.int .i64 p, .slice A n n] 27)).heap.size (w.alloc (.cells #[.int .i64 p, .slice A n n] 27)))
    go_wp2_with fail
    refine (spec_l11Is _ _ _ _ xs _ (HX.out.keep (H2.out.trans (HW.out.mono H2.out.size)))).mono ?_
    rw [HS.out]
    rintro e v ⟨rfl, hb⟩
    replace c0 := keep_cell hb c0
    replace c1 := keep_cell hb c1
    replace HW := Lib.hid (below_then HW.out hb)
    clear hb
    go_wp2_with fail
    refine (spec_l11Basis p _ n n N xs _ (HX.out.keep (H2.out.trans (HW.out.mono H2.out.size))) (Nat.le_refl _) HX.out.2.1 hn h0 h1 HST.out HP.out).mono ?_
    rintro e v2 ⟨oo, cs, rfl, hr, hb⟩
    replace c0 := keep_cell hb c0
    replace c1 := keep_cell hb c1
    replace HW := Lib.hid (below_then HW.out hb)
    clear hb
    obtain ⟨L, lc, rfl, hl⟩ := hr.lists (by omega)
    have HL := Lib.hid hl
    have HBW := Lib.hid (H2.out.trans (HW.out.mono H2.out.size))
    clear hr hl
    go_wp2
    go_loopw [5] (fun q1 wr => ∃ i : Nat, i ≤ N ∧ q1 = .int .i64 i ∧ Hid (∀ i', i' < i → ∀ j', j' < N → ∀ k', k' < N → okL n i' j' k' = true) ∧ Below v2.heap.size v2 wr) (fun q1 _ => N - (intOf q1).toNat)
    case atStart => exact ⟨0, Nat.zero_le _, rfl, Lib.hid (fun i' hi' => by omega), Below.refl _ _⟩
    case round =>
      obtain ⟨i, hiN, rfl, HI1, hbel⟩ := hrel
      have HB1 := Lib.hid hbel
      have c01 := keep_cell hbel c0
      have c11 := keep_cell hbel c1
      clear hbel
      go_wp2_with fail
      refine (size_at p _ n n N _ (by omega) HP.out).mono ?_
      rintro e wo ⟨rfl, hb⟩
      replace c01 := keep_cell hb c01
      replace c11 := keep_cell hb c11
      replace HB1 := Lib.hid (below_then HB1.out hb)
      clear hb
      by_cases hlt : i < N
      · go_wp2
        go_loopw [6] (fun q2 wr => ∃ j : Nat, j ≤ N ∧ q2 = .int .i64 j ∧ Hid (∀ j', j' < j → ∀ k', k' < N → okL n i j' k' = true) ∧ Below v2.heap.size v2 wr) (fun q2 _ => N - (intOf q2).toNat)
        case atStart => exact ⟨0, Nat.zero_le _, rfl, Lib.hid (fun j' hj' => by omega), HB1.out⟩
        case round =>
          obtain ⟨j, hjN, rfl, HI2, hbel⟩ := hrel
          have HB2 := Lib.hid hbel
          have c02 := keep_cell hbel c0
          have c12 := keep_cell hbel c1
          clear hbel
          go_wp2_with fail
          refine (size_at p _ n n N _ (by omega) HP.out).mono ?_
          rintro e wp ⟨rfl, hb⟩
          replace c02 := keep_cell hb c02
          replace c12 := keep_cell hb c12
          replace HB2 := Lib.hid (below_then HB2.out hb)
          clear hb
          by_cases hlt2 : j < N
          · go_wp2
            go_loopw [7] (fun q3 wr => ∃ k : Nat, k ≤ N ∧ q3 = .int .i64 k ∧ Hid (∀ k', k' < k → okL n i j k' = true) ∧ Below v2.heap.size v2 wr) (fun q3 _ => N - (intOf q3).toNat)
            case atStart => exact ⟨0, Nat.zero_le _, rfl, Lib.hid (fun k' hk' => by omega), HB2.out⟩
            case round =>
              obtain ⟨k, hkN, rfl, HI3, hbel⟩ := hrel
              have HB3 := Lib.hid hbel
              have c03 := keep_cell hbel c0
              have c13 := keep_cell hbel c1
              clear hbel
              go_wp2_with fail
              refine (size_at p _ n n N _ (by omega) HP.out).mono ?_
              rintro e wp3 ⟨rfl, hb⟩
              replace c03 := keep_cell hb c03
              replace c13 := keep_cell hb c13
              replace HB3 := Lib.hid (below_then HB3.out hb)
              clear hb
              by_cases hlt3 : k < N
              · obtain ⟨ga, HGA⟩ : ∃ a, Hid (gapV p xs.reverse i j k = a) := ⟨_, Lib.hid rfl⟩
                obtain ⟨gb, HGB⟩ : ∃ a, Hid (gapV p xs.reverse j i k = a) := ⟨_, Lib.hid rfl⟩
                obtain ⟨gc, HGC⟩ : ∃ a, Hid (gapV p xs.reverse i k j = a) := ⟨_, Lib.hid rfl⟩
                have ra : 0 ≤ ga ∧ ga < p := by rw [← HGA.out]; exact gap_range h0 _ _ _ _
                have rb : 0 ≤ gb ∧ gb < p := by rw [← HGB.out]; exact gap_range h0 _ _ _ _
                have rc : 0 ≤ gc ∧ gc < p := by rw [← HGC.out]; exact gap_range h0 _ _ _ _
                obtain ⟨ra0, ra1⟩ := ra
                obtain ⟨rb0, rb1⟩ := rb
                obtain ⟨rc0, rc1⟩ := rc
                have f1 : IntKind.i64.wrap (ga + gb) = ga + gb := IntWalk.i64_in _ (by omega)
                have f2 : IntKind.i64.wrap (ga + gc) = ga + gc := IntWalk.i64_in _ (by omega)
                obtain ⟨sb, HSB⟩ : ∃ a, Hid ((ga + gb) % p = a) := ⟨_, Lib.hid rfl⟩
                obtain ⟨sc, HSC⟩ : ∃ a, Hid ((ga + gc) % p = a) := ⟨_, Lib.hid rfl⟩
                have QB := Lib.hid (show (sb == 0) = okL1 n i j k by
                  have h := gap_alt1 (p := p) HPR.out HSTR.out (by rw [HLR.out]; exact hn) (i := i) (j := j) (k := k) (by rw [HLR.out, HP.out]; exact hlt) (by rw [HLR.out, HP.out]; exact hlt2) (by rw [HLR.out, HP.out]; exact hlt3)
                  rw [HGA.out, HGB.out, HSB.out, HLR.out] at h; exact h)
                have QC := Lib.hid (show (sc == 0) = okL2 n i j k by
                  have h := gap_alt2 (p := p) HPR.out HSTR.out (by rw [HLR.out]; exact hn) (i := i) (j := j) (k := k) (by rw [HLR.out, HP.out]; exact hlt) (by rw [HLR.out, HP.out]; exact hlt2) (by rw [HLR.out, HP.out]; exact hlt3)
                  rw [HGA.out, HGC.out, HSC.out, HLR.out] at h; exact h)
                cases hok1 : okL1 n i j k with
                | false =>
                  have hok : okL n i j k = false := by unfold okL; rw [hok1]; rfl
                  have HQ := Lib.hid (finL_false hn (by rw [HP.out]; exact hlt) (by rw [HP.out]; exact hlt2) (by rw [HP.out]; exact hlt3) hok)
                  clear hok
                  have hok2 : True := trivial
                  have q1 : (sb == 0) = false := by rw [QB.out, hok1]
                  have q2 : (sb != 0) = true := by rw [bne, q1]; rfl
                  clear hok1 hok2
                  go_wp2_with fail
                  refine (spec_l11Gap p xs.reverse _ N n _ i j k _ (HL.out.keep HB3.out) hn HP.out hlt hlt2 hlt3 h0 h1).mono ?_
                  rw [HGA.out]
                  rintro e _v ⟨rfl, mm, rfl⟩
                  have HLJ := Lib.hid (HL.out.keep HB3.out)
                  have hp1 : 1 ≤ p := by omega
                  go_wp2_with fail
                  go_quiet ((first
                    | (go_at_call 61; with_reducible exact gapq HLJ.out hn HP.out hlt2 hlt hlt3 h0 h1 HGB.out)
                    | (go_at_call 61; with_reducible exact gapq HLJ.out hn HP.out hlt hlt3 hlt2 h0 h1 HGC.out)
                    | (go_at_call 55; with_reducible exact modq hp1 h1 HSB.out)
                    | (go_at_call 55; with_reducible exact modq hp1 h1 HSC.out)))
                  clear f1 f2
                  go_wp2
                  go_ret2
                  exact ⟨by rw [HQ.out]; rfl, below_drewN (below_drewN (below_then HBW.out HB3.out) _) _⟩
                | true =>
                  cases hok2 : okL2 n i j k with
                  | false =>
                    have hok : okL n i j k = false := by unfold okL; rw [hok1, hok2]; rfl
                    have HQ := Lib.hid (finL_false hn (by rw [HP.out]; exact hlt) (by rw [HP.out]; exact hlt2) (by rw [HP.out]; exact hlt3) hok)
                    clear hok
                    have q1 : (sb == 0) = true := by rw [QB.out, hok1]
                    have q2 : (sb != 0) = false := by rw [bne, q1]; rfl
                    have q3 : (sc == 0) = false := by rw [QC.out, hok2]
                    have q4 : (sc != 0) = true := by rw [bne, q3]; rfl
                    clear hok1 hok2
                    go_wp2_with fail
                    refine (spec_l11Gap p xs.reverse _ N n _ i j k _ (HL.out.keep HB3.out) hn HP.out hlt hlt2 hlt3 h0 h1).mono ?_
                    rw [HGA.out]
                    rintro e _v ⟨rfl, mm, rfl⟩
                    have HLJ := Lib.hid (HL.out.keep HB3.out)
                    have hp1 : 1 ≤ p := by omega
                    go_wp2_with fail
                    go_quiet ((first
                      | (go_at_call 61; with_reducible exact gapq HLJ.out hn HP.out hlt2 hlt hlt3 h0 h1 HGB.out)
                      | (go_at_call 61; with_reducible exact gapq HLJ.out hn HP.out hlt hlt3 hlt2 h0 h1 HGC.out)
                      | (go_at_call 55; with_reducible exact modq hp1 h1 HSB.out)
                      | (go_at_call 55; with_reducible exact modq hp1 h1 HSC.out)))
                    clear f1 f2
                    go_wp2
                    go_ret2
                    exact ⟨by rw [HQ.out]; rfl, below_drewN (below_drewN (below_then HBW.out HB3.out) _) _⟩
                  | true =>
                    have HOK := Lib.hid (show okL n i j k = true by unfold okL; rw [hok1, hok2]; rfl)
                    have q1 : (sb == 0) = true := by rw [QB.out, hok1]
                    have q2 : (sb != 0) = false := by rw [bne, q1]; rfl
                    have q3 : (sc == 0) = true := by rw [QC.out, hok2]
                    have q4 : (sc != 0) = false := by rw [bne, q3]; rfl
                    clear hok1 hok2
                    go_wp2_with fail
                    refine (spec_l11Gap p xs.reverse _ N n _ i j k _ (HL.out.keep HB3.out) hn HP.out hlt hlt2 hlt3 h0 h1).mono ?_
                    rw [HGA.out]
                    rintro e _v ⟨rfl, mm, rfl⟩
                    have HLJ := Lib.hid (HL.out.keep HB3.out)
                    have hp1 : 1 ≤ p := by omega
                    go_wp2_with fail
                    go_quiet ((first
                      | (go_at_call 61; with_reducible exact gapq HLJ.out hn HP.out hlt2 hlt hlt3 h0 h1 HGB.out)
                      | (go_at_call 61; with_reducible exact gapq HLJ.out hn HP.out hlt hlt3 hlt2 h0 h1 HGC.out)
                      | (go_at_call 55; with_reducible exact modq hp1 h1 HSB.out)
                      | (go_at_call 55; with_reducible exact modq hp1 h1 HSC.out)))
                    clear f1 f2
                    go_wp2
                    go_roundw
                    case rel => exact ⟨k + 1, by omega, by go_num, Lib.hid (fun k' hk' => by
                          by_cases e : k' = k
                          · rw [e]; exact HOK.out
                          · exact HI3.out k' (by omega)), below_drewN HB3.out _⟩
                    case measure => simp [intOf]; omega
              · obtain rfl : k = N := by omega
                go_wp2
                go_roundw
                case rel => exact ⟨j + 1, by omega, by go_num, Lib.hid (fun j' hj' => by
                  by_cases e : j' = j
                  · rw [e]; exact HI3.out
                  · exact HI2.out j' (by omega)), HB3.out⟩
                case measure => simp [intOf]; omega
          · obtain rfl : j = N := by omega
            go_wp2
            go_roundw
            case rel => exact ⟨i + 1, by omega, by go_num, Lib.hid (fun i' hi' => by
              by_cases e : i' = i
              · rw [e]; exact HI2.out
              · exact HI1.out i' (by omega)), HB2.out⟩
            case measure => simp [intOf]; omega
      · obtain rfl : i = N := by omega
        have HQ := Lib.hid (finL_true hn (by rw [HP.out]; exact HI1.out))
        go_wp2
        go_ret2
        exact ⟨by rw [HQ.out]; rfl, below_then HBW.out HB1.out⟩

end Go.Proofs.Ytjfkgocpkjdleaa
