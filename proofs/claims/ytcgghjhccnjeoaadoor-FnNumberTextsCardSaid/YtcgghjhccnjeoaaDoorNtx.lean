/- The walk of the law on the texts of numbers. No condition but those that stand in each theorem. -/
import Derived.Test.YtcgghjhccnjeoaaDoorDpn
namespace Go.Proofs.YtcgghjhccnjeoaaDoor
open Go.RowKit
set_option linter.unusedVariables false
set_option linter.unusedSimpArgs false

theorem laws_big (A : Option Addr) (n c : Nat) (w : World) (hn : n ≤ maxLen) :
    Calls Tryd.prog 6 #[.slice A n c] w fun e w' => e = .returned (.bool (decide (4096 < n))) ∧ w = w' := by
  unfold maxLen at hn
  by_cases h : 4096 < n
  · have e : decide (4096 < n) = true := decide_eq_true h
    rw [e]
    go_enter Tryd.func6, Tryd.ntmps6
    go_wp2
    go_ret
    exact ⟨ret_bool (by simp; omega), rfl⟩
  · have e : decide (4096 < n) = false := decide_eq_false h
    rw [e]
    go_enter Tryd.func6, Tryd.ntmps6
    go_wp2
    go_ret
    exact ⟨ret_bool (by simp; omega), rfl⟩
theorem codeN_n1 {p a : Int} (hp : primeB p = true) (a0 : 0 ≤ a) (a1 : a < p) : codeN p [a] = 0 := by
  unfold codeN
  rw [if_pos hp, if_pos (by simp [numsB, numB]; omega)]
theorem back_table : ∀ p ∈ [3, 5, 7, 11, 13], ∀ a ∈ List.range p, parseN (p : Nat) (txtL (p : Nat) (a : Nat)) = ((a : Nat) : Int) := by
  decide +kernel
theorem parse_back {p a : Int} (hp : primeB p = true) (h0 : 0 ≤ a) (h1 : a < p) : parseN p (txtL p a) = a :=
  table1 (fun p a => parseN p (txtL p a) = a) (fun p hp a ha => back_table p hp a ha) hp h0 h1
theorem list_mk (l : List UInt8) : (ByteArray.mk l.toArray).toList = l := by simp [go_sem]

set_option maxRecDepth 100000 in
set_option maxHeartbeats 2000000 in
theorem ntx_walk (A : Option Addr) (n c : Nat) (bs : List Int) (w : World) (ht : Tb w) (hb : Bts w A n bs) :
    Calls Tryd.prog 3 #[.slice A n c] w fun e w' => e = .returned (.bool true) ∧ Below w.heap.size w w' := by
  have HX := Lib.hid hb
  have HT := Lib.hid ht
  have hm := hb.2.1
  clear hb ht
  by_cases hn : n ≤ 4096
  · have hd : decide (4096 < n) = false := decide_eq_false (by omega)
    go_enter Tryd.func3, Tryd.ntmps3
    go_wp2_with fail
    refine (laws_big A n c _ hm).mono ?_
    rw [hd]
    rintro e w' ⟨rfl, rfl⟩
    go_wp2_with fail
    refine (spec_DrawNumberText A n c bs _ HX.out hn).mono ?_
    rintro e w1 ⟨p, a, rfl, hb⟩
    have HB := Lib.hid hb
    clear hb hd
    by_cases hc : codeN p [a] = 0
    · obtain ⟨hp, hn1⟩ := codeN_zero hc
      obtain ⟨ha0, ha1⟩ := nums1 hn1
      have HC0 := Lib.hid hc
      have HL0 := Lib.hid (show ntL p a = txtL p a from if_pos hc)
      have hpb := parse_back hp ha0 ha1
      have HPC := Lib.hid (show pnC p (ByteArray.mk (txtL p a).toArray).toList = 0 by rw [list_mk]; unfold pnC; rw [if_pos hp, hpb, if_neg (by omega)])
      have HPV := Lib.hid (show pnV p (ByteArray.mk (txtL p a).toArray).toList = a by rw [list_mk]; unfold pnV; rw [if_pos hp, hpb, if_neg (by omega)])
      clear hc hp hn1 ha0 ha1 hpb
      go_wp2_with fail
      refine (impl_NumberText p a _ (HT.out.keep HB.out)).mono ?_
      rw [HL0.out, HC0.out]
      rintro e w2 ⟨rfl, hb⟩
      replace HB := Lib.hid (below_then HB.out hb)
      clear hb
      go_wp2_with fail
      refine (spec_NumberText p a _).mono ?_
      rw [HL0.out, HC0.out]
      rintro e w3 ⟨rfl, hb⟩
      replace HB := Lib.hid (below_then HB.out hb)
      clear hb
      go_wp2_with fail
      refine (impl_ParseNumber p _ _ (HT.out.keep HB.out)).mono ?_
      rw [HPV.out, HPC.out]
      rintro e w4 ⟨rfl, hb⟩
      replace HB := Lib.hid (below_then HB.out hb)
      clear hb
      go_wp2_with fail
      refine (spec_DrawParseNumber A n c bs _ (HX.out.keep HB.out) hn).mono ?_
      rintro e w6 ⟨q, other, rfl, hb⟩
      replace HB := Lib.hid (below_then HB.out hb)
      clear hb
      obtain ⟨b, HV⟩ : ∃ b, Hid (pnV q other.toList = b) := ⟨_, Lib.hid rfl⟩
      by_cases hf : pnC q other.toList = 0
      · obtain ⟨hq, hr⟩ : primeB q = true ∧ ¬ parseN q other.toList < 0 := by
          unfold pnC at hf
          by_cases h1 : primeB q = true
          · rw [if_pos h1] at hf
            refine ⟨h1, fun h2 => ?_⟩
            rw [if_pos h2] at hf
            omega
          · rw [if_neg h1] at hf
            omega
        have hb1 : parseN q other.toList = b := by rw [← HV.out]; unfold pnV; rw [if_pos hq, if_neg hr]
        have hb2 := parseFrom_range q other.toList q.toNat 0 (by omega)
        obtain ⟨b0, b1, b2⟩ : 0 ≤ b ∧ b < q ∧ txtL q b = other.toList := by
          have hqq := prime_lo hq
          rw [← hb1]
          rcases hb2 with h | ⟨h1, h2, h3⟩
          · exact absurd (show parseN q other.toList < 0 by unfold parseN; omega) hr
          · exact ⟨h1, by unfold parseN; omega, h3⟩
        have hcq := codeN_n1 hq b0 b1
        have HC := Lib.hid hf
        have HL := Lib.hid (show ntL q b = txtL q b from if_pos hcq)
        have HCQ := Lib.hid hcq
        have heq : (txtL q b == other.toList) = true := by simpa using b2
        clear hf hq hr hb1 hb2 b0 b1 b2 hcq
        go_wp2_with fail
        refine (impl_ParseNumber q other _ (HT.out.keep HB.out)).mono ?_
        rw [HV.out, HC.out]
        rintro e w7 ⟨rfl, hb⟩
        replace HB := Lib.hid (below_then HB.out hb)
        clear hb
        go_wp2_with fail
        refine (spec_ParseNumber q other _).mono ?_
        rw [HV.out, HC.out]
        rintro e w8 ⟨rfl, hb⟩
        replace HB := Lib.hid (below_then HB.out hb)
        clear hb
        go_wp2_with fail
        refine (impl_NumberText q b _ (HT.out.keep HB.out)).mono ?_
        rw [HL.out, HCQ.out]
        rintro e w9 ⟨rfl, hb⟩
        replace HB := Lib.hid (below_then HB.out hb)
        clear hb
        go_wp2_with fail
        go_ret
        exact ⟨rfl, HB.out⟩
      · obtain ⟨k, HC⟩ : ∃ k, Hid (pnC q other.toList = k) := ⟨_, Lib.hid rfl⟩
        have hk : (k == 0) = false := by rw [← HC.out]; simpa using hf
        have hk2 : (k != 0) = true := by rw [← HC.out]; simpa using hf
        clear hf
        go_wp2_with fail
        refine (impl_ParseNumber q other _ (HT.out.keep HB.out)).mono ?_
        rw [HV.out, HC.out]
        rintro e w7 ⟨rfl, hb⟩
        replace HB := Lib.hid (below_then HB.out hb)
        clear hb
        go_wp2_with fail
        refine (spec_ParseNumber q other _).mono ?_
        rw [HV.out, HC.out]
        rintro e w8 ⟨rfl, hb⟩
        replace HB := Lib.hid (below_then HB.out hb)
        clear hb
        go_wp2_with fail
        go_ret
        exact ⟨rfl, HB.out⟩
    · obtain ⟨k0, HK0⟩ : ∃ k0, Hid (codeN p [a] = k0) := ⟨_, Lib.hid rfl⟩
      have HL0 := Lib.hid (show ntL p a = [] from if_neg hc)
      have hk0 : (k0 == 0) = false := by rw [← HK0.out]; simpa using hc
      have hk02 : (k0 != 0) = true := by rw [← HK0.out]; simpa using hc
      clear hc
      go_wp2_with fail
      refine (impl_NumberText p a _ (HT.out.keep HB.out)).mono ?_
      rw [HL0.out, HK0.out]
      rintro e w2 ⟨rfl, hb⟩
      replace HB := Lib.hid (below_then HB.out hb)
      clear hb
      go_wp2_with fail
      refine (spec_NumberText p a _).mono ?_
      rw [HL0.out, HK0.out]
      rintro e w3 ⟨rfl, hb⟩
      replace HB := Lib.hid (below_then HB.out hb)
      clear hb
      go_wp2_with fail
      refine (spec_DrawParseNumber A n c bs _ (HX.out.keep HB.out) hn).mono ?_
      rintro e w6 ⟨q, other, rfl, hb⟩
      replace HB := Lib.hid (below_then HB.out hb)
      clear hb
      obtain ⟨b, HV⟩ : ∃ b, Hid (pnV q other.toList = b) := ⟨_, Lib.hid rfl⟩
      by_cases hf : pnC q other.toList = 0
      · obtain ⟨hq, hr⟩ : primeB q = true ∧ ¬ parseN q other.toList < 0 := by
          unfold pnC at hf
          by_cases h1 : primeB q = true
          · rw [if_pos h1] at hf
            refine ⟨h1, fun h2 => ?_⟩
            rw [if_pos h2] at hf
            omega
          · rw [if_neg h1] at hf
            omega
        have hb1 : parseN q other.toList = b := by rw [← HV.out]; unfold pnV; rw [if_pos hq, if_neg hr]
        have hb2 := parseFrom_range q other.toList q.toNat 0 (by omega)
        obtain ⟨b0, b1, b2⟩ : 0 ≤ b ∧ b < q ∧ txtL q b = other.toList := by
          have hqq := prime_lo hq
          rw [← hb1]
          rcases hb2 with h | ⟨h1, h2, h3⟩
          · exact absurd (show parseN q other.toList < 0 by unfold parseN; omega) hr
          · exact ⟨h1, by unfold parseN; omega, h3⟩
        have hcq := codeN_n1 hq b0 b1
        have HC := Lib.hid hf
        have HL := Lib.hid (show ntL q b = txtL q b from if_pos hcq)
        have HCQ := Lib.hid hcq
        have heq : (txtL q b == other.toList) = true := by simpa using b2
        clear hf hq hr hb1 hb2 b0 b1 b2 hcq
        go_wp2_with fail
        refine (impl_ParseNumber q other _ (HT.out.keep HB.out)).mono ?_
        rw [HV.out, HC.out]
        rintro e w7 ⟨rfl, hb⟩
        replace HB := Lib.hid (below_then HB.out hb)
        clear hb
        go_wp2_with fail
        refine (spec_ParseNumber q other _).mono ?_
        rw [HV.out, HC.out]
        rintro e w8 ⟨rfl, hb⟩
        replace HB := Lib.hid (below_then HB.out hb)
        clear hb
        go_wp2_with fail
        refine (impl_NumberText q b _ (HT.out.keep HB.out)).mono ?_
        rw [HL.out, HCQ.out]
        rintro e w9 ⟨rfl, hb⟩
        replace HB := Lib.hid (below_then HB.out hb)
        clear hb
        go_wp2_with fail
        go_ret
        exact ⟨rfl, HB.out⟩
      · obtain ⟨k, HC⟩ : ∃ k, Hid (pnC q other.toList = k) := ⟨_, Lib.hid rfl⟩
        have hk : (k == 0) = false := by rw [← HC.out]; simpa using hf
        have hk2 : (k != 0) = true := by rw [← HC.out]; simpa using hf
        clear hf
        go_wp2_with fail
        refine (impl_ParseNumber q other _ (HT.out.keep HB.out)).mono ?_
        rw [HV.out, HC.out]
        rintro e w7 ⟨rfl, hb⟩
        replace HB := Lib.hid (below_then HB.out hb)
        clear hb
        go_wp2_with fail
        refine (spec_ParseNumber q other _).mono ?_
        rw [HV.out, HC.out]
        rintro e w8 ⟨rfl, hb⟩
        replace HB := Lib.hid (below_then HB.out hb)
        clear hb
        go_wp2_with fail
        go_ret
        exact ⟨rfl, HB.out⟩
  · have hd : decide (4096 < n) = true := decide_eq_true (by omega)
    go_enter Tryd.func3, Tryd.ntmps3
    go_wp2_with fail
    refine (laws_big A n c _ hm).mono ?_
    rw [hd]
    rintro e w' ⟨rfl, rfl⟩
    go_wp2_with fail
    go_ret
    exact ⟨rfl, Below.refl _ _⟩
end Go.Proofs.YtcgghjhccnjeoaaDoor
