/- Contract: the draw of a text to be parsed: its loop ends on every code. Conditions stand in each theorem. -/
import Derived.Test.YtcgghjhccnjeoaaDoorDam
import Derived.Test.YtcgghjhccnjeoaaDoorText
import Derived.Deep.LoopGhost
namespace Go.Proofs.YtcgghjhccnjeoaaDoor
open Go.RowKit
set_option linter.unusedVariables false
set_option linter.unusedSimpArgs false

theorem txtL_len (p a : Int) : (ByteArray.mk (txtL p a).toArray).size ≤ 2 := by
  show (txtL p a).toArray.size ≤ 2
  unfold txtL
  split <;> simp

set_option maxHeartbeats 1000000 in
theorem spec_DrawParseNumber (A0 : Option Addr) (n0 c0 : Nat) (bs0 : List Int) (w : World) (hb : Bts w A0 n0 bs0) (hn : n0 ≤ 4096) :
    Calls Tryd.prog 11 #[.slice A0 n0 c0] w fun e w' => ∃ (p : Int) (t : ByteArray), e = .returned (.tuple #[.int .i64 p, .string t]) ∧ Below w.heap.size w w' := by
  have HX := Lib.hid hb
  clear hb
  go_enter Tryd.func11, Tryd.ntmps11
  go_wp2_with fail
  refine (spec_l01From A0 n0 c0 bs0 _ HX.out hn).mono ?_
  rintro e w1 ⟨s, rfl, hsw, h1, hb1⟩
  have HS := Lib.hid h1
  have HB := Lib.hid hb1
  clear h1 hb1
  go_wp2_with fail
  refine (spec_l01Bad s _ HS.out).mono ?_
  rintro e w2 ⟨p, rfl, h1, ht⟩
  replace HS := Lib.hid h1
  replace HB := Lib.hid (ht.below HB.out hsw)
  clear h1 ht
  by_cases hp : primeB p = true
  · have h0p := prime_lo hp
    have h1p := prime_hi hp
    go_wp2_with fail
    refine (spec_l01Prime p _).mono ?_
    rintro e w' ⟨rfl, rfl⟩
    go_wp2_with fail
    refine (next_w s p _ HS.out).mono ?_
    rintro e w3 ⟨a, rfl, hr, h1, ht⟩
    obtain ⟨a0, a1⟩ := hr (by omega)
    replace HS := Lib.hid h1
    replace HB := Lib.hid (ht.below HB.out hsw)
    clear h1 ht hr
    go_wp2_with fail
    refine (spec_l01Text p a _ h0p h1p a0 a1).mono ?_
    rintro e V ⟨rfl, hb⟩
    replace HS := Lib.hid (HS.out.keep hb)
    have HBV := Lib.hid (below_then HB.out hb)
    clear hb a0 a1
    have HTL := Lib.hid (txtL_len p a)
    go_wp2_with fail
    obtain ⟨A, n, c, at0, h0, bs, hsr, hbt, hA, hn6⟩ := HS.out
    obtain ⟨G, HG⟩ : ∃ G, Hid (G = n - at0 + 2 ^ 57) := ⟨_, Lib.hid rfl⟩
    have HF := Lib.hid (fuel_start (n := n) at0 h0 hsr.le)
    rw [← HG.out] at HF
    obtain ⟨B, HBB⟩ : ∃ B, Hid (B = 2 + 2 * G) := ⟨_, Lib.hid rfl⟩
    have HBM := Lib.hid (show B ≤ 4611686018427387904 by
      have h1 := HG.out
      have h2 := HBB.out
      have h3 : (2 : Nat) ^ 57 = 144115188075855872 := by decide
      rw [h3] at h1
      omega)
    have HSR := Lib.hid hsr
    have HBT := Lib.hid hbt
    have HA := Lib.hid hA
    clear hsr hbt hA HS
    go_loopg [6] G (fun g t wr => ∃ (tt : ByteArray) (a1 : Nat) (h1 : Int), t = .string tt ∧ Hid (Src wr s A n c a1 h1) ∧ Hid (Fuel n a1 g h1) ∧ Hid (tt.size + 2 * g ≤ B) ∧ Hid (Tch s V wr))
    case atStart => exact ⟨_, at0, h0, rfl, HSR, HF, Lib.hid (by have := HBB.out; have := HTL.out; omega), Lib.hid (Tch.refl _ _)⟩
    case round =>
      obtain ⟨tt, a1, h1, rfl, HS1, HF1, HZ1, HT1⟩ := hrel
      have HX1 := Lib.hid (HBT.out.tch HT1.out HA.out)
      go_wp2_with fail
      refine (spec_l01Next s A n c a1 h1 3 bs _ HS1.out HX1.out HA.out hn6 (by omega)).mono ?_
      rintro e w5 ⟨r, rfl, a2, hs2, k1, k2, r0, r1, ht2⟩
      have HS2 := Lib.hid hs2
      have HX2 := Lib.hid (HX1.out.tch ht2 HA.out)
      have HT2 := Lib.hid (HT1.out.trans ht2)
      have K1 := Lib.hid k1
      have K2 := Lib.hid k2
      clear hs2 ht2 k1 k2
      by_cases hr : r = 0
      · have hrb : (r == 0) = true := by rw [hr]; rfl
        have HR := Lib.hid hr
        clear hr
        go_wp2_with fail
        refine (spec_l01Damage s A n c a2 _ bs tt _ HS2.out HX2.out HA.out hn6 (by have h1 := HZ1.out; have h2 := HBM.out; omega)).mono ?_
        rintro e w6 ⟨t2, a3, h2, rfl, hsz, hs3, m1, m2, hh, ht3⟩
        obtain ⟨g', hg', hf'⟩ := fuel_step (a2 := a3) (h2 := h2) HF1.out (fun e => by
            have h1 := (K2.out e).2
            rw [HR.out] at h1
            exact h1.symm) hs3.le (fun hl => by
            have h1 := K1.out hl
            rcases Nat.lt_or_ge a2 n with h3 | h3
            · have := m1 h3; omega
            · have := m2 (by have := HS2.out.le; omega); omega) (fun e => m2 ((K2.out e).1)) hh
        have HS3 := Lib.hid hs3
        have HT3 := Lib.hid (HT2.out.trans ht3)
        have HF3 := Lib.hid hf'
        have HZ3 := Lib.hid (show t2.size + 2 * g' ≤ B by have := HZ1.out; omega)
        clear hs3 ht3 hf' hsz m1 m2 hh
        go_wp2_with fail
        go_roundg g'
        case measure => exact hg'
        case rel => exact ⟨t2, a3, h2, rfl, HS3, HF3, HZ3, HT3⟩
      · have hrb : (r == 0) = false := by simpa using hr
        clear hr
        go_wp2_with fail
        go_ret2
        exact ⟨p, tt, rfl, HT2.out.below HBV.out hsw⟩
  · have hp' : primeB p = false := by simpa using hp
    clear hp
    go_wp2_with fail
    refine (spec_l01Prime p _).mono ?_
    rintro e V ⟨rfl, rfl⟩
    have HBV := HB
    go_wp2_with fail
    obtain ⟨A, n, c, at0, h0, bs, hsr, hbt, hA, hn6⟩ := HS.out
    obtain ⟨G, HG⟩ : ∃ G, Hid (G = n - at0 + 2 ^ 57) := ⟨_, Lib.hid rfl⟩
    have HF := Lib.hid (fuel_start (n := n) at0 h0 hsr.le)
    rw [← HG.out] at HF
    obtain ⟨B, HBB⟩ : ∃ B, Hid (B = 2 + 2 * G) := ⟨_, Lib.hid rfl⟩
    have HBM := Lib.hid (show B ≤ 4611686018427387904 by
      have h1 := HG.out
      have h2 := HBB.out
      have h3 : (2 : Nat) ^ 57 = 144115188075855872 := by decide
      rw [h3] at h1
      omega)
    have HSR := Lib.hid hsr
    have HBT := Lib.hid hbt
    have HA := Lib.hid hA
    clear hsr hbt hA HS
    go_loopg [6] G (fun g t wr => ∃ (tt : ByteArray) (a1 : Nat) (h1 : Int), t = .string tt ∧ Hid (Src wr s A n c a1 h1) ∧ Hid (Fuel n a1 g h1) ∧ Hid (tt.size + 2 * g ≤ B) ∧ Hid (Tch s w2 wr))
    case atStart => exact ⟨_, at0, h0, rfl, HSR, HF, Lib.hid (by have := HBB.out; have h9 : (ByteArray.mk #[49]).size = 1 := rfl; omega), Lib.hid (Tch.refl _ _)⟩
    case round =>
      obtain ⟨tt, a1, h1, rfl, HS1, HF1, HZ1, HT1⟩ := hrel
      have HX1 := Lib.hid (HBT.out.tch HT1.out HA.out)
      go_wp2_with fail
      refine (spec_l01Next s A n c a1 h1 3 bs _ HS1.out HX1.out HA.out hn6 (by omega)).mono ?_
      rintro e w5 ⟨r, rfl, a2, hs2, k1, k2, r0, r1, ht2⟩
      have HS2 := Lib.hid hs2
      have HX2 := Lib.hid (HX1.out.tch ht2 HA.out)
      have HT2 := Lib.hid (HT1.out.trans ht2)
      have K1 := Lib.hid k1
      have K2 := Lib.hid k2
      clear hs2 ht2 k1 k2
      by_cases hr : r = 0
      · have hrb : (r == 0) = true := by rw [hr]; rfl
        have HR := Lib.hid hr
        clear hr
        go_wp2_with fail
        refine (spec_l01Damage s A n c a2 _ bs tt _ HS2.out HX2.out HA.out hn6 (by have h1 := HZ1.out; have h2 := HBM.out; omega)).mono ?_
        rintro e w6 ⟨t2, a3, h2, rfl, hsz, hs3, m1, m2, hh, ht3⟩
        obtain ⟨g', hg', hf'⟩ := fuel_step (a2 := a3) (h2 := h2) HF1.out (fun e => by
            have h1 := (K2.out e).2
            rw [HR.out] at h1
            exact h1.symm) hs3.le (fun hl => by
            have h1 := K1.out hl
            rcases Nat.lt_or_ge a2 n with h3 | h3
            · have := m1 h3; omega
            · have := m2 (by have := HS2.out.le; omega); omega) (fun e => m2 ((K2.out e).1)) hh
        have HS3 := Lib.hid hs3
        have HT3 := Lib.hid (HT2.out.trans ht3)
        have HF3 := Lib.hid hf'
        have HZ3 := Lib.hid (show t2.size + 2 * g' ≤ B by have := HZ1.out; omega)
        clear hs3 ht3 hf' hsz m1 m2 hh
        go_wp2_with fail
        go_roundg g'
        case measure => exact hg'
        case rel => exact ⟨t2, a3, h2, rfl, HS3, HF3, HZ3, HT3⟩
      · have hrb : (r == 0) = false := by simpa using hr
        clear hr
        go_wp2_with fail
        go_ret2
        exact ⟨p, tt, rfl, HT2.out.below HBV.out hsw⟩
end Go.Proofs.YtcgghjhccnjeoaaDoor
