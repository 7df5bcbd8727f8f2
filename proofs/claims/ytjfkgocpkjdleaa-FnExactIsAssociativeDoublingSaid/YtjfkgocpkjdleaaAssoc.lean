/- Contracts: commutative, associative, alternative doublings. Conditions stand in each theorem. -/
import Derived.Test.YtjfkgocpkjdleaaBasis
namespace Go.Proofs.Ytjfkgocpkjdleaa
open Go.RowKit
set_option linter.unusedVariables false
set_option linter.unusedSimpArgs false

theorem finC_true {n : Nat} (hn : n ≤ 4) (h : ∀ i, i < 2 ^ n → ∀ k, k < 2 ^ n → okC n i k = true) : decide (n ≤ 1) = true := by
  rw [← fin_C n (List.mem_range.2 (by omega))]; exact all2.2 h
theorem finC_false {n i k : Nat} (hn : n ≤ 4) (hi : i < 2 ^ n) (hk : k < 2 ^ n) (h : okC n i k = false) : decide (n ≤ 1) = false := by
  cases e : decide (n ≤ 1) with
  | false => rfl
  | true =>
    rw [← fin_C n (List.mem_range.2 (by omega))] at e
    rw [all2.1 e i hi k hk] at h; cases h
theorem finA_true {n : Nat} (hn : n ≤ 4) (h : ∀ i, i < 2 ^ n → ∀ j, j < 2 ^ n → ∀ k, k < 2 ^ n → okA n i j k = true) : decide (n ≤ 2) = true := by
  rw [← fin_A n (List.mem_range.2 (by omega))]; exact all3.2 h
theorem finA_false {n i j k : Nat} (hn : n ≤ 4) (hi : i < 2 ^ n) (hj : j < 2 ^ n) (hk : k < 2 ^ n) (h : okA n i j k = false) : decide (n ≤ 2) = false := by
  cases e : decide (n ≤ 2) with
  | false => rfl
  | true =>
    rw [← fin_A n (List.mem_range.2 (by omega))] at e
    rw [all3.1 e i hi j hj k hk] at h; cases h
theorem finL_true {n : Nat} (hn : n ≤ 4) (h : ∀ i, i < 2 ^ n → ∀ j, j < 2 ^ n → ∀ k, k < 2 ^ n → okL n i j k = true) : decide (n ≤ 3) = true := by
  rw [← fin_L n (List.mem_range.2 (by omega))]; exact all3.2 h
theorem finL_false {n i j k : Nat} (hn : n ≤ 4) (hi : i < 2 ^ n) (hj : j < 2 ^ n) (hk : k < 2 ^ n) (h : okL n i j k = false) : decide (n ≤ 3) = false := by
  cases e : decide (n ≤ 3) with
  | false => rfl
  | true =>
    rw [← fin_L n (List.mem_range.2 (by omega))] at e
    rw [all3.1 e i hi j hj k hk] at h; cases h

/-- a cell of the table -/
theorem bas_cell {w : World} {L : Option Addr} {N i k : Nat} {p : Int} {st : List Int} (hl : Lists w L N (basK p st N N)) (hi : i < N) (hk : k < N) :
    ∃ b off B o c, L = some ⟨b, off, none⟩ ∧ w.cell? ⟨b, off + i, none⟩ = some (.slice (some ⟨B, o, none⟩) N c) ∧ w.cell? ⟨B, o + k, none⟩ = some (.int .i64 (bF p st i k)) := by
  obtain ⟨b, off, v, B, n, c, e, hv, hc, hv2⟩ := hl.at_ hi
  rw [basK_get hi] at hv
  injection hv with hv
  subst hv
  have hn : n = N := by have := hv2.1; rw [rowK_len] at this; omega
  subst hn
  obtain ⟨B', o', x, eB, hb, hx, hcx⟩ := hv2.at_ hk
  rw [rowK_get hk] at hx
  injection hx with hx
  subst hx
  subst eB
  exact ⟨b, off, B', o', c, e, hc, hcx⟩

theorem spec_l11At (p : Int) (st : List Int) (L : Option Addr) (N c i k : Nat) (w : World) (hl : Lists w L N (basK p st N N)) (hi : i < N) (hk : k < N) :
    Calls Try.prog 59 #[.slice L N c, .int .i64 i, .int .i64 k] w fun e w' => e = .returned (.int .i64 (bF p st i k)) ∧ w = w' := by
  have hN := hl.2.1
  obtain ⟨b, off, B, o, cc, rfl, h1, h2⟩ := bas_cell hl hi hk
  have k1 : (i : Int) < N := by omega
  have k2 : (k : Int) < N := by omega
  clear hl
  go_enter Try.func59, Try.ntmps59
  go_wp2
  go_ret
  exact ⟨rfl, rfl⟩

set_option maxHeartbeats 1000000 in
theorem spec_l11Gap (p : Int) (st : List Int) (L : Option Addr) (N n c i j k : Nat) (w : World) (hl : Lists w L N (basK p st N N)) (hn : n ≤ 4) (hN : 2 ^ n = N) (hi : i < N) (hj : j < N) (hk : k < N) (h0 : 3 ≤ p) (h1 : p ≤ 13) :
    Calls Try.prog 61 #[.int .i64 p, .slice L N c, .int .i64 i, .int .i64 j, .int .i64 k] w fun e w' => e = .returned (.int .i64 (gapV p st i j k)) ∧ ∃ m, w' = w.drewN m := by
  have hN16 : N ≤ 16 := by rw [← hN]; exact Nat.le_trans (Nat.pow_le_pow_right (by omega) hn) (by decide)
  have hij : i ^^^ j < N := by rw [← hN] at hi hj ⊢; exact xor_lt hn hi hj
  have hjk : j ^^^ k < N := by rw [← hN] at hk hj ⊢; exact xor_lt hn hj hk
  obtain ⟨b, off, B1, o1, d1, rfl, f1, g1⟩ := bas_cell hl hi hj
  obtain ⟨_, _, B2, o2, d2, e2, f2, g2⟩ := bas_cell hl hij hk
  injection e2 with e2
  injection e2 with e2a e2b
  subst e2a e2b
  obtain ⟨_, _, B3, o3, d3, e3, f3, g3⟩ := bas_cell hl hj hk
  injection e3 with e3
  injection e3 with e3a e3b
  subst e3a e3b
  obtain ⟨_, _, B4, o4, d4, e4, f4, g4⟩ := bas_cell hl hi hjk
  injection e4 with e4
  injection e4 with e4a e4b
  subst e4a e4b
  rw [f1] at f4
  injection f4 with f4
  injection f4 with f4 _ _
  injection f4 with f4
  injection f4 with f4a f4b
  subst f4a f4b
  have r1 := bF_range h0 st i j
  have r2 := bF_range h0 st (i ^^^ j) k
  have r3 := bF_range h0 st j k
  have r4 := bF_range h0 st i (j ^^^ k)
  have HG := Lib.hid (show gapV p st i j k = (bF p st i j * bF p st (i ^^^ j) k - bF p st j k * bF p st i (j ^^^ k)) % p from rfl)
  generalize bF p st i j = a1 at *
  generalize bF p st (i ^^^ j) k = a2 at *
  generalize bF p st j k = a3 at *
  generalize bF p st i (j ^^^ k) = a4 at *
  obtain ⟨m0, m1⟩ := mul_bounds r1.1 r1.2 r2.1 r2.2 h1
  obtain ⟨m2, m3⟩ := mul_bounds r3.1 r3.2 r4.1 r4.2 h1
  have w1 : IntKind.i64.wrap (a1 * a2) = a1 * a2 := IntWalk.i64_in _ (by omega)
  have w2 : IntKind.i64.wrap (a3 * a4) = a3 * a4 := IntWalk.i64_in _ (by omega)
  have w3 : IntKind.i64.wrap (a1 * a2 - a3 * a4) = a1 * a2 - a3 * a4 := IntWalk.i64_in _ (by omega)
  have x1 := xor_int (i := i) (k := j) (by omega) (by omega)
  have x2 := xor_int (i := j) (k := k) (by omega) (by omega)
  have k1 : (i : Int) < N := by omega
  have k2 : (j : Int) < N := by omega
  have k3 : (k : Int) < N := by omega
  have k4 : ((i ^^^ j : Nat) : Int) < N := by omega
  have k5 : ((j ^^^ k : Nat) : Int) < N := by omega
  have k6 : (0 : Int) ≤ ((i ^^^ j : Nat) : Int) := by omega
  have k7 : (0 : Int) ≤ ((j ^^^ k : Nat) : Int) := by omega
  have k8 : (0 : Int) ≤ (i : Int) := by omega
  have k9 : (0 : Int) ≤ (j : Int) := by omega
  have k10 : (0 : Int) ≤ (k : Int) := by omega
  clear hl hN r1 r2 r3 r4
  go_enter Try.func61, Try.ntmps61
  go_wp2_with fail
  go_quiet ((go_at_call 55; exact quiet_left (spec_l01Mod _ _ _ (by omega) (by omega))))
  clear w1 w2 w3 x1 x2
  go_wp2
  go_ret
  exact ⟨ret_int HG.out.symm, _, rfl⟩

end Go.Proofs.Ytjfkgocpkjdleaa
