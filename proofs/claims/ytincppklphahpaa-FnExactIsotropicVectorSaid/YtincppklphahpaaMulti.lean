/- Contracts: multivectors and lists of numbers as arguments; the codes of a space and such lists. Conditions stand in each theorem. -/
import Derived.Test.YtincppklphahpaaSpace2
namespace Go.Proofs.Ytincppklphahpaa
open Go.RowKit
set_option linter.unusedVariables false

theorem pow_le6 {n : Nat} (hn : n ≤ 6) : (2 : Nat) ^ n ≤ 64 := by
  have : (2 : Nat) ^ n ≤ 2 ^ 6 := Nat.pow_le_pow_right (by omega) hn
  omega
theorem ipow_le6 {n : Nat} (hn : n ≤ 6) : (0 : Int) ≤ 2 ^ n ∧ (2 : Int) ^ n ≤ 64 ∧ (1 : Int) ≤ 2 ^ n := by
  have h := pow_le6 hn
  have h1 : 1 ≤ (2 : Nat) ^ n := Nat.one_le_two_pow
  have e : ((2 ^ n : Nat) : Int) = (2 : Int) ^ n := by rw [Int.natCast_pow]; rfl
  omega
theorem ipow_cast (n : Nat) : (2 : Int) ^ n = ((2 ^ n : Nat) : Int) := by rw [Int.natCast_pow]; rfl

theorem eqpow (m n : Nat) : ((m : Int) == 2 ^ n) = decide (m = 2 ^ n) := by
  rw [ipow_cast]
  exact Bool.eq_iff_iff.2 (by simp only [beq_iff_eq, decide_eq_true_eq]; exact Int.ofNat_inj)

theorem spec_l04Size (p : Int) (A : Option Addr) (n c : Nat) (w : World) (hn : n ≤ 6) : Calls Try.prog 50 #[.agg #[.int .i64 p, .slice A n c]] w fun e w' => e = .returned (.int .i64 (2 ^ n)) ∧ Below w.heap.size w w' := by
  obtain ⟨g0, g1, g2⟩ := ipow_le6 hn
  go_enter Try.func50, Try.ntmps50
  go_wp2
  go_ret
  exact ⟨by first | rfl | (unfold wrap64; exact ret_int (by omega)), (Below.refl _ _).alloc (Nat.le_refl _) _⟩

def mulB (p : Int) (xs ys : List Int) : Bool := spaceB p xs && lstB p (2 ^ xs.length) ys

theorem spec_l04Is (p : Int) (A B : Option Addr) (n c m d : Nat) (xs ys : List Int) (w : World) (hx : Ints w A n xs) (hy : Ints w B m ys) :
    Calls Try.prog 92 #[.agg #[.int .i64 p, .slice A n c], .slice B m d] w fun e w' => e = .returned (.bool (mulB p xs ys)) ∧ Below w.heap.size w w' := by
  have HX := Lib.hid hx
  have hm := hx.2.1
  have HN := Lib.hid hx.1
  clear hx
  unfold maxLen at hm
  have H2 := Lib.hid (show Below w.heap.size w (w.alloc (.cells #[.int .i64 p, .slice A n c] 28)) from (Below.refl _ _).alloc (Nat.le_refl _) _)
  have HY := Lib.hid hy
  have hm2 := hy.2.1
  have HM := Lib.hid hy.1
  clear hy
  unfold maxLen at hm2
  by_cases hs : spaceB p xs = true
  · obtain ⟨hp, hl0, hl1, hn⟩ := spaceB_true hs
    rw [HN.out] at hl0 hl1
    have h0 := prime_lo hp
    have h1 := prime_hi hp
    obtain ⟨g0, g1, g2⟩ := ipow_le6 hl1
    rcases lstB_cases p (2 ^ n) ys with ⟨hl, hlen, hnum⟩ | ⟨hl, hlen⟩ | ⟨hl, hlen, hnum⟩
    · have HV := Lib.hid (show mulB p xs ys = true by simp [mulB, hs, HN.out, hl])
      rw [HV.out]
      have q1 : ((m : Int) == 2 ^ n) = true := by rw [eqpow]; exact decide_eq_true (by rw [← HM.out, hlen])
      clear hl hlen hn hp
      go_enter Try.func92, Try.ntmps92
      have c0 : (w.alloc (.cells #[.int .i64 p, .slice A n c] 28)).cell? ⟨w.heap.size, 0, none⟩ = some (.int .i64 p) := by simp [go_sem]
      have c1 : (w.alloc (.cells #[.int .i64 p, .slice A n c] 28)).cell? ⟨w.heap.size, 1, none⟩ = some (.slice A n c) := by simp [go_sem]
      have HW := Lib.hid (Below.refl (w.alloc (.cells #[.int .i64 p, .slice A n c] 28)).heap.size (w.alloc (.cells #[.int .i64 p, .slice A n c] 28)))
      go_wp2_with fail
      refine (spec_l03Is _ _ _ _ xs _ (HX.out.keep (H2.out.trans (HW.out.mono H2.out.size)))).mono ?_
      rintro e v ⟨rfl, hb⟩
      replace c0 := keep_cell hb c0
      replace c1 := keep_cell hb c1
      replace HW := Lib.hid (below_then HW.out hb)
      clear hb
      go_wp2_with fail
      refine (spec_l04Size _ _ _ _ _ (by omega)).mono ?_
      rintro e v ⟨rfl, hb⟩
      replace c0 := keep_cell hb c0
      replace c1 := keep_cell hb c1
      replace HW := Lib.hid (below_then HW.out hb)
      clear hb
      go_wp2_with (go_at_call 85; refine (spec_l01Numbers _ _ _ _ ys _ (by omega) (by omega) (HY.out.keep (H2.out.trans (HW.out.mono H2.out.size)))).mono ?_; rintro e w' ⟨rfl, rfl⟩)
      go_ret
      exact ⟨rfl, (H2.out.trans (HW.out.mono H2.out.size))⟩
    · have HV := Lib.hid (show mulB p xs ys = false by simp [mulB, HN.out, hl])
      rw [HV.out]
      have q1 : ((m : Int) == 2 ^ n) = false := by rw [eqpow]; exact decide_eq_false (by rw [← HM.out]; exact hlen)
      clear hl hlen hn hp
      go_enter Try.func92, Try.ntmps92
      have c0 : (w.alloc (.cells #[.int .i64 p, .slice A n c] 28)).cell? ⟨w.heap.size, 0, none⟩ = some (.int .i64 p) := by simp [go_sem]
      have c1 : (w.alloc (.cells #[.int .i64 p, .slice A n c] 28)).cell? ⟨w.heap.size, 1, none⟩ = some (.slice A n c) := by simp [go_sem]
      have HW := Lib.hid (Below.refl (w.alloc (.cells #[.int .i64 p, .slice A n c] 28)).heap.size (w.alloc (.cells #[.int .i64 p, .slice A n c] 28)))
      go_wp2_with fail
      refine (spec_l03Is _ _ _ _ xs _ (HX.out.keep (H2.out.trans (HW.out.mono H2.out.size)))).mono ?_
      rintro e v ⟨rfl, hb⟩
      replace c0 := keep_cell hb c0
      replace c1 := keep_cell hb c1
      replace HW := Lib.hid (below_then HW.out hb)
      clear hb
      go_wp2_with fail
      refine (spec_l04Size _ _ _ _ _ (by omega)).mono ?_
      rintro e v ⟨rfl, hb⟩
      replace c0 := keep_cell hb c0
      replace c1 := keep_cell hb c1
      replace HW := Lib.hid (below_then HW.out hb)
      clear hb
      go_wp2_with fail
      go_ret
      exact ⟨rfl, (H2.out.trans (HW.out.mono H2.out.size))⟩
    · have HV := Lib.hid (show mulB p xs ys = false by simp [mulB, HN.out, hl])
      rw [HV.out]
      have q1 : ((m : Int) == 2 ^ n) = true := by rw [eqpow]; exact decide_eq_true (by rw [← HM.out, hlen])
      clear hl hlen hn hp
      go_enter Try.func92, Try.ntmps92
      have c0 : (w.alloc (.cells #[.int .i64 p, .slice A n c] 28)).cell? ⟨w.heap.size, 0, none⟩ = some (.int .i64 p) := by simp [go_sem]
      have c1 : (w.alloc (.cells #[.int .i64 p, .slice A n c] 28)).cell? ⟨w.heap.size, 1, none⟩ = some (.slice A n c) := by simp [go_sem]
      have HW := Lib.hid (Below.refl (w.alloc (.cells #[.int .i64 p, .slice A n c] 28)).heap.size (w.alloc (.cells #[.int .i64 p, .slice A n c] 28)))
      go_wp2_with fail
      refine (spec_l03Is _ _ _ _ xs _ (HX.out.keep (H2.out.trans (HW.out.mono H2.out.size)))).mono ?_
      rintro e v ⟨rfl, hb⟩
      replace c0 := keep_cell hb c0
      replace c1 := keep_cell hb c1
      replace HW := Lib.hid (below_then HW.out hb)
      clear hb
      go_wp2_with fail
      refine (spec_l04Size _ _ _ _ _ (by omega)).mono ?_
      rintro e v ⟨rfl, hb⟩
      replace c0 := keep_cell hb c0
      replace c1 := keep_cell hb c1
      replace HW := Lib.hid (below_then HW.out hb)
      clear hb
      go_wp2_with (go_at_call 85; refine (spec_l01Numbers _ _ _ _ ys _ (by omega) (by omega) (HY.out.keep (H2.out.trans (HW.out.mono H2.out.size)))).mono ?_; rintro e w' ⟨rfl, rfl⟩)
      go_ret
      exact ⟨rfl, (H2.out.trans (HW.out.mono H2.out.size))⟩
  · have hs' : spaceB p xs = false := by simpa using hs
    have HV := Lib.hid (show mulB p xs ys = false by simp [mulB, hs'])
    rw [HV.out]
    clear hs
    go_enter Try.func92, Try.ntmps92
    have c0 : (w.alloc (.cells #[.int .i64 p, .slice A n c] 28)).cell? ⟨w.heap.size, 0, none⟩ = some (.int .i64 p) := by simp [go_sem]
    have c1 : (w.alloc (.cells #[.int .i64 p, .slice A n c] 28)).cell? ⟨w.heap.size, 1, none⟩ = some (.slice A n c) := by simp [go_sem]
    have HW := Lib.hid (Below.refl (w.alloc (.cells #[.int .i64 p, .slice A n c] 28)).heap.size (w.alloc (.cells #[.int .i64 p, .slice A n c] 28)))
    go_wp2_with fail
    refine (spec_l03Is _ _ _ _ xs _ (HX.out.keep (H2.out.trans (HW.out.mono H2.out.size)))).mono ?_
    rintro e v ⟨rfl, hb⟩
    replace c0 := keep_cell hb c0
    replace c1 := keep_cell hb c1
    replace HW := Lib.hid (below_then HW.out hb)
    clear hb
    go_wp2_with fail
    go_ret
    exact ⟨rfl, (H2.out.trans (HW.out.mono H2.out.size))⟩

theorem Space_isMulti (p : Int) (A B : Option Addr) (n c m d : Nat) (ys : List Int) (w : World) (hy : Ints w B m ys) (hn6 : n ≤ 6) (h0 : 3 ≤ p) (h1 : p ≤ 13) :
    Calls Try.prog 94 #[.agg #[.int .i64 p, .slice A n c], .slice B m d] w fun e w' => e = .returned (.bool (lstB p (2 ^ n) ys)) ∧ Below w.heap.size w w' := by
  have HY := Lib.hid hy
  have hm2 := hy.2.1
  have HM := Lib.hid hy.1
  clear hy
  unfold maxLen at hm2
  have H2 := Lib.hid (show Below w.heap.size w (w.alloc (.cells #[.int .i64 p, .slice A n c] 28)) from (Below.refl _ _).alloc (Nat.le_refl _) _)
  obtain ⟨g0, g1, g2⟩ := ipow_le6 hn6
  rcases lstB_cases p (2 ^ n) ys with ⟨hl, hlen, hnum⟩ | ⟨hl, hlen⟩ | ⟨hl, hlen, hnum⟩
  · rw [hl]
    have q1 : ((m : Int) == 2 ^ n) = true := by rw [eqpow]; exact decide_eq_true (by rw [← HM.out, hlen])
    clear hl hlen
    go_enter Try.func94, Try.ntmps94
    have c0 : (w.alloc (.cells #[.int .i64 p, .slice A n c] 28)).cell? ⟨w.heap.size, 0, none⟩ = some (.int .i64 p) := by simp [go_sem]
    have c1 : (w.alloc (.cells #[.int .i64 p, .slice A n c] 28)).cell? ⟨w.heap.size, 1, none⟩ = some (.slice A n c) := by simp [go_sem]
    have HW := Lib.hid (Below.refl (w.alloc (.cells #[.int .i64 p, .slice A n c] 28)).heap.size (w.alloc (.cells #[.int .i64 p, .slice A n c] 28)))
    go_wp2_with fail
    refine (Space_dim _ _ _ _ _).mono ?_
    rintro e v ⟨rfl, hb⟩
    replace c0 := keep_cell hb c0
    replace c1 := keep_cell hb c1
    replace HW := Lib.hid (below_then HW.out hb)
    clear hb
    go_wp2_with fail
    refine (Space_field _ _ _ _ _).mono ?_
    rintro e v ⟨rfl, hb⟩
    replace c0 := keep_cell hb c0
    replace c1 := keep_cell hb c1
    replace HW := Lib.hid (below_then HW.out hb)
    clear hb
    go_wp2_with (go_at_call 65; refine (impl_is _ _ _ _ ys _ (by omega) (by omega) (HY.out.keep (H2.out.trans (HW.out.mono H2.out.size)))).mono ?_; rintro e w' ⟨rfl, rfl⟩)
    go_ret
    exact ⟨rfl, (H2.out.trans (HW.out.mono H2.out.size))⟩
  · rw [hl]
    have q1 : ((m : Int) == 2 ^ n) = false := by rw [eqpow]; exact decide_eq_false (by rw [← HM.out]; exact hlen)
    clear hl hlen
    go_enter Try.func94, Try.ntmps94
    have c0 : (w.alloc (.cells #[.int .i64 p, .slice A n c] 28)).cell? ⟨w.heap.size, 0, none⟩ = some (.int .i64 p) := by simp [go_sem]
    have c1 : (w.alloc (.cells #[.int .i64 p, .slice A n c] 28)).cell? ⟨w.heap.size, 1, none⟩ = some (.slice A n c) := by simp [go_sem]
    have HW := Lib.hid (Below.refl (w.alloc (.cells #[.int .i64 p, .slice A n c] 28)).heap.size (w.alloc (.cells #[.int .i64 p, .slice A n c] 28)))
    go_wp2_with fail
    refine (Space_dim _ _ _ _ _).mono ?_
    rintro e v ⟨rfl, hb⟩
    replace c0 := keep_cell hb c0
    replace c1 := keep_cell hb c1
    replace HW := Lib.hid (below_then HW.out hb)
    clear hb
    go_wp2_with fail
    go_ret
    exact ⟨rfl, (H2.out.trans (HW.out.mono H2.out.size))⟩
  · rw [hl]
    have q1 : ((m : Int) == 2 ^ n) = true := by rw [eqpow]; exact decide_eq_true (by rw [← HM.out, hlen])
    clear hl hlen
    go_enter Try.func94, Try.ntmps94
    have c0 : (w.alloc (.cells #[.int .i64 p, .slice A n c] 28)).cell? ⟨w.heap.size, 0, none⟩ = some (.int .i64 p) := by simp [go_sem]
    have c1 : (w.alloc (.cells #[.int .i64 p, .slice A n c] 28)).cell? ⟨w.heap.size, 1, none⟩ = some (.slice A n c) := by simp [go_sem]
    have HW := Lib.hid (Below.refl (w.alloc (.cells #[.int .i64 p, .slice A n c] 28)).heap.size (w.alloc (.cells #[.int .i64 p, .slice A n c] 28)))
    go_wp2_with fail
    refine (Space_dim _ _ _ _ _).mono ?_
    rintro e v ⟨rfl, hb⟩
    replace c0 := keep_cell hb c0
    replace c1 := keep_cell hb c1
    replace HW := Lib.hid (below_then HW.out hb)
    clear hb
    go_wp2_with fail
    refine (Space_field _ _ _ _ _).mono ?_
    rintro e v ⟨rfl, hb⟩
    replace c0 := keep_cell hb c0
    replace c1 := keep_cell hb c1
    replace HW := Lib.hid (below_then HW.out hb)
    clear hb
    go_wp2_with (go_at_call 65; refine (impl_is _ _ _ _ ys _ (by omega) (by omega) (HY.out.keep (H2.out.trans (HW.out.mono H2.out.size)))).mono ?_; rintro e w' ⟨rfl, rfl⟩)
    go_ret
    exact ⟨rfl, (H2.out.trans (HW.out.mono H2.out.size))⟩

theorem Space_isVector (p : Int) (A B : Option Addr) (n c m d : Nat) (ys : List Int) (w : World) (hy : Ints w B m ys) (hn6 : n ≤ 6) (h0 : 3 ≤ p) (h1 : p ≤ 13) :
    Calls Try.prog 91 #[.agg #[.int .i64 p, .slice A n c], .slice B m d] w fun e w' => e = .returned (.bool (lstB p (n) ys)) ∧ Below w.heap.size w w' := by
  have HY := Lib.hid hy
  have hm2 := hy.2.1
  have HM := Lib.hid hy.1
  clear hy
  unfold maxLen at hm2
  have H2 := Lib.hid (show Below w.heap.size w (w.alloc (.cells #[.int .i64 p, .slice A n c] 28)) from (Below.refl _ _).alloc (Nat.le_refl _) _)
  rcases lstB_cases p (n) ys with ⟨hl, hlen, hnum⟩ | ⟨hl, hlen⟩ | ⟨hl, hlen, hnum⟩
  · rw [hl]
    have q1 : ((m : Int) == (n : Int)) = true := by simp; rw [← HM.out, hlen]
    clear hl hlen
    go_enter Try.func91, Try.ntmps91
    have c0 : (w.alloc (.cells #[.int .i64 p, .slice A n c] 28)).cell? ⟨w.heap.size, 0, none⟩ = some (.int .i64 p) := by simp [go_sem]
    have c1 : (w.alloc (.cells #[.int .i64 p, .slice A n c] 28)).cell? ⟨w.heap.size, 1, none⟩ = some (.slice A n c) := by simp [go_sem]
    have HW := Lib.hid (Below.refl (w.alloc (.cells #[.int .i64 p, .slice A n c] 28)).heap.size (w.alloc (.cells #[.int .i64 p, .slice A n c] 28)))
    go_wp2_with fail
    refine (Space_dim _ _ _ _ _).mono ?_
    rintro e v ⟨rfl, hb⟩
    replace c0 := keep_cell hb c0
    replace c1 := keep_cell hb c1
    replace HW := Lib.hid (below_then HW.out hb)
    clear hb
    go_wp2_with fail
    refine (Space_field _ _ _ _ _).mono ?_
    rintro e v ⟨rfl, hb⟩
    replace c0 := keep_cell hb c0
    replace c1 := keep_cell hb c1
    replace HW := Lib.hid (below_then HW.out hb)
    clear hb
    go_wp2_with (go_at_call 65; refine (impl_is _ _ _ _ ys _ (by omega) (by omega) (HY.out.keep (H2.out.trans (HW.out.mono H2.out.size)))).mono ?_; rintro e w' ⟨rfl, rfl⟩)
    go_ret
    exact ⟨rfl, (H2.out.trans (HW.out.mono H2.out.size))⟩
  · rw [hl]
    have q1 : ((m : Int) == (n : Int)) = false := by simp; rw [← HM.out]; omega
    clear hl hlen
    go_enter Try.func91, Try.ntmps91
    have c0 : (w.alloc (.cells #[.int .i64 p, .slice A n c] 28)).cell? ⟨w.heap.size, 0, none⟩ = some (.int .i64 p) := by simp [go_sem]
    have c1 : (w.alloc (.cells #[.int .i64 p, .slice A n c] 28)).cell? ⟨w.heap.size, 1, none⟩ = some (.slice A n c) := by simp [go_sem]
    have HW := Lib.hid (Below.refl (w.alloc (.cells #[.int .i64 p, .slice A n c] 28)).heap.size (w.alloc (.cells #[.int .i64 p, .slice A n c] 28)))
    go_wp2_with fail
    refine (Space_dim _ _ _ _ _).mono ?_
    rintro e v ⟨rfl, hb⟩
    replace c0 := keep_cell hb c0
    replace c1 := keep_cell hb c1
    replace HW := Lib.hid (below_then HW.out hb)
    clear hb
    go_wp2_with fail
    go_ret
    exact ⟨rfl, (H2.out.trans (HW.out.mono H2.out.size))⟩
  · rw [hl]
    have q1 : ((m : Int) == (n : Int)) = true := by simp; rw [← HM.out, hlen]
    clear hl hlen
    go_enter Try.func91, Try.ntmps91
    have c0 : (w.alloc (.cells #[.int .i64 p, .slice A n c] 28)).cell? ⟨w.heap.size, 0, none⟩ = some (.int .i64 p) := by simp [go_sem]
    have c1 : (w.alloc (.cells #[.int .i64 p, .slice A n c] 28)).cell? ⟨w.heap.size, 1, none⟩ = some (.slice A n c) := by simp [go_sem]
    have HW := Lib.hid (Below.refl (w.alloc (.cells #[.int .i64 p, .slice A n c] 28)).heap.size (w.alloc (.cells #[.int .i64 p, .slice A n c] 28)))
    go_wp2_with fail
    refine (Space_dim _ _ _ _ _).mono ?_
    rintro e v ⟨rfl, hb⟩
    replace c0 := keep_cell hb c0
    replace c1 := keep_cell hb c1
    replace HW := Lib.hid (below_then HW.out hb)
    clear hb
    go_wp2_with fail
    refine (Space_field _ _ _ _ _).mono ?_
    rintro e v ⟨rfl, hb⟩
    replace c0 := keep_cell hb c0
    replace c1 := keep_cell hb c1
    replace HW := Lib.hid (below_then HW.out hb)
    clear hb
    go_wp2_with (go_at_call 65; refine (impl_is _ _ _ _ ys _ (by omega) (by omega) (HY.out.keep (H2.out.trans (HW.out.mono H2.out.size)))).mono ?_; rintro e w' ⟨rfl, rfl⟩)
    go_ret
    exact ⟨rfl, (H2.out.trans (HW.out.mono H2.out.size))⟩

end Go.Proofs.Ytincppklphahpaa
