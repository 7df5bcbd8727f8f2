/- Contracts: sizes of doublings, the codes of elements, traces. Conditions stand in each theorem. -/
import Derived.Test.YtjfkgocpkjdleaaDbl
import Derived.Test.YtjfkgocpkjdleaaMulti
namespace Go.Proofs.Ytjfkgocpkjdleaa
open Go.RowKit
set_option linter.unusedVariables false
set_option linter.unusedSimpArgs false

theorem spec_l11Size (p : Int) (A : Option Addr) (n c : Nat) (w : World) (hn : n ≤ 6) : Calls Try.prog 50 #[.agg #[.int .i64 p, .slice A n c]] w fun e w' => e = .returned (.int .i64 (2 ^ n)) ∧ Below w.heap.size w w' := by
  obtain ⟨g0, g1, g2⟩ := ipow_le6 hn
  go_enter Try.func50, Try.ntmps50
  go_wp2
  go_ret
  exact ⟨by first | rfl | (unfold wrap64; exact ret_int (by omega)), (Below.refl _ _).alloc (Nat.le_refl _) _⟩

theorem Doubling_size (p : Int) (A : Option Addr) (n c : Nat) (w : World) (hn : n ≤ 6) : Calls Try.prog 51 #[.agg #[.int .i64 p, .slice A n c]] w fun e w' => e = .returned (.int .i64 (2 ^ n)) ∧ Below w.heap.size w w' := by
  obtain ⟨g0, g1, g2⟩ := ipow_le6 hn
  go_enter Try.func51, Try.ntmps51
  go_wp2
  go_ret
  exact ⟨by first | rfl | (unfold wrap64; exact ret_int (by omega)), (Below.refl _ _).alloc (Nat.le_refl _) _⟩

def sizV (p : Int) (st : List Int) : Int := if dblB p st then 2 ^ st.length else 0
def atB (k : Nat) (p : Int) (st : List Int) : Bool := dblB p st && decide (st.length ≤ k)

theorem spec_DoublingSize (p : Int) (A : Option Addr) (n c : Nat) (xs : List Int) (w : World) (hx : Ints w A n xs) :
    Calls Try.prog 19 #[.agg #[.int .i64 p, .slice A n c]] w fun e w' => e = .returned (.tuple #[.int .i64 (sizV p xs), .int .i64 (codeD p xs 0 [])]) ∧ Below w.heap.size w w' := by
  have HX := Lib.hid hx
  have hm := hx.2.1
  have HN := Lib.hid hx.1
  clear hx
  unfold maxLen at hm
  have H2 := Lib.hid (show Below w.heap.size w (w.alloc (.cells #[.int .i64 p, .slice A n c] 27)) from (Below.refl _ _).alloc (Nat.le_refl _) _)
  cases hs : dblB p xs with
  | true =>
    obtain ⟨hp, _, hl1, hn⟩ := dblB_true hs
    rw [HN.out] at hl1
    replace hl1 : n ≤ 6 := by omega
    obtain ⟨g0, g1, g2⟩ := ipow_le6 hl1
    have HS := Lib.hid hs
    have HC := Lib.hid (show codeD p xs 0 [] = 0 by simp [codeD, hs])
    have HV := Lib.hid (show sizV p xs = 2 ^ n by unfold sizV; rw [hs, HN.out]; rfl)
    rw [HV.out, HC.out]
    clear hp hn hs
    go_enter Try.func19, Try.ntmps19
    have c0 : (w.alloc (.cells #[.int .i64 p, .slice A n c] 27)).cell? ⟨w.heap.size, 0, none⟩ = some (.int .i64 p) := by simp [go_sem]
    have c1 : (w.alloc (.cells #[.int .i64 p, .slice A n c] 27)).cell? ⟨w.heap.size, 1, none⟩ = some (.slice A n c) := by simp [go_sem]
    have HW := Lib.hid (Below.refl (w.alloc (.cells #[.int .i64 p, .slice A n c] 27)).heap.size (w.alloc (.cells #[.int .i64 p, .slice A n c] 27)))
    go_wp2_with fail
    refine (spec_l11Is _ _ _ _ xs _ (HX.out.keep (H2.out.trans (HW.out.mono H2.out.size)))).mono ?_
    rw [HS.out]
    rintro e v ⟨rfl, hb⟩
    replace c0 := keep_cell hb c0
    replace c1 := keep_cell hb c1
    replace HW := Lib.hid (below_then HW.out hb)
    clear hb
    go_wp2_with fail
    refine (spec_l11Size _ _ _ _ _ hl1).mono ?_
    rintro e v ⟨rfl, hb⟩
    replace c0 := keep_cell hb c0
    replace c1 := keep_cell hb c1
    replace HW := Lib.hid (below_then HW.out hb)
    clear hb
    go_wp2_with fail
    go_ret2
    exact ⟨rfl, (H2.out.trans (HW.out.mono H2.out.size))⟩
  | false =>
    have HS := Lib.hid hs
    have HC := Lib.hid (show codeD p xs 0 [] = 1 by simp [codeD, hs])
    have HV := Lib.hid (show sizV p xs = 0 by unfold sizV; rw [hs]; rfl)
    rw [HV.out, HC.out]
    clear hs
    go_enter Try.func19, Try.ntmps19
    have c0 : (w.alloc (.cells #[.int .i64 p, .slice A n c] 27)).cell? ⟨w.heap.size, 0, none⟩ = some (.int .i64 p) := by simp [go_sem]
    have c1 : (w.alloc (.cells #[.int .i64 p, .slice A n c] 27)).cell? ⟨w.heap.size, 1, none⟩ = some (.slice A n c) := by simp [go_sem]
    have HW := Lib.hid (Below.refl (w.alloc (.cells #[.int .i64 p, .slice A n c] 27)).heap.size (w.alloc (.cells #[.int .i64 p, .slice A n c] 27)))
    go_wp2_with fail
    refine (spec_l11Is _ _ _ _ xs _ (HX.out.keep (H2.out.trans (HW.out.mono H2.out.size)))).mono ?_
    rw [HS.out]
    rintro e v ⟨rfl, hb⟩
    replace c0 := keep_cell hb c0
    replace c1 := keep_cell hb c1
    replace HW := Lib.hid (below_then HW.out hb)
    clear hb
    go_wp2_with fail
    go_ret2
    exact ⟨rfl, (H2.out.trans (HW.out.mono H2.out.size))⟩

theorem impl_DoublingSize (p : Int) (A : Option Addr) (n c : Nat) (xs : List Int) (w : World) (hx : Ints w A n xs) :
    Calls Try.prog 20 #[.agg #[.int .i64 p, .slice A n c]] w fun e w' => e = .returned (.tuple #[.int .i64 (sizV p xs), .int .i64 (codeD p xs 0 [])]) ∧ Below w.heap.size w w' := by
  have HX := Lib.hid hx
  have hm := hx.2.1
  have HN := Lib.hid hx.1
  clear hx
  unfold maxLen at hm
  have H2 := Lib.hid (show Below w.heap.size w (w.alloc (.cells #[.int .i64 p, .slice A n c] 27)) from (Below.refl _ _).alloc (Nat.le_refl _) _)
  cases hs : dblB p xs with
  | true =>
    obtain ⟨hp, _, hl1, hn⟩ := dblB_true hs
    rw [HN.out] at hl1
    replace hl1 : n ≤ 6 := by omega
    obtain ⟨g0, g1, g2⟩ := ipow_le6 hl1
    have HS := Lib.hid hs
    have HC := Lib.hid (show codeD p xs 0 [] = 0 by simp [codeD, hs])
    have HV := Lib.hid (show sizV p xs = 2 ^ n by unfold sizV; rw [hs, HN.out]; rfl)
    rw [HV.out, HC.out]
    clear hp hn hs
    go_enter Try.func20, Try.ntmps20
    have c0 : (w.alloc (.cells #[.int .i64 p, .slice A n c] 27)).cell? ⟨w.heap.size, 0, none⟩ = some (.int .i64 p) := by simp [go_sem]
    have c1 : (w.alloc (.cells #[.int .i64 p, .slice A n c] 27)).cell? ⟨w.heap.size, 1, none⟩ = some (.slice A n c) := by simp [go_sem]
    have HW := Lib.hid (Below.refl (w.alloc (.cells #[.int .i64 p, .slice A n c] 27)).heap.size (w.alloc (.cells #[.int .i64 p, .slice A n c] 27)))
    go_wp2_with fail
    refine (impl_IsDoubling _ _ _ _ xs _ (HX.out.keep (H2.out.trans (HW.out.mono H2.out.size)))).mono ?_
    rw [HS.out]
    rintro e v ⟨rfl, hb⟩
    replace c0 := keep_cell hb c0
    replace c1 := keep_cell hb c1
    replace HW := Lib.hid (below_then HW.out hb)
    clear hb
    go_wp2_with fail
    refine (Doubling_size _ _ _ _ _ hl1).mono ?_
    rintro e v ⟨rfl, hb⟩
    replace c0 := keep_cell hb c0
    replace c1 := keep_cell hb c1
    replace HW := Lib.hid (below_then HW.out hb)
    clear hb
    go_wp2_with fail
    go_ret2
    exact ⟨rfl, (H2.out.trans (HW.out.mono H2.out.size))⟩
  | false =>
    have HS := Lib.hid hs
    have HC := Lib.hid (show codeD p xs 0 [] = 1 by simp [codeD, hs])
    have HV := Lib.hid (show sizV p xs = 0 by unfold sizV; rw [hs]; rfl)
    rw [HV.out, HC.out]
    clear hs
    go_enter Try.func20, Try.ntmps20
    have c0 : (w.alloc (.cells #[.int .i64 p, .slice A n c] 27)).cell? ⟨w.heap.size, 0, none⟩ = some (.int .i64 p) := by simp [go_sem]
    have c1 : (w.alloc (.cells #[.int .i64 p, .slice A n c] 27)).cell? ⟨w.heap.size, 1, none⟩ = some (.slice A n c) := by simp [go_sem]
    have HW := Lib.hid (Below.refl (w.alloc (.cells #[.int .i64 p, .slice A n c] 27)).heap.size (w.alloc (.cells #[.int .i64 p, .slice A n c] 27)))
    go_wp2_with fail
    refine (impl_IsDoubling _ _ _ _ xs _ (HX.out.keep (H2.out.trans (HW.out.mono H2.out.size)))).mono ?_
    rw [HS.out]
    rintro e v ⟨rfl, hb⟩
    replace c0 := keep_cell hb c0
    replace c1 := keep_cell hb c1
    replace HW := Lib.hid (below_then HW.out hb)
    clear hb
    go_wp2_with fail
    go_ret2
    exact ⟨rfl, (H2.out.trans (HW.out.mono H2.out.size))⟩

theorem impl_hasAtMost (p : Int) (A : Option Addr) (n c : Nat) (xs : List Int) (k : Nat) (w : World) (hx : Ints w A n xs) (hk : k ≤ 100) :
    Calls Try.prog 60 #[.agg #[.int .i64 p, .slice A n c], .int .i64 k] w fun e w' => e = .returned (.tuple #[.bool (atB k p xs), .int .i64 (codeD p xs 0 [])]) ∧ Below w.heap.size w w' := by
  have HX := Lib.hid hx
  have hm := hx.2.1
  have HN := Lib.hid hx.1
  clear hx
  unfold maxLen at hm
  have H2 := Lib.hid (show Below w.heap.size w (w.alloc (.cells #[.int .i64 p, .slice A n c] 27)) from (Below.refl _ _).alloc (Nat.le_refl _) _)
  cases hs : dblB p xs with
  | true =>
    have HS := Lib.hid hs
    have HC := Lib.hid (show codeD p xs 0 [] = 0 by simp [codeD, hs])
    have HV := Lib.hid (show atB k p xs = decide (n ≤ k) by unfold atB; rw [hs, HN.out]; rfl)
    rw [HV.out, HC.out]
    clear hs
    go_enter Try.func60, Try.ntmps60
    have c0 : (w.alloc (.cells #[.int .i64 p, .slice A n c] 27)).cell? ⟨w.heap.size, 0, none⟩ = some (.int .i64 p) := by simp [go_sem]
    have c1 : (w.alloc (.cells #[.int .i64 p, .slice A n c] 27)).cell? ⟨w.heap.size, 1, none⟩ = some (.slice A n c) := by simp [go_sem]
    have HW := Lib.hid (Below.refl (w.alloc (.cells #[.int .i64 p, .slice A n c] 27)).heap.size (w.alloc (.cells #[.int .i64 p, .slice A n c] 27)))
    go_wp2_with fail
    refine (impl_IsDoubling _ _ _ _ xs _ (HX.out.keep (H2.out.trans (HW.out.mono H2.out.size)))).mono ?_
    rw [HS.out]
    rintro e v ⟨rfl, hb⟩
    replace c0 := keep_cell hb c0
    replace c1 := keep_cell hb c1
    replace HW := Lib.hid (below_then HW.out hb)
    clear hb
    by_cases hlt : n ≤ k
    · have q : ((n : Int) ≤ (k : Int)) := by omega
      have HQ := Lib.hid (show decide (n ≤ k) = true from decide_eq_true hlt)
      go_wp2_with fail
      go_ret2
      exact ⟨by rw [HQ.out]; rfl, (H2.out.trans (HW.out.mono H2.out.size))⟩
    · have q : ¬ ((n : Int) ≤ (k : Int)) := by omega
      have HQ := Lib.hid (show decide (n ≤ k) = false from decide_eq_false hlt)
      clear hlt
      go_wp2_with fail
      go_ret2
      exact ⟨by rw [HQ.out]; rfl, (H2.out.trans (HW.out.mono H2.out.size))⟩
  | false =>
    have HS := Lib.hid hs
    have HC := Lib.hid (show codeD p xs 0 [] = 1 by simp [codeD, hs])
    have HV := Lib.hid (show atB k p xs = false by unfold atB; rw [hs]; rfl)
    rw [HV.out, HC.out]
    clear hs
    go_enter Try.func60, Try.ntmps60
    have c0 : (w.alloc (.cells #[.int .i64 p, .slice A n c] 27)).cell? ⟨w.heap.size, 0, none⟩ = some (.int .i64 p) := by simp [go_sem]
    have c1 : (w.alloc (.cells #[.int .i64 p, .slice A n c] 27)).cell? ⟨w.heap.size, 1, none⟩ = some (.slice A n c) := by simp [go_sem]
    have HW := Lib.hid (Below.refl (w.alloc (.cells #[.int .i64 p, .slice A n c] 27)).heap.size (w.alloc (.cells #[.int .i64 p, .slice A n c] 27)))
    go_wp2_with fail
    refine (impl_IsDoubling _ _ _ _ xs _ (HX.out.keep (H2.out.trans (HW.out.mono H2.out.size)))).mono ?_
    rw [HS.out]
    rintro e v ⟨rfl, hb⟩
    replace c0 := keep_cell hb c0
    replace c1 := keep_cell hb c1
    replace HW := Lib.hid (below_then HW.out hb)
    clear hb
    go_wp2_with fail
    go_ret2
    exact ⟨rfl, (H2.out.trans (HW.out.mono H2.out.size))⟩

theorem impl_IsCommutativeDoubling (p : Int) (A : Option Addr) (n c : Nat) (xs : List Int) (w : World) (hx : Ints w A n xs) :
    Calls Try.prog 31 #[.agg #[.int .i64 p, .slice A n c]] w fun e w' => e = .returned (.tuple #[.bool (atB 1 p xs), .int .i64 (codeD p xs 0 [])]) ∧ Below w.heap.size w w' := by
  have HX := Lib.hid hx
  have hm := hx.2.1
  have HN := Lib.hid hx.1
  clear hx
  unfold maxLen at hm
  have H2 := Lib.hid (show Below w.heap.size w (w.alloc (.cells #[.int .i64 p, .slice A n c] 27)) from (Below.refl _ _).alloc (Nat.le_refl _) _)
  go_enter Try.func31, Try.ntmps31
  have c0 : (w.alloc (.cells #[.int .i64 p, .slice A n c] 27)).cell? ⟨w.heap.size, 0, none⟩ = some (.int .i64 p) := by simp [go_sem]
  have c1 : (w.alloc (.cells #[.int .i64 p, .slice A n c] 27)).cell? ⟨w.heap.size, 1, none⟩ = some (.slice A n c) := by simp [go_sem]
  have HW := Lib.hid (Below.refl (w.alloc (.cells #[.int .i64 p, .slice A n c] 27)).heap.size (w.alloc (.cells #[.int .i64 p, .slice A n c] 27)))
  go_wp2_with fail
  refine (impl_hasAtMost _ _ _ _ xs 1 _ (HX.out.keep (H2.out.trans (HW.out.mono H2.out.size))) (by omega)).mono ?_
  rintro e v ⟨rfl, hb⟩
  replace c0 := keep_cell hb c0
  replace c1 := keep_cell hb c1
  replace HW := Lib.hid (below_then HW.out hb)
  clear hb
  go_wp2_with fail
  go_ret2
  exact ⟨rfl, (H2.out.trans (HW.out.mono H2.out.size))⟩

theorem impl_IsAssociativeDoubling (p : Int) (A : Option Addr) (n c : Nat) (xs : List Int) (w : World) (hx : Ints w A n xs) :
    Calls Try.prog 33 #[.agg #[.int .i64 p, .slice A n c]] w fun e w' => e = .returned (.tuple #[.bool (atB 2 p xs), .int .i64 (codeD p xs 0 [])]) ∧ Below w.heap.size w w' := by
  have HX := Lib.hid hx
  have hm := hx.2.1
  have HN := Lib.hid hx.1
  clear hx
  unfold maxLen at hm
  have H2 := Lib.hid (show Below w.heap.size w (w.alloc (.cells #[.int .i64 p, .slice A n c] 27)) from (Below.refl _ _).alloc (Nat.le_refl _) _)
  go_enter Try.func33, Try.ntmps33
  have c0 : (w.alloc (.cells #[.int .i64 p, .slice A n c] 27)).cell? ⟨w.heap.size, 0, none⟩ = some (.int .i64 p) := by simp [go_sem]
  have c1 : (w.alloc (.cells #[.int .i64 p, .slice A n c] 27)).cell? ⟨w.heap.size, 1, none⟩ = some (.slice A n c) := by simp [go_sem]
  have HW := Lib.hid (Below.refl (w.alloc (.cells #[.int .i64 p, .slice A n c] 27)).heap.size (w.alloc (.cells #[.int .i64 p, .slice A n c] 27)))
  go_wp2_with fail
  refine (impl_hasAtMost _ _ _ _ xs 2 _ (HX.out.keep (H2.out.trans (HW.out.mono H2.out.size))) (by omega)).mono ?_
  rintro e v ⟨rfl, hb⟩
  replace c0 := keep_cell hb c0
  replace c1 := keep_cell hb c1
  replace HW := Lib.hid (below_then HW.out hb)
  clear hb
  go_wp2_with fail
  go_ret2
  exact ⟨rfl, (H2.out.trans (HW.out.mono H2.out.size))⟩

theorem impl_IsAlternativeDoubling (p : Int) (A : Option Addr) (n c : Nat) (xs : List Int) (w : World) (hx : Ints w A n xs) :
    Calls Try.prog 35 #[.agg #[.int .i64 p, .slice A n c]] w fun e w' => e = .returned (.tuple #[.bool (atB 3 p xs), .int .i64 (codeD p xs 0 [])]) ∧ Below w.heap.size w w' := by
  have HX := Lib.hid hx
  have hm := hx.2.1
  have HN := Lib.hid hx.1
  clear hx
  unfold maxLen at hm
  have H2 := Lib.hid (show Below w.heap.size w (w.alloc (.cells #[.int .i64 p, .slice A n c] 27)) from (Below.refl _ _).alloc (Nat.le_refl _) _)
  go_enter Try.func35, Try.ntmps35
  have c0 : (w.alloc (.cells #[.int .i64 p, .slice A n c] 27)).cell? ⟨w.heap.size, 0, none⟩ = some (.int .i64 p) := by simp [go_sem]
  have c1 : (w.alloc (.cells #[.int .i64 p, .slice A n c] 27)).cell? ⟨w.heap.size, 1, none⟩ = some (.slice A n c) := by simp [go_sem]
  have HW := Lib.hid (Below.refl (w.alloc (.cells #[.int .i64 p, .slice A n c] 27)).heap.size (w.alloc (.cells #[.int .i64 p, .slice A n c] 27)))
  go_wp2_with fail
  refine (impl_hasAtMost _ _ _ _ xs 3 _ (HX.out.keep (H2.out.trans (HW.out.mono H2.out.size))) (by omega)).mono ?_
  rintro e v ⟨rfl, hb⟩
  replace c0 := keep_cell hb c0
  replace c1 := keep_cell hb c1
  replace HW := Lib.hid (below_then HW.out hb)
  clear hb
  go_wp2_with fail
  go_ret2
  exact ⟨rfl, (H2.out.trans (HW.out.mono H2.out.size))⟩

theorem checkElements_1 (p : Int) (A B : Option Addr) (n c m d g : Nat) (ys : List Int) (w : World) (hy : Ints w B m ys) (hn6 : n ≤ 6) (h0 : 3 ≤ p) (h1 : p ≤ 13)
    (c0 : w.cell? ⟨g, 0, none⟩ = some (.int .i64 p)) (c1 : w.cell? ⟨g, 1, none⟩ = some (.slice A n c)) :
    Calls Try.prog 77 #[.slice B m d, .pointer (some ⟨g, 0, none⟩)] w fun e w' => e = .returned (.bool (!lstB p (2 ^ n) ys)) ∧ Below w.heap.size w w' := by
  have HY := Lib.hid hy
  have hm2 := hy.2.1
  have HM := Lib.hid hy.1
  clear hy
  unfold maxLen at hm2
  obtain ⟨g0, g1, g2⟩ := ipow_le6 hn6
  rcases lstB_cases p (2 ^ n) ys with ⟨hl, hlen, hnum⟩ | ⟨hl, hlen⟩ | ⟨hl, hlen, hnum⟩
  · rw [hl]
    have q1 : ((m : Int) == 2 ^ n) = true := by rw [eqpow]; exact decide_eq_true (by rw [← HM.out, hlen])
    have q2 : ((m : Int) != 2 ^ n) = false := by rw [bne, q1]; rfl
    clear hl hlen
    go_enter Try.func77, Try.ntmps77
    go_wp2_with fail
    refine (Doubling_size _ _ _ _ _ hn6).mono ?_
    rintro e v ⟨rfl, hb⟩
    replace c0 := keep_cell hb c0
    replace c1 := keep_cell hb c1
    have HB := Lib.hid hb
    clear hb
    go_wp2_with fail
    refine (Doubling_field _ _ _ _ _).mono ?_
    rintro e v2 ⟨rfl, hb⟩
    replace HB := Lib.hid (below_then HB.out hb)
    clear hb
    go_wp2_with (go_at_call 48; refine (impl_is _ _ _ _ ys _ (by omega) (by omega) (HY.out.keep HB.out)).mono ?_; rintro e w' ⟨rfl, rfl⟩)
    go_ret
    exact ⟨rfl, HB.out⟩
  · rw [hl]
    have q1 : ((m : Int) == 2 ^ n) = false := by rw [eqpow]; exact decide_eq_false (by rw [← HM.out]; exact hlen)
    have q2 : ((m : Int) != 2 ^ n) = true := by rw [bne, q1]; rfl
    clear hl hlen
    go_enter Try.func77, Try.ntmps77
    go_wp2_with fail
    refine (Doubling_size _ _ _ _ _ hn6).mono ?_
    rintro e v ⟨rfl, hb⟩
    replace c0 := keep_cell hb c0
    replace c1 := keep_cell hb c1
    have HB := Lib.hid hb
    clear hb
    go_wp2_with fail
    go_ret
    exact ⟨rfl, HB.out⟩
  · rw [hl]
    have q1 : ((m : Int) == 2 ^ n) = true := by rw [eqpow]; exact decide_eq_true (by rw [← HM.out, hlen])
    have q2 : ((m : Int) != 2 ^ n) = false := by rw [bne, q1]; rfl
    clear hl hlen
    go_enter Try.func77, Try.ntmps77
    go_wp2_with fail
    refine (Doubling_size _ _ _ _ _ hn6).mono ?_
    rintro e v ⟨rfl, hb⟩
    replace c0 := keep_cell hb c0
    replace c1 := keep_cell hb c1
    have HB := Lib.hid hb
    clear hb
    go_wp2_with fail
    refine (Doubling_field _ _ _ _ _).mono ?_
    rintro e v2 ⟨rfl, hb⟩
    replace HB := Lib.hid (below_then HB.out hb)
    clear hb
    go_wp2_with (go_at_call 48; refine (impl_is _ _ _ _ ys _ (by omega) (by omega) (HY.out.keep HB.out)).mono ?_; rintro e w' ⟨rfl, rfl⟩)
    go_ret
    exact ⟨rfl, HB.out⟩

theorem IndexFunc_checkElements (p : Int) (A L : Option Addr) (n c m d g : Nat) (vs : List (List Int)) (w : World) (hl : Lists w L m vs) (hn6 : n ≤ 6) (h0 : 3 ≤ p) (h1 : p ≤ 13)
    (c0 : w.cell? ⟨g, 0, none⟩ = some (.int .i64 p)) (c1 : w.cell? ⟨g, 1, none⟩ = some (.slice A n c)) :
    Calls Try.prog 83 #[.slice L m d, .func (.func 77) #[] #[.pointer (some ⟨g, 0, none⟩)]] w fun e w' => ∃ r : Int, e = .returned (.int .i64 r) ∧ -1 ≤ r ∧ r ≤ 1000 ∧ (0 ≤ r ↔ vs.all (lstB p (2 ^ n)) = false) ∧ Below w.heap.size w w' := by
  have HL := Lib.hid hl
  have hm := hl.2.1
  clear hl
  go_enter Try.func83, Try.ntmps83
  go_wp2
  go_loopw [8] (fun i wr => ∃ k : Nat, k ≤ m ∧ i = .int .i64 k ∧ (vs.take k).all (lstB p (2 ^ n)) = true ∧ Below w.heap.size w wr) (fun i _ => m - (intOf i).toNat)
  case atStart => exact ⟨0, Nat.zero_le _, rfl, rfl, Below.refl _ _⟩
  case round =>
    obtain ⟨k, hk, rfl, hall, hbel⟩ := hrel
    have HA := Lib.hid hall
    have HB := Lib.hid hbel
    have e0 := keep_cell hbel c0
    have e1 := keep_cell hbel c1
    clear hall hbel c0 c1
    by_cases hlt : k < m
    · obtain ⟨b, off, v, B, q, cq, rfl, hvk, hcell, hints⟩ := (HL.out.keep HB.out).at_ hlt
      have HK := Lib.hid hvk
      have HI := Lib.hid hints
      clear hvk hints
      cases hv : lstB p (2 ^ n) v with
      | true =>
        have HV := Lib.hid hv
        clear hv
        go_wp2_with fail
        refine (checkElements_1 p A _ n c _ _ g v _ HI.out hn6 h0 h1 e0 e1).mono ?_
        rw [HV.out]
        rintro e v1 ⟨rfl, hb⟩
        replace HB := Lib.hid (below_then HB.out hb)
        clear hb
        go_wp2_with fail
        go_roundw
        case rel => exact ⟨k + 1, by omega, by go_num, all_step HK.out HA.out HV.out, HB.out⟩
        case measure => simp [intOf]; omega
      | false =>
        have HV := Lib.hid hv
        clear hv
        go_wp2_with fail
        refine (checkElements_1 p A _ n c _ _ g v _ HI.out hn6 h0 h1 e0 e1).mono ?_
        rw [HV.out]
        rintro e v1 ⟨rfl, hb⟩
        replace HB := Lib.hid (below_then HB.out hb)
        clear hb
        go_wp2_with fail
        go_ret
        exact ⟨k, rfl, by omega, by omega, ⟨fun _ => all_bad HK.out HV.out, fun _ => by omega⟩, HB.out⟩
    · obtain rfl : k = m := by omega
      go_wp2
      go_ret
      exact ⟨-1, rfl, by omega, by omega, ⟨fun h => by omega, fun h => by
        have := HA.out; rw [List.take_of_length_le (by have := HL.out.1; omega), h] at this; cases this⟩, HB.out⟩

theorem ContainsFunc_checkElements (p : Int) (A L : Option Addr) (n c m d g : Nat) (vs : List (List Int)) (w : World) (hl : Lists w L m vs) (hn6 : n ≤ 6) (h0 : 3 ≤ p) (h1 : p ≤ 13)
    (c0 : w.cell? ⟨g, 0, none⟩ = some (.int .i64 p)) (c1 : w.cell? ⟨g, 1, none⟩ = some (.slice A n c)) :
    Calls Try.prog 76 #[.slice L m d, .func (.func 77) #[] #[.pointer (some ⟨g, 0, none⟩)]] w fun e w' => e = .returned (.bool (!vs.all (lstB p (2 ^ n)))) ∧ Below w.heap.size w w' := by
  have HL := Lib.hid hl
  clear hl
  go_enter Try.func76, Try.ntmps76
  go_wp2_with fail
  refine (IndexFunc_checkElements p A _ n c _ _ g vs _ HL.out hn6 h0 h1 c0 c1).mono ?_
  rintro e v ⟨r, rfl, hr0, hr1, hr, hb⟩
  have HR := Lib.hid hr
  clear hr
  by_cases h : (0 : Int) ≤ r
  · go_wp2
    go_ret
    exact ⟨ret_bool (by rw [HR.out.1 h]; rfl), hb⟩
  · have HV := Lib.hid (show vs.all (lstB p (2 ^ n)) = true by
      cases e : vs.all (lstB p (2 ^ n)) with
      | true => rfl
      | false => exact absurd (HR.out.2 e) h)
    go_wp2
    go_ret
    exact ⟨ret_bool (by rw [HV.out]; exact decide_eq_false (by omega)), hb⟩

theorem impl_checkElements (p : Int) (A L : Option Addr) (n c m d : Nat) (xs : List Int) (vs : List (List Int)) (w : World) (hx : Ints w A n xs) (hl : Lists w L m vs) :
    Calls Try.prog 56 #[.agg #[.int .i64 p, .slice A n c], .slice L m d] w fun e w' => e = .returned (.int .i64 (codeD p xs (2 ^ n) vs)) ∧ Below w.heap.size w w' := by
  have HX := Lib.hid hx
  have hm := hx.2.1
  have HN := Lib.hid hx.1
  clear hx
  unfold maxLen at hm
  have H2 := Lib.hid (show Below w.heap.size w (w.alloc (.cells #[.int .i64 p, .slice A n c] 27)) from (Below.refl _ _).alloc (Nat.le_refl _) _)
  have HL := Lib.hid hl
  clear hl
  by_cases hs : dblB p xs = true
  · obtain ⟨hp, hl0, hl1, hn⟩ := dblB_true hs
    rw [HN.out] at hl0 hl1
    have h0 := prime_lo hp
    have h1 := prime_hi hp
    clear hp hn
    cases ha : vs.all (lstB p (2 ^ n)) with
    | true =>
      have HC := Lib.hid (show codeD p xs (2 ^ n) vs = 0 by simp [codeD, hs, ha])
      rw [HC.out]
      have HA := Lib.hid ha
      clear ha
      go_enter Try.func56, Try.ntmps56
      have c0 : (w.alloc (.cells #[.int .i64 p, .slice A n c] 27)).cell? ⟨w.heap.size, 0, none⟩ = some (.int .i64 p) := by simp [go_sem]
      have c1 : (w.alloc (.cells #[.int .i64 p, .slice A n c] 27)).cell? ⟨w.heap.size, 1, none⟩ = some (.slice A n c) := by simp [go_sem]
      have HW := Lib.hid (Below.refl (w.alloc (.cells #[.int .i64 p, .slice A n c] 27)).heap.size (w.alloc (.cells #[.int .i64 p, .slice A n c] 27)))
      go_wp2_with fail
      refine (impl_IsDoubling _ _ _ _ xs _ (HX.out.keep (H2.out.trans (HW.out.mono H2.out.size)))).mono ?_
      rintro e v ⟨rfl, hb⟩
      replace c0 := keep_cell hb c0
      replace c1 := keep_cell hb c1
      replace HW := Lib.hid (below_then HW.out hb)
      clear hb
      go_wp2_with fail
      refine (ContainsFunc_checkElements p A _ n c _ _ _ vs _ (HL.out.keep (H2.out.trans (HW.out.mono H2.out.size))) (by omega) h0 h1 c0 c1).mono ?_
      rw [HA.out]
      rintro e v ⟨rfl, hb⟩
      replace c0 := keep_cell hb c0
      replace c1 := keep_cell hb c1
      replace HW := Lib.hid (below_then HW.out hb)
      clear hb
      go_wp2_with fail
      go_ret
      exact ⟨rfl, (H2.out.trans (HW.out.mono H2.out.size))⟩
    | false =>
      have HC := Lib.hid (show codeD p xs (2 ^ n) vs = 2 by simp [codeD, hs, ha])
      rw [HC.out]
      have HA := Lib.hid ha
      clear ha
      go_enter Try.func56, Try.ntmps56
      have c0 : (w.alloc (.cells #[.int .i64 p, .slice A n c] 27)).cell? ⟨w.heap.size, 0, none⟩ = some (.int .i64 p) := by simp [go_sem]
      have c1 : (w.alloc (.cells #[.int .i64 p, .slice A n c] 27)).cell? ⟨w.heap.size, 1, none⟩ = some (.slice A n c) := by simp [go_sem]
      have HW := Lib.hid (Below.refl (w.alloc (.cells #[.int .i64 p, .slice A n c] 27)).heap.size (w.alloc (.cells #[.int .i64 p, .slice A n c] 27)))
      go_wp2_with fail
      refine (impl_IsDoubling _ _ _ _ xs _ (HX.out.keep (H2.out.trans (HW.out.mono H2.out.size)))).mono ?_
      rintro e v ⟨rfl, hb⟩
      replace c0 := keep_cell hb c0
      replace c1 := keep_cell hb c1
      replace HW := Lib.hid (below_then HW.out hb)
      clear hb
      go_wp2_with fail
      refine (ContainsFunc_checkElements p A _ n c _ _ _ vs _ (HL.out.keep (H2.out.trans (HW.out.mono H2.out.size))) (by omega) h0 h1 c0 c1).mono ?_
      rw [HA.out]
      rintro e v ⟨rfl, hb⟩
      replace c0 := keep_cell hb c0
      replace c1 := keep_cell hb c1
      replace HW := Lib.hid (below_then HW.out hb)
      clear hb
      go_wp2_with fail
      go_ret
      exact ⟨rfl, (H2.out.trans (HW.out.mono H2.out.size))⟩
  · have hs' : dblB p xs = false := by simpa using hs
    have HC := Lib.hid (show codeD p xs (2 ^ n) vs = 1 by simp [codeD, hs'])
    rw [HC.out]
    clear hs
    go_enter Try.func56, Try.ntmps56
    have c0 : (w.alloc (.cells #[.int .i64 p, .slice A n c] 27)).cell? ⟨w.heap.size, 0, none⟩ = some (.int .i64 p) := by simp [go_sem]
    have c1 : (w.alloc (.cells #[.int .i64 p, .slice A n c] 27)).cell? ⟨w.heap.size, 1, none⟩ = some (.slice A n c) := by simp [go_sem]
    have HW := Lib.hid (Below.refl (w.alloc (.cells #[.int .i64 p, .slice A n c] 27)).heap.size (w.alloc (.cells #[.int .i64 p, .slice A n c] 27)))
    go_wp2_with fail
    refine (impl_IsDoubling _ _ _ _ xs _ (HX.out.keep (H2.out.trans (HW.out.mono H2.out.size)))).mono ?_
    rintro e v ⟨rfl, hb⟩
    replace c0 := keep_cell hb c0
    replace c1 := keep_cell hb c1
    replace HW := Lib.hid (below_then HW.out hb)
    clear hb
    go_wp2_with fail
    go_ret
    exact ⟨rfl, (H2.out.trans (HW.out.mono H2.out.size))⟩

theorem in01_is (n lo hi : Int) (b : Bool) (w : World) (h : rangeB n lo hi = b) : Calls Try.prog 71 #[.int .i64 n, .int .i64 lo, .int .i64 hi] w fun e w' => e = .returned (.bool b) ∧ w = w' := by
  have h1 := spec_l01In n lo hi w
  rw [h] at h1
  exact h1

theorem spec_l11Element (p : Int) (A B : Option Addr) (n c m d : Nat) (ys : List Int) (w : World) (hy : Ints w B m ys) (hn6 : n ≤ 6) (h0 : 3 ≤ p) (h1 : p ≤ 13) :
    Calls Try.prog 75 #[.agg #[.int .i64 p, .slice A n c], .slice B m d] w fun e w' => e = .returned (.bool (lstB p (2 ^ n) ys)) ∧ Below w.heap.size w w' := by
  have HY := Lib.hid hy
  have hm2 := hy.2.1
  have HM := Lib.hid hy.1
  clear hy
  unfold maxLen at hm2
  obtain ⟨g0, g1, g2⟩ := ipow_le6 hn6
  have H2 := Lib.hid (show Below w.heap.size w (w.alloc (.cells #[.int .i64 p, .slice A n c] 27)) from (Below.refl _ _).alloc (Nat.le_refl _) _)
  go_enter Try.func75, Try.ntmps75
  have c0 : (w.alloc (.cells #[.int .i64 p, .slice A n c] 27)).cell? ⟨w.heap.size, 0, none⟩ = some (.int .i64 p) := by simp [go_sem]
  have c1 : (w.alloc (.cells #[.int .i64 p, .slice A n c] 27)).cell? ⟨w.heap.size, 1, none⟩ = some (.slice A n c) := by simp [go_sem]
  have HW := Lib.hid (Below.refl (w.alloc (.cells #[.int .i64 p, .slice A n c] 27)).heap.size (w.alloc (.cells #[.int .i64 p, .slice A n c] 27)))
  go_wp2
  go_loopw [5] (fun i wr => ∃ k : Nat, k ≤ m ∧ i = .int .i64 k ∧ numsB p (ys.take k) = true ∧ Below (w.alloc (.cells #[.int .i64 p, .slice A n c] 27)).heap.size (w.alloc (.cells #[.int .i64 p, .slice A n c] 27)) wr) (fun i _ => m - (intOf i).toNat)
  case atStart => exact ⟨0, Nat.zero_le _, rfl, rfl, HW.out⟩
  case round =>
    obtain ⟨k, hk, rfl, hall, hbel⟩ := hrel
    have HA := Lib.hid hall
    have HB := Lib.hid hbel
    have e0 := keep_cell hbel c0
    have e1 := keep_cell hbel c1
    clear hall hbel c0 c1 HW
    by_cases hlt : k < m
    · obtain ⟨b, off, x, rfl, hb, hxk, hck⟩ := (HY.out.keep (H2.out.trans (HB.out.mono H2.out.size))).at_ hlt
      have HK := Lib.hid hxk
      have k0 : (0 : Int) ≤ k := by omega
      have k1 : (k : Int) < m := by omega
      have f1 : IntKind.i64.wrap (p - 1) = p - 1 := IntWalk.i64_in _ (by omega)
      clear hxk hb
      cases hr : rangeB x 0 (p - 1) with
      | true =>
        have HR := Lib.hid hr
        clear hr
        go_wp2_with fail
        go_quiet ((go_at_call 71; exact quiet_left (in01_is _ _ _ true _ HR.out)))
        clear f1
        go_wp2
        go_roundw
        case rel => exact ⟨k + 1, by omega, by go_num, numsB_step HK.out HA.out (by rw [← rangeB_num]; exact HR.out), below_drewN HB.out _⟩
        case measure => simp [intOf]; omega
      | false =>
        have HR := Lib.hid hr
        have HBD := Lib.hid (show lstB p (2 ^ n) ys = false by unfold lstB; rw [numsB_bad HK.out (by rw [← rangeB_num]; exact hr), Bool.and_false])
        clear hr
        go_wp2_with fail
        go_quiet ((go_at_call 71; exact quiet_left (in01_is _ _ _ false _ HR.out)))
        clear f1
        go_wp2
        go_ret
        exact ⟨by rw [HBD.out]; rfl, below_drewN (H2.out.trans (HB.out.mono H2.out.size)) _⟩
    · obtain rfl : k = m := by omega
      have HT := Lib.hid (show lstB p (2 ^ n) ys = ((k : Int) == 2 ^ n) by
        have h := HA.out
        rw [List.take_of_length_le (by rw [HM.out]; exact Nat.le_refl _)] at h
        unfold lstB
        rw [h, eqpow, HM.out, Bool.and_true])
      go_wp2_with fail
      refine (spec_l11Size _ _ _ _ _ hn6).mono ?_
      rintro e v ⟨rfl, hb⟩
      go_wp2
      go_ret
      exact ⟨ret_bool HT.out.symm, (H2.out.trans ((below_then HB.out hb).mono H2.out.size))⟩

theorem spec_l11Code (p : Int) (A L : Option Addr) (n c m d : Nat) (xs : List Int) (vs : List (List Int)) (w : World) (hx : Ints w A n xs) (hl : Lists w L m vs) :
    Calls Try.prog 54 #[.agg #[.int .i64 p, .slice A n c], .slice L m d] w fun e w' => e = .returned (.int .i64 (codeD p xs (2 ^ n) vs)) ∧ Below w.heap.size w w' := by
  have HX := Lib.hid hx
  have hm := hx.2.1
  have HN := Lib.hid hx.1
  clear hx
  unfold maxLen at hm
  have H2 := Lib.hid (show Below w.heap.size w (w.alloc (.cells #[.int .i64 p, .slice A n c] 27)) from (Below.refl _ _).alloc (Nat.le_refl _) _)
  have HL := Lib.hid hl
  have hml := hl.2.1
  clear hl
  by_cases hs : dblB p xs = true
  · obtain ⟨hp, hl0, hl1, hn⟩ := dblB_true hs
    rw [HN.out] at hl0 hl1
    have HS := Lib.hid hs
    have h0 := prime_lo hp
    have h1 := prime_hi hp
    clear hp hn
    go_enter Try.func54, Try.ntmps54
    have c0 : (w.alloc (.cells #[.int .i64 p, .slice A n c] 27)).cell? ⟨w.heap.size, 0, none⟩ = some (.int .i64 p) := by simp [go_sem]
    have c1 : (w.alloc (.cells #[.int .i64 p, .slice A n c] 27)).cell? ⟨w.heap.size, 1, none⟩ = some (.slice A n c) := by simp [go_sem]
    have HW := Lib.hid (Below.refl (w.alloc (.cells #[.int .i64 p, .slice A n c] 27)).heap.size (w.alloc (.cells #[.int .i64 p, .slice A n c] 27)))
    go_wp2_with fail
    refine (spec_l11Is _ _ _ _ xs _ (HX.out.keep (H2.out.trans (HW.out.mono H2.out.size)))).mono ?_
    rintro e v ⟨rfl, hb⟩
    replace c0 := keep_cell hb c0
    replace c1 := keep_cell hb c1
    replace HW := Lib.hid (below_then HW.out hb)
    clear hb
    go_wp2
    go_loopw [5] (fun i wr => ∃ k : Nat, k ≤ m ∧ i = .int .i64 k ∧ (vs.take k).all (lstB p (2 ^ n)) = true ∧ Below (w.alloc (.cells #[.int .i64 p, .slice A n c] 27)).heap.size (w.alloc (.cells #[.int .i64 p, .slice A n c] 27)) wr) (fun i _ => m - (intOf i).toNat)
    case atStart => exact ⟨0, Nat.zero_le _, rfl, rfl, HW.out⟩
    case round =>
      obtain ⟨k, hk, rfl, hall, hbel⟩ := hrel
      have HA := Lib.hid hall
      clear hall c0 c1 HW
      have HW := Lib.hid hbel
      have c0 : wr.cell? ⟨w.heap.size, 0, none⟩ = some (.int .i64 p) := keep_cell hbel (by simp [go_sem])
      have c1 : wr.cell? ⟨w.heap.size, 1, none⟩ = some (.slice A n c) := keep_cell hbel (by simp [go_sem])
      clear hbel
      by_cases hlt : k < m
      · obtain ⟨b, off, v, B, q, cq, rfl, hvk, hcell, hints⟩ := (HL.out.keep (H2.out.trans (HW.out.mono H2.out.size))).at_ hlt
        have HK := Lib.hid hvk
        have HI := Lib.hid hints
        clear hvk hints
        have hki : (k : Int) < m := by omega
        cases hv : lstB p (2 ^ n) v with
        | true =>
          have HV := Lib.hid hv
          have HT := HV
          clear hv
          go_wp2_with fail
          go_region_held3 (fun w' => w'.cell? ⟨w.heap.size, 0, none⟩ = some (.int .i64 p) ∧ w'.cell? ⟨w.heap.size, 1, none⟩ = some (.slice A n c) ∧ w'.cell? ⟨b, off + k, none⟩ = some (.slice B q cq) ∧ Ints w' A n xs ∧ Ints w' B q v ∧ Below (w.alloc (.cells #[.int .i64 p, .slice A n c] 27)).heap.size (w.alloc (.cells #[.int .i64 p, .slice A n c] 27)) w')
            (first
              | exact ⟨c0, c1, hcell, Ints.drew (HX.out.keep (H2.out.trans (HW.out.mono H2.out.size))), Ints.drew HI.out, HW.out.drew⟩
              | (go_split_ands; exact ⟨keep_cell hbz ‹_›, keep_cell hbz ‹_›, keep_cell hbz ‹_›, Ints.keep ‹_› hbz, Ints.keep ‹_› hbz, below_then ‹_› hbz⟩)
              | go_keep)
            (first | (go_at_call 75; refine (spec_l11Element _ _ _ _ _ _ _ v _ (by go_split_ands; assumption) (by omega) h0 h1).mono ?_; rw [HT.out]; rintro e vz ⟨rfl, hbz⟩))
          rename_i hh
          obtain ⟨_, _, _, _, _, hbw⟩ := hh
          replace HW := Lib.hid hbw
          clear hbw
          go_wp2
          go_roundw
          case rel => exact ⟨k + 1, by omega, by go_num, all_step HK.out HA.out HV.out, HW.out⟩
          case measure => simp [intOf]; omega
        | false =>
          have HV := Lib.hid hv
          have HT := HV
          have HC := Lib.hid (show codeD p xs (2 ^ n) vs = 2 by simp [codeD, HS.out, all_bad HK.out HV.out])
          clear hv
          go_wp2_with fail
          go_region_held3 (fun w' => w'.cell? ⟨w.heap.size, 0, none⟩ = some (.int .i64 p) ∧ w'.cell? ⟨w.heap.size, 1, none⟩ = some (.slice A n c) ∧ w'.cell? ⟨b, off + k, none⟩ = some (.slice B q cq) ∧ Ints w' A n xs ∧ Ints w' B q v ∧ Below (w.alloc (.cells #[.int .i64 p, .slice A n c] 27)).heap.size (w.alloc (.cells #[.int .i64 p, .slice A n c] 27)) w')
            (first
              | exact ⟨c0, c1, hcell, Ints.drew (HX.out.keep (H2.out.trans (HW.out.mono H2.out.size))), Ints.drew HI.out, HW.out.drew⟩
              | (go_split_ands; exact ⟨keep_cell hbz ‹_›, keep_cell hbz ‹_›, keep_cell hbz ‹_›, Ints.keep ‹_› hbz, Ints.keep ‹_› hbz, below_then ‹_› hbz⟩)
              | go_keep)
            (first | (go_at_call 75; refine (spec_l11Element _ _ _ _ _ _ _ v _ (by go_split_ands; assumption) (by omega) h0 h1).mono ?_; rw [HT.out]; rintro e vz ⟨rfl, hbz⟩))
          rename_i hh
          obtain ⟨_, _, _, _, _, hbw⟩ := hh
          replace HW := Lib.hid hbw
          clear hbw
          go_wp2
          go_ret
          exact ⟨by rw [HC.out]; rfl, (H2.out.trans (HW.out.mono H2.out.size))⟩
      · obtain rfl : k = m := by omega
        have HC := Lib.hid (show codeD p xs (2 ^ n) vs = 0 by
          have := HA.out; rw [List.take_of_length_le (by have := HL.out.1; omega)] at this
          simp [codeD, HS.out, this])
        go_wp2
        go_ret
        exact ⟨by rw [HC.out]; rfl, (H2.out.trans (HW.out.mono H2.out.size))⟩
  · have hs' : dblB p xs = false := by simpa using hs
    have HC := Lib.hid (show codeD p xs (2 ^ n) vs = 1 by simp [codeD, hs'])
    rw [HC.out]
    clear hs
    go_enter Try.func54, Try.ntmps54
    have c0 : (w.alloc (.cells #[.int .i64 p, .slice A n c] 27)).cell? ⟨w.heap.size, 0, none⟩ = some (.int .i64 p) := by simp [go_sem]
    have c1 : (w.alloc (.cells #[.int .i64 p, .slice A n c] 27)).cell? ⟨w.heap.size, 1, none⟩ = some (.slice A n c) := by simp [go_sem]
    have HW := Lib.hid (Below.refl (w.alloc (.cells #[.int .i64 p, .slice A n c] 27)).heap.size (w.alloc (.cells #[.int .i64 p, .slice A n c] 27)))
    go_wp2_with fail
    refine (spec_l11Is _ _ _ _ xs _ (HX.out.keep (H2.out.trans (HW.out.mono H2.out.size)))).mono ?_
    rintro e v ⟨rfl, hb⟩
    replace c0 := keep_cell hb c0
    replace c1 := keep_cell hb c1
    replace HW := Lib.hid (below_then HW.out hb)
    clear hb
    go_wp2_with fail
    go_ret
    exact ⟨rfl, (H2.out.trans (HW.out.mono H2.out.size))⟩

def trV (p : Int) (st ys : List Int) : Int := okOr (codeD p st (2 ^ st.length) [ys]) ((2 * ys.getD 0 0) % p)

theorem Doubling_trace (p : Int) (A B : Option Addr) (n c m d : Nat) (ys : List Int) (w : World) (hy : Ints w B m ys) (hm0 : 0 < m) (h0 : 3 ≤ p) (h1 : p ≤ 13) (hn : numsB p ys = true) :
    Calls Try.prog 57 #[.agg #[.int .i64 p, .slice A n c], .slice B m d] w fun e w' => e = .returned (.int .i64 ((2 * ys.getD 0 0) % p)) ∧ Below w.heap.size w w' := by
  have hm2 := hy.2.1
  unfold maxLen at hm2
  obtain ⟨b, off, x, rfl, hb, hxk, hck⟩ := hy.at_ hm0
  obtain ⟨hx0, hx1⟩ := numB_true (numsB_at hn hxk)
  have HG := Lib.hid (show ys.getD 0 0 = x by rw [List.getD_eq_getElem?_getD, hxk]; rfl)
  rw [HG.out]
  have H2 := Lib.hid (show Below w.heap.size w (w.alloc (.cells #[.int .i64 p, .slice A n c] 27)) from (Below.refl _ _).alloc (Nat.le_refl _) _)
  have k1 : (0 : Int) < m := by omega
  have f1 : IntKind.i64.wrap (2 * x) = 2 * x := IntWalk.i64_in _ (by omega)
  have hck2 := keep_cell H2.out hck
  simp only [Nat.add_zero] at hck2
  clear hck hxk hb hy hn
  go_enter Try.func57, Try.ntmps57
  have c0 : (w.alloc (.cells #[.int .i64 p, .slice A n c] 27)).cell? ⟨w.heap.size, 0, none⟩ = some (.int .i64 p) := by simp [go_sem]
  have c1 : (w.alloc (.cells #[.int .i64 p, .slice A n c] 27)).cell? ⟨w.heap.size, 1, none⟩ = some (.slice A n c) := by simp [go_sem]
  have HW := Lib.hid (Below.refl (w.alloc (.cells #[.int .i64 p, .slice A n c] 27)).heap.size (w.alloc (.cells #[.int .i64 p, .slice A n c] 27)))
  go_wp2_with fail
  go_region_held3 (fun w' => w'.cell? ⟨w.heap.size, 0, none⟩ = some (.int .i64 p) ∧ w'.cell? ⟨w.heap.size, 1, none⟩ = some (.slice A n c) ∧ w'.cell? ⟨b, off, none⟩ = some (.int .i64 x) ∧ Below w.heap.size w w')
    (first
      | exact ⟨c0, c1, hck2, H2.out.drew⟩
      | (go_split_ands; exact ⟨‹_›, ‹_›, ‹_›, ‹_›⟩)
      | (go_split_ands; exact ⟨keep_cell hbf ‹_›, keep_cell hbf ‹_›, keep_cell hbf ‹_›, below_then ‹_› hbf⟩)
      | go_keep)
    (first
      | (go_at_call 47; refine (Doubling_field _ _ _ _ _).mono ?_; rintro e w1 ⟨rfl, hbf⟩)
      | (go_at_call 78; refine (impl_num _ _ _ (by omega) (by omega)).mono ?_; rintro e w' ⟨rfl, rfl⟩))
  clear f1
  rename_i hh
  obtain ⟨_, _, _, hbl⟩ := hh
  go_wp2
  go_ret
  exact ⟨rfl, hbl⟩

theorem spec_DoubleTrace (p : Int) (A B : Option Addr) (n c m d : Nat) (xs ys : List Int) (w : World) (hx : Ints w A n xs) (hy : Ints w B m ys) :
    Calls Try.prog 27 #[.agg #[.int .i64 p, .slice A n c], .slice B m d] w fun e w' => e = .returned (.tuple #[.int .i64 (trV p xs ys), .int .i64 (codeD p xs (2 ^ xs.length) [ys])]) ∧ Below w.heap.size w w' := by
  have HX := Lib.hid hx
  have hm := hx.2.1
  have HN := Lib.hid hx.1
  clear hx
  unfold maxLen at hm
  have H2 := Lib.hid (show Below w.heap.size w (w.alloc (.cells #[.int .i64 p, .slice A n c] 27)) from (Below.refl _ _).alloc (Nat.le_refl _) _)
  have HY := Lib.hid hy
  clear hy
  rw [HN.out]
  by_cases hcz : codeD p xs (2 ^ n) [ys] = 0
  · have HV := Lib.hid (show trV p xs ys = (2 * ys.getD 0 0) % p by unfold trV; rw [HN.out, hcz]; rfl)
    obtain ⟨hsp, hall⟩ := codeD_zero hcz
    obtain ⟨hp, _, hl1, hst⟩ := dblB_true hsp
    have h0 := prime_lo hp
    have h1 := prime_hi hp
    rw [HN.out] at hl1
    have hl6 : n ≤ 6 := by omega
    obtain ⟨g0, g1, g2⟩ := ipow_le6 hl6
    simp only [List.all_cons, List.all_nil, Bool.and_true] at hall
    obtain ⟨hly, hny⟩ := lstB_true hall
    have hm64 : m ≤ 64 := by rw [← HY.out.1, hly]; exact pow_le6 hl6
    have hm0 : 0 < m := by rw [← HY.out.1, hly]; exact Nat.two_pow_pos _
    have HM1 := Lib.hid hny
    have HLY := Lib.hid hly
    have HST := Lib.hid hst
    have HZc := Lib.hid hcz
    rw [HV.out, hcz]
    clear hcz hly hny hall hp hst hsp
    go_enter Try.func27, Try.ntmps27
    have c0 : (w.alloc (.cells #[.int .i64 p, .slice A n c] 27)).cell? ⟨w.heap.size, 0, none⟩ = some (.int .i64 p) := by simp [go_sem]
    have c1 : (w.alloc (.cells #[.int .i64 p, .slice A n c] 27)).cell? ⟨w.heap.size, 1, none⟩ = some (.slice A n c) := by simp [go_sem]
    have HW := Lib.hid (Below.refl (w.alloc (.cells #[.int .i64 p, .slice A n c] 27)).heap.size (w.alloc (.cells #[.int .i64 p, .slice A n c] 27)))
    have hb : Below (w.alloc (.cells #[.int .i64 p, .slice A n c] 27)).heap.size (w.alloc (.cells #[.int .i64 p, .slice A n c] 27)) ((w.alloc (.cells #[.int .i64 p, .slice A n c] 27)).alloc (.cells #[.slice B m d] 22)) := (Below.refl _ _).alloc (Nat.le_refl _) _
    go_wp2_with fail
    refine (spec_l11Code p A _ n c 1 _ xs [ys] _ (HX.out.keep (H2.out.trans (hb.mono H2.out.size))) (Lists.mk1 _ _ (by simp) (HY.out.keep H2.out))).mono ?_
    rw [HZc.out]
    rintro e v ⟨rfl, hv⟩
    have hs1 : w.heap.size ≤ v.heap.size := (H2.out.trans ((below_then hb hv).mono H2.out.size)).size
    replace c0 := keep_cell (below_then hb hv) c0
    replace c1 := keep_cell (below_then hb hv) c1
    replace HW := Lib.hid (below_then (below_then HW.out hb) hv)
    clear hb hv
    obtain ⟨b, off, x, rfl, hb, hxk, hck⟩ := (HY.out.keep (H2.out.trans (HW.out.mono H2.out.size))).at_ hm0
    obtain ⟨hx0, hx1⟩ := numB_true (numsB_at HM1.out hxk)
    have HG := Lib.hid (show ys.getD 0 0 = x by rw [List.getD_eq_getElem?_getD, hxk]; rfl)
    have k1 : (0 : Int) < m := by omega
    have f1 : IntKind.i64.wrap (2 * x) = 2 * x := IntWalk.i64_in _ (by omega)
    simp only [Nat.add_zero] at hck
    clear hxk hb
    go_wp2_with fail
    go_quiet ((go_at_call 55; exact quiet_left (spec_l01Mod _ _ _ (by omega) (by omega))))
    clear f1
    go_wp2
    go_ret2
    exact ⟨by rw [HG.out]; rfl, below_drewN (H2.out.trans (HW.out.mono H2.out.size)) _⟩
  · have HV := Lib.hid (show trV p xs ys = 0 by unfold trV okOr; rw [HN.out, if_neg hcz])
    rw [HV.out]
    have hc' : (codeD p xs (2 ^ n) [ys] == 0) = false := by simpa using hcz
    have hc2 : (codeD p xs (2 ^ n) [ys] != 0) = true := by rw [bne, hc']; rfl
    go_enter Try.func27, Try.ntmps27
    have c0 : (w.alloc (.cells #[.int .i64 p, .slice A n c] 27)).cell? ⟨w.heap.size, 0, none⟩ = some (.int .i64 p) := by simp [go_sem]
    have c1 : (w.alloc (.cells #[.int .i64 p, .slice A n c] 27)).cell? ⟨w.heap.size, 1, none⟩ = some (.slice A n c) := by simp [go_sem]
    have HW := Lib.hid (Below.refl (w.alloc (.cells #[.int .i64 p, .slice A n c] 27)).heap.size (w.alloc (.cells #[.int .i64 p, .slice A n c] 27)))
    have hb : Below (w.alloc (.cells #[.int .i64 p, .slice A n c] 27)).heap.size (w.alloc (.cells #[.int .i64 p, .slice A n c] 27)) ((w.alloc (.cells #[.int .i64 p, .slice A n c] 27)).alloc (.cells #[.slice B m d] 22)) := (Below.refl _ _).alloc (Nat.le_refl _) _
    go_wp2_with fail
    refine (spec_l11Code p A _ n c 1 _ xs [ys] _ (HX.out.keep (H2.out.trans (hb.mono H2.out.size))) (Lists.mk1 _ _ (by simp) (HY.out.keep H2.out))).mono ?_
    rintro e v ⟨rfl, hv⟩
    have hs1 : w.heap.size ≤ v.heap.size := (H2.out.trans ((below_then hb hv).mono H2.out.size)).size
    replace c0 := keep_cell (below_then hb hv) c0
    replace c1 := keep_cell (below_then hb hv) c1
    replace HW := Lib.hid (below_then (below_then HW.out hb) hv)
    clear hb hv
    go_wp2_with fail
    go_ret2
    exact ⟨rfl, (H2.out.trans (HW.out.mono H2.out.size))⟩

theorem impl_DoubleTrace (p : Int) (A B : Option Addr) (n c m d : Nat) (xs ys : List Int) (w : World) (hx : Ints w A n xs) (hy : Ints w B m ys) :
    Calls Try.prog 29 #[.agg #[.int .i64 p, .slice A n c], .slice B m d] w fun e w' => e = .returned (.tuple #[.int .i64 (trV p xs ys), .int .i64 (codeD p xs (2 ^ xs.length) [ys])]) ∧ Below w.heap.size w w' := by
  have HX := Lib.hid hx
  have hm := hx.2.1
  have HN := Lib.hid hx.1
  clear hx
  unfold maxLen at hm
  have H2 := Lib.hid (show Below w.heap.size w (w.alloc (.cells #[.int .i64 p, .slice A n c] 27)) from (Below.refl _ _).alloc (Nat.le_refl _) _)
  have HY := Lib.hid hy
  clear hy
  rw [HN.out]
  by_cases hcz : codeD p xs (2 ^ n) [ys] = 0
  · have HV := Lib.hid (show trV p xs ys = (2 * ys.getD 0 0) % p by unfold trV; rw [HN.out, hcz]; rfl)
    obtain ⟨hsp, hall⟩ := codeD_zero hcz
    obtain ⟨hp, _, hl1, hst⟩ := dblB_true hsp
    have h0 := prime_lo hp
    have h1 := prime_hi hp
    rw [HN.out] at hl1
    have hl6 : n ≤ 6 := by omega
    obtain ⟨g0, g1, g2⟩ := ipow_le6 hl6
    simp only [List.all_cons, List.all_nil, Bool.and_true] at hall
    obtain ⟨hly, hny⟩ := lstB_true hall
    have hm64 : m ≤ 64 := by rw [← HY.out.1, hly]; exact pow_le6 hl6
    have hm0 : 0 < m := by rw [← HY.out.1, hly]; exact Nat.two_pow_pos _
    have HM1 := Lib.hid hny
    have HLY := Lib.hid hly
    have HST := Lib.hid hst
    have HZc := Lib.hid hcz
    rw [HV.out, hcz]
    clear hcz hly hny hall hp hst hsp
    go_enter Try.func29, Try.ntmps29
    have c0 : (w.alloc (.cells #[.int .i64 p, .slice A n c] 27)).cell? ⟨w.heap.size, 0, none⟩ = some (.int .i64 p) := by simp [go_sem]
    have c1 : (w.alloc (.cells #[.int .i64 p, .slice A n c] 27)).cell? ⟨w.heap.size, 1, none⟩ = some (.slice A n c) := by simp [go_sem]
    have HW := Lib.hid (Below.refl (w.alloc (.cells #[.int .i64 p, .slice A n c] 27)).heap.size (w.alloc (.cells #[.int .i64 p, .slice A n c] 27)))
    have hb : Below (w.alloc (.cells #[.int .i64 p, .slice A n c] 27)).heap.size (w.alloc (.cells #[.int .i64 p, .slice A n c] 27)) ((w.alloc (.cells #[.int .i64 p, .slice A n c] 27)).alloc (.cells #[.slice B m d] 22)) := (Below.refl _ _).alloc (Nat.le_refl _) _
    go_wp2_with fail
    refine (impl_checkElements p A _ n c 1 _ xs [ys] _ (HX.out.keep (H2.out.trans (hb.mono H2.out.size))) (Lists.mk1 _ _ (by simp) (HY.out.keep H2.out))).mono ?_
    rw [HZc.out]
    rintro e v ⟨rfl, hv⟩
    have hs1 : w.heap.size ≤ v.heap.size := (H2.out.trans ((below_then hb hv).mono H2.out.size)).size
    replace c0 := keep_cell (below_then hb hv) c0
    replace c1 := keep_cell (below_then hb hv) c1
    replace HW := Lib.hid (below_then (below_then HW.out hb) hv)
    clear hb hv
    go_wp2_with fail
    refine (Doubling_trace _ _ _ _ _ _ _ ys _ (HY.out.keep (H2.out.trans (HW.out.mono H2.out.size))) hm0 h0 h1 HM1.out).mono ?_
    rintro e v2 ⟨rfl, hb⟩
    replace c0 := keep_cell hb c0
    replace c1 := keep_cell hb c1
    replace HW := Lib.hid (below_then HW.out hb)
    clear hb
    go_wp2_with fail
    go_ret2
    exact ⟨rfl, (H2.out.trans (HW.out.mono H2.out.size))⟩
  · have HV := Lib.hid (show trV p xs ys = 0 by unfold trV okOr; rw [HN.out, if_neg hcz])
    rw [HV.out]
    have hc' : (codeD p xs (2 ^ n) [ys] == 0) = false := by simpa using hcz
    have hc2 : (codeD p xs (2 ^ n) [ys] != 0) = true := by rw [bne, hc']; rfl
    go_enter Try.func29, Try.ntmps29
    have c0 : (w.alloc (.cells #[.int .i64 p, .slice A n c] 27)).cell? ⟨w.heap.size, 0, none⟩ = some (.int .i64 p) := by simp [go_sem]
    have c1 : (w.alloc (.cells #[.int .i64 p, .slice A n c] 27)).cell? ⟨w.heap.size, 1, none⟩ = some (.slice A n c) := by simp [go_sem]
    have HW := Lib.hid (Below.refl (w.alloc (.cells #[.int .i64 p, .slice A n c] 27)).heap.size (w.alloc (.cells #[.int .i64 p, .slice A n c] 27)))
    have hb : Below (w.alloc (.cells #[.int .i64 p, .slice A n c] 27)).heap.size (w.alloc (.cells #[.int .i64 p, .slice A n c] 27)) ((w.alloc (.cells #[.int .i64 p, .slice A n c] 27)).alloc (.cells #[.slice B m d] 22)) := (Below.refl _ _).alloc (Nat.le_refl _) _
    go_wp2_with fail
    refine (impl_checkElements p A _ n c 1 _ xs [ys] _ (HX.out.keep (H2.out.trans (hb.mono H2.out.size))) (Lists.mk1 _ _ (by simp) (HY.out.keep H2.out))).mono ?_
    rintro e v ⟨rfl, hv⟩
    have hs1 : w.heap.size ≤ v.heap.size := (H2.out.trans ((below_then hb hv).mono H2.out.size)).size
    replace c0 := keep_cell (below_then hb hv) c0
    replace c1 := keep_cell (below_then hb hv) c1
    replace HW := Lib.hid (below_then (below_then HW.out hb) hv)
    clear hb hv
    go_wp2_with fail
    go_ret2
    exact ⟨rfl, (H2.out.trans (HW.out.mono H2.out.size))⟩

end Go.Proofs.Ytjfkgocpkjdleaa
