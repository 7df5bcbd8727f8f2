/- Contracts: the codes of small algebras, the even masks. Conditions stand in each theorem. -/
import Derived.Test.YtincppklphahpaaGrade
import Derived.Test.YtincppklphahpaaBladeOf
import Derived.Test.YtincppklphahpaaVec
import Derived.Test.YtincppklphahpaaLists
namespace Go.Proofs.Ytincppklphahpaa
open Go.RowKit
set_option linter.unusedVariables false

def codeA (p : Int) (xs : List Int) (vs : List (List Int)) : Int := if codeS p xs (2 ^ xs.length) vs = 0 then (if xs.length ≤ 4 then 0 else 3) else codeS p xs (2 ^ xs.length) vs

theorem spec_l09Code (p : Int) (A L : Option Addr) (n c m d : Nat) (xs : List Int) (vs : List (List Int)) (w : World) (hx : Ints w A n xs) (hl : Lists w L m vs) :
    Calls Try.prog 69 #[.agg #[.int .i64 p, .slice A n c], .slice L m d] w fun e w' => e = .returned (.int .i64 (codeA p xs vs)) ∧ Below w.heap.size w w' := by
  have HX := Lib.hid hx
  have hm := hx.2.1
  have HN := Lib.hid hx.1
  clear hx
  unfold maxLen at hm
  have H2 := Lib.hid (show Below w.heap.size w (w.alloc (.cells #[.int .i64 p, .slice A n c] 28)) from (Below.refl _ _).alloc (Nat.le_refl _) _)
  have HL := Lib.hid hl
  clear hl
  by_cases hcz : codeS p xs (2 ^ n) vs = 0
  · have HZc := Lib.hid hcz
    by_cases h4 : n ≤ 4
    · have HC := Lib.hid (show codeA p xs vs = 0 by unfold codeA; rw [HN.out, if_pos hcz, if_pos h4])
      rw [HC.out]
      have q4 : (n : Int) ≤ 4 := by omega
      clear hcz
      go_enter Try.func69, Try.ntmps69
      have c0 : (w.alloc (.cells #[.int .i64 p, .slice A n c] 28)).cell? ⟨w.heap.size, 0, none⟩ = some (.int .i64 p) := by simp [go_sem]
      have c1 : (w.alloc (.cells #[.int .i64 p, .slice A n c] 28)).cell? ⟨w.heap.size, 1, none⟩ = some (.slice A n c) := by simp [go_sem]
      have HW := Lib.hid (Below.refl (w.alloc (.cells #[.int .i64 p, .slice A n c] 28)).heap.size (w.alloc (.cells #[.int .i64 p, .slice A n c] 28)))
      go_wp2_with fail
      refine (spec_l04Code p A L n c m d xs vs _ (HX.out.keep (H2.out.trans (HW.out.mono H2.out.size))) (HL.out.keep (H2.out.trans (HW.out.mono H2.out.size)))).mono ?_
      rw [HZc.out]
      rintro e v ⟨rfl, hb⟩
      replace c0 := keep_cell hb c0
      replace c1 := keep_cell hb c1
      replace HW := Lib.hid (below_then HW.out hb)
      clear hb
      go_wp2
      go_ret
      exact ⟨rfl, (H2.out.trans (HW.out.mono H2.out.size))⟩
    · have HC := Lib.hid (show codeA p xs vs = 3 by unfold codeA; rw [HN.out, if_pos hcz, if_neg h4])
      rw [HC.out]
      have q4 : ¬ (n : Int) ≤ 4 := by omega
      have q5 : 4 < (n : Int) := by omega
      clear hcz
      go_enter Try.func69, Try.ntmps69
      have c0 : (w.alloc (.cells #[.int .i64 p, .slice A n c] 28)).cell? ⟨w.heap.size, 0, none⟩ = some (.int .i64 p) := by simp [go_sem]
      have c1 : (w.alloc (.cells #[.int .i64 p, .slice A n c] 28)).cell? ⟨w.heap.size, 1, none⟩ = some (.slice A n c) := by simp [go_sem]
      have HW := Lib.hid (Below.refl (w.alloc (.cells #[.int .i64 p, .slice A n c] 28)).heap.size (w.alloc (.cells #[.int .i64 p, .slice A n c] 28)))
      go_wp2_with fail
      refine (spec_l04Code p A L n c m d xs vs _ (HX.out.keep (H2.out.trans (HW.out.mono H2.out.size))) (HL.out.keep (H2.out.trans (HW.out.mono H2.out.size)))).mono ?_
      rw [HZc.out]
      rintro e v ⟨rfl, hb⟩
      replace c0 := keep_cell hb c0
      replace c1 := keep_cell hb c1
      replace HW := Lib.hid (below_then HW.out hb)
      clear hb
      go_wp2
      go_ret
      exact ⟨rfl, (H2.out.trans (HW.out.mono H2.out.size))⟩
  · have HC := Lib.hid (show codeA p xs vs = codeS p xs (2 ^ n) vs by unfold codeA; rw [HN.out, if_neg hcz])
    rw [HC.out]
    have hc' : (codeS p xs (2 ^ n) vs == 0) = false := by simpa using hcz
    go_enter Try.func69, Try.ntmps69
    have c0 : (w.alloc (.cells #[.int .i64 p, .slice A n c] 28)).cell? ⟨w.heap.size, 0, none⟩ = some (.int .i64 p) := by simp [go_sem]
    have c1 : (w.alloc (.cells #[.int .i64 p, .slice A n c] 28)).cell? ⟨w.heap.size, 1, none⟩ = some (.slice A n c) := by simp [go_sem]
    have HW := Lib.hid (Below.refl (w.alloc (.cells #[.int .i64 p, .slice A n c] 28)).heap.size (w.alloc (.cells #[.int .i64 p, .slice A n c] 28)))
    go_wp2_with fail
    refine (spec_l04Code p A L n c m d xs vs _ (HX.out.keep (H2.out.trans (HW.out.mono H2.out.size))) (HL.out.keep (H2.out.trans (HW.out.mono H2.out.size)))).mono ?_
    rintro e v ⟨rfl, hb⟩
    replace c0 := keep_cell hb c0
    replace c1 := keep_cell hb c1
    replace HW := Lib.hid (below_then HW.out hb)
    clear hb
    go_wp2
    go_ret
    exact ⟨rfl, (H2.out.trans (HW.out.mono H2.out.size))⟩

theorem impl_checkAlgebra (p : Int) (A L : Option Addr) (n c m d : Nat) (xs : List Int) (vs : List (List Int)) (w : World) (hx : Ints w A n xs) (hl : Lists w L m vs) :
    Calls Try.prog 71 #[.agg #[.int .i64 p, .slice A n c], .slice L m d] w fun e w' => e = .returned (.int .i64 (codeA p xs vs)) ∧ Below w.heap.size w w' := by
  have HX := Lib.hid hx
  have hm := hx.2.1
  have HN := Lib.hid hx.1
  clear hx
  unfold maxLen at hm
  have H2 := Lib.hid (show Below w.heap.size w (w.alloc (.cells #[.int .i64 p, .slice A n c] 28)) from (Below.refl _ _).alloc (Nat.le_refl _) _)
  have HL := Lib.hid hl
  clear hl
  by_cases hcz : codeS p xs (2 ^ n) vs = 0
  · have HZc := Lib.hid hcz
    by_cases h4 : n ≤ 4
    · have HC := Lib.hid (show codeA p xs vs = 0 by unfold codeA; rw [HN.out, if_pos hcz, if_pos h4])
      rw [HC.out]
      have q4 : (n : Int) ≤ 4 := by omega
      clear hcz
      go_enter Try.func71, Try.ntmps71
      have c0 : (w.alloc (.cells #[.int .i64 p, .slice A n c] 28)).cell? ⟨w.heap.size, 0, none⟩ = some (.int .i64 p) := by simp [go_sem]
      have c1 : (w.alloc (.cells #[.int .i64 p, .slice A n c] 28)).cell? ⟨w.heap.size, 1, none⟩ = some (.slice A n c) := by simp [go_sem]
      have HW := Lib.hid (Below.refl (w.alloc (.cells #[.int .i64 p, .slice A n c] 28)).heap.size (w.alloc (.cells #[.int .i64 p, .slice A n c] 28)))
      go_wp2_with fail
      refine (impl_checkMultis p A L n c m d xs vs _ (HX.out.keep (H2.out.trans (HW.out.mono H2.out.size))) (HL.out.keep (H2.out.trans (HW.out.mono H2.out.size)))).mono ?_
      rw [HZc.out]
      rintro e v ⟨rfl, hb⟩
      replace c0 := keep_cell hb c0
      replace c1 := keep_cell hb c1
      replace HW := Lib.hid (below_then HW.out hb)
      clear hb
      go_wp2_with fail
      refine (Space_dim _ _ _ _ _).mono ?_
      rintro e v1 ⟨rfl, hb⟩
      replace c0 := keep_cell hb c0
      replace c1 := keep_cell hb c1
      replace HW := Lib.hid (below_then HW.out hb)
      clear hb
      go_wp2
      go_ret
      exact ⟨rfl, (H2.out.trans (HW.out.mono H2.out.size))⟩
    · have HC := Lib.hid (show codeA p xs vs = 3 by unfold codeA; rw [HN.out, if_pos hcz, if_neg h4])
      rw [HC.out]
      have q4 : ¬ (n : Int) ≤ 4 := by omega
      have q5 : 4 < (n : Int) := by omega
      clear hcz
      go_enter Try.func71, Try.ntmps71
      have c0 : (w.alloc (.cells #[.int .i64 p, .slice A n c] 28)).cell? ⟨w.heap.size, 0, none⟩ = some (.int .i64 p) := by simp [go_sem]
      have c1 : (w.alloc (.cells #[.int .i64 p, .slice A n c] 28)).cell? ⟨w.heap.size, 1, none⟩ = some (.slice A n c) := by simp [go_sem]
      have HW := Lib.hid (Below.refl (w.alloc (.cells #[.int .i64 p, .slice A n c] 28)).heap.size (w.alloc (.cells #[.int .i64 p, .slice A n c] 28)))
      go_wp2_with fail
      refine (impl_checkMultis p A L n c m d xs vs _ (HX.out.keep (H2.out.trans (HW.out.mono H2.out.size))) (HL.out.keep (H2.out.trans (HW.out.mono H2.out.size)))).mono ?_
      rw [HZc.out]
      rintro e v ⟨rfl, hb⟩
      replace c0 := keep_cell hb c0
      replace c1 := keep_cell hb c1
      replace HW := Lib.hid (below_then HW.out hb)
      clear hb
      go_wp2_with fail
      refine (Space_dim _ _ _ _ _).mono ?_
      rintro e v1 ⟨rfl, hb⟩
      replace c0 := keep_cell hb c0
      replace c1 := keep_cell hb c1
      replace HW := Lib.hid (below_then HW.out hb)
      clear hb
      go_wp2
      go_ret
      exact ⟨rfl, (H2.out.trans (HW.out.mono H2.out.size))⟩
  · have HC := Lib.hid (show codeA p xs vs = codeS p xs (2 ^ n) vs by unfold codeA; rw [HN.out, if_neg hcz])
    rw [HC.out]
    have hc' : (codeS p xs (2 ^ n) vs == 0) = false := by simpa using hcz
    go_enter Try.func71, Try.ntmps71
    have c0 : (w.alloc (.cells #[.int .i64 p, .slice A n c] 28)).cell? ⟨w.heap.size, 0, none⟩ = some (.int .i64 p) := by simp [go_sem]
    have c1 : (w.alloc (.cells #[.int .i64 p, .slice A n c] 28)).cell? ⟨w.heap.size, 1, none⟩ = some (.slice A n c) := by simp [go_sem]
    have HW := Lib.hid (Below.refl (w.alloc (.cells #[.int .i64 p, .slice A n c] 28)).heap.size (w.alloc (.cells #[.int .i64 p, .slice A n c] 28)))
    go_wp2_with fail
    refine (impl_checkMultis p A L n c m d xs vs _ (HX.out.keep (H2.out.trans (HW.out.mono H2.out.size))) (HL.out.keep (H2.out.trans (HW.out.mono H2.out.size)))).mono ?_
    rintro e v ⟨rfl, hb⟩
    replace c0 := keep_cell hb c0
    replace c1 := keep_cell hb c1
    replace HW := Lib.hid (below_then HW.out hb)
    clear hb
    go_wp2
    go_ret
    exact ⟨rfl, (H2.out.trans (HW.out.mono H2.out.size))⟩

/-- the even masks below k -/
def evenK : Nat → List Int
  | 0 => []
  | k + 1 => if gradeN k % 2 = 0 then evenK k ++ [(k : Int)] else evenK k
theorem evenK_len (k : Nat) : (evenK k).length ≤ k := by
  induction k with
  | zero => exact Nat.le_refl _
  | succ k ih =>
    unfold evenK
    by_cases h : gradeN k % 2 = 0
    · rw [if_pos h, List.length_append]; simp; omega
    · rw [if_neg h]; omega
theorem evenK_in {k : Nat} (h : gradeN k % 2 = 0) : evenK (k + 1) = evenK k ++ [(k : Int)] := if_pos h
theorem evenK_out {k : Nat} (h : ¬ gradeN k % 2 = 0) : evenK (k + 1) = evenK k := if_neg h
theorem codeA_zero {p : Int} {xs : List Int} {vs : List (List Int)} (h : codeA p xs vs = 0) : codeS p xs (2 ^ xs.length) vs = 0 ∧ xs.length ≤ 4 := by
  unfold codeA at h
  by_cases h1 : codeS p xs (2 ^ xs.length) vs = 0
  · rw [if_pos h1] at h
    by_cases h2 : xs.length ≤ 4
    · exact ⟨h1, h2⟩
    · rw [if_neg h2] at h; exact absurd h (by omega)
  · rw [if_neg h1] at h; exact absurd h h1
theorem codeA_dim {p : Int} {xs : List Int} {vs : List (List Int)} {n : Nat} (h : codeA p xs vs = 0) (hn : xs.length = n) : n ≤ 6 := by
  have := (codeA_zero h).2
  omega
def evL (p : Int) (xs : List Int) : List Int := if codeA p xs [] = 0 then evenK (2 ^ xs.length) else []
theorem evL_len (p : Int) (xs : List Int) : (evL p xs).length ≤ 1000000000 := by
  unfold evL
  by_cases h : codeA p xs [] = 0
  · rw [if_pos h]
    have h1 := evenK_len (2 ^ xs.length)
    have h2 := pow_le6 (codeA_dim h rfl)
    omega
  · rw [if_neg h]; simp

theorem spec_EvenBasis (p : Int) (A : Option Addr) (n c : Nat) (xs : List Int) (w : World) (hx : Ints w A n xs) :
    Calls Try.prog 34 #[.agg #[.int .i64 p, .slice A n c]] w fun e w' => ∃ D t, e = .returned (.tuple #[.slice D (evL p xs).length t, .int .i64 (codeA p xs [])]) ∧ Own w.heap.size w' D (evL p xs).length (evL p xs) ∧ Below w.heap.size w w' := by
  have HX := Lib.hid hx
  have hm := hx.2.1
  have HN := Lib.hid hx.1
  clear hx
  unfold maxLen at hm
  have H2 := Lib.hid (show Below w.heap.size w (w.alloc (.cells #[.int .i64 p, .slice A n c] 28)) from (Below.refl _ _).alloc (Nat.le_refl _) _)
  by_cases hcz : codeA p xs [] = 0
  · have HV := Lib.hid (show evL p xs = evenK (2 ^ n) by unfold evL; rw [if_pos hcz, HN.out])
    have hn6 : n ≤ 6 := codeA_dim hcz HN.out
    rw [HV.out]
    have HZc := Lib.hid hcz
    rw [hcz]
    obtain ⟨g0, g1, g2⟩ := ipow_le6 hn6
    have g3 := pow_le6 hn6
    clear hcz HV
    obtain ⟨i0, hi0, hz0, hz1, hz2⟩ := info_parts int_info
    go_enter Try.func34, Try.ntmps34
    have c0 : (w.alloc (.cells #[.int .i64 p, .slice A n c] 28)).cell? ⟨w.heap.size, 0, none⟩ = some (.int .i64 p) := by simp [go_sem]
    have c1 : (w.alloc (.cells #[.int .i64 p, .slice A n c] 28)).cell? ⟨w.heap.size, 1, none⟩ = some (.slice A n c) := by simp [go_sem]
    have HW := Lib.hid (Below.refl (w.alloc (.cells #[.int .i64 p, .slice A n c] 28)).heap.size (w.alloc (.cells #[.int .i64 p, .slice A n c] 28)))
    go_wp2_with fail
    refine (spec_l09Code p A none n c 0 0 xs [] _ (HX.out.keep (H2.out.trans (HW.out.mono H2.out.size))) (Lists.nil _)).mono ?_
    rw [HZc.out]
    rintro e v ⟨rfl, hb⟩
    have hs1 : w.heap.size + 1 ≤ v.heap.size := by simpa using hb.size
    replace c0 := keep_cell hb c0
    replace c1 := keep_cell hb c1
    replace HW := Lib.hid (below_then HW.out hb)
    clear hb
    go_wp2
    go_loopw [5, 6] (fun o i wr => ∃ k : Nat, k ≤ 2 ^ n ∧ i = .int .i64 k ∧ wr.ownsRow v.heap.size 2 1 o (evenK k).length ((evenK k).map (Value.int .i64)) ∧ wr.cell? ⟨w.heap.size, 0, none⟩ = some (.int .i64 p) ∧ wr.cell? ⟨w.heap.size, 1, none⟩ = some (.slice A n c) ∧ Below (w.alloc (.cells #[.int .i64 p, .slice A n c] 28)).heap.size (w.alloc (.cells #[.int .i64 p, .slice A n c] 28)) wr ∧ v.heap.size ≤ wr.heap.size) (fun _ i _ => 2 ^ n - (intOf i).toNat)
    case atStart => exact ⟨0, Nat.zero_le _, rfl, own_empty _ _ _ _ rfl (Nat.le_refl _), keep_cell (below_alloc _ _) c0, keep_cell (below_alloc _ _) c1, below_then HW.out (below_alloc _ _), (below_alloc _ _).size⟩
    case round =>
      obtain ⟨k, hk, rfl, hown, c0, c1, hbel, hsz⟩ := hrel
      have HO := Lib.hid hown
      have HB := Lib.hid hbel
      clear hown hbel
      go_wp2_with fail
      refine (spec_l04Size _ _ _ _ _ hn6).mono ?_
      rintro e w2 ⟨rfl, hb⟩
      replace c0 := keep_cell hb c0
      replace c1 := keep_cell hb c1
      replace HO := Lib.hid (own_keep hb HO.out)
      replace HB := Lib.hid (below_then HB.out hb)
      have hs3 := hb.size
      clear hb
      by_cases hlt : k < 2 ^ n
      · have hkn : (k : Int) < 2 ^ n := by have g5 := ipow_cast n; omega
        have hgl := gradeN_le k
        have hel := evenK_len k
        by_cases hg : gradeN k % 2 = 0
        · have hgi : (gradeN k : Int) % 2 = 0 := by omega
          go_wp2_with (first | (go_at_call 70; refine (spec_l04Grade _ (by omega) _).mono ?_; rintro e w' ⟨rfl, rfl⟩) | (at_builtin; refine wpList_append_own _ rfl _ _ 22 rfl v.heap.size 2 i0 _ 1 8 Try.underlying22 hi0 hz0 hz1 hz2 rfl (by omega) u5 _ _ rfl (HO.out.alloc _) ⟨_, 0, none⟩ 1 1 [.int .i64 k] rfl rfl (cell_one_new _ _ _) (by simp [Value.oneCell']) (by unfold maxLen; omega) (by omega) (by simp; omega) ?_; intro v' w1 hown1 hgrow _))
          have HO1 := Lib.hid hown1
          have HB1 := Lib.hid (below_own (HO.out.alloc _) hgrow (HB.out.alloc (by have := HB.out.size; omega) _) (by simp; omega) (by simp; omega))
          have c0' := cell_grown (HO.out.alloc _) hgrow (keep_cell (below_alloc _ _) c0) (by show w.heap.size < v.heap.size; omega)
          have c1' := cell_grown (HO.out.alloc _) hgrow (keep_cell (below_alloc _ _) c1) (by show w.heap.size < v.heap.size; omega)
          have hs4 := hgrow.size
          simp at hs4
          clear hown1 hgrow
          go_wp2
          go_roundw
          case rel => exact ⟨k + 1, by omega, by go_num, by rw [evenK_in hg, List.length_append, List.map_append]; exact HO1.out, c0', c1', HB1.out, by omega⟩
          case measure => simp [intOf]; omega
        · have hgi : ¬ (gradeN k : Int) % 2 = 0 := by omega
          go_wp2_with (go_at_call 70; refine (spec_l04Grade _ (by omega) _).mono ?_; rintro e w' ⟨rfl, rfl⟩)
          go_roundw
          case rel => exact ⟨k + 1, by omega, by go_num, by rw [evenK_out hg]; exact HO.out, c0, c1, HB.out, by omega⟩
          case measure => simp [intOf]; omega
      · obtain rfl : k = 2 ^ n := by omega
        obtain ⟨C, q, rfl, ho⟩ := Own.of_own HO.out
        have HOO := Lib.hid (ho.less (B' := w.heap.size) (by omega))
        clear ho
        go_wp2
        go_ret2
        exact ⟨C, q, rfl, HOO.out, H2.out.trans (HB.out.mono H2.out.size)⟩
  · have HC := Lib.hid (show evL p xs = [] by unfold evL; rw [if_neg hcz])
    rw [HC.out]
    have hc' : (codeA p xs [] == 0) = false := by simpa using hcz
    go_enter Try.func34, Try.ntmps34
    have c0 : (w.alloc (.cells #[.int .i64 p, .slice A n c] 28)).cell? ⟨w.heap.size, 0, none⟩ = some (.int .i64 p) := by simp [go_sem]
    have c1 : (w.alloc (.cells #[.int .i64 p, .slice A n c] 28)).cell? ⟨w.heap.size, 1, none⟩ = some (.slice A n c) := by simp [go_sem]
    have HW := Lib.hid (Below.refl (w.alloc (.cells #[.int .i64 p, .slice A n c] 28)).heap.size (w.alloc (.cells #[.int .i64 p, .slice A n c] 28)))
    go_wp2_with fail
    refine (spec_l09Code p A none n c 0 0 xs [] _ (HX.out.keep (H2.out.trans (HW.out.mono H2.out.size))) (Lists.nil _)).mono ?_
    rintro e v ⟨rfl, hb⟩
    replace c0 := keep_cell hb c0
    replace c1 := keep_cell hb c1
    replace HW := Lib.hid (below_then HW.out hb)
    clear hb
    go_wp2_with fail
    go_ret2
    exact ⟨none, 0, rfl, Own.nil _ _, (H2.out.trans (HW.out.mono H2.out.size))⟩

theorem impl_EvenBasis (p : Int) (A : Option Addr) (n c : Nat) (xs : List Int) (w : World) (hx : Ints w A n xs) :
    Calls Try.prog 35 #[.agg #[.int .i64 p, .slice A n c]] w fun e w' => ∃ D t, e = .returned (.tuple #[.slice D (evL p xs).length t, .int .i64 (codeA p xs [])]) ∧ Own w.heap.size w' D (evL p xs).length (evL p xs) ∧ Below w.heap.size w w' := by
  have HX := Lib.hid hx
  have hm := hx.2.1
  have HN := Lib.hid hx.1
  clear hx
  unfold maxLen at hm
  have H2 := Lib.hid (show Below w.heap.size w (w.alloc (.cells #[.int .i64 p, .slice A n c] 28)) from (Below.refl _ _).alloc (Nat.le_refl _) _)
  by_cases hcz : codeA p xs [] = 0
  · have HV := Lib.hid (show evL p xs = evenK (2 ^ n) by unfold evL; rw [if_pos hcz, HN.out])
    have hn6 : n ≤ 6 := codeA_dim hcz HN.out
    rw [HV.out]
    have HZc := Lib.hid hcz
    rw [hcz]
    obtain ⟨g0, g1, g2⟩ := ipow_le6 hn6
    have g3 := pow_le6 hn6
    clear hcz HV
    obtain ⟨i0, hi0, hz0, hz1, hz2⟩ := info_parts int_info
    go_enter Try.func35, Try.ntmps35
    have c0 : (w.alloc (.cells #[.int .i64 p, .slice A n c] 28)).cell? ⟨w.heap.size, 0, none⟩ = some (.int .i64 p) := by simp [go_sem]
    have c1 : (w.alloc (.cells #[.int .i64 p, .slice A n c] 28)).cell? ⟨w.heap.size, 1, none⟩ = some (.slice A n c) := by simp [go_sem]
    have HW := Lib.hid (Below.refl (w.alloc (.cells #[.int .i64 p, .slice A n c] 28)).heap.size (w.alloc (.cells #[.int .i64 p, .slice A n c] 28)))
    go_wp2_with fail
    refine (impl_checkAlgebra p A none n c 0 0 xs [] _ (HX.out.keep (H2.out.trans (HW.out.mono H2.out.size))) (Lists.nil _)).mono ?_
    rw [HZc.out]
    rintro e v ⟨rfl, hb⟩
    have hs1 : w.heap.size + 1 ≤ v.heap.size := by simpa using hb.size
    replace c0 := keep_cell hb c0
    replace c1 := keep_cell hb c1
    replace HW := Lib.hid (below_then HW.out hb)
    clear hb
    have c0a := keep_cell (below_alloc v (.cells #[] 2)) c0
    have c1a := keep_cell (below_alloc v (.cells #[] 2)) c1
    go_wp2_with fail
    refine (Space_dim _ _ _ _ _).mono ?_
    rintro e v2 ⟨rfl, hb⟩
    have HO0 := Lib.hid (own_keep hb (own_empty v 2 v.heap.size v.heap.size rfl (Nat.le_refl _)))
    replace c0 := keep_cell (below_then (below_alloc _ _) hb) c0
    replace c1 := keep_cell (below_then (below_alloc _ _) hb) c1
    replace HW := Lib.hid (below_then (below_then HW.out (below_alloc _ _)) hb)
    have hs2 := (below_then (below_alloc _ _) hb).size
    clear hb
    go_wp2
    go_loopw [5, 16] (fun o i wr => ∃ k : Nat, k ≤ 2 ^ n ∧ i = .int .i64 k ∧ wr.ownsRow v.heap.size 2 1 o (evenK k).length ((evenK k).map (Value.int .i64)) ∧ wr.cell? ⟨w.heap.size, 0, none⟩ = some (.int .i64 p) ∧ wr.cell? ⟨w.heap.size, 1, none⟩ = some (.slice A n c) ∧ Below (w.alloc (.cells #[.int .i64 p, .slice A n c] 28)).heap.size (w.alloc (.cells #[.int .i64 p, .slice A n c] 28)) wr ∧ v.heap.size ≤ wr.heap.size) (fun _ i _ => 2 ^ n - (intOf i).toNat)
    case atStart => exact ⟨0, Nat.zero_le _, rfl, HO0.out, c0, c1, HW.out, hs2⟩
    case round =>
      obtain ⟨k, hk, rfl, hown, c0, c1, hbel, hsz⟩ := hrel
      have HO := Lib.hid hown
      have HB := Lib.hid hbel
      clear hown hbel
      by_cases hlt : k < 2 ^ n
      · have hkn : (k : Int) < 2 ^ n := by have g5 := ipow_cast n; omega
        have hgl := gradeN_le k
        have hel := evenK_len k
        by_cases hg : gradeN k % 2 = 0
        · have hgi : (gradeN k : Int) % 2 = 0 := by omega
          go_wp2_with (first | (go_at_call 72; refine (impl_gradeOf _ (by omega) _).mono ?_; rintro e w' ⟨rfl, rfl⟩) | (at_builtin; refine wpList_append_own _ rfl _ _ 22 rfl v.heap.size 2 i0 _ 1 8 Try.underlying22 hi0 hz0 hz1 hz2 rfl (by omega) u5 _ _ rfl (HO.out.alloc _) ⟨_, 0, none⟩ 1 1 [.int .i64 k] rfl rfl (cell_one_new _ _ _) (by simp [Value.oneCell']) (by unfold maxLen; omega) (by omega) (by simp; omega) ?_; intro v' w1 hown1 hgrow _))
          have HO1 := Lib.hid hown1
          have HB1 := Lib.hid (below_own (HO.out.alloc _) hgrow (HB.out.alloc (by have := HB.out.size; omega) _) (by simp; omega) (by simp; omega))
          have c0' := cell_grown (HO.out.alloc _) hgrow (keep_cell (below_alloc _ _) c0) (by show w.heap.size < v.heap.size; omega)
          have c1' := cell_grown (HO.out.alloc _) hgrow (keep_cell (below_alloc _ _) c1) (by show w.heap.size < v.heap.size; omega)
          have hs4 := hgrow.size
          simp at hs4
          clear hown1 hgrow
          go_wp2
          go_roundw
          case rel => exact ⟨k + 1, by omega, by go_num, by rw [evenK_in hg, List.length_append, List.map_append]; exact HO1.out, c0', c1', HB1.out, by omega⟩
          case measure => simp [intOf]; omega
        · have hgi : ¬ (gradeN k : Int) % 2 = 0 := by omega
          go_wp2_with (go_at_call 72; refine (impl_gradeOf _ (by omega) _).mono ?_; rintro e w' ⟨rfl, rfl⟩)
          go_roundw
          case rel => exact ⟨k + 1, by omega, by go_num, by rw [evenK_out hg]; exact HO.out, c0, c1, HB.out, by omega⟩
          case measure => simp [intOf]; omega
      · obtain rfl : k = 2 ^ n := by omega
        obtain ⟨C, q, rfl, ho⟩ := Own.of_own HO.out
        have HOO := Lib.hid (ho.less (B' := w.heap.size) (by omega))
        clear ho
        go_wp2
        go_ret2
        exact ⟨C, q, rfl, HOO.out, H2.out.trans (HB.out.mono H2.out.size)⟩
  · have HC := Lib.hid (show evL p xs = [] by unfold evL; rw [if_neg hcz])
    rw [HC.out]
    have hc' : (codeA p xs [] == 0) = false := by simpa using hcz
    go_enter Try.func35, Try.ntmps35
    have c0 : (w.alloc (.cells #[.int .i64 p, .slice A n c] 28)).cell? ⟨w.heap.size, 0, none⟩ = some (.int .i64 p) := by simp [go_sem]
    have c1 : (w.alloc (.cells #[.int .i64 p, .slice A n c] 28)).cell? ⟨w.heap.size, 1, none⟩ = some (.slice A n c) := by simp [go_sem]
    have HW := Lib.hid (Below.refl (w.alloc (.cells #[.int .i64 p, .slice A n c] 28)).heap.size (w.alloc (.cells #[.int .i64 p, .slice A n c] 28)))
    go_wp2_with fail
    refine (impl_checkAlgebra p A none n c 0 0 xs [] _ (HX.out.keep (H2.out.trans (HW.out.mono H2.out.size))) (Lists.nil _)).mono ?_
    rintro e v ⟨rfl, hb⟩
    replace c0 := keep_cell hb c0
    replace c1 := keep_cell hb c1
    replace HW := Lib.hid (below_then HW.out hb)
    clear hb
    go_wp2_with fail
    go_ret2
    exact ⟨none, 0, rfl, Own.nil _ _, (H2.out.trans (HW.out.mono H2.out.size))⟩

end Go.Proofs.Ytincppklphahpaa
