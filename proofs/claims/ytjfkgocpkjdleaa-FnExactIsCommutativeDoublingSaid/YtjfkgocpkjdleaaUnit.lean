/- Contracts: unit matrices, elements of the basis. Conditions stand in each theorem. -/
import Derived.Test.YtjfkgocpkjdleaaDbl2
import Derived.Test.YtjfkgocpkjdleaaGrid
namespace Go.Proofs.Ytjfkgocpkjdleaa
open Go.RowKit
set_option linter.unusedVariables false
set_option linter.unusedSimpArgs false

def unitV (n i : Nat) : List Int := (List.replicate n 0).set i 1
def unitK (n : Nat) : Nat → List (List Int)
  | 0 => []
  | k + 1 => unitK n k ++ [unitV n k]
theorem unitK_len (n k : Nat) : (unitK n k).length = k := by
  induction k with
  | zero => rfl
  | succ k ih => unfold unitK; rw [List.length_append, ih]; rfl
theorem unitK_get {n k i : Nat} (h : i < k) : (unitK n k)[i]? = some (unitV n i) := by
  induction k with
  | zero => omega
  | succ k ih =>
    unfold unitK
    by_cases hi : i < k
    · rw [List.getElem?_append_left (by rw [unitK_len]; exact hi), ih hi]
    · obtain rfl : i = k := by omega
      rw [List.getElem?_append_right (by rw [unitK_len]; omega), unitK_len, Nat.sub_self]; rfl
theorem unitV_len (n i : Nat) : (unitV n i).length = n := by unfold unitV; rw [List.length_set, List.length_replicate]
theorem make_small {m : Nat} (hm : m ≤ 1000) (w : World) : (Instr.makeSlice 22 (.int .i64 m) (.int .i64 m)).run Try.prog w = .ok (.slice (some ⟨w.heap.size, 0, none⟩) m m) (w.alloc (.cells (madeCells #[.int .i64 0] m) 2)) :=
  run_make_row' (P := Try.prog) 22 2 (.int .i64 0) 8 Try.underlying22 int_info rfl .i64 .i64 m (by omega) (by omega) w

theorem made_cell (w : World) {n k : Nat} (hk : k < n) (hn : n ≤ 1000) : (w.alloc (.cells (madeCells #[.int .i64 0] n) 2)).cell? ⟨w.heap.size, k, none⟩ = some (.int .i64 0) ∧ (w.alloc (.cells (madeCells #[.int .i64 0] n) 2)).frozen? ⟨w.heap.size, k, none⟩ = false := by
  have hz := own_zeros w n (by unfold maxLen; omega) _ rfl 2 0 (Nat.zero_le _)
  obtain ⟨b', off', e', hd1, hd2, hcl, hfz⟩ := hz.2.2 (by omega)
  injection e' with e'
  injection e' with e1' e2'
  subst e1' e2'
  have h1 := hcl k 0 (by rw [List.getElem?_replicate, if_pos hk])
  have h2 := hfz k hk
  rw [Nat.zero_add] at h1 h2
  exact ⟨h1, h2⟩
theorem own_unit (w : World) {n k B : Nat} (hk : k < n) (hn : n ≤ 1000) (hB : B ≤ w.heap.size) : Own B (w.alloc (.cells ((madeCells #[.int .i64 0] n).setIfInBounds k (.int .i64 1)) 2)) (some ⟨w.heap.size, 0, none⟩) n (unitV n k) := by
  have h := (own_zeros w n (by unfold maxLen; omega) _ rfl 2 B hB).set_ (j := k) hk 1
  rw [Nat.zero_add, World.setCell_alloc_at _ _ _ _ _ rfl] at h
  exact h

theorem impl_unit (n : Nat) (w : World) (hn0 : 1 ≤ n) (hn : n ≤ 1000) : Calls Try.prog 74 #[.int .i64 n] w fun e w' => ∃ o cs, e = .returned o ∧ RowsC w.heap.size w' 22 o n (unitK n n) cs ∧ Below w.heap.size w w' := by
  have hmk := make_small hn
  obtain ⟨i0, hi0, hz0, hz1, hz2⟩ := info_parts rows_info
  go_enter Try.func74, Try.ntmps74
  go_wp2
  go_loopw [3, 8] (fun o i wr => ∃ (k : Nat) (cs : List Value), k ≤ n ∧ i = .int .i64 k ∧ RowsC w.heap.size wr 22 o k (unitK n k) cs ∧ Below w.heap.size w wr) (fun _ i _ => n - (intOf i).toNat)
  case atStart => exact ⟨0, [], Nat.zero_le _, rfl, RowsC.empty _ _ _ _ rfl (Nat.le_refl _), below_alloc _ _⟩
  case round =>
    obtain ⟨k, cs, hk, rfl, hrow, hbel⟩ := hrel
    have HR := Lib.hid hrow
    have HB := Lib.hid hbel
    have hsz := hbel.size
    clear hrow hbel
    by_cases hlt : k < n
    · have hkn : (k : Int) < n := by omega
      have hcell : (wr.alloc (.cells (madeCells #[.int .i64 0] n) 2)).cell? ⟨wr.heap.size, k, none⟩ = some (.int .i64 0) := (made_cell wr hlt (by omega)).1
      have hfr : (wr.alloc (.cells (madeCells #[.int .i64 0] n) 2)).frozen? ⟨wr.heap.size, k, none⟩ = false := (made_cell wr hlt (by omega)).2
      have HS := Lib.hid (own_unit wr (B := w.heap.size) hlt hn hsz)
      have HRB := Lib.hid (below_alloc wr (.cells ((madeCells #[.int .i64 0] n).setIfInBounds k (.int .i64 1)) 2))
      have HR1 := Lib.hid (HR.out.keep HRB.out)
      go_wp2_with (at_builtin; refine wpList_append_lies _ rfl _ _ 58 rfl w.heap.size 22 i0 _ 1 24 Try.underlying58 hi0 hz0 hz1 hz2 rfl (by omega) u3 k cs rfl (HR1.out.own.alloc _) ⟨_, 0, none⟩ 1 1 [.slice (some ⟨wr.heap.size, 0, none⟩) n n] rfl rfl (cell_one_at _ _ _ _ (by simp)) (by simp [Value.oneCell']) (by omega) (by unfold maxLen; omega) (by omega) (by simp; omega) (wr.heap.size + 2) (by simp) ?_; intro gg cap w1 hown1 hgrow hat hlt1)
      have HP := Lib.hid (RowsC.push (HR1.out.keep (below_alloc _ _)) (HS.out.keep (below_alloc _ _)) (Nat.le_refl _) (by unfold maxLen; omega) (fun a ha => by
          injection ha with ha
          subst ha
          refine ⟨fun e => ?_, by simp; omega⟩
          have h1 := (HR.out.own.lt _ e).2
          simp at h1) (fun a ha j b m d hj => by
          injection ha with ha
          subst ha
          have h1 := HR.out.block j b m d hj
          show b.block ≠ wr.heap.size
          omega) hgrow hown1 (by
          rcases hat with e | e
          · exact .inl e
          · exact .inr ⟨gg, rfl, by rw [e]; simp⟩))
      have HB1 := Lib.hid (below_own (HR1.out.own.alloc _) hgrow ((below_then HB.out HRB.out).alloc (by simp; omega) _) (Nat.le_refl _) (by simp; omega))
      clear hown1 hgrow hat hlt1
      go_wp2
      go_roundw
      case rel => exact ⟨k + 1, _, by omega, by go_num, HP.out, HB1.out⟩
      case measure => simp [intOf]; omega
    · obtain rfl : k = n := by omega
      go_wp2
      go_ret
      exact ⟨_, _, rfl, HR.out, HB.out⟩

theorem spec_l11One (p : Int) (A : Option Addr) (n c k : Nat) (w : World) (hn : n ≤ 6) (hk : k < 2 ^ n) : Calls Try.prog 52 #[.agg #[.int .i64 p, .slice A n c], .int .i64 k] w fun e w' => ∃ b, e = .returned (.slice (some ⟨b, 0, none⟩) (2 ^ n) (2 ^ n)) ∧ Own w.heap.size w' (some ⟨b, 0, none⟩) (2 ^ n) (unitV (2 ^ n) k) ∧ Below w.heap.size w w' := by
  have hmk := make_pow hn
  obtain ⟨g0, g1, g2⟩ := ipow_le6 hn
  have g3 := pow_le6 hn
  have g4 : 1 ≤ (2 : Nat) ^ n := Nat.one_le_two_pow
  have hkn : (k : Int) < 2 ^ n := by have h3 := ipow_cast n; omega
  have H2 := Lib.hid (show Below w.heap.size w (w.alloc (.cells #[.int .i64 p, .slice A n c] 27)) from (Below.refl _ _).alloc (Nat.le_refl _) _)
  go_enter Try.func52, Try.ntmps52
  have c0 : (w.alloc (.cells #[.int .i64 p, .slice A n c] 27)).cell? ⟨w.heap.size, 0, none⟩ = some (.int .i64 p) := by simp [go_sem]
  have c1 : (w.alloc (.cells #[.int .i64 p, .slice A n c] 27)).cell? ⟨w.heap.size, 1, none⟩ = some (.slice A n c) := by simp [go_sem]
  have HW := Lib.hid (Below.refl (w.alloc (.cells #[.int .i64 p, .slice A n c] 27)).heap.size (w.alloc (.cells #[.int .i64 p, .slice A n c] 27)))
  go_wp2_with fail
  refine (spec_l11Size _ _ _ _ _ hn).mono ?_
  rintro e v ⟨rfl, hb⟩
  have HB := Lib.hid (below_then H2.out hb)
  have hs := HB.out.size
  clear hb
  have hcell : (v.alloc (.cells (madeCells #[.int .i64 0] (2 ^ n)) 2)).cell? ⟨v.heap.size, k, none⟩ = some (.int .i64 0) := (made_cell v hk (by omega)).1
  have hfr : (v.alloc (.cells (madeCells #[.int .i64 0] (2 ^ n)) 2)).frozen? ⟨v.heap.size, k, none⟩ = false := (made_cell v hk (by omega)).2
  have HS := Lib.hid (own_unit v (B := w.heap.size) hk (by omega) hs)
  go_wp2
  go_ret
  exact ⟨_, rfl, HS.out, HB.out.alloc hs _⟩

theorem Doubling_element (p : Int) (A : Option Addr) (n c k : Nat) (w : World) (hn : n ≤ 6) (hk : k < 2 ^ n) : Calls Try.prog 53 #[.agg #[.int .i64 p, .slice A n c], .int .i64 k] w fun e w' => ∃ C q, e = .returned (.slice C (2 ^ n) q) ∧ Own w.heap.size w' C (2 ^ n) (unitV (2 ^ n) k) ∧ Below w.heap.size w w' := by
  obtain ⟨g0, g1, g2⟩ := ipow_le6 hn
  have g3 := pow_le6 hn
  have g4 : 1 ≤ (2 : Nat) ^ n := Nat.one_le_two_pow
  have hc := ipow_cast n
  have hkn : (k : Int) < 2 ^ n := by omega
  have hkm : (k : Int) < ((2 ^ n : Nat) : Int) := by omega
  have H2 := Lib.hid (show Below w.heap.size w (w.alloc (.cells #[.int .i64 p, .slice A n c] 27)) from (Below.refl _ _).alloc (Nat.le_refl _) _)
  have HU := Lib.hid (show ∀ w, Calls Try.prog 74 #[.int .i64 (2 ^ n)] w fun e w' => ∃ o cs, e = .returned o ∧ RowsC w.heap.size w' 22 o (2 ^ n) (unitK (2 ^ n) (2 ^ n)) cs ∧ Below w.heap.size w w' from fun w => by
    have h := impl_unit (2 ^ n) w g4 (by omega)
    rw [← hc] at h
    exact h)
  clear hc
  go_enter Try.func53, Try.ntmps53
  have c0 : (w.alloc (.cells #[.int .i64 p, .slice A n c] 27)).cell? ⟨w.heap.size, 0, none⟩ = some (.int .i64 p) := by simp [go_sem]
  have c1 : (w.alloc (.cells #[.int .i64 p, .slice A n c] 27)).cell? ⟨w.heap.size, 1, none⟩ = some (.slice A n c) := by simp [go_sem]
  have HW := Lib.hid (Below.refl (w.alloc (.cells #[.int .i64 p, .slice A n c] 27)).heap.size (w.alloc (.cells #[.int .i64 p, .slice A n c] 27)))
  go_wp2_with fail
  refine (Doubling_size _ _ _ _ _ hn).mono ?_
  rintro e v ⟨rfl, hb⟩
  have HB := Lib.hid (below_then H2.out hb)
  have hs := HB.out.size
  clear hb
  go_wp2_with fail
  refine (HU.out _).mono ?_
  rintro e v2 ⟨o, cs, rfl, hr, hb⟩
  replace HB := Lib.hid (below_then HB.out hb)
  have hs2 := hb.size
  clear hb
  obtain ⟨g, cap, u, C, nn, q, rfl, hu, hcell, ho⟩ := hr.get hk
  rw [unitK_get hk] at hu
  injection hu with hu
  subst hu
  obtain rfl : nn = 2 ^ n := by have := ho.1; rw [unitV_len] at this; omega
  have HO := Lib.hid (ho.less (B' := w.heap.size) hs)
  clear ho hr
  go_wp2
  go_ret
  exact ⟨C, q, rfl, HO.out, HB.out⟩

def duL (p : Int) (st : List Int) : List Int := if dblB p st then unitV (2 ^ st.length) 0 else []
theorem duL_len (p : Int) (st : List Int) : (duL p st).length ≤ 1000000000 := by
  unfold duL
  cases h : dblB p st with
  | true =>
    rw [if_pos rfl, unitV_len]
    have h4 := (dblB_true h).2.2.1
    have := pow_le6 (show st.length ≤ 6 by omega)
    omega
  | false => simp

theorem spec_DoubleUnit (p : Int) (A : Option Addr) (n c : Nat) (xs : List Int) (w : World) (hx : Ints w A n xs) :
    Calls Try.prog 21 #[.agg #[.int .i64 p, .slice A n c]] w fun e w' => ∃ C q, e = .returned (.tuple #[.slice C (duL p xs).length q, .int .i64 (codeD p xs 0 [])]) ∧ Own w.heap.size w' C (duL p xs).length (duL p xs) ∧ Below w.heap.size w w' := by
  have HX := Lib.hid hx
  have hm := hx.2.1
  have HN := Lib.hid hx.1
  clear hx
  unfold maxLen at hm
  have H2 := Lib.hid (show Below w.heap.size w (w.alloc (.cells #[.int .i64 p, .slice A n c] 27)) from (Below.refl _ _).alloc (Nat.le_refl _) _)
  cases hs : dblB p xs with
  | true =>
    obtain ⟨hp, _, hl1, hn⟩ := dblB_true hs
    rw [HN.out] at hl1
    have hl6 : n ≤ 6 := by omega
    have HS := Lib.hid hs
    have HC := Lib.hid (show codeD p xs 0 [] = 0 by simp [codeD, hs])
    have HV := Lib.hid (show duL p xs = unitV (2 ^ n) 0 by unfold duL; rw [hs, HN.out]; rfl)
    have HL := Lib.hid (show (duL p xs).length = 2 ^ n by rw [HV.out, unitV_len])
    rw [HL.out, HV.out, HC.out]
    clear hp hn hs
    go_enter Try.func21, Try.ntmps21
    have c0 : (w.alloc (.cells #[.int .i64 p, .slice A n c] 27)).cell? ⟨w.heap.size, 0, none⟩ = some (.int .i64 p) := by simp [go_sem]
    have c1 : (w.alloc (.cells #[.int .i64 p, .slice A n c] 27)).cell? ⟨w.heap.size, 1, none⟩ = some (.slice A n c) := by simp [go_sem]
    have HW := Lib.hid (Below.refl (w.alloc (.cells #[.int .i64 p, .slice A n c] 27)).heap.size (w.alloc (.cells #[.int .i64 p, .slice A n c] 27)))
    go_wp2_with fail
    refine (spec_l11Is _ _ _ _ xs _ (HX.out.keep (H2.out.trans (HW.out.mono H2.out.size)))).mono ?_
    rw [HS.out]
    rintro e v ⟨rfl, hb⟩
    have hs1 := hb.size
    replace c0 := keep_cell hb c0
    replace c1 := keep_cell hb c1
    replace HW := Lib.hid (below_then HW.out hb)
    clear hb
    have hs2 : w.heap.size + 1 ≤ v.heap.size := by simpa using hs1
    go_wp2_with fail
    refine (spec_l11One _ _ _ _ 0 _ hl6 (Nat.two_pow_pos _)).mono ?_
    rintro e v2 ⟨bb, rfl, ho, hb⟩
    have HO := Lib.hid (ho.less (B' := w.heap.size) (by omega))
    clear ho
    replace c0 := keep_cell hb c0
    replace c1 := keep_cell hb c1
    replace HW := Lib.hid (below_then HW.out hb)
    clear hb
    go_wp2_with fail
    go_ret2
    exact ⟨_, _, rfl, HO.out, (H2.out.trans (HW.out.mono H2.out.size))⟩
  | false =>
    have HS := Lib.hid hs
    have HC := Lib.hid (show codeD p xs 0 [] = 1 by simp [codeD, hs])
    have HV := Lib.hid (show duL p xs = [] by unfold duL; rw [hs]; rfl)
    rw [HV.out, HC.out]
    clear hs
    go_enter Try.func21, Try.ntmps21
    have c0 : (w.alloc (.cells #[.int .i64 p, .slice A n c] 27)).cell? ⟨w.heap.size, 0, none⟩ = some (.int .i64 p) := by simp [go_sem]
    have c1 : (w.alloc (.cells #[.int .i64 p, .slice A n c] 27)).cell? ⟨w.heap.size, 1, none⟩ = some (.slice A n c) := by simp [go_sem]
    have HW := Lib.hid (Below.refl (w.alloc (.cells #[.int .i64 p, .slice A n c] 27)).heap.size (w.alloc (.cells #[.int .i64 p, .slice A n c] 27)))
    go_wp2_with fail
    refine (spec_l11Is _ _ _ _ xs _ (HX.out.keep (H2.out.trans (HW.out.mono H2.out.size)))).mono ?_
    rw [HS.out]
    rintro e v ⟨rfl, hb⟩
    have hs1 := hb.size
    replace c0 := keep_cell hb c0
    replace c1 := keep_cell hb c1
    replace HW := Lib.hid (below_then HW.out hb)
    clear hb
    have hs2 : w.heap.size + 1 ≤ v.heap.size := by simpa using hs1
    go_wp2_with fail
    go_ret2
    exact ⟨_, _, rfl, Own.nil _ _, (H2.out.trans (HW.out.mono H2.out.size))⟩

theorem impl_DoubleUnit (p : Int) (A : Option Addr) (n c : Nat) (xs : List Int) (w : World) (hx : Ints w A n xs) :
    Calls Try.prog 22 #[.agg #[.int .i64 p, .slice A n c]] w fun e w' => ∃ C q, e = .returned (.tuple #[.slice C (duL p xs).length q, .int .i64 (codeD p xs 0 [])]) ∧ Own w.heap.size w' C (duL p xs).length (duL p xs) ∧ Below w.heap.size w w' := by
  have HX := Lib.hid hx
  have hm := hx.2.1
  have HN := Lib.hid hx.1
  clear hx
  unfold maxLen at hm
  have H2 := Lib.hid (show Below w.heap.size w (w.alloc (.cells #[.int .i64 p, .slice A n c] 27)) from (Below.refl _ _).alloc (Nat.le_refl _) _)
  cases hs : dblB p xs with
  | true =>
    obtain ⟨hp, _, hl1, hn⟩ := dblB_true hs
    rw [HN.out] at hl1
    have hl6 : n ≤ 6 := by omega
    have HS := Lib.hid hs
    have HC := Lib.hid (show codeD p xs 0 [] = 0 by simp [codeD, hs])
    have HV := Lib.hid (show duL p xs = unitV (2 ^ n) 0 by unfold duL; rw [hs, HN.out]; rfl)
    have HL := Lib.hid (show (duL p xs).length = 2 ^ n by rw [HV.out, unitV_len])
    rw [HL.out, HV.out, HC.out]
    clear hp hn hs
    go_enter Try.func22, Try.ntmps22
    have c0 : (w.alloc (.cells #[.int .i64 p, .slice A n c] 27)).cell? ⟨w.heap.size, 0, none⟩ = some (.int .i64 p) := by simp [go_sem]
    have c1 : (w.alloc (.cells #[.int .i64 p, .slice A n c] 27)).cell? ⟨w.heap.size, 1, none⟩ = some (.slice A n c) := by simp [go_sem]
    have HW := Lib.hid (Below.refl (w.alloc (.cells #[.int .i64 p, .slice A n c] 27)).heap.size (w.alloc (.cells #[.int .i64 p, .slice A n c] 27)))
    go_wp2_with fail
    refine (impl_IsDoubling _ _ _ _ xs _ (HX.out.keep (H2.out.trans (HW.out.mono H2.out.size)))).mono ?_
    rw [HS.out]
    rintro e v ⟨rfl, hb⟩
    have hs1 := hb.size
    replace c0 := keep_cell hb c0
    replace c1 := keep_cell hb c1
    replace HW := Lib.hid (below_then HW.out hb)
    clear hb
    have hs2 : w.heap.size + 1 ≤ v.heap.size := by simpa using hs1
    go_wp2_with fail
    refine (Doubling_element _ _ _ _ 0 _ hl6 (Nat.two_pow_pos _)).mono ?_
    rintro e v2 ⟨CC, qq, rfl, ho, hb⟩
    have HO := Lib.hid (ho.less (B' := w.heap.size) (by omega))
    clear ho
    replace c0 := keep_cell hb c0
    replace c1 := keep_cell hb c1
    replace HW := Lib.hid (below_then HW.out hb)
    clear hb
    go_wp2_with fail
    go_ret2
    exact ⟨_, _, rfl, HO.out, (H2.out.trans (HW.out.mono H2.out.size))⟩
  | false =>
    have HS := Lib.hid hs
    have HC := Lib.hid (show codeD p xs 0 [] = 1 by simp [codeD, hs])
    have HV := Lib.hid (show duL p xs = [] by unfold duL; rw [hs]; rfl)
    rw [HV.out, HC.out]
    clear hs
    go_enter Try.func22, Try.ntmps22
    have c0 : (w.alloc (.cells #[.int .i64 p, .slice A n c] 27)).cell? ⟨w.heap.size, 0, none⟩ = some (.int .i64 p) := by simp [go_sem]
    have c1 : (w.alloc (.cells #[.int .i64 p, .slice A n c] 27)).cell? ⟨w.heap.size, 1, none⟩ = some (.slice A n c) := by simp [go_sem]
    have HW := Lib.hid (Below.refl (w.alloc (.cells #[.int .i64 p, .slice A n c] 27)).heap.size (w.alloc (.cells #[.int .i64 p, .slice A n c] 27)))
    go_wp2_with fail
    refine (impl_IsDoubling _ _ _ _ xs _ (HX.out.keep (H2.out.trans (HW.out.mono H2.out.size)))).mono ?_
    rw [HS.out]
    rintro e v ⟨rfl, hb⟩
    have hs1 := hb.size
    replace c0 := keep_cell hb c0
    replace c1 := keep_cell hb c1
    replace HW := Lib.hid (below_then HW.out hb)
    clear hb
    have hs2 : w.heap.size + 1 ≤ v.heap.size := by simpa using hs1
    go_wp2_with fail
    go_ret2
    exact ⟨_, _, rfl, Own.nil _ _, (H2.out.trans (HW.out.mono H2.out.size))⟩

end Go.Proofs.Ytjfkgocpkjdleaa
