/- DoubleTimes of the program and of the reference agree on every input, leave their arguments alone and share no memory. No condition. -/
import Derived.Test.YtjfkgocpkjdleaaFacts
import Derived.Test.YtjfkgocpkjdleaaTimes
import Derived.Test.YtjfkgocpkjdleaaRows
namespace Go.Proofs.Ytjfkgocpkjdleaa.fnExactDoubleTimes
open Go.ChangeShapes Go.WideShapes Go.ChangeAt Go.RowKit
open Go.ChangeMaps (open_string shut_string)
set_option linter.unusedVariables false

set_option maxRecDepth 100000 in
set_option maxHeartbeats 4000000 in
theorem walk (p0 : Int) (a0 : Option Addr) (len0 cap0 : Nat) (z0 : List Int) (a1 : Option Addr) (len1 cap1 : Nat) (z1 : List Int) (a2 : Option Addr) (len2 cap2 : Nat) (z2 : List Int) (w : World) (wp0 : (Lit.int .i64 p0).wf = true) (w0 : Ints w a0 len0 z0) (w1 : Ints w a1 len1 z1) (w2 : Ints w a2 len2 z2) :
    Calls Try.prog 13 #[.agg #[.int .i64 p0, .slice a0 len0 cap0], .slice a1 len1 cap1, .slice a2 len2 cap2] w fun e w' => e = .returned (.bool true) ∧ Below w.heap.size w w' := by
  have ml0 := w0.2.1
  have ml1 := w1.2.1
  have ml2 := w2.2.1
  unfold maxLen at ml0 ml1 ml2
  have HBD := Lib.hid (dtL_len p0 z0 z1 z2)
  by_cases s1 : len1 ≤ 1048576
  rotate_left
  · go_enter Try.func13, Try.ntmps13
    go_wp2_with fail
    go_ret
    exact ⟨rfl, ((Below.refl _ _).alloc (by simp) _)⟩
  by_cases s2 : len2 ≤ 1048576
  rotate_left
  · go_enter Try.func13, Try.ntmps13
    go_wp2_with fail
    go_ret
    exact ⟨rfl, ((Below.refl _ _).alloc (by simp) _)⟩
  by_cases s0 : len0 ≤ 1048576
  rotate_left
  · go_enter Try.func13, Try.ntmps13
    go_wp2_with fail
    refine (laws_szDoubling_no p0 a0 len0 cap0 _ _ (by unfold maxLen; omega) (by omega) (by omega) (by omega)).mono ?_
    rintro e u0 ⟨rfl, hb0⟩
    go_wp2_with fail
    go_ret
    exact ⟨rfl, ((Below.refl _ _).alloc (by simp) _).trans (hb0.mono (by simp))⟩
  go_enter Try.func13, Try.ntmps13
  have c0a : (w.alloc (.cells #[.int .i64 p0, .slice a0 len0 cap0] 24)).cell? ⟨w.heap.size, 0, none⟩ = some (.int .i64 p0) := by simp [go_sem]
  have c0b : (w.alloc (.cells #[.int .i64 p0, .slice a0 len0 cap0] 24)).cell? ⟨w.heap.size, 1, none⟩ = some (.slice a0 len0 cap0) := by simp [go_sem]
  have HB : Hid (Below w.heap.size w (w.alloc (.cells #[.int .i64 p0, .slice a0 len0 cap0] 24))) := Lib.hid ((Below.refl _ _).alloc (by simp) _)
  have J0 := Lib.hid (w0.keep HB.out)
  have J1 := Lib.hid (w1.keep HB.out)
  have J2 := Lib.hid (w2.keep HB.out)
  go_wp2_with fail
  refine (laws_szDoubling_ok p0 a0 len0 cap0 _ _ (by omega) (by omega)).mono ?_
  rintro e v1 ⟨rfl, hb⟩
  have hs1 : w.heap.size ≤ v1.heap.size := by have hq := hb.size; (try simp at hq); omega
  replace c0a := keep_cell hb c0a
  replace c0b := keep_cell hb c0b
  replace J0 := Lib.hid (J0.out.keep hb)
  replace J1 := Lib.hid (J1.out.keep hb)
  replace J2 := Lib.hid (J2.out.keep hb)
  replace HB := Lib.hid (below_then HB.out hb)
  clear hb
  have hsb : w.heap.size < v1.heap.size := World.block_lt_of_cell? _ _ c0a
  go_wp2_with fail
  refine (laws_toDoubling p0 a0 len0 cap0 z0 _ J0.out (by omega)).mono ?_
  rintro e v2 ⟨bp0, rfl, ho, hb⟩
  have hs2 : v1.heap.size ≤ v2.heap.size := by have hq := hb.size; (try simp at hq); omega
  have P0 := Lib.hid (OwnIn.of (ho.less (show v1.heap.size ≤ _ from by simp)))
  clear ho
  replace c0a := keep_cell hb c0a
  replace c0b := keep_cell hb c0b
  replace J0 := Lib.hid (J0.out.keep hb)
  replace J1 := Lib.hid (J1.out.keep hb)
  replace J2 := Lib.hid (J2.out.keep hb)
  replace HB := Lib.hid (below_then HB.out hb)
  clear hb
  go_wp2_with fail
  refine (laws_toInt64S a1 len1 cap1 z1 _ J1.out (by omega)).mono ?_
  rintro e v3 ⟨bp1, rfl, ho, hb⟩
  have hs3 : v2.heap.size ≤ v3.heap.size := by have hq := hb.size; (try simp at hq); omega
  have P1 := Lib.hid (OwnIn.of (ho.less (show v2.heap.size ≤ _ from by simp)))
  clear ho
  replace c0a := keep_cell hb c0a
  replace c0b := keep_cell hb c0b
  replace J0 := Lib.hid (J0.out.keep hb)
  replace J1 := Lib.hid (J1.out.keep hb)
  replace J2 := Lib.hid (J2.out.keep hb)
  replace HB := Lib.hid (below_then HB.out hb)
  replace P0 := Lib.hid (P0.out.keep hb)
  clear hb
  go_wp2_with fail
  refine (laws_toInt64S a2 len2 cap2 z2 _ J2.out (by omega)).mono ?_
  rintro e v4 ⟨bp2, rfl, ho, hb⟩
  have hs4 : v3.heap.size ≤ v4.heap.size := by have hq := hb.size; (try simp at hq); omega
  have P2 := Lib.hid (OwnIn.of (ho.less (show v3.heap.size ≤ _ from by simp)))
  clear ho
  replace c0a := keep_cell hb c0a
  replace c0b := keep_cell hb c0b
  replace J0 := Lib.hid (J0.out.keep hb)
  replace J1 := Lib.hid (J1.out.keep hb)
  replace J2 := Lib.hid (J2.out.keep hb)
  replace HB := Lib.hid (below_then HB.out hb)
  replace P0 := Lib.hid (P0.out.keep hb)
  replace P1 := Lib.hid (P1.out.keep hb)
  clear hb
  go_wp2_with fail
  refine (spec_DoubleTimes _ _ _ _ _ _ _ _ _ _ z0 z1 z2  _ P0.out.ints P1.out.ints P2.out.ints rfl rfl rfl).mono ?_
  rintro e v5 ⟨cwr, qwr, rfl, ho, hb⟩
  have hs5 : v4.heap.size ≤ v5.heap.size := by have hq := hb.size; (try simp at hq); omega
  have WR := Lib.hid (OwnIn.of (ho.less (show v4.heap.size ≤ _ from by simp)))
  clear ho
  replace c0a := keep_cell hb c0a
  replace c0b := keep_cell hb c0b
  replace J0 := Lib.hid (J0.out.keep hb)
  replace J1 := Lib.hid (J1.out.keep hb)
  replace J2 := Lib.hid (J2.out.keep hb)
  replace HB := Lib.hid (below_then HB.out hb)
  replace P0 := Lib.hid (P0.out.keep hb)
  replace P1 := Lib.hid (P1.out.keep hb)
  replace P2 := Lib.hid (P2.out.keep hb)
  clear hb
  clear P0
  clear P1
  clear P2
  go_wp2_with fail
  refine (laws_toDoubling p0 a0 len0 cap0 z0 _ J0.out (by omega)).mono ?_
  rintro e v6 ⟨bx0, rfl, ho, hb⟩
  have hs6 : v5.heap.size ≤ v6.heap.size := by have hq := hb.size; (try simp at hq); omega
  have X0 := Lib.hid (OwnIn.of (ho.less (show v5.heap.size ≤ _ from by simp)))
  clear ho
  replace c0a := keep_cell hb c0a
  replace c0b := keep_cell hb c0b
  replace J0 := Lib.hid (J0.out.keep hb)
  replace J1 := Lib.hid (J1.out.keep hb)
  replace J2 := Lib.hid (J2.out.keep hb)
  replace HB := Lib.hid (below_then HB.out hb)
  replace WR := Lib.hid (WR.out.keep hb)
  clear hb
  go_wp2_with fail
  have hb : Below v6.heap.size v6 (v6.alloc (.cells #[.int .i64 p0, .slice (some ⟨bx0, 0, none⟩) len0 len0] 27)) := (Below.refl _ _).alloc (Nat.le_refl _) _
  replace c0a := keep_cell hb c0a
  replace c0b := keep_cell hb c0b
  replace J0 := Lib.hid (J0.out.keep hb)
  replace J1 := Lib.hid (J1.out.keep hb)
  replace J2 := Lib.hid (J2.out.keep hb)
  replace HB := Lib.hid (below_then HB.out hb)
  replace WR := Lib.hid (WR.out.keep hb)
  replace X0 := Lib.hid (X0.out.keep hb)
  have d0a : (v6.alloc (.cells #[.int .i64 p0, .slice (some ⟨bx0, 0, none⟩) len0 len0] 27)).cell? ⟨v6.heap.size, 0, none⟩ = some (.int .i64 p0) := by simp [go_sem]
  have d0b : (v6.alloc (.cells #[.int .i64 p0, .slice (some ⟨bx0, 0, none⟩) len0 len0] 27)).cell? ⟨v6.heap.size, 1, none⟩ = some (.slice (some ⟨bx0, 0, none⟩) len0 len0) := by simp [go_sem]
  refine (laws_toInt64S a1 len1 cap1 z1 _ J1.out (by omega)).mono ?_
  rintro e v7 ⟨bx1, rfl, ho, hb⟩
  have hs7 : v6.heap.size ≤ v7.heap.size := by have hq := hb.size; (try simp at hq); omega
  have X1 := Lib.hid (OwnIn.of (ho.less (show v6.heap.size ≤ _ from by simp)))
  clear ho
  replace c0a := keep_cell hb c0a
  replace c0b := keep_cell hb c0b
  replace d0a := keep_cell hb d0a
  replace d0b := keep_cell hb d0b
  replace J0 := Lib.hid (J0.out.keep hb)
  replace J1 := Lib.hid (J1.out.keep hb)
  replace J2 := Lib.hid (J2.out.keep hb)
  replace HB := Lib.hid (below_then HB.out hb)
  replace WR := Lib.hid (WR.out.keep hb)
  replace X0 := Lib.hid (X0.out.keep hb)
  clear hb
  go_wp2_with fail
  refine (laws_toInt64S a2 len2 cap2 z2 _ J2.out (by omega)).mono ?_
  rintro e v8 ⟨bx2, rfl, ho, hb⟩
  have hs8 : v7.heap.size ≤ v8.heap.size := by have hq := hb.size; (try simp at hq); omega
  have X2 := Lib.hid (OwnIn.of (ho.less (show v7.heap.size ≤ _ from by simp)))
  clear ho
  replace c0a := keep_cell hb c0a
  replace c0b := keep_cell hb c0b
  replace d0a := keep_cell hb d0a
  replace d0b := keep_cell hb d0b
  replace J0 := Lib.hid (J0.out.keep hb)
  replace J1 := Lib.hid (J1.out.keep hb)
  replace J2 := Lib.hid (J2.out.keep hb)
  replace HB := Lib.hid (below_then HB.out hb)
  replace WR := Lib.hid (WR.out.keep hb)
  replace X0 := Lib.hid (X0.out.keep hb)
  replace X1 := Lib.hid (X1.out.keep hb)
  clear hb
  go_wp2_with fail
  refine (impl_DoubleTimes _ _ _ _ _ _ _ _ _ _ z0 z1 z2  _ X0.out.ints X1.out.ints X2.out.ints rfl rfl rfl).mono ?_
  rintro e v9 ⟨cgr, qgr, rfl, ho, hb⟩
  have hs9 : v8.heap.size ≤ v9.heap.size := by have hq := hb.size; (try simp at hq); omega
  have GR := Lib.hid (OwnIn.of (ho.less (show v8.heap.size ≤ _ from by simp)))
  clear ho
  replace c0a := keep_cell hb c0a
  replace c0b := keep_cell hb c0b
  replace d0a := keep_cell hb d0a
  replace d0b := keep_cell hb d0b
  replace J0 := Lib.hid (J0.out.keep hb)
  replace J1 := Lib.hid (J1.out.keep hb)
  replace J2 := Lib.hid (J2.out.keep hb)
  replace HB := Lib.hid (below_then HB.out hb)
  replace WR := Lib.hid (WR.out.keep hb)
  replace X0 := Lib.hid (X0.out.keep hb)
  replace X1 := Lib.hid (X1.out.keep hb)
  replace X2 := Lib.hid (X2.out.keep hb)
  clear hb
  go_wp2_with fail
  refine (laws_eqInt64S _ _ _ _ _ _ (dtL p0 z0 z1 z2) (dtL p0 z0 z1 z2) _ GR.out.ints WR.out.ints).mono ?_
  rintro e v10 ⟨rfl, hb⟩
  have hs10 : v9.heap.size ≤ v10.heap.size := by have hq := hb.size; (try simp at hq); omega
  replace c0a := keep_cell hb c0a
  replace c0b := keep_cell hb c0b
  replace d0a := keep_cell hb d0a
  replace d0b := keep_cell hb d0b
  replace J0 := Lib.hid (J0.out.keep hb)
  replace J1 := Lib.hid (J1.out.keep hb)
  replace J2 := Lib.hid (J2.out.keep hb)
  replace HB := Lib.hid (below_then HB.out hb)
  replace WR := Lib.hid (WR.out.keep hb)
  replace X0 := Lib.hid (X0.out.keep hb)
  replace X1 := Lib.hid (X1.out.keep hb)
  replace X2 := Lib.hid (X2.out.keep hb)
  replace GR := Lib.hid (GR.out.keep hb)
  clear hb
  go_wp2_with fail
  go_region_held3 (fun w' => w'.cell? ⟨w.heap.size, 0, none⟩ = some (.int .i64 p0) ∧ w'.cell? ⟨w.heap.size, 1, none⟩ = some (.slice a0 len0 cap0) ∧ w'.cell? ⟨v6.heap.size, 0, none⟩ = some (.int .i64 p0) ∧ w'.cell? ⟨v6.heap.size, 1, none⟩ = some (.slice (some ⟨bx0, 0, none⟩) len0 len0) ∧ Ints w' a0 len0 z0 ∧ Ints w' a1 len1 z1 ∧ Ints w' a2 len2 z2 ∧ Below w.heap.size w w' ∧ OwnIn v4.heap.size v5.heap.size w' cwr (dtL p0 z0 z1 z2).length (dtL p0 z0 z1 z2) ∧ OwnIn v5.heap.size v6.heap.size w' (some ⟨bx0, 0, none⟩) len0 z0 ∧ OwnIn v6.heap.size v7.heap.size w' (some ⟨bx1, 0, none⟩) len1 z1 ∧ OwnIn v7.heap.size v8.heap.size w' (some ⟨bx2, 0, none⟩) len2 z2 ∧ OwnIn v8.heap.size v9.heap.size w' cgr (dtL p0 z0 z1 z2).length (dtL p0 z0 z1 z2) ∧ v10.heap.size ≤ w'.heap.size)
    (first
      | exact ⟨c0a, c0b, d0a, d0b, J0.out, J1.out, J2.out, HB.out.drew, WR.out, X0.out, X1.out, X2.out, GR.out, Nat.le_refl _⟩
      | (go_split_ands; exact ⟨‹_›, ‹_›, ‹_›, ‹_›, ‹_›, ‹_›, ‹_›, ‹_›, ‹_›, ‹_›, ‹_›, ‹_›, ‹_›, ‹_›⟩)
      | (go_split_ands; exact ⟨keep_cell hbz ‹_›, keep_cell hbz ‹_›, keep_cell hbz ‹_›, keep_cell hbz ‹_›, Ints.keep ‹_› hbz, Ints.keep ‹_› hbz, Ints.keep ‹_› hbz, below_then ‹_› hbz, OwnIn.keep ‹_› hbz, OwnIn.keep ‹_› hbz, OwnIn.keep ‹_› hbz, OwnIn.keep ‹_› hbz, OwnIn.keep ‹_› hbz, Nat.le_trans ‹v10.heap.size ≤ _› hbz.size⟩)
      | go_keep)
    (first
      | (go_at_call 16; refine (laws_toDoubling p0 a0 len0 cap0 z0 _ (by go_split_ands; assumption) (by omega)).mono ?_; rintro e vz ⟨bz, rfl, oz, hbz⟩)
      | (go_at_call 18; refine (laws_eqDoubling p0 _ _ _ _ _ z0 _ (by go_split_ands; exact OwnIn.ints (xs := z0) (A := (some ⟨bx0, 0, none⟩)) ‹_›) oz.ints).mono ?_; rintro e vy ⟨rfl, hbz⟩))
  rename_i hh
  obtain ⟨v11, hv11⟩ : ∃ v, v = vy := ⟨_, rfl⟩
  subst hv11
  obtain ⟨c0a, c0b, d0a, d0b, j0q, j1q, j2q, hbq, wrq, x0q, x1q, x2q, grq, hs11⟩ := hh
  replace J0 := Lib.hid j0q
  clear j0q
  replace J1 := Lib.hid j1q
  clear j1q
  replace J2 := Lib.hid j2q
  clear j2q
  replace HB := Lib.hid hbq
  clear hbq
  replace WR := Lib.hid wrq
  clear wrq
  replace X0 := Lib.hid x0q
  clear x0q
  replace X1 := Lib.hid x1q
  clear x1q
  replace X2 := Lib.hid x2q
  clear x2q
  replace GR := Lib.hid grq
  clear grq
  clear hbz
  go_wp2_with fail
  refine (laws_toInt64S a1 len1 cap1 z1 _ J1.out (by omega)).mono ?_
  rintro e v12 ⟨by1, rfl, ho, hb⟩
  have hs12 : v11.heap.size ≤ v12.heap.size := by have hq := hb.size; (try simp at hq); omega
  have Y1 := Lib.hid (OwnIn.of (ho.less (show v11.heap.size ≤ _ from by simp)))
  clear ho
  replace c0a := keep_cell hb c0a
  replace c0b := keep_cell hb c0b
  replace d0a := keep_cell hb d0a
  replace d0b := keep_cell hb d0b
  replace J0 := Lib.hid (J0.out.keep hb)
  replace J1 := Lib.hid (J1.out.keep hb)
  replace J2 := Lib.hid (J2.out.keep hb)
  replace HB := Lib.hid (below_then HB.out hb)
  replace WR := Lib.hid (WR.out.keep hb)
  replace X0 := Lib.hid (X0.out.keep hb)
  replace X1 := Lib.hid (X1.out.keep hb)
  replace X2 := Lib.hid (X2.out.keep hb)
  replace GR := Lib.hid (GR.out.keep hb)
  clear hb
  go_wp2_with fail
  refine (laws_eqInt64S _ _ _ _ _ _ z1 z1 _ X1.out.ints Y1.out.ints).mono ?_
  rintro e v13 ⟨rfl, hb⟩
  have hs13 : v12.heap.size ≤ v13.heap.size := by have hq := hb.size; (try simp at hq); omega
  replace c0a := keep_cell hb c0a
  replace c0b := keep_cell hb c0b
  replace d0a := keep_cell hb d0a
  replace d0b := keep_cell hb d0b
  replace J0 := Lib.hid (J0.out.keep hb)
  replace J1 := Lib.hid (J1.out.keep hb)
  replace J2 := Lib.hid (J2.out.keep hb)
  replace HB := Lib.hid (below_then HB.out hb)
  replace WR := Lib.hid (WR.out.keep hb)
  replace X0 := Lib.hid (X0.out.keep hb)
  replace X1 := Lib.hid (X1.out.keep hb)
  replace X2 := Lib.hid (X2.out.keep hb)
  replace GR := Lib.hid (GR.out.keep hb)
  replace Y1 := Lib.hid (Y1.out.keep hb)
  clear hb
  have t1 : decide (z1 = z1) = true := decide_eq_true rfl
  clear Y1
  go_wp2_with fail
  refine (laws_toInt64S a2 len2 cap2 z2 _ J2.out (by omega)).mono ?_
  rintro e v14 ⟨by2, rfl, ho, hb⟩
  have hs14 : v13.heap.size ≤ v14.heap.size := by have hq := hb.size; (try simp at hq); omega
  have Y2 := Lib.hid (OwnIn.of (ho.less (show v13.heap.size ≤ _ from by simp)))
  clear ho
  replace c0a := keep_cell hb c0a
  replace c0b := keep_cell hb c0b
  replace d0a := keep_cell hb d0a
  replace d0b := keep_cell hb d0b
  replace J0 := Lib.hid (J0.out.keep hb)
  replace J1 := Lib.hid (J1.out.keep hb)
  replace J2 := Lib.hid (J2.out.keep hb)
  replace HB := Lib.hid (below_then HB.out hb)
  replace WR := Lib.hid (WR.out.keep hb)
  replace X0 := Lib.hid (X0.out.keep hb)
  replace X1 := Lib.hid (X1.out.keep hb)
  replace X2 := Lib.hid (X2.out.keep hb)
  replace GR := Lib.hid (GR.out.keep hb)
  clear hb
  go_wp2_with fail
  refine (laws_eqInt64S _ _ _ _ _ _ z2 z2 _ X2.out.ints Y2.out.ints).mono ?_
  rintro e v15 ⟨rfl, hb⟩
  have hs15 : v14.heap.size ≤ v15.heap.size := by have hq := hb.size; (try simp at hq); omega
  replace c0a := keep_cell hb c0a
  replace c0b := keep_cell hb c0b
  replace d0a := keep_cell hb d0a
  replace d0b := keep_cell hb d0b
  replace J0 := Lib.hid (J0.out.keep hb)
  replace J1 := Lib.hid (J1.out.keep hb)
  replace J2 := Lib.hid (J2.out.keep hb)
  replace HB := Lib.hid (below_then HB.out hb)
  replace WR := Lib.hid (WR.out.keep hb)
  replace X0 := Lib.hid (X0.out.keep hb)
  replace X1 := Lib.hid (X1.out.keep hb)
  replace X2 := Lib.hid (X2.out.keep hb)
  replace GR := Lib.hid (GR.out.keep hb)
  replace Y2 := Lib.hid (Y2.out.keep hb)
  clear hb
  have t2 : decide (z2 = z2) = true := decide_eq_true rfl
  clear Y2
  go_wp2_with fail
  refine (laws_markDoubling _ _ _ _ _ _ _ _ _ X0.out (by omega) (by omega) (by omega)).mono ?_
  rintro e v16 ⟨rfl, ht⟩
  have hs16 : v15.heap.size ≤ v16.heap.size := ht.2.2.2.1
  replace c0a := cell_touch c0a ht (by first | omega | (simp; omega))
  replace c0b := cell_touch c0b ht (by first | omega | (simp; omega))
  clear d0a
  clear d0b
  replace HB := Lib.hid (below_touch HB.out ht (by omega))
  replace J0 := Lib.hid (w0.keep HB.out)
  replace J1 := Lib.hid (w1.keep HB.out)
  replace J2 := Lib.hid (w2.keep HB.out)
  replace WR := Lib.hid (WR.out.far ht (by omega))
  replace X1 := Lib.hid (X1.out.far ht (by omega))
  replace X2 := Lib.hid (X2.out.far ht (by omega))
  replace GR := Lib.hid (GR.out.far ht (by omega))
  clear ht
  clear X0
  go_wp2_with fail
  refine (laws_markInt64S _ _ _ _ _ _ _ _ X1.out (by omega) (by omega) (by omega)).mono ?_
  rintro e v17 ⟨rfl, _, ht⟩
  have hs17 : v16.heap.size ≤ v17.heap.size := ht.2.2.2.1
  replace c0a := cell_touch c0a ht (by first | omega | (simp; omega))
  replace c0b := cell_touch c0b ht (by first | omega | (simp; omega))
  replace HB := Lib.hid (below_touch HB.out ht (by omega))
  replace J0 := Lib.hid (w0.keep HB.out)
  replace J1 := Lib.hid (w1.keep HB.out)
  replace J2 := Lib.hid (w2.keep HB.out)
  replace WR := Lib.hid (WR.out.far ht (by omega))
  replace X2 := Lib.hid (X2.out.far ht (by omega))
  replace GR := Lib.hid (GR.out.far ht (by omega))
  clear ht
  clear X1
  go_wp2_with fail
  refine (laws_markInt64S _ _ _ _ _ _ _ _ X2.out (by omega) (by omega) (by omega)).mono ?_
  rintro e v18 ⟨rfl, _, ht⟩
  have hs18 : v17.heap.size ≤ v18.heap.size := ht.2.2.2.1
  replace c0a := cell_touch c0a ht (by first | omega | (simp; omega))
  replace c0b := cell_touch c0b ht (by first | omega | (simp; omega))
  replace HB := Lib.hid (below_touch HB.out ht (by omega))
  replace J0 := Lib.hid (w0.keep HB.out)
  replace J1 := Lib.hid (w1.keep HB.out)
  replace J2 := Lib.hid (w2.keep HB.out)
  replace WR := Lib.hid (WR.out.far ht (by omega))
  replace GR := Lib.hid (GR.out.far ht (by omega))
  clear ht
  clear X2
  go_wp2_with fail
  refine (laws_eqInt64S _ _ _ _ _ _ (dtL p0 z0 z1 z2) (dtL p0 z0 z1 z2) _ GR.out.ints WR.out.ints).mono ?_
  rintro e v19 ⟨rfl, hb⟩
  have hs19 : v18.heap.size ≤ v19.heap.size := by have hq := hb.size; (try simp at hq); omega
  replace c0a := keep_cell hb c0a
  replace c0b := keep_cell hb c0b
  replace J0 := Lib.hid (J0.out.keep hb)
  replace J1 := Lib.hid (J1.out.keep hb)
  replace J2 := Lib.hid (J2.out.keep hb)
  replace HB := Lib.hid (below_then HB.out hb)
  replace WR := Lib.hid (WR.out.keep hb)
  replace GR := Lib.hid (GR.out.keep hb)
  clear hb
  go_wp2_with fail
  refine (laws_markInt64S _ _ _ _ _ _ _ _ GR.out (by omega) (by omega) HBD.out).mono ?_
  rintro e v20 ⟨rfl, og, ht⟩
  have hs20 : v19.heap.size ≤ v20.heap.size := ht.2.2.2.1
  replace GR := Lib.hid og
  clear og
  replace c0a := cell_touch c0a ht (by first | omega | (simp; omega))
  replace c0b := cell_touch c0b ht (by first | omega | (simp; omega))
  replace HB := Lib.hid (below_touch HB.out ht (by omega))
  replace J0 := Lib.hid (w0.keep HB.out)
  replace J1 := Lib.hid (w1.keep HB.out)
  replace J2 := Lib.hid (w2.keep HB.out)
  replace WR := Lib.hid (WR.out.far ht (by omega))
  clear ht
  go_wp2_with fail
  refine (laws_heldInt64S _ _ _ _ _ GR.out.ints (by omega) (by omega) HBD.out).mono ?_
  rintro e _v ⟨rfl, rfl⟩
  go_wp2_with fail
  refine (laws_toDoubling p0 a0 len0 cap0 z0 _ J0.out (by omega)).mono ?_
  rintro e v21 ⟨bq0, rfl, ho, hb⟩
  have hs21 : v20.heap.size ≤ v21.heap.size := by have hq := hb.size; (try simp at hq); omega
  have Q0 := Lib.hid (OwnIn.of (ho.less (show v20.heap.size ≤ _ from by simp)))
  clear ho
  replace c0a := keep_cell hb c0a
  replace c0b := keep_cell hb c0b
  replace J0 := Lib.hid (J0.out.keep hb)
  replace J1 := Lib.hid (J1.out.keep hb)
  replace J2 := Lib.hid (J2.out.keep hb)
  replace HB := Lib.hid (below_then HB.out hb)
  replace WR := Lib.hid (WR.out.keep hb)
  replace GR := Lib.hid (GR.out.keep hb)
  clear hb
  go_wp2_with fail
  refine (laws_toInt64S a1 len1 cap1 z1 _ J1.out (by omega)).mono ?_
  rintro e v22 ⟨bq1, rfl, ho, hb⟩
  have hs22 : v21.heap.size ≤ v22.heap.size := by have hq := hb.size; (try simp at hq); omega
  have Q1 := Lib.hid (OwnIn.of (ho.less (show v21.heap.size ≤ _ from by simp)))
  clear ho
  replace c0a := keep_cell hb c0a
  replace c0b := keep_cell hb c0b
  replace J0 := Lib.hid (J0.out.keep hb)
  replace J1 := Lib.hid (J1.out.keep hb)
  replace J2 := Lib.hid (J2.out.keep hb)
  replace HB := Lib.hid (below_then HB.out hb)
  replace WR := Lib.hid (WR.out.keep hb)
  replace GR := Lib.hid (GR.out.keep hb)
  replace Q0 := Lib.hid (Q0.out.keep hb)
  clear hb
  go_wp2_with fail
  refine (laws_toInt64S a2 len2 cap2 z2 _ J2.out (by omega)).mono ?_
  rintro e v23 ⟨bq2, rfl, ho, hb⟩
  have hs23 : v22.heap.size ≤ v23.heap.size := by have hq := hb.size; (try simp at hq); omega
  have Q2 := Lib.hid (OwnIn.of (ho.less (show v22.heap.size ≤ _ from by simp)))
  clear ho
  replace c0a := keep_cell hb c0a
  replace c0b := keep_cell hb c0b
  replace J0 := Lib.hid (J0.out.keep hb)
  replace J1 := Lib.hid (J1.out.keep hb)
  replace J2 := Lib.hid (J2.out.keep hb)
  replace HB := Lib.hid (below_then HB.out hb)
  replace WR := Lib.hid (WR.out.keep hb)
  replace GR := Lib.hid (GR.out.keep hb)
  replace Q0 := Lib.hid (Q0.out.keep hb)
  replace Q1 := Lib.hid (Q1.out.keep hb)
  clear hb
  go_wp2_with fail
  refine (impl_DoubleTimes _ _ _ _ _ _ _ _ _ _ z0 z1 z2  _ Q0.out.ints Q1.out.ints Q2.out.ints rfl rfl rfl).mono ?_
  rintro e v24 ⟨chr, qhr, rfl, ho, hb⟩
  have hs24 : v23.heap.size ≤ v24.heap.size := by have hq := hb.size; (try simp at hq); omega
  have HR := Lib.hid (OwnIn.of (ho.less (show v23.heap.size ≤ _ from by simp)))
  clear ho
  replace c0a := keep_cell hb c0a
  replace c0b := keep_cell hb c0b
  replace J0 := Lib.hid (J0.out.keep hb)
  replace J1 := Lib.hid (J1.out.keep hb)
  replace J2 := Lib.hid (J2.out.keep hb)
  replace HB := Lib.hid (below_then HB.out hb)
  replace WR := Lib.hid (WR.out.keep hb)
  replace GR := Lib.hid (GR.out.keep hb)
  replace Q0 := Lib.hid (Q0.out.keep hb)
  replace Q1 := Lib.hid (Q1.out.keep hb)
  replace Q2 := Lib.hid (Q2.out.keep hb)
  clear hb
  go_wp2_with fail
  refine (laws_eqInt64S _ _ _ _ _ _ (dtL p0 z0 z1 z2) (dtL p0 z0 z1 z2) _ HR.out.ints WR.out.ints).mono ?_
  rintro e v25 ⟨rfl, hb⟩
  have hs25 : v24.heap.size ≤ v25.heap.size := by have hq := hb.size; (try simp at hq); omega
  replace c0a := keep_cell hb c0a
  replace c0b := keep_cell hb c0b
  replace J0 := Lib.hid (J0.out.keep hb)
  replace J1 := Lib.hid (J1.out.keep hb)
  replace J2 := Lib.hid (J2.out.keep hb)
  replace HB := Lib.hid (below_then HB.out hb)
  replace WR := Lib.hid (WR.out.keep hb)
  replace GR := Lib.hid (GR.out.keep hb)
  replace Q0 := Lib.hid (Q0.out.keep hb)
  replace Q1 := Lib.hid (Q1.out.keep hb)
  replace Q2 := Lib.hid (Q2.out.keep hb)
  replace HR := Lib.hid (HR.out.keep hb)
  clear hb
  go_wp2_with fail
  refine (laws_heldInt64S _ _ _ _ _ GR.out.ints (by omega) (by omega) HBD.out).mono ?_
  rintro e _v ⟨rfl, rfl⟩
  go_wp2_with fail
  go_ret
  exact ⟨rfl, HB.out⟩

set_option maxRecDepth 100000 in
theorem lifted (os : Os) (started : os.Started) (H : Type) (enc : TypeId × Value → H) :
    ReturnsInHanded {} Try.checked os 13 .any (Rows.fnExactDoubleTimesSpec.pre6 enc Try.prog Try.f13 Rows.fnExactDoubleTimesRow.domain false) (Rows.fnExactDoubleTimesSpec.post enc Try.prog Try.f13 false true false false) := by
  refine returnsInHanded_of_change (C := Try.checked) own started (by kernel_rfl) Try.func13
    (ChangeSpec.witness6 (enc := enc) (C := Try.checked) false ⟨#[], #[.agg #[.int .i64 0, .slice none 0 0], .slice none 0 0, .slice none 0 0], []⟩ 8 (by kernel_rfl) (by kernel_rfl) (by kernel_rfl) (by kernel_rfl)) ?_
  intro W base args ds gs before hval0 hW hcnd _
  have hval : ∀ (j : Nat) t v, Try.f13.params[j]? = some t → args[j]? = some v → Value.okWide Try.prog W .any base t v := hval0
  have hW' := hW
  obtain ⟨p, q, hA0, hV, rfl, hfz, hnd⟩ := hW
  have hA : DataW.TrodAll enc Try.prog W 0 (fun _ => true) true Try.f13.params.toList args.toList ds p := hA0
  rw [Try.params13] at hA hval
  obtain ⟨v0, vs0, d0, ds0, p0, q0, hargs, rfl, rfl, h0, r0⟩ := trodAll_cons hA
  obtain ⟨v1, vs1, d1, ds1, p1, q1, rfl, rfl, rfl, h1, r1⟩ := trodAll_cons r0
  obtain ⟨v2, vs2, d2, ds2, p2, q2, rfl, rfl, rfl, h2, r2⟩ := trodAll_cons r1
  obtain ⟨rfl, rfl, rfl⟩ := trodAll_nil r2
  obtain rfl : args = #[v0, v1, v2] := by cases args; simp_all
  obtain ⟨rfl, rfl⟩ := trodVars_none hV
  have k0 := h0
  have lt0 : ∀ x ∈ p0, x.block < W.heap.size := by obtain ⟨m, hm⟩ := k0; exact DataW.trod_lt m _ _ _ hm
  obtain ⟨c0, e0, y0, x0, m0, rfl, hd0, hp0, hy0, hx0⟩ := Go.Joins.open_agg2 Try.underlying24 (by kernel_rfl) (by kernel_rfl) (hval 0 24 v0 rfl rfl) h0
  obtain ⟨pp0, hc0, _, wp0⟩ := DataW.trod_int Try.underlying2 hy0
  simp only [List.cons.injEq, and_true] at hc0
  subst hc0
  obtain ⟨a0, len0, cap0, z0, he0, w0⟩ : ∃ (a : Option Addr) (len cap : Nat) (zs : List Int), e0 = .slice a len cap ∧ Ints W a len zs := by
    rcases open_ints Try.underlying22 Try.underlying2 (by kernel_rfl) hx0 with ⟨hcs, _⟩ | ⟨x, l, c, zs, hcs, _, hl, hm, hz, _, hcell, hwz⟩
    · simp only [List.cons.injEq, and_true] at hcs
      exact ⟨none, 0, 0, [], hcs, Ints.nil W⟩
    · simp only [List.cons.injEq, and_true] at hcs
      exact ⟨some x, l, c, zs.take l, hcs, Ints.of_row hl hm (by simpa using hz) hcell⟩
  subst he0
  obtain ⟨a1, len1, cap1, rfl⟩ := okWide_slice Try.underlying22 (hval 1 22 v1 rfl rfl)
  have k1 := h1
  have lt1 : ∀ x ∈ p1, x.block < W.heap.size := by obtain ⟨m, hm⟩ := k1; exact DataW.trod_lt m _ _ _ hm
  obtain ⟨z1, w1⟩ : ∃ zs, Ints W a1 len1 zs := by
    obtain ⟨fuel, hf⟩ := h1
    rcases open_ints Try.underlying22 Try.underlying2 (by kernel_rfl) hf with ⟨hcs, _⟩ | ⟨x, l, c, zs, hcs, _, hl, hm, hz, _, hcell, hwz⟩
    · simp [Value.cells] at hcs
      obtain ⟨rfl, rfl, rfl⟩ := hcs
      exact ⟨[], Ints.nil W⟩
    · simp [Value.cells] at hcs
      obtain ⟨rfl, rfl, rfl⟩ := hcs
      exact ⟨zs.take len1, Ints.of_row hl hm (by simpa using hz) hcell⟩
  obtain ⟨a2, len2, cap2, rfl⟩ := okWide_slice Try.underlying22 (hval 2 22 v2 rfl rfl)
  have k2 := h2
  have lt2 : ∀ x ∈ p2, x.block < W.heap.size := by obtain ⟨m, hm⟩ := k2; exact DataW.trod_lt m _ _ _ hm
  obtain ⟨z2, w2⟩ : ∃ zs, Ints W a2 len2 zs := by
    obtain ⟨fuel, hf⟩ := h2
    rcases open_ints Try.underlying22 Try.underlying2 (by kernel_rfl) hf with ⟨hcs, _⟩ | ⟨x, l, c, zs, hcs, _, hl, hm, hz, _, hcell, hwz⟩
    · simp [Value.cells] at hcs
      obtain ⟨rfl, rfl, rfl⟩ := hcs
      exact ⟨[], Ints.nil W⟩
    · simp [Value.cells] at hcs
      obtain ⟨rfl, rfl, rfl⟩ := hcs
      exact ⟨zs.take len2, Ints.of_row hl hm (by simpa using hz) hcell⟩
  clear hA0 hval0
  refine (walk pp0 a0 len0 cap0 z0 a1 len1 cap1 z1 a2 len2 cap2 z2 W wp0 w0 w1 w2).mono fun e W' ⟨he, bel⟩ => ?_
  subst he
  exact ⟨_, rfl, _, _, _, [], _, [], hW', trodAll_mk1 (shut_bool Try.underlying4 _), (trodAll_cons_mk (Below.trod laidOut (by kernel_rfl) (of_decide_eq_true (by kernel_rfl)) k0 bel lt0) (trodAll_cons_mk (Below.trod laidOut (by kernel_rfl) (of_decide_eq_true (by kernel_rfl)) k1 bel lt1) (trodAll_cons_mk (Below.trod laidOut (by kernel_rfl) (of_decide_eq_true (by kernel_rfl)) k2 bel lt2) trodAll_mk0))), rfl, bel.frame _, fun h => by cases h⟩

theorem closed : joinedFacts Try.prog 13 Try.f13 Rows.fnExactDoubleTimesSpec Rows.fnExactDoubleTimesRow = true := by
  unfold joinedFacts
  rw [mayEnterT, stopsHeardT, liftsFinalT, makeT]
  kernel_rfl

theorem over : Rows.fnExactDoubleTimesRow.holds Try.pinned (OpenSpec.ofChange Rows.fnExactDoubleTimesSpec) :=
  OpenClaim.holds_of_wide 13 Try.f13 rfl rfl rfl rfl rfl rfl rfl ⟨rfl, rfl, rfl, rfl, rfl⟩ rfl rfl rfl rfl rfl (by kernel_rfl) Try.func13 closed
    (of_decide_eq_true (by kernel_rfl)) (by unfold Func.isWrapper; first | (rw [if_pos (by decide +kernel)]; kernel_rfl) | (rw [if_neg (by decide +kernel)]; exact ⟨rfl, rfl⟩))
    (fun os started H enc _ => lifted os started H enc)

/-- the statement -/
theorem proved : Rows.FnExactDoubleTimesSaid := over
#print axioms proved
end Go.Proofs.Ytjfkgocpkjdleaa.fnExactDoubleTimes
