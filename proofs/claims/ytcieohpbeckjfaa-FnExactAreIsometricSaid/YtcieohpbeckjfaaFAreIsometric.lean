/- AreIsometric of the program and of the reference agree on every input and leave their arguments alone. No condition. -/
import Derived.Test.YtcieohpbeckjfaaFacts
import Derived.Test.YtcieohpbeckjfaaIso2
import Derived.Test.YtcieohpbeckjfaaRows
namespace Go.Proofs.Ytcieohpbeckjfaa.fnExactAreIsometric
open Go.ChangeShapes Go.WideShapes Go.ChangeAt Go.RowKit
open Go.ChangeMaps (open_string shut_string)
set_option linter.unusedVariables false

theorem walk (p0 : Int) (a0 : Option Addr) (len0 cap0 : Nat) (z0 : List Int) (p1 : Int) (a1 : Option Addr) (len1 cap1 : Nat) (z1 : List Int) (w : World) (wp0 : (Lit.int .i64 p0).wf = true) (w0 : Ints w a0 len0 z0) (wp1 : (Lit.int .i64 p1).wf = true) (w1 : Ints w a1 len1 z1) :
    Calls Try.prog 12 #[.agg #[.int .i64 p0, .slice a0 len0 cap0], .agg #[.int .i64 p1, .slice a1 len1 cap1]] w fun e w' => e = .returned (.bool true) ∧ Below w.heap.size w w' := by
  have ml0 := w0.2.1
  have ml1 := w1.2.1
  unfold maxLen at ml0 ml1
  by_cases s0 : len0 ≤ 1048576
  rotate_left
  · go_enter Try.func12, Try.ntmps12
    go_wp2_with fail
    refine (laws_szSpace_no p0 a0 len0 cap0 _ _ (by unfold maxLen; omega) (by omega) (by omega) (by omega)).mono ?_
    rintro e u0 ⟨rfl, hb0⟩
    go_wp2_with fail
    go_ret
    exact ⟨rfl, (((Below.refl _ _).alloc (by simp) _).alloc (by simp) _).trans (hb0.mono (by simp; omega))⟩
  by_cases s1 : len0 + len1 ≤ 1048576
  rotate_left
  · go_enter Try.func12, Try.ntmps12
    have HBB : Below w.heap.size w ((w.alloc (.cells #[.int .i64 p0, .slice a0 len0 cap0] 24)).alloc (.cells #[.int .i64 p1, .slice a1 len1 cap1] 24)) := (((Below.refl _ _).alloc (by simp) _).alloc (by simp) _)
    have k1a : ((w.alloc (.cells #[.int .i64 p0, .slice a0 len0 cap0] 24)).alloc (.cells #[.int .i64 p1, .slice a1 len1 cap1] 24)).cell? ⟨w.heap.size + 1, 0, none⟩ = some (.int .i64 p1) := by simp [go_sem]
    have k1b : ((w.alloc (.cells #[.int .i64 p0, .slice a0 len0 cap0] 24)).alloc (.cells #[.int .i64 p1, .slice a1 len1 cap1] 24)).cell? ⟨w.heap.size + 1, 1, none⟩ = some (.slice a1 len1 cap1) := by simp [go_sem]
    go_wp2_with fail
    refine (laws_szSpace_ok p0 a0 len0 cap0 _ _ (by omega) (by omega)).mono ?_
    rintro e u0 ⟨rfl, hb0⟩
    replace k1a := keep_cell hb0 k1a
    replace k1b := keep_cell hb0 k1b
    go_wp2_with fail
    refine (laws_szSpace_no p1 a1 len1 cap1 _ _ (by unfold maxLen; omega) (by omega) (by omega) (by omega)).mono ?_
    rintro e u1 ⟨rfl, hb1⟩
    go_wp2_with fail
    go_ret
    exact ⟨rfl, (below_then (below_then HBB hb0) hb1)⟩
  go_enter Try.func12, Try.ntmps12
  have c0a : ((w.alloc (.cells #[.int .i64 p0, .slice a0 len0 cap0] 24)).alloc (.cells #[.int .i64 p1, .slice a1 len1 cap1] 24)).cell? ⟨w.heap.size, 0, none⟩ = some (.int .i64 p0) := by simp [go_sem]
  have c0b : ((w.alloc (.cells #[.int .i64 p0, .slice a0 len0 cap0] 24)).alloc (.cells #[.int .i64 p1, .slice a1 len1 cap1] 24)).cell? ⟨w.heap.size, 1, none⟩ = some (.slice a0 len0 cap0) := by simp [go_sem]
  have c1a : ((w.alloc (.cells #[.int .i64 p0, .slice a0 len0 cap0] 24)).alloc (.cells #[.int .i64 p1, .slice a1 len1 cap1] 24)).cell? ⟨w.heap.size + 1, 0, none⟩ = some (.int .i64 p1) := by simp [go_sem]
  have c1b : ((w.alloc (.cells #[.int .i64 p0, .slice a0 len0 cap0] 24)).alloc (.cells #[.int .i64 p1, .slice a1 len1 cap1] 24)).cell? ⟨w.heap.size + 1, 1, none⟩ = some (.slice a1 len1 cap1) := by simp [go_sem]
  have HB : Hid (Below w.heap.size w ((w.alloc (.cells #[.int .i64 p0, .slice a0 len0 cap0] 24)).alloc (.cells #[.int .i64 p1, .slice a1 len1 cap1] 24))) := Lib.hid (((Below.refl _ _).alloc (by simp) _).alloc (by simp) _)
  have J0 := Lib.hid (w0.keep HB.out)
  have J1 := Lib.hid (w1.keep HB.out)
  go_wp2_with fail
  refine (laws_szSpace_ok p0 a0 len0 cap0 _ _ (by omega) (by omega)).mono ?_
  rintro e v1 ⟨rfl, hb⟩
  replace c0a := keep_cell hb c0a
  replace c0b := keep_cell hb c0b
  replace c1a := keep_cell hb c1a
  replace c1b := keep_cell hb c1b
  replace J0 := Lib.hid (J0.out.keep hb)
  replace J1 := Lib.hid (J1.out.keep hb)
  replace HB := Lib.hid (below_then HB.out hb)
  clear hb
  go_wp2_with fail
  refine (laws_szSpace_ok p1 a1 len1 cap1 _ _ (by omega) (by omega)).mono ?_
  rintro e v2 ⟨rfl, hb⟩
  replace c0a := keep_cell hb c0a
  replace c0b := keep_cell hb c0b
  replace c1a := keep_cell hb c1a
  replace c1b := keep_cell hb c1b
  replace J0 := Lib.hid (J0.out.keep hb)
  replace J1 := Lib.hid (J1.out.keep hb)
  replace HB := Lib.hid (below_then HB.out hb)
  clear hb
  go_wp2_with fail
  refine wp_region_held_drew (S := (fun w' => w'.cell? ⟨w.heap.size, 0, none⟩ = some (.int .i64 p0) ∧ w'.cell? ⟨w.heap.size, 1, none⟩ = some (.slice a0 len0 cap0) ∧ w'.cell? ⟨w.heap.size + 1, 0, none⟩ = some (.int .i64 p1) ∧ w'.cell? ⟨w.heap.size + 1, 1, none⟩ = some (.slice a1 len1 cap1) ∧ Ints w' a0 len0 z0 ∧ Ints w' a1 len1 z1 ∧ Below w.heap.size w w')) (by kernel_rfl) ?_ (fun hHeld0 => ?_)
  · exact ⟨c0a, c0b, c1a, c1b, J0.out.drew, J1.out.drew, HB.out.drew⟩
  refine wpAnyH_take (i := 0) (oi := ({ dst := some 23, op := Op.load 24 (Operand.tmp 2), type := 24, pos := "exact.go:1720", after := #[], guard := none } : Oper)) (v := ?_) rfl (by kernel_rfl) (by kernel_rfl) (by kernel_rfl) (fun _ _ _ h => h) (Or.inl ⟨by rfl, ?_⟩) (by assumption) ?_
  rotate_left
  · (intro w hSw; (try dsimp only at hSw); go_simp; (try with_reducible rfl))
  try simp only [Act.put, List.setIfInBounds_toArray, List.set_cons_zero, List.set_cons_succ]
  refine wpAnyH_take (i := 2) (oi := ({ dst := some 25, op := Op.load 24 (Operand.tmp 3), type := 24, pos := "exact.go:1720", after := #[], guard := none } : Oper)) (v := ?_) rfl (by kernel_rfl) (by kernel_rfl) (by kernel_rfl) (fun _ _ _ h => h) (Or.inl ⟨by rfl, ?_⟩) (by assumption) ?_
  rotate_left
  · (intro w hSw; (try dsimp only at hSw); go_simp; (try with_reducible rfl))
  try simp only [Act.put, List.setIfInBounds_toArray, List.set_cons_zero, List.set_cons_succ]
  refine wpAnyH_ready (rs := [1]) (by kernel_rfl) (by simp) ?_
  refine AllReadyH.cons (o := ({ dst := some 24, op := Op.call { callee := Callee.value (Operand.func 17), args := #[Operand.tmp 23], argTypes := #[24] }, type := 27, pos := "exact.go:1720", after := #[{ on := 0, ground := Ground.data }], guard := none } : Oper)) rfl (fun K hK => ?_) AllReadyH.nil
  go_simp
  go_at_call 17
  refine (laws_toSpace p0 a0 len0 cap0 z0 _ hHeld0.2.2.2.2.1 (by omega)).mono ?_
  rintro e vz0 ⟨bp0, rfl, ho0, hbz0⟩
  (try go_wp2_with fail)
  refine hK.out _ _ ?_ (fun hHeld1 => ?_)
  · (try dsimp only)
    exact ⟨keep_cell hbz0 hHeld0.1, keep_cell hbz0 hHeld0.2.1, keep_cell hbz0 hHeld0.2.2.1, keep_cell hbz0 hHeld0.2.2.2.1, Ints.keep hHeld0.2.2.2.2.1 hbz0, Ints.keep hHeld0.2.2.2.2.2.1 hbz0, below_then hHeld0.2.2.2.2.2.2 hbz0⟩
  clear hK K hHeld0
  try simp only [Act.put, List.setIfInBounds_toArray, List.set_cons_zero, List.set_cons_succ]
  refine wpAnyH_ready (rs := [3]) (by kernel_rfl) (by simp) ?_
  refine AllReadyH.cons (o := ({ dst := some 26, op := Op.call { callee := Callee.value (Operand.func 17), args := #[Operand.tmp 25], argTypes := #[24] }, type := 27, pos := "exact.go:1720", after := #[{ on := 2, ground := Ground.data }, { on := 1, ground := Ground.chain }], guard := none } : Oper)) rfl (fun K hK => ?_) AllReadyH.nil
  go_simp
  go_at_call 17
  refine (laws_toSpace p1 a1 len1 cap1 z1 _ hHeld1.2.2.2.2.2.1 (by omega)).mono ?_
  rintro e vz1 ⟨bp1, rfl, ho1, hbz1⟩
  (try go_wp2_with fail)
  refine hK.out _ _ ?_ (fun hHeld2 => ?_)
  · (try dsimp only)
    exact ⟨keep_cell hbz1 hHeld1.1, keep_cell hbz1 hHeld1.2.1, keep_cell hbz1 hHeld1.2.2.1, keep_cell hbz1 hHeld1.2.2.2.1, Ints.keep hHeld1.2.2.2.2.1 hbz1, Ints.keep hHeld1.2.2.2.2.2.1 hbz1, below_then hHeld1.2.2.2.2.2.2 hbz1⟩
  clear hK K hHeld1
  try simp only [Act.put, List.setIfInBounds_toArray, List.set_cons_zero, List.set_cons_succ]
  refine wpAnyH_ready (rs := [4]) (by kernel_rfl) (by simp) ?_
  refine AllReadyH.cons (o := ({ dst := some 27, op := Op.call { callee := Callee.value (Operand.func 38), args := #[Operand.tmp 24, Operand.tmp 26], argTypes := #[27, 27] }, type := 37, pos := "exact.go:1720", after := #[{ on := 1, ground := Ground.data }, { on := 3, ground := Ground.data }, { on := 3, ground := Ground.chain }], guard := none } : Oper)) rfl (fun K hK => ?_) AllReadyH.nil
  go_simp
  go_at_call 38
  refine (spec_AreIsometric _ _ _ _ _ z0 _ _ _ z1 _ (ho0.ints.keep hbz1) ho1.ints).mono ?_
  rintro e vz2 ⟨rfl, hbz2⟩
  (try go_wp2_with fail)
  refine hK.out _ _ ?_ (fun hHeld3 => ?_)
  · (try dsimp only)
    exact ⟨keep_cell hbz2 hHeld2.1, keep_cell hbz2 hHeld2.2.1, keep_cell hbz2 hHeld2.2.2.1, keep_cell hbz2 hHeld2.2.2.2.1, Ints.keep hHeld2.2.2.2.2.1 hbz2, Ints.keep hHeld2.2.2.2.2.2.1 hbz2, below_then hHeld2.2.2.2.2.2.2 hbz2⟩
  clear hK K hHeld2
  try simp only [Act.put, List.setIfInBounds_toArray, List.set_cons_zero, List.set_cons_succ]
  refine wpAnyH_take (i := 5) (oi := ({ dst := some 22, op := Op.move (Operand.tmp 27), type := 37, pos := "exact.go:1720", after := #[{ on := 4, ground := Ground.data }], guard := none } : Oper)) (v := ?_) rfl (by kernel_rfl) (by kernel_rfl) (by kernel_rfl) (fun _ _ _ h => h) (Or.inl ⟨by rfl, ?_⟩) (by assumption) ?_
  rotate_left
  · (intro w hSw; (try dsimp only at hSw); go_simp; (try with_reducible rfl))
  try simp only [Act.put, List.setIfInBounds_toArray, List.set_cons_zero, List.set_cons_succ]
  refine wpAnyH_take (i := 6) (oi := ({ dst := some 28, op := Op.extract (Operand.tmp 22) 0, type := 4, pos := "exact.go:1720", after := #[{ on := 5, ground := Ground.data }], guard := none } : Oper)) (v := ?_) rfl (by kernel_rfl) (by kernel_rfl) (by kernel_rfl) (fun _ _ _ h => h) (Or.inl ⟨by rfl, ?_⟩) (by assumption) ?_
  rotate_left
  · (intro w hSw; (try dsimp only at hSw); go_simp; (try with_reducible rfl))
  try simp only [Act.put, List.setIfInBounds_toArray, List.set_cons_zero, List.set_cons_succ]
  refine wpAnyH_take (i := 7) (oi := ({ dst := some 29, op := Op.extract (Operand.tmp 22) 1, type := 2, pos := "exact.go:1720", after := #[{ on := 5, ground := Ground.data }, { on := 8, ground := Ground.gcOnly Departure.lateStores }], guard := none } : Oper)) (v := ?_) rfl (by kernel_rfl) (by kernel_rfl) (by kernel_rfl) (fun _ _ _ h => h) (Or.inl ⟨by rfl, ?_⟩) (by assumption) ?_
  rotate_left
  · (intro w hSw; (try dsimp only at hSw); go_simp; (try with_reducible rfl))
  try simp only [Act.put, List.setIfInBounds_toArray, List.set_cons_zero, List.set_cons_succ]
  refine wpAnyH_take (i := 8) (oi := ({ dst := some 6, op := Op.assign (Operand.tmp 28), type := 4, pos := "exact.go:1720", after := #[{ on := 6, ground := Ground.data }, { on := 4, ground := Ground.chain }, { on := 0, ground := Ground.phase }, { on := 1, ground := Ground.phase }, { on := 2, ground := Ground.phase }, { on := 3, ground := Ground.phase }, { on := 4, ground := Ground.phase }, { on := 5, ground := Ground.phase }, { on := 6, ground := Ground.phase }, { on := 7, ground := Ground.textOnly Departure.lateStores }], guard := none } : Oper)) (v := ?_) rfl (by kernel_rfl) (by kernel_rfl) (by kernel_rfl) (fun _ _ _ h => h) (Or.inl ⟨by rfl, ?_⟩) (by assumption) ?_
  rotate_left
  · (intro w hSw; (try dsimp only at hSw); go_simp; (try with_reducible rfl))
  try simp only [Act.put, List.setIfInBounds_toArray, List.set_cons_zero, List.set_cons_succ]
  refine wpAnyH_take (i := 9) (oi := ({ dst := some 7, op := Op.assign (Operand.tmp 29), type := 2, pos := "exact.go:1720", after := #[{ on := 7, ground := Ground.data }, { on := 8, ground := Ground.chain }, { on := 0, ground := Ground.phase }, { on := 1, ground := Ground.phase }, { on := 2, ground := Ground.phase }, { on := 3, ground := Ground.phase }, { on := 4, ground := Ground.phase }, { on := 5, ground := Ground.phase }, { on := 6, ground := Ground.phase }, { on := 7, ground := Ground.phase }, { on := 8, ground := Ground.phase }], guard := none } : Oper)) (v := ?_) rfl (by kernel_rfl) (by kernel_rfl) (by kernel_rfl) (fun _ _ _ h => h) (Or.inl ⟨by rfl, ?_⟩) (by assumption) ?_
  rotate_left
  · (intro w hSw; (try dsimp only at hSw); go_simp; (try with_reducible rfl))
  try simp only [Act.put, List.setIfInBounds_toArray, List.set_cons_zero, List.set_cons_succ]
  refine wpAnyH_done (by kernel_rfl) ?_ _
  clear ho0 ho1
  obtain ⟨c0a, c0b, c1a, c1b, j0q, j1q, hbq⟩ := hHeld3
  replace J0 := Lib.hid j0q
  clear j0q
  replace J1 := Lib.hid j1q
  clear j1q
  replace HB := Lib.hid hbq
  clear hbq
  go_wp2_with fail
  refine (laws_toSpace p0 a0 len0 cap0 z0 _ J0.out (by omega)).mono ?_
  rintro e v3 ⟨bx0, rfl, ho, hb⟩
  have X0 := Lib.hid ho.ints
  clear ho
  replace c0a := keep_cell hb c0a
  replace c0b := keep_cell hb c0b
  replace c1a := keep_cell hb c1a
  replace c1b := keep_cell hb c1b
  replace J0 := Lib.hid (J0.out.keep hb)
  replace J1 := Lib.hid (J1.out.keep hb)
  replace HB := Lib.hid (below_then HB.out hb)
  clear hb
  have nc0a := keep_cell ((Below.refl v3.heap.size v3).alloc (Nat.le_refl _) (.cells #[.int .i64 p0, .slice (some ⟨bx0, 0, none⟩) len0 len0] 27)) c0a
  have nc0b := keep_cell ((Below.refl v3.heap.size v3).alloc (Nat.le_refl _) (.cells #[.int .i64 p0, .slice (some ⟨bx0, 0, none⟩) len0 len0] 27)) c0b
  have nc1a := keep_cell ((Below.refl v3.heap.size v3).alloc (Nat.le_refl _) (.cells #[.int .i64 p0, .slice (some ⟨bx0, 0, none⟩) len0 len0] 27)) c1a
  have nc1b := keep_cell ((Below.refl v3.heap.size v3).alloc (Nat.le_refl _) (.cells #[.int .i64 p0, .slice (some ⟨bx0, 0, none⟩) len0 len0] 27)) c1b
  go_wp2_with fail
  clear nc0a nc0b nc1a nc1b
  have hb : Below v3.heap.size v3 (v3.alloc (.cells #[.int .i64 p0, .slice (some ⟨bx0, 0, none⟩) len0 len0] 27)) := (Below.refl _ _).alloc (Nat.le_refl _) _
  replace c0a := keep_cell hb c0a
  replace c0b := keep_cell hb c0b
  replace c1a := keep_cell hb c1a
  replace c1b := keep_cell hb c1b
  replace J0 := Lib.hid (J0.out.keep hb)
  replace J1 := Lib.hid (J1.out.keep hb)
  replace HB := Lib.hid (below_then HB.out hb)
  replace X0 := Lib.hid (X0.out.keep hb)
  clear hb
  have d0a : (v3.alloc (.cells #[.int .i64 p0, .slice (some ⟨bx0, 0, none⟩) len0 len0] 27)).cell? ⟨v3.heap.size, 0, none⟩ = some (.int .i64 p0) := by simp [go_sem]
  have d0b : (v3.alloc (.cells #[.int .i64 p0, .slice (some ⟨bx0, 0, none⟩) len0 len0] 27)).cell? ⟨v3.heap.size, 1, none⟩ = some (.slice (some ⟨bx0, 0, none⟩) len0 len0) := by simp [go_sem]
  refine (laws_toSpace p1 a1 len1 cap1 z1 _ J1.out (by omega)).mono ?_
  rintro e v4 ⟨bx1, rfl, ho, hb⟩
  have X1 := Lib.hid ho.ints
  clear ho
  replace c0a := keep_cell hb c0a
  replace c0b := keep_cell hb c0b
  replace c1a := keep_cell hb c1a
  replace c1b := keep_cell hb c1b
  replace d0a := keep_cell hb d0a
  replace d0b := keep_cell hb d0b
  replace J0 := Lib.hid (J0.out.keep hb)
  replace J1 := Lib.hid (J1.out.keep hb)
  replace HB := Lib.hid (below_then HB.out hb)
  replace X0 := Lib.hid (X0.out.keep hb)
  clear hb
  have nc0a := keep_cell ((Below.refl v4.heap.size v4).alloc (Nat.le_refl _) (.cells #[.int .i64 p1, .slice (some ⟨bx1, 0, none⟩) len1 len1] 27)) c0a
  have nc0b := keep_cell ((Below.refl v4.heap.size v4).alloc (Nat.le_refl _) (.cells #[.int .i64 p1, .slice (some ⟨bx1, 0, none⟩) len1 len1] 27)) c0b
  have nc1a := keep_cell ((Below.refl v4.heap.size v4).alloc (Nat.le_refl _) (.cells #[.int .i64 p1, .slice (some ⟨bx1, 0, none⟩) len1 len1] 27)) c1a
  have nc1b := keep_cell ((Below.refl v4.heap.size v4).alloc (Nat.le_refl _) (.cells #[.int .i64 p1, .slice (some ⟨bx1, 0, none⟩) len1 len1] 27)) c1b
  have nd0a := keep_cell ((Below.refl v4.heap.size v4).alloc (Nat.le_refl _) (.cells #[.int .i64 p1, .slice (some ⟨bx1, 0, none⟩) len1 len1] 27)) d0a
  have nd0b := keep_cell ((Below.refl v4.heap.size v4).alloc (Nat.le_refl _) (.cells #[.int .i64 p1, .slice (some ⟨bx1, 0, none⟩) len1 len1] 27)) d0b
  go_wp2_with fail
  clear nc0a nc0b nc1a nc1b nd0a nd0b
  have hb : Below v4.heap.size v4 (v4.alloc (.cells #[.int .i64 p1, .slice (some ⟨bx1, 0, none⟩) len1 len1] 27)) := (Below.refl _ _).alloc (Nat.le_refl _) _
  replace c0a := keep_cell hb c0a
  replace c0b := keep_cell hb c0b
  replace c1a := keep_cell hb c1a
  replace c1b := keep_cell hb c1b
  replace d0a := keep_cell hb d0a
  replace d0b := keep_cell hb d0b
  replace J0 := Lib.hid (J0.out.keep hb)
  replace J1 := Lib.hid (J1.out.keep hb)
  replace HB := Lib.hid (below_then HB.out hb)
  replace X0 := Lib.hid (X0.out.keep hb)
  replace X1 := Lib.hid (X1.out.keep hb)
  clear hb
  have d1a : (v4.alloc (.cells #[.int .i64 p1, .slice (some ⟨bx1, 0, none⟩) len1 len1] 27)).cell? ⟨v4.heap.size, 0, none⟩ = some (.int .i64 p1) := by simp [go_sem]
  have d1b : (v4.alloc (.cells #[.int .i64 p1, .slice (some ⟨bx1, 0, none⟩) len1 len1] 27)).cell? ⟨v4.heap.size, 1, none⟩ = some (.slice (some ⟨bx1, 0, none⟩) len1 len1) := by simp [go_sem]
  refine (impl_AreIsometric _ _ _ _ _ z0 _ _ _ z1 _ X0.out X1.out).mono ?_
  rintro e v5 ⟨rfl, hb⟩
  replace c0a := keep_cell hb c0a
  replace c0b := keep_cell hb c0b
  replace c1a := keep_cell hb c1a
  replace c1b := keep_cell hb c1b
  replace d0a := keep_cell hb d0a
  replace d0b := keep_cell hb d0b
  replace d1a := keep_cell hb d1a
  replace d1b := keep_cell hb d1b
  replace J0 := Lib.hid (J0.out.keep hb)
  replace J1 := Lib.hid (J1.out.keep hb)
  replace HB := Lib.hid (below_then HB.out hb)
  replace X0 := Lib.hid (X0.out.keep hb)
  replace X1 := Lib.hid (X1.out.keep hb)
  clear hb
  go_wp2_with fail
  go_region_held3 (fun w' => w'.cell? ⟨w.heap.size, 0, none⟩ = some (.int .i64 p0) ∧ w'.cell? ⟨w.heap.size, 1, none⟩ = some (.slice a0 len0 cap0) ∧ w'.cell? ⟨w.heap.size + 1, 0, none⟩ = some (.int .i64 p1) ∧ w'.cell? ⟨w.heap.size + 1, 1, none⟩ = some (.slice a1 len1 cap1) ∧ w'.cell? ⟨v3.heap.size, 0, none⟩ = some (.int .i64 p0) ∧ w'.cell? ⟨v3.heap.size, 1, none⟩ = some (.slice (some ⟨bx0, 0, none⟩) len0 len0) ∧ w'.cell? ⟨v4.heap.size, 0, none⟩ = some (.int .i64 p1) ∧ w'.cell? ⟨v4.heap.size, 1, none⟩ = some (.slice (some ⟨bx1, 0, none⟩) len1 len1) ∧ Ints w' a0 len0 z0 ∧ Ints w' a1 len1 z1 ∧ Below w.heap.size w w' ∧ Ints w' (some ⟨bx0, 0, none⟩) len0 z0 ∧ Ints w' (some ⟨bx1, 0, none⟩) len1 z1)
    (first
      | exact ⟨c0a, c0b, c1a, c1b, d0a, d0b, d1a, d1b, J0.out.drew, J1.out.drew, HB.out.drew, X0.out.drew, X1.out.drew⟩
      | (go_split_ands; exact ⟨keep_cell hbz ‹_›, keep_cell hbz ‹_›, keep_cell hbz ‹_›, keep_cell hbz ‹_›, keep_cell hbz ‹_›, keep_cell hbz ‹_›, keep_cell hbz ‹_›, keep_cell hbz ‹_›, Ints.keep ‹_› hbz, Ints.keep ‹_› hbz, below_then ‹_› hbz, Ints.keep ‹_› hbz, Ints.keep ‹_› hbz⟩)
      | go_keep)
    (first
      | (go_at_call 17; refine (laws_toSpace p0 a0 len0 cap0 z0 _ (by go_split_ands; assumption) (by omega)).mono ?_; rintro e vz ⟨bz, rfl, oz, hbz⟩)
      | (go_at_call 19; refine (laws_eqSpace p0 _ _ _ _ _ z0 _ (by go_split_ands; assumption) oz.ints).mono ?_; rintro e vy ⟨rfl, hbz⟩))
  rename_i hh
  obtain ⟨c0a, c0b, c1a, c1b, d0a, d0b, d1a, d1b, j0q, j1q, hbq, x0q, x1q⟩ := hh
  replace J0 := Lib.hid j0q
  clear j0q
  replace J1 := Lib.hid j1q
  clear j1q
  replace HB := Lib.hid hbq
  clear hbq
  replace X0 := Lib.hid x0q
  clear x0q
  replace X1 := Lib.hid x1q
  clear x1q
  go_wp2_with fail
  go_region_held3 (fun w' => w'.cell? ⟨w.heap.size, 0, none⟩ = some (.int .i64 p0) ∧ w'.cell? ⟨w.heap.size, 1, none⟩ = some (.slice a0 len0 cap0) ∧ w'.cell? ⟨w.heap.size + 1, 0, none⟩ = some (.int .i64 p1) ∧ w'.cell? ⟨w.heap.size + 1, 1, none⟩ = some (.slice a1 len1 cap1) ∧ w'.cell? ⟨v3.heap.size, 0, none⟩ = some (.int .i64 p0) ∧ w'.cell? ⟨v3.heap.size, 1, none⟩ = some (.slice (some ⟨bx0, 0, none⟩) len0 len0) ∧ w'.cell? ⟨v4.heap.size, 0, none⟩ = some (.int .i64 p1) ∧ w'.cell? ⟨v4.heap.size, 1, none⟩ = some (.slice (some ⟨bx1, 0, none⟩) len1 len1) ∧ Ints w' a0 len0 z0 ∧ Ints w' a1 len1 z1 ∧ Below w.heap.size w w' ∧ Ints w' (some ⟨bx0, 0, none⟩) len0 z0 ∧ Ints w' (some ⟨bx1, 0, none⟩) len1 z1)
    (first
      | exact ⟨c0a, c0b, c1a, c1b, d0a, d0b, d1a, d1b, J0.out.drew, J1.out.drew, HB.out.drew, X0.out.drew, X1.out.drew⟩
      | (go_split_ands; exact ⟨keep_cell hbz ‹_›, keep_cell hbz ‹_›, keep_cell hbz ‹_›, keep_cell hbz ‹_›, keep_cell hbz ‹_›, keep_cell hbz ‹_›, keep_cell hbz ‹_›, keep_cell hbz ‹_›, Ints.keep ‹_› hbz, Ints.keep ‹_› hbz, below_then ‹_› hbz, Ints.keep ‹_› hbz, Ints.keep ‹_› hbz⟩)
      | go_keep)
    (first
      | (go_at_call 17; refine (laws_toSpace p1 a1 len1 cap1 z1 _ (by go_split_ands; assumption) (by omega)).mono ?_; rintro e vz ⟨bz, rfl, oz, hbz⟩)
      | (go_at_call 19; refine (laws_eqSpace p1 _ _ _ _ _ z1 _ (by go_split_ands; assumption) oz.ints).mono ?_; rintro e vy ⟨rfl, hbz⟩))
  rename_i hh
  obtain ⟨c0a, c0b, c1a, c1b, d0a, d0b, d1a, d1b, j0q, j1q, hbq, x0q, x1q⟩ := hh
  replace J0 := Lib.hid j0q
  clear j0q
  replace J1 := Lib.hid j1q
  clear j1q
  replace HB := Lib.hid hbq
  clear hbq
  replace X0 := Lib.hid x0q
  clear x0q
  replace X1 := Lib.hid x1q
  clear x1q
  go_wp2_with fail
  go_ret
  exact ⟨rfl, HB.out⟩

set_option maxRecDepth 100000 in
theorem lifted (os : Os) (started : os.Started) (H : Type) (enc : TypeId × Value → H) :
    ReturnsInHanded {} Try.checked os 12 .any (Rows.fnExactAreIsometricSpec.pre6 enc Try.prog Try.f12 Rows.fnExactAreIsometricRow.domain false) (Rows.fnExactAreIsometricSpec.post enc Try.prog Try.f12 false true false false) := by
  refine returnsInHanded_of_change (C := Try.checked) own started (by kernel_rfl) Try.func12
    (ChangeSpec.witness6 (enc := enc) (C := Try.checked) false ⟨#[], #[.agg #[.int .i64 0, .slice none 0 0], .agg #[.int .i64 0, .slice none 0 0]], []⟩ 8 (by kernel_rfl) (by kernel_rfl) (by kernel_rfl) (by kernel_rfl)) ?_
  intro W base args ds gs before hval0 hW hcnd _
  have hval : ∀ (j : Nat) t v, Try.f12.params[j]? = some t → args[j]? = some v → Value.okWide Try.prog W .any base t v := hval0
  have hW' := hW
  obtain ⟨p, q, hA0, hV, rfl, hfz, hnd⟩ := hW
  have hA : DataW.TrodAll enc Try.prog W 0 (fun _ => true) true Try.f12.params.toList args.toList ds p := hA0
  rw [Try.params12] at hA hval
  obtain ⟨v0, vs0, d0, ds0, p0, q0, hargs, rfl, rfl, h0, r0⟩ := trodAll_cons hA
  obtain ⟨v1, vs1, d1, ds1, p1, q1, rfl, rfl, rfl, h1, r1⟩ := trodAll_cons r0
  obtain ⟨rfl, rfl, rfl⟩ := trodAll_nil r1
  obtain rfl : args = #[v0, v1] := by cases args; simp_all
  obtain ⟨rfl, rfl⟩ := trodVars_none hV
  have k0 := h0
  have lt0 : ∀ x ∈ p0, x.block < W.heap.size := by obtain ⟨m, hm⟩ := k0; exact DataW.trod_lt m _ _ _ hm
  obtain ⟨c0, e0, y0, x0, m0, rfl, hd0, hp0, hy0, hx0⟩ := Go.Joins.open_agg2 Try.underlying24 (by kernel_rfl) (by kernel_rfl) (hval 0 24 v0 rfl rfl) h0
  obtain ⟨pp0, hc0, _, wp0⟩ := DataW.trod_int Try.underlying2 hy0
  simp only [List.cons.injEq, and_true] at hc0
  subst hc0
  obtain ⟨a0, len0, cap0, z0, he0, w0⟩ : ∃ (a : Option Addr) (len cap : Nat) (zs : List Int), e0 = .slice a len cap ∧ Ints W a len zs := by
    rcases open_ints Try.underlying22 Try.underlying2 (by kernel_rfl) hx0 with ⟨hcs, _⟩ | ⟨x, l, c, zs, hcs, _, hl, hm, hz, _, hcell, hwz⟩
    · simp only [List.cons.injEq, and_true] at hcs
      exact ⟨none, 0, 0, [], hcs, Ints.nil W⟩
    · simp only [List.cons.injEq, and_true] at hcs
      exact ⟨some x, l, c, zs.take l, hcs, Ints.of_row hl hm (by simpa using hz) hcell⟩
  subst he0
  have k1 := h1
  have lt1 : ∀ x ∈ p1, x.block < W.heap.size := by obtain ⟨m, hm⟩ := k1; exact DataW.trod_lt m _ _ _ hm
  obtain ⟨c1, e1, y1, x1, m1, rfl, hd1, hp1, hy1, hx1⟩ := Go.Joins.open_agg2 Try.underlying24 (by kernel_rfl) (by kernel_rfl) (hval 1 24 v1 rfl rfl) h1
  obtain ⟨pp1, hc1, _, wp1⟩ := DataW.trod_int Try.underlying2 hy1
  simp only [List.cons.injEq, and_true] at hc1
  subst hc1
  obtain ⟨a1, len1, cap1, z1, he1, w1⟩ : ∃ (a : Option Addr) (len cap : Nat) (zs : List Int), e1 = .slice a len cap ∧ Ints W a len zs := by
    rcases open_ints Try.underlying22 Try.underlying2 (by kernel_rfl) hx1 with ⟨hcs, _⟩ | ⟨x, l, c, zs, hcs, _, hl, hm, hz, _, hcell, hwz⟩
    · simp only [List.cons.injEq, and_true] at hcs
      exact ⟨none, 0, 0, [], hcs, Ints.nil W⟩
    · simp only [List.cons.injEq, and_true] at hcs
      exact ⟨some x, l, c, zs.take l, hcs, Ints.of_row hl hm (by simpa using hz) hcell⟩
  subst he1
  clear hA0 hval0
  refine (walk pp0 a0 len0 cap0 z0 pp1 a1 len1 cap1 z1 W wp0 w0 wp1 w1).mono fun e W' ⟨he, bel⟩ => ?_
  subst he
  exact ⟨_, rfl, _, _, _, [], _, [], hW', trodAll_mk1 (shut_bool Try.underlying4 _), (trodAll_cons_mk (Below.trod laidOut (by kernel_rfl) (of_decide_eq_true (by kernel_rfl)) k0 bel lt0) (trodAll_cons_mk (Below.trod laidOut (by kernel_rfl) (of_decide_eq_true (by kernel_rfl)) k1 bel lt1) trodAll_mk0)), rfl, bel.frame _, fun h => by cases h⟩

theorem closed : joinedFacts Try.prog 12 Try.f12 Rows.fnExactAreIsometricSpec Rows.fnExactAreIsometricRow = true := by
  unfold joinedFacts
  rw [mayEnterT, stopsHeardT, liftsFinalT, makeT]
  kernel_rfl

theorem over : Rows.fnExactAreIsometricRow.holds Try.pinned (OpenSpec.ofChange Rows.fnExactAreIsometricSpec) :=
  OpenClaim.holds_of_wide 12 Try.f12 rfl rfl rfl rfl rfl rfl rfl ⟨rfl, rfl, rfl, rfl, rfl⟩ rfl rfl rfl rfl rfl (by kernel_rfl) Try.func12 closed
    (of_decide_eq_true (by kernel_rfl)) (by unfold Func.isWrapper; first | (rw [if_pos (by decide +kernel)]; kernel_rfl) | (rw [if_neg (by decide +kernel)]; exact ⟨rfl, rfl⟩))
    (fun os started H enc _ => lifted os started H enc)

/-- the statement -/
theorem proved : Rows.FnExactAreIsometricSaid := over
#print axioms proved
end Go.Proofs.Ytcieohpbeckjfaa.fnExactAreIsometric
