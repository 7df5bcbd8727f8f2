/- CountOrthogonal of the program and of the reference agree on every input and leave their arguments alone. No condition. -/
import Derived.Test.YtcieohpbeckjfaaFacts
import Derived.Test.YtcieohpbeckjfaaOrth
import Derived.Test.YtcieohpbeckjfaaRows
namespace Go.Proofs.Ytcieohpbeckjfaa.fnExactCountOrthogonal
open Go.ChangeShapes Go.WideShapes Go.ChangeAt Go.RowKit
open Go.ChangeMaps (open_string shut_string)
set_option linter.unusedVariables false

theorem walk (p0 : Int) (a0 : Option Addr) (len0 cap0 : Nat) (z0 : List Int) (w : World) (wp0 : (Lit.int .i64 p0).wf = true) (w0 : Ints w a0 len0 z0) :
    Calls Try.prog 14 #[.agg #[.int .i64 p0, .slice a0 len0 cap0]] w fun e w' => e = .returned (.bool true) ∧ Below w.heap.size w w' := by
  have ml0 := w0.2.1
  unfold maxLen at ml0
  by_cases s0 : len0 ≤ 1048576
  rotate_left
  · go_enter Try.func14, Try.ntmps14
    go_wp2_with fail
    refine (laws_szSpace_no p0 a0 len0 cap0 _ _ (by unfold maxLen; omega) (by omega) (by omega) (by omega)).mono ?_
    rintro e u0 ⟨rfl, hb0⟩
    go_wp2_with fail
    go_ret
    exact ⟨rfl, ((Below.refl _ _).alloc (by simp) _).trans (hb0.mono (by simp))⟩
  go_enter Try.func14, Try.ntmps14
  have c0a : (w.alloc (.cells #[.int .i64 p0, .slice a0 len0 cap0] 24)).cell? ⟨w.heap.size, 0, none⟩ = some (.int .i64 p0) := by simp [go_sem]
  have c0b : (w.alloc (.cells #[.int .i64 p0, .slice a0 len0 cap0] 24)).cell? ⟨w.heap.size, 1, none⟩ = some (.slice a0 len0 cap0) := by simp [go_sem]
  have HB : Hid (Below w.heap.size w (w.alloc (.cells #[.int .i64 p0, .slice a0 len0 cap0] 24))) := Lib.hid ((Below.refl _ _).alloc (by simp) _)
  have J0 := Lib.hid (w0.keep HB.out)
  go_wp2_with fail
  refine (laws_szSpace_ok p0 a0 len0 cap0 _ _ (by omega) (by omega)).mono ?_
  rintro e v1 ⟨rfl, hb⟩
  replace c0a := keep_cell hb c0a
  replace c0b := keep_cell hb c0b
  replace J0 := Lib.hid (J0.out.keep hb)
  replace HB := Lib.hid (below_then HB.out hb)
  clear hb
  go_wp2_with fail
  refine (laws_toSpace p0 a0 len0 cap0 z0 _ J0.out (by omega)).mono ?_
  rintro e v2 ⟨bp0, rfl, ho, hb⟩
  have P0 := Lib.hid ho.ints
  clear ho
  replace c0a := keep_cell hb c0a
  replace c0b := keep_cell hb c0b
  replace J0 := Lib.hid (J0.out.keep hb)
  replace HB := Lib.hid (below_then HB.out hb)
  clear hb
  go_wp2_with fail
  refine (spec_CountOrthogonal _ _ _ _ z0  _ P0.out).mono ?_
  rintro e v3 ⟨rfl, hb⟩
  replace c0a := keep_cell hb c0a
  replace c0b := keep_cell hb c0b
  replace J0 := Lib.hid (J0.out.keep hb)
  replace HB := Lib.hid (below_then HB.out hb)
  replace P0 := Lib.hid (P0.out.keep hb)
  clear hb
  clear P0
  go_wp2_with fail
  refine (laws_toSpace p0 a0 len0 cap0 z0 _ J0.out (by omega)).mono ?_
  rintro e v4 ⟨bx0, rfl, ho, hb⟩
  have X0 := Lib.hid ho.ints
  clear ho
  replace c0a := keep_cell hb c0a
  replace c0b := keep_cell hb c0b
  replace J0 := Lib.hid (J0.out.keep hb)
  replace HB := Lib.hid (below_then HB.out hb)
  clear hb
  go_wp2_with fail
  have hb : Below v4.heap.size v4 (v4.alloc (.cells #[.int .i64 p0, .slice (some ⟨bx0, 0, none⟩) len0 len0] 27)) := (Below.refl _ _).alloc (Nat.le_refl _) _
  replace c0a := keep_cell hb c0a
  replace c0b := keep_cell hb c0b
  replace J0 := Lib.hid (J0.out.keep hb)
  replace HB := Lib.hid (below_then HB.out hb)
  replace X0 := Lib.hid (X0.out.keep hb)
  clear hb
  have d0a : (v4.alloc (.cells #[.int .i64 p0, .slice (some ⟨bx0, 0, none⟩) len0 len0] 27)).cell? ⟨v4.heap.size, 0, none⟩ = some (.int .i64 p0) := by simp [go_sem]
  have d0b : (v4.alloc (.cells #[.int .i64 p0, .slice (some ⟨bx0, 0, none⟩) len0 len0] 27)).cell? ⟨v4.heap.size, 1, none⟩ = some (.slice (some ⟨bx0, 0, none⟩) len0 len0) := by simp [go_sem]
  refine (impl_CountOrthogonal _ _ _ _ z0  _ X0.out).mono ?_
  rintro e v5 ⟨rfl, hb⟩
  replace c0a := keep_cell hb c0a
  replace c0b := keep_cell hb c0b
  replace d0a := keep_cell hb d0a
  replace d0b := keep_cell hb d0b
  replace J0 := Lib.hid (J0.out.keep hb)
  replace HB := Lib.hid (below_then HB.out hb)
  replace X0 := Lib.hid (X0.out.keep hb)
  clear hb
  go_wp2_with fail
  go_region_held3 (fun w' => w'.cell? ⟨w.heap.size, 0, none⟩ = some (.int .i64 p0) ∧ w'.cell? ⟨w.heap.size, 1, none⟩ = some (.slice a0 len0 cap0) ∧ w'.cell? ⟨v4.heap.size, 0, none⟩ = some (.int .i64 p0) ∧ w'.cell? ⟨v4.heap.size, 1, none⟩ = some (.slice (some ⟨bx0, 0, none⟩) len0 len0) ∧ Ints w' a0 len0 z0 ∧ Below w.heap.size w w' ∧ Ints w' (some ⟨bx0, 0, none⟩) len0 z0)
    (first
      | exact ⟨c0a, c0b, d0a, d0b, J0.out.drew, HB.out.drew, X0.out.drew⟩
      | (go_split_ands; exact ⟨keep_cell hbz ‹_›, keep_cell hbz ‹_›, keep_cell hbz ‹_›, keep_cell hbz ‹_›, Ints.keep ‹_› hbz, below_then ‹_› hbz, Ints.keep ‹_› hbz⟩)
      | go_keep)
    (first
      | (go_at_call 17; refine (laws_toSpace p0 a0 len0 cap0 z0 _ (by go_split_ands; assumption) (by omega)).mono ?_; rintro e vz ⟨bz, rfl, oz, hbz⟩)
      | (go_at_call 19; refine (laws_eqSpace p0 _ _ _ _ _ z0 _ (by go_split_ands; assumption) oz.ints).mono ?_; rintro e vy ⟨rfl, hbz⟩))
  rename_i hh
  obtain ⟨c0a, c0b, d0a, d0b, j0q, hbq, x0q⟩ := hh
  replace J0 := Lib.hid j0q
  clear j0q
  replace HB := Lib.hid hbq
  clear hbq
  replace X0 := Lib.hid x0q
  clear x0q
  go_wp2_with fail
  go_ret
  exact ⟨rfl, HB.out⟩

set_option maxRecDepth 100000 in
theorem lifted (os : Os) (started : os.Started) (H : Type) (enc : TypeId × Value → H) :
    ReturnsInHanded {} Try.checked os 14 .any (Rows.fnExactCountOrthogonalSpec.pre6 enc Try.prog Try.f14 Rows.fnExactCountOrthogonalRow.domain false) (Rows.fnExactCountOrthogonalSpec.post enc Try.prog Try.f14 false true false false) := by
  refine returnsInHanded_of_change (C := Try.checked) own started (by kernel_rfl) Try.func14
    (ChangeSpec.witness6 (enc := enc) (C := Try.checked) false ⟨#[], #[.agg #[.int .i64 0, .slice none 0 0]], []⟩ 8 (by kernel_rfl) (by kernel_rfl) (by kernel_rfl) (by kernel_rfl)) ?_
  intro W base args ds gs before hval0 hW hcnd _
  have hval : ∀ (j : Nat) t v, Try.f14.params[j]? = some t → args[j]? = some v → Value.okWide Try.prog W .any base t v := hval0
  have hW' := hW
  obtain ⟨p, q, hA0, hV, rfl, hfz, hnd⟩ := hW
  have hA : DataW.TrodAll enc Try.prog W 0 (fun _ => true) true Try.f14.params.toList args.toList ds p := hA0
  rw [Try.params14] at hA hval
  obtain ⟨v0, vs0, d0, ds0, p0, q0, hargs, rfl, rfl, h0, r0⟩ := trodAll_cons hA
  obtain ⟨rfl, rfl, rfl⟩ := trodAll_nil r0
  obtain rfl : args = #[v0] := by cases args; simp_all
  obtain ⟨rfl, rfl⟩ := trodVars_none hV
  have k0 := h0
  have lt0 : ∀ x ∈ p0, x.block < W.heap.size := by obtain ⟨m, hm⟩ := k0; exact DataW.trod_lt m _ _ _ hm
  obtain ⟨c0, e0, y0, x0, m0, rfl, hd0, hp0, hy0, hx0⟩ := Go.Joins.open_agg2 Try.underlying24 (by kernel_rfl) (by kernel_rfl) (hval 0 24 v0 rfl rfl) h0
  obtain ⟨pp0, hc0, _, wp0⟩ := DataW.trod_int Try.underlying2 hy0
  simp only [List.cons.injEq, and_true] at hc0
  subst hc0
  obtain ⟨a0, len0, cap0, z0, he0, w0⟩ : ∃ (a : Option Addr) (len cap : Nat) (zs : List Int), e0 = .slice a len cap ∧ Ints W a len zs := by
    rcases open_ints Try.underlying22 Try.underlying2 (by kernel_rfl) hx0 with ⟨hcs, _⟩ | ⟨x, l, c, zs, hcs, _, hl, hm, hz, _, hcell, hwz⟩
    · simp only [List.cons.injEq, and_true] at hcs
      exact ⟨none, 0, 0, [], hcs, Ints.nil W⟩
    · simp only [List.cons.injEq, and_true] at hcs
      exact ⟨some x, l, c, zs.take l, hcs, Ints.of_row hl hm (by simpa using hz) hcell⟩
  subst he0
  clear hA0 hval0
  refine (walk pp0 a0 len0 cap0 z0 W wp0 w0).mono fun e W' ⟨he, bel⟩ => ?_
  subst he
  exact ⟨_, rfl, _, _, _, [], _, [], hW', trodAll_mk1 (shut_bool Try.underlying4 _), (trodAll_cons_mk (Below.trod laidOut (by kernel_rfl) (of_decide_eq_true (by kernel_rfl)) k0 bel lt0) trodAll_mk0), rfl, bel.frame _, fun h => by cases h⟩

theorem closed : joinedFacts Try.prog 14 Try.f14 Rows.fnExactCountOrthogonalSpec Rows.fnExactCountOrthogonalRow = true := by
  unfold joinedFacts
  rw [mayEnterT, stopsHeardT, liftsFinalT, makeT]
  kernel_rfl

theorem over : Rows.fnExactCountOrthogonalRow.holds Try.pinned (OpenSpec.ofChange Rows.fnExactCountOrthogonalSpec) :=
  OpenClaim.holds_of_wide 14 Try.f14 rfl rfl rfl rfl rfl rfl rfl ⟨rfl, rfl, rfl, rfl, rfl⟩ rfl rfl rfl rfl rfl (by kernel_rfl) Try.func14 closed
    (of_decide_eq_true (by kernel_rfl)) (by unfold Func.isWrapper; first | (rw [if_pos (by decide +kernel)]; kernel_rfl) | (rw [if_neg (by decide +kernel)]; exact ⟨rfl, rfl⟩))
    (fun os started H enc _ => lifted os started H enc)

/-- the statement -/
theorem proved : Rows.FnExactCountOrthogonalSaid := over
#print axioms proved
end Go.Proofs.Ytcieohpbeckjfaa.fnExactCountOrthogonal
