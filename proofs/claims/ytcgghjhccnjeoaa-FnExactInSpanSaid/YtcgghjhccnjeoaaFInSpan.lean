/- InSpan of the program and of the reference agree on every input and leave their arguments alone. No condition. -/
import Derived.Test.YtcgghjhccnjeoaaFacts
import Derived.Test.YtcgghjhccnjeoaaIns
import Derived.Test.YtcgghjhccnjeoaaOpen
import Derived.Test.YtcgghjhccnjeoaaRows
namespace Go.Proofs.Ytcgghjhccnjeoaa.fnExactInSpan
open Go.ChangeShapes Go.WideShapes Go.ChangeAt Go.RowKit
open Go.ChangeMaps (open_string shut_string)
set_option linter.unusedVariables false

set_option maxRecDepth 100000 in
set_option maxHeartbeats 4000000 in
theorem walk (p0 : Int) (a1 : Option Addr) (len1 cap1 : Nat) (vs : List (List Int)) (a2 : Option Addr) (len2 cap2 : Nat) (z2 : List Int) (w : World) (wp0 : (Lit.int .i64 p0).wf = true) (w1 : LL w a1 len1 vs) (w2 : Ints w a2 len2 z2) :
    Calls Try.prog 4 #[.int .i64 p0, .slice a1 len1 cap1, .slice a2 len2 cap2] w fun e w' => e = .returned (.bool true) ∧ Below w.heap.size w w' := by
  have ml1 := w1.2.1
  have ml2 := w2.2.1
  unfold maxLen at ml1 ml2
  have J1 := Lib.hid w1
  have J2 := Lib.hid w2
  clear w1 w2
  obtain ⟨np, HNP⟩ : ∃ x, Hid (preL vs len1 = x) := ⟨_, Lib.hid rfl⟩
  obtain ⟨bv, HV⟩ : ∃ x, Hid (insV p0 vs z2 = x) := ⟨_, Lib.hid rfl⟩
  obtain ⟨cv, HC⟩ : ∃ x, Hid (insC p0 vs z2 = x) := ⟨_, Lib.hid rfl⟩
  have HB : Hid (Below w.heap.size w w) := Lib.hid (Below.refl _ _)
  by_cases s2 : len2 ≤ 1048576
  rotate_left
  · go_enter Try.func4, Try.ntmps4
    go_wp2_with fail
    go_ret
    exact ⟨rfl, Below.refl _ _⟩
  go_enter Try.func4, Try.ntmps4
  go_wp2_with fail
  refine (laws_szInt64SS a1 len1 cap1 vs _ J1.out).mono ?_
  rw [HNP.out]
  rintro e _v ⟨r, rfl, hr, rfl⟩
  by_cases hneg : r < 0
  · go_wp2_with fail
    go_ret
    exact ⟨rfl, Below.refl _ _⟩
  have hsz := hr (by omega)
  have hnp : np ≤ 1048576 := by omega
  have hbb : (bv != bv) = false := bne_self_eq_false bv
  have hbe : (bv == bv) = true := beq_self_eq_true bv
  clear hr
  go_wp2_with fail
  refine (laws_toInt64SS a1 len1 _ vs _ J1.out (by rw [HNP.out]; omega)).mono ?_
  rintro e v1 ⟨bP1, rfl, ho, hb⟩
  replace J1 := Lib.hid (J1.out.keep hb)
  replace J2 := Lib.hid (J2.out.keep hb)
  replace HB := Lib.hid (below_then HB.out hb)
  clear hb
  have P1 := Lib.hid ho.LL
  clear ho
  go_wp2_with fail
  refine (laws_toInt64S a2 len2 _ z2 _ J2.out (by omega)).mono ?_
  rintro e v2 ⟨bP2, rfl, ho, hb⟩
  replace J1 := Lib.hid (J1.out.keep hb)
  replace J2 := Lib.hid (J2.out.keep hb)
  replace P1 := Lib.hid (P1.out.keep hb)
  replace HB := Lib.hid (below_then HB.out hb)
  clear hb
  have P2 := Lib.hid ho.ints
  clear ho
  go_wp2_with fail
  refine (spec_InSpan p0 _ _ _ _ _ _ vs z2 _ P1.out P2.out).mono ?_
  rw [HV.out, HC.out]
  rintro e v3 ⟨rfl, hb⟩
  replace J1 := Lib.hid (J1.out.keep hb)
  replace J2 := Lib.hid (J2.out.keep hb)
  replace P1 := Lib.hid (P1.out.keep hb)
  replace P2 := Lib.hid (P2.out.keep hb)
  replace HB := Lib.hid (below_then HB.out hb)
  clear hb
  clear P1
  clear P2
  go_wp2_with fail
  refine (laws_toInt64SS a1 len1 _ vs _ J1.out (by rw [HNP.out]; omega)).mono ?_
  rintro e v4 ⟨bX1, rfl, ho, hb⟩
  replace J1 := Lib.hid (J1.out.keep hb)
  replace J2 := Lib.hid (J2.out.keep hb)
  replace HB := Lib.hid (below_then HB.out hb)
  clear hb
  have X1 := Lib.hid ho.LL
  clear ho
  go_wp2_with fail
  refine (laws_toInt64S a2 len2 _ z2 _ J2.out (by omega)).mono ?_
  rintro e v5 ⟨bX2, rfl, ho, hb⟩
  replace J1 := Lib.hid (J1.out.keep hb)
  replace J2 := Lib.hid (J2.out.keep hb)
  replace X1 := Lib.hid (X1.out.keep hb)
  replace HB := Lib.hid (below_then HB.out hb)
  clear hb
  have X2 := Lib.hid ho.ints
  clear ho
  go_wp2_with fail
  refine (impl_InSpan p0 _ _ _ _ _ _ vs z2 _ X1.out X2.out).mono ?_
  rw [HV.out, HC.out]
  rintro e v6 ⟨rfl, hb⟩
  replace J1 := Lib.hid (J1.out.keep hb)
  replace J2 := Lib.hid (J2.out.keep hb)
  replace X1 := Lib.hid (X1.out.keep hb)
  replace X2 := Lib.hid (X2.out.keep hb)
  replace HB := Lib.hid (below_then HB.out hb)
  clear hb
  go_wp2_with fail
  refine (laws_toInt64SS a1 len1 _ vs _ J1.out (by rw [HNP.out]; omega)).mono ?_
  rintro e v7 ⟨bY1, rfl, ho, hb⟩
  replace J1 := Lib.hid (J1.out.keep hb)
  replace J2 := Lib.hid (J2.out.keep hb)
  replace X1 := Lib.hid (X1.out.keep hb)
  replace X2 := Lib.hid (X2.out.keep hb)
  replace HB := Lib.hid (below_then HB.out hb)
  clear hb
  have Y1 := Lib.hid ho.LL
  clear ho
  go_wp2_with fail
  refine (laws_eqInt64SS _ _ _ _ _ vs _ X1.out Y1.out).mono ?_
  rintro e v8 ⟨rfl, hb⟩
  replace J1 := Lib.hid (J1.out.keep hb)
  replace J2 := Lib.hid (J2.out.keep hb)
  replace X1 := Lib.hid (X1.out.keep hb)
  replace X2 := Lib.hid (X2.out.keep hb)
  replace Y1 := Lib.hid (Y1.out.keep hb)
  replace HB := Lib.hid (below_then HB.out hb)
  clear hb
  clear Y1
  go_wp2_with fail
  refine (laws_toInt64S a2 len2 _ z2 _ J2.out (by omega)).mono ?_
  rintro e v9 ⟨bY2, rfl, ho, hb⟩
  replace J1 := Lib.hid (J1.out.keep hb)
  replace J2 := Lib.hid (J2.out.keep hb)
  replace X1 := Lib.hid (X1.out.keep hb)
  replace X2 := Lib.hid (X2.out.keep hb)
  replace HB := Lib.hid (below_then HB.out hb)
  clear hb
  have Y2 := Lib.hid ho.ints
  clear ho
  go_wp2_with fail
  refine (eq_same _ _ _ _ _ z2 _ X2.out Y2.out).mono ?_
  rintro e v10 ⟨rfl, hb⟩
  replace J1 := Lib.hid (J1.out.keep hb)
  replace J2 := Lib.hid (J2.out.keep hb)
  replace X1 := Lib.hid (X1.out.keep hb)
  replace X2 := Lib.hid (X2.out.keep hb)
  replace Y2 := Lib.hid (Y2.out.keep hb)
  replace HB := Lib.hid (below_then HB.out hb)
  clear hb
  go_wp2_with fail
  go_ret
  exact ⟨rfl, HB.out⟩

set_option maxRecDepth 100000 in
theorem lifted (os : Os) (started : os.Started) (H : Type) (enc : TypeId × Value → H) :
    ReturnsInHanded {} Try.checked os 4 .any (Rows.fnExactInSpanSpec.pre6 enc Try.prog Try.f4 Rows.fnExactInSpanRow.domain false) (Rows.fnExactInSpanSpec.post enc Try.prog Try.f4 false true false false) := by
  refine returnsInHanded_of_change (C := Try.checked) own started (by kernel_rfl) Try.func4
    (ChangeSpec.witness6 (enc := enc) (C := Try.checked) false ⟨#[], #[.int .i64 0, .slice none 0 0, .slice none 0 0], []⟩ 8 (by kernel_rfl) (by kernel_rfl) (by kernel_rfl) (by kernel_rfl)) ?_
  intro W base args ds gs before hval0 hW hcnd _
  have hval : ∀ (j : Nat) t v, Try.f4.params[j]? = some t → args[j]? = some v → Value.okWide Try.prog W .any base t v := hval0
  have hW' := hW
  obtain ⟨p, q, hA0, hV, rfl, hfz, hnd⟩ := hW
  have hA : DataW.TrodAll enc Try.prog W 0 (fun _ => true) true Try.f4.params.toList args.toList ds p := hA0
  rw [Try.params4] at hA hval
  obtain ⟨v0, vs0, d0, ds0, p0, q0, hargs, rfl, rfl, h0, r0⟩ := trodAll_cons hA
  obtain ⟨v1, vs1, d1, ds1, p1, q1, rfl, rfl, rfl, h1, r1⟩ := trodAll_cons r0
  obtain ⟨v2, vs2, d2, ds2, p2, q2, rfl, rfl, rfl, h2, r2⟩ := trodAll_cons r1
  obtain ⟨rfl, rfl, rfl⟩ := trodAll_nil r2
  obtain rfl : args = #[v0, v1, v2] := by cases args; simp_all
  obtain ⟨rfl, rfl⟩ := trodVars_none hV
  obtain ⟨a0, rfl, rfl, rfl, w0⟩ := open_int Try.underlying2 (hval 0 2 v0 rfl rfl) h0
  obtain ⟨a1, len1, cap1, rfl⟩ := okWide_slice Try.underlying22 (hval 1 22 v1 rfl rfl)
  have k1 := h1
  have lt1 : ∀ x ∈ p1, x.block < W.heap.size := by obtain ⟨m, hm⟩ := k1; exact DataW.trod_lt m _ _ _ hm
  obtain ⟨z1, w1⟩ : ∃ zs, LL W a1 len1 zs := by
    obtain ⟨fuel, hf⟩ := h1
    rcases Go.Deep.open_int_rows Try.underlying22 Try.underlying29 Try.underlying2 (by kernel_rfl) (by kernel_rfl) hf with ⟨hcs, _⟩ | ⟨x, l, c, A, L, C, Z, hcs, _, hl, hm, _, hcell⟩
    · simp [Value.cells] at hcs
      obtain ⟨rfl, rfl, rfl⟩ := hcs
      exact ⟨[], LL.nil W _⟩
    · simp [Value.cells] at hcs
      obtain ⟨rfl, rfl, rfl⟩ := hcs
      exact ⟨_, LL.of_rows hl hm hcell⟩
  obtain ⟨a2, len2, cap2, rfl⟩ := okWide_slice Try.underlying29 (hval 2 29 v2 rfl rfl)
  have k2 := h2
  have lt2 : ∀ x ∈ p2, x.block < W.heap.size := by obtain ⟨m, hm⟩ := k2; exact DataW.trod_lt m _ _ _ hm
  obtain ⟨z2, w2⟩ : ∃ zs, Ints W a2 len2 zs := by
    obtain ⟨fuel, hf⟩ := h2
    rcases open_ints Try.underlying29 Try.underlying2 (by kernel_rfl) hf with ⟨hcs, _⟩ | ⟨x, l, c, zs, hcs, _, hl, hm, hz, _, hcell, hwz⟩
    · simp [Value.cells] at hcs
      obtain ⟨rfl, rfl, rfl⟩ := hcs
      exact ⟨[], Ints.nil W⟩
    · simp [Value.cells] at hcs
      obtain ⟨rfl, rfl, rfl⟩ := hcs
      exact ⟨zs.take len2, Ints.of_row hl hm (by simpa using hz) hcell⟩
  clear hA0 hval0
  refine (walk a0 a1 len1 cap1 z1 a2 len2 cap2 z2 W w0 w1 w2).mono fun e W' ⟨he, bel⟩ => ?_
  subst he
  exact ⟨_, rfl, _, _, _, [], _, [], hW', trodAll_mk1 (shut_bool Try.underlying4 _), (trodAll_cons_mk (shut_int Try.underlying2 w0) (trodAll_cons_mk (Below.trod laidOut (by kernel_rfl) (of_decide_eq_true (by kernel_rfl)) k1 bel lt1) (trodAll_cons_mk (Below.trod laidOut (by kernel_rfl) (of_decide_eq_true (by kernel_rfl)) k2 bel lt2) trodAll_mk0))), rfl, bel.frame _, fun h => by cases h⟩

theorem closed : joinedFacts Try.prog 4 Try.f4 Rows.fnExactInSpanSpec Rows.fnExactInSpanRow = true := by
  unfold joinedFacts
  rw [mayEnterT, stopsHeardT, liftsFinalT, makeT]
  kernel_rfl

theorem over : Rows.fnExactInSpanRow.holds Try.pinned (OpenSpec.ofChange Rows.fnExactInSpanSpec) :=
  OpenClaim.holds_of_wide 4 Try.f4 rfl rfl rfl rfl rfl rfl rfl ⟨rfl, rfl, rfl, rfl, rfl⟩ rfl rfl rfl rfl rfl (by kernel_rfl) Try.func4 closed
    (of_decide_eq_true (by kernel_rfl)) (by unfold Func.isWrapper; first | (rw [if_pos (by decide +kernel)]; kernel_rfl) | (rw [if_neg (by decide +kernel)]; exact ⟨rfl, rfl⟩))
    (fun os started H enc _ => lifted os started H enc)

/-- the statement -/
theorem proved : Rows.FnExactInSpanSaid := over
#print axioms proved
end Go.Proofs.Ytcgghjhccnjeoaa.fnExactInSpan
