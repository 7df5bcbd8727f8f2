/- DotOf of the program and of the reference agree on every input and leave their arguments alone. No condition. -/
import Derived.Test.YtldiinmcohijaaaFacts
import Derived.Test.YtldiinmcohijaaaDot
import Derived.Test.YtldiinmcohijaaaRows
namespace Go.Proofs.Ytldiinmcohijaaa.fnExactDotOf
open Go.ChangeShapes Go.WideShapes Go.ChangeAt Go.RowKit
open Go.ChangeMaps (open_string shut_string)
set_option linter.unusedVariables false

theorem walk (a0 : Int) (a1 : Option Addr) (len1 cap1 : Nat) (z1 : List Int) (a2 : Option Addr) (len2 cap2 : Nat) (z2 : List Int) (w : World) (w0 : (Lit.int .i64 a0).wf = true) (w1 : Ints w a1 len1 z1) (w2 : Ints w a2 len2 z2) :
    Calls Try.prog 10 #[.int .i64 a0, .slice a1 len1 cap1, .slice a2 len2 cap2] w fun e w' => e = .returned (.bool true) ∧ Below w.heap.size w w' := by
  have m1 := w1.2.1
  have m2 := w2.2.1
  unfold maxLen at m1 m2
  by_cases s1 : len1 ≤ 1048576
  · by_cases s2 : len2 ≤ 1048576
    · go_enter Try.func10, Try.ntmps10
      go_wp2_with fail
      refine (laws_toInt64S _ _ _ z1 _ w1 (by omega)).mono ?_
      rintro e wa ⟨ba, rfl, oa, ha⟩
      go_wp2_with fail
      refine (laws_toInt64S _ _ _ z2 _ (w2.keep ha) (by omega)).mono ?_
      rintro e wb ⟨bb, rfl, ob, hb⟩
      go_wp2_with fail
      refine (spec_DotOf _ _ _ _ _ _ _ z1 z2 _ (oa.keep hb).ints ob.ints).mono ?_
      rintro e wc ⟨rfl, hc⟩
      have hac := (ha.trans (hb.mono ha.size)).trans (hc.mono (Nat.le_trans ha.size hb.size))
      go_wp2_with fail
      refine (laws_toInt64S _ _ _ z1 _ (w1.keep hac) (by omega)).mono ?_
      rintro e wd ⟨bd, rfl, od, hd⟩
      go_wp2_with fail
      refine (laws_toInt64S _ _ _ z2 _ (w2.keep (hac.trans (hd.mono hac.size))) (by omega)).mono ?_
      rintro e we ⟨be, rfl, oe, he⟩
      go_wp2_with fail
      refine (impl_DotOf _ _ _ _ _ _ _ z1 z2 _ (od.keep he).ints oe.ints).mono ?_
      rintro e wf ⟨rfl, hf⟩
      have haf := ((hac.trans (hd.mono hac.size)).trans (he.mono (Nat.le_trans hac.size hd.size))).trans (hf.mono (Nat.le_trans hac.size (Nat.le_trans hd.size he.size)))
      go_wp2_with fail
      refine (laws_toInt64S _ _ _ z1 _ (w1.keep haf) (by omega)).mono ?_
      rintro e wg ⟨bg, rfl, og, hg⟩
      go_wp2_with fail
      refine (laws_eqInt64S _ _ _ _ _ _ z1 z1 _ ((((od.keep he).keep hf).keep hg).ints) og.ints).mono ?_
      rintro e wh ⟨rfl, hh⟩
      have hah := (haf.trans (hg.mono haf.size)).trans (hh.mono (Nat.le_trans haf.size hg.size))
      have t1 : decide (z1 = z1) = true := decide_eq_true rfl
      go_wp2_with fail
      refine (laws_toInt64S _ _ _ z2 _ (w2.keep hah) (by omega)).mono ?_
      rintro e wi ⟨bi, rfl, oi, hi⟩
      go_wp2_with fail
      refine (laws_eqInt64S _ _ _ _ _ _ z2 z2 _ (((((oe.keep hf).keep hg).keep hh).keep hi).ints) oi.ints).mono ?_
      rintro e wj ⟨rfl, hj⟩
      have t2 : decide (z2 = z2) = true := decide_eq_true rfl
      go_wp2_with fail
      go_ret
      exact ⟨rfl, (hah.trans (hi.mono hah.size)).trans (hj.mono (Nat.le_trans hah.size hi.size))⟩
    · go_enter Try.func10, Try.ntmps10
      go_wp2_with fail
      go_ret
      exact ⟨rfl, Below.refl _ _⟩
  · go_enter Try.func10, Try.ntmps10
    go_wp2_with fail
    go_ret
    exact ⟨rfl, Below.refl _ _⟩

set_option maxRecDepth 100000 in
theorem lifted (os : Os) (started : os.Started) (H : Type) (enc : TypeId × Value → H) :
    ReturnsInHanded {} Try.checked os 10 .any (Rows.fnExactDotOfSpec.pre6 enc Try.prog Try.f10 Rows.fnExactDotOfRow.domain false) (Rows.fnExactDotOfSpec.post enc Try.prog Try.f10 false true false false) := by
  refine returnsInHanded_of_change (C := Try.checked) own started (by kernel_rfl) Try.func10
    (ChangeSpec.witness6 (enc := enc) (C := Try.checked) false ⟨#[], #[.int .i64 0, .slice none 0 0, .slice none 0 0], []⟩ 8 (by kernel_rfl) (by kernel_rfl) (by kernel_rfl) (by kernel_rfl)) ?_
  intro W base args ds gs before hval0 hW hcnd _
  have hval : ∀ (j : Nat) t v, Try.f10.params[j]? = some t → args[j]? = some v → Value.okWide Try.prog W .any base t v := hval0
  have hW' := hW
  obtain ⟨p, q, hA0, hV, rfl, hfz, hnd⟩ := hW
  have hA : DataW.TrodAll enc Try.prog W 0 (fun _ => true) true Try.f10.params.toList args.toList ds p := hA0
  rw [Try.params10] at hA hval
  obtain ⟨v0, vs0, d0, ds0, p0, q0, hargs, rfl, rfl, h0, r0⟩ := trodAll_cons hA
  obtain ⟨v1, vs1, d1, ds1, p1, q1, rfl, rfl, rfl, h1, r1⟩ := trodAll_cons r0
  obtain ⟨v2, vs2, d2, ds2, p2, q2, rfl, rfl, rfl, h2, r2⟩ := trodAll_cons r1
  obtain ⟨rfl, rfl, rfl⟩ := trodAll_nil r2
  obtain rfl : args = #[v0, v1, v2] := by cases args; simp_all
  obtain ⟨rfl, rfl⟩ := trodVars_none hV
  obtain ⟨a0, rfl, rfl, rfl, w0⟩ := open_int Try.underlying2 (hval 0 2 v0 rfl rfl) h0
  obtain ⟨a1, len1, cap1, rfl⟩ := okWide_slice Try.underlying30 (hval 1 30 v1 rfl rfl)
  have k1 := h1
  have lt1 : ∀ x ∈ p1, x.block < W.heap.size := by obtain ⟨m, hm⟩ := k1; exact DataW.trod_lt m _ _ _ hm
  obtain ⟨z1, w1⟩ : ∃ zs, Ints W a1 len1 zs := by
    obtain ⟨fuel, hf⟩ := h1
    rcases open_ints Try.underlying30 Try.underlying2 (by kernel_rfl) hf with ⟨hcs, _⟩ | ⟨x, l, c, zs, hcs, _, hl, hm, hz, _, hcell, hwz⟩
    · simp [Value.cells] at hcs
      obtain ⟨rfl, rfl, rfl⟩ := hcs
      exact ⟨[], Ints.nil W⟩
    · simp [Value.cells] at hcs
      obtain ⟨rfl, rfl, rfl⟩ := hcs
      exact ⟨zs.take len1, Ints.of_row hl hm (by simpa using hz) hcell⟩
  obtain ⟨a2, len2, cap2, rfl⟩ := okWide_slice Try.underlying30 (hval 2 30 v2 rfl rfl)
  have k2 := h2
  have lt2 : ∀ x ∈ p2, x.block < W.heap.size := by obtain ⟨m, hm⟩ := k2; exact DataW.trod_lt m _ _ _ hm
  obtain ⟨z2, w2⟩ : ∃ zs, Ints W a2 len2 zs := by
    obtain ⟨fuel, hf⟩ := h2
    rcases open_ints Try.underlying30 Try.underlying2 (by kernel_rfl) hf with ⟨hcs, _⟩ | ⟨x, l, c, zs, hcs, _, hl, hm, hz, _, hcell, hwz⟩
    · simp [Value.cells] at hcs
      obtain ⟨rfl, rfl, rfl⟩ := hcs
      exact ⟨[], Ints.nil W⟩
    · simp [Value.cells] at hcs
      obtain ⟨rfl, rfl, rfl⟩ := hcs
      exact ⟨zs.take len2, Ints.of_row hl hm (by simpa using hz) hcell⟩
  clear hA0 hval0
  refine (walk a0 a1 len1 cap1 z1 a2 len2 cap2 z2 W w0 w1 w2).mono fun e W' ⟨he, bel⟩ => ?_
  subst he
  exact ⟨_, rfl, _, _, _, [], _, [], hW', trodAll_mk1 (shut_bool Try.underlying4 _), (trodAll_cons_mk (shut_int Try.underlying2 w0) (trodAll_cons_mk (Below.trod laidOut (by kernel_rfl) (of_decide_eq_true (by kernel_rfl)) k1 bel lt1) (trodAll_cons_mk (Below.trod laidOut (by kernel_rfl) (of_decide_eq_true (by kernel_rfl)) k2 bel lt2) trodAll_mk0))), rfl, bel.frame _, fun h => by cases h⟩

theorem closed : joinedFacts Try.prog 10 Try.f10 Rows.fnExactDotOfSpec Rows.fnExactDotOfRow = true := by
  unfold joinedFacts
  rw [mayEnterT, stopsHeardT, liftsFinalT, makeT]
  kernel_rfl

theorem over : Rows.fnExactDotOfRow.holds Try.pinned (OpenSpec.ofChange Rows.fnExactDotOfSpec) :=
  OpenClaim.holds_of_wide 10 Try.f10 rfl rfl rfl rfl rfl rfl rfl ⟨rfl, rfl, rfl, rfl, rfl⟩ rfl rfl rfl rfl rfl (by kernel_rfl) Try.func10 closed
    (of_decide_eq_true (by kernel_rfl)) (by unfold Func.isWrapper; first | (rw [if_pos (by decide +kernel)]; kernel_rfl) | (rw [if_neg (by decide +kernel)]; exact ⟨rfl, rfl⟩))
    (fun os started H enc _ => lifted os started H enc)

/-- the statement -/
theorem proved : Rows.FnExactDotOfSaid := over
#print axioms proved
end Go.Proofs.Ytldiinmcohijaaa.fnExactDotOf
