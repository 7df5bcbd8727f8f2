/- SpanBasis of the program and of the reference agree on every input, leave their arguments alone and share no memory. No condition. -/
import Derived.Test.YtcgghjhccnjeoaaFacts
import Derived.Test.YtcgghjhccnjeoaaSpan3
import Derived.Test.YtcgghjhccnjeoaaOpen
import Derived.Test.YtcgghjhccnjeoaaRows
namespace Go.Proofs.Ytcgghjhccnjeoaa.fnExactSpanBasis
open Go.ChangeShapes Go.WideShapes Go.ChangeAt Go.RowKit
open Go.ChangeMaps (open_string shut_string)
set_option linter.unusedVariables false

set_option maxRecDepth 100000 in
set_option maxHeartbeats 4000000 in
theorem walk (p0 : Int) (a1 : Option Addr) (len1 cap1 : Nat) (vs : List (List Int)) (w : World) (wp0 : (Lit.int .i64 p0).wf = true) (w1 : LL w a1 len1 vs) :
    Calls Try.prog 3 #[.int .i64 p0, .slice a1 len1 cap1] w fun e w' => e = .returned (.bool true) ∧ Below w.heap.size w w' := by
  have ml1 := w1.2.1
  unfold maxLen at ml1
  have HVL := Lib.hid w1.1
  have w1k := Lib.hid w1
  have J1 := Lib.hid w1
  clear w1
  obtain ⟨rows, HR⟩ : ∃ x, Hid (spnL p0 vs = x) := ⟨_, Lib.hid rfl⟩
  obtain ⟨d, HD⟩ : ∃ x, Hid (rows.length = x) := ⟨_, Lib.hid rfl⟩
  obtain ⟨np, HNP⟩ : ∃ x, Hid (preL vs len1 = x) := ⟨_, Lib.hid rfl⟩
  obtain ⟨nd, HND⟩ : ∃ x, Hid (preL rows d = x) := ⟨_, Lib.hid rfl⟩
  obtain ⟨cd, HC⟩ : ∃ x, Hid (spnC p0 vs = x) := ⟨_, Lib.hid rfl⟩
  have hd16 : d ≤ 16 := by have := (spnL_small p0 vs).1; rw [HR.out, HD.out] at this; exact this
  have hnd : nd ≤ 256 := by have := (spnL_small p0 vs).2; rw [HR.out, HD.out, HND.out] at this; exact this
  go_enter Try.func3, Try.ntmps3
  go_wp2_with fail
  refine (laws_szInt64SS a1 len1 cap1 vs _ J1.out).mono ?_
  rw [HNP.out]
  rintro e _v ⟨r, rfl, hr, rfl⟩
  by_cases hneg : r < 0
  · go_wp2_with fail
    go_ret
    exact ⟨rfl, Below.refl _ _⟩
  have hsz := hr (by omega)
  have hnp : np ≤ 1048576 := by omega
  clear hr
  have HB : Hid (Below w.heap.size w w) := Lib.hid (Below.refl _ _)
  go_wp2_with fail
  refine (laws_toInt64SS a1 len1 _ vs _ J1.out (by rw [HNP.out]; omega)).mono ?_
  rintro e v1 ⟨bP1, rfl, ho, hb⟩
  have hs1 : w.heap.size ≤ v1.heap.size := by have hq := hb.size; (try simp at hq); omega
  replace J1 := Lib.hid (J1.out.keep hb)
  replace HB := Lib.hid (below_then HB.out hb)
  clear hb
  have P1 := Lib.hid ho
  clear ho
  go_wp2_with fail
  refine (spec_SpanBasis p0 _ _ _ vs _ P1.out.LL).mono ?_
  rw [HR.out, HC.out, HD.out]
  rintro e v2 ⟨bWR, qWR, rfl, ho, hb⟩
  have hs2 : v1.heap.size ≤ v2.heap.size := by have hq := hb.size; (try simp at hq); omega
  replace J1 := Lib.hid (J1.out.keep hb)
  replace P1 := Lib.hid (P1.out.keep hb)
  replace HB := Lib.hid (below_then HB.out hb)
  clear hb
  have WR := Lib.hid ho
  clear ho
  clear P1
  go_wp2_with fail
  refine (laws_toInt64SS a1 len1 _ vs _ J1.out (by rw [HNP.out]; omega)).mono ?_
  rintro e v3 ⟨bX1, rfl, ho, hb⟩
  have hs3 : v2.heap.size ≤ v3.heap.size := by have hq := hb.size; (try simp at hq); omega
  replace J1 := Lib.hid (J1.out.keep hb)
  replace WR := Lib.hid (WR.out.keep hb)
  replace HB := Lib.hid (below_then HB.out hb)
  clear hb
  have X1 := Lib.hid ho
  clear ho
  go_wp2_with fail
  refine (impl_SpanBasis p0 _ _ _ vs _ X1.out.LL).mono ?_
  rw [HR.out, HC.out, HD.out]
  rintro e v4 ⟨bGR, qGR, rfl, ho, hb⟩
  have hs4 : v3.heap.size ≤ v4.heap.size := by have hq := hb.size; (try simp at hq); omega
  replace J1 := Lib.hid (J1.out.keep hb)
  replace WR := Lib.hid (WR.out.keep hb)
  replace X1 := Lib.hid (X1.out.keep hb)
  replace HB := Lib.hid (below_then HB.out hb)
  clear hb
  have GR := Lib.hid ho
  clear ho
  go_wp2_with fail
  refine (laws_eqInt64SS _ _ _ _ _ rows _ GR.out.LL WR.out.LL).mono ?_
  rintro e v5 ⟨rfl, hb⟩
  have hs5 : v4.heap.size ≤ v5.heap.size := by have hq := hb.size; (try simp at hq); omega
  replace J1 := Lib.hid (J1.out.keep hb)
  replace WR := Lib.hid (WR.out.keep hb)
  replace X1 := Lib.hid (X1.out.keep hb)
  replace GR := Lib.hid (GR.out.keep hb)
  replace HB := Lib.hid (below_then HB.out hb)
  clear hb
  go_wp2_with fail
  refine (laws_toInt64SS a1 len1 _ vs _ J1.out (by rw [HNP.out]; omega)).mono ?_
  rintro e v6 ⟨bY1, rfl, ho, hb⟩
  have hs6 : v5.heap.size ≤ v6.heap.size := by have hq := hb.size; (try simp at hq); omega
  replace J1 := Lib.hid (J1.out.keep hb)
  replace WR := Lib.hid (WR.out.keep hb)
  replace X1 := Lib.hid (X1.out.keep hb)
  replace GR := Lib.hid (GR.out.keep hb)
  replace HB := Lib.hid (below_then HB.out hb)
  clear hb
  have Y1 := Lib.hid ho
  clear ho
  go_wp2_with fail
  refine (laws_eqInt64SS _ _ _ _ _ vs _ X1.out.LL Y1.out.LL).mono ?_
  rintro e v7 ⟨rfl, hb⟩
  have hs7 : v6.heap.size ≤ v7.heap.size := by have hq := hb.size; (try simp at hq); omega
  replace J1 := Lib.hid (J1.out.keep hb)
  replace WR := Lib.hid (WR.out.keep hb)
  replace X1 := Lib.hid (X1.out.keep hb)
  replace GR := Lib.hid (GR.out.keep hb)
  replace Y1 := Lib.hid (Y1.out.keep hb)
  replace HB := Lib.hid (below_then HB.out hb)
  clear hb
  clear Y1
  go_wp2_with fail
  refine (laws_markInt64SS _ _ _ vs _ _ _ X1.out (by rw [HNP.out]; omega) (by omega)).mono ?_
  rw [HNP.out]
  rintro e v8 ⟨rfl, ho, ht⟩
  have hs8 : v7.heap.size ≤ v8.heap.size := ht.2.2.2.1
  replace HB := Lib.hid (below_touch HB.out ht (by omega))
  replace J1 := Lib.hid (w1k.out.keep HB.out)
  replace WR := Lib.hid (WR.out.far ht (by omega))
  replace GR := Lib.hid (GR.out.far ht (by omega))
  clear X1
  clear ho ht
  go_wp2_with fail
  refine (laws_eqInt64SS _ _ _ _ _ rows _ GR.out.LL WR.out.LL).mono ?_
  rintro e v9 ⟨rfl, hb⟩
  have hs9 : v8.heap.size ≤ v9.heap.size := by have hq := hb.size; (try simp at hq); omega
  replace J1 := Lib.hid (J1.out.keep hb)
  replace WR := Lib.hid (WR.out.keep hb)
  replace GR := Lib.hid (GR.out.keep hb)
  replace HB := Lib.hid (below_then HB.out hb)
  clear hb
  go_wp2_with fail
  refine (laws_markInt64SS _ _ _ rows _ _ _ GR.out (by rw [HND.out]; omega) (by omega)).mono ?_
  rw [HND.out]
  rintro e v10 ⟨rfl, ho, ht⟩
  have hs10 : v9.heap.size ≤ v10.heap.size := ht.2.2.2.1
  replace HB := Lib.hid (below_touch HB.out ht (by omega))
  replace J1 := Lib.hid (w1k.out.keep HB.out)
  replace WR := Lib.hid (WR.out.far ht (by omega))
  replace GR := Lib.hid ho
  clear ho ht
  go_wp2_with fail
  refine (laws_heldInt64SS _ _ _ rows _ GR.out.LL HD.out (by rw [HND.out]; omega) (by omega)).mono ?_
  rw [HND.out]
  rintro e _v ⟨rfl, rfl⟩
  go_wp2_with fail
  refine (laws_toInt64SS a1 len1 _ vs _ J1.out (by rw [HNP.out]; omega)).mono ?_
  rintro e v11 ⟨bQ1, rfl, ho, hb⟩
  have hs11 : v10.heap.size ≤ v11.heap.size := by have hq := hb.size; (try simp at hq); omega
  replace J1 := Lib.hid (J1.out.keep hb)
  replace WR := Lib.hid (WR.out.keep hb)
  replace GR := Lib.hid (GR.out.keep hb)
  replace HB := Lib.hid (below_then HB.out hb)
  clear hb
  have Q1 := Lib.hid ho
  clear ho
  go_wp2_with fail
  refine (impl_SpanBasis p0 _ _ _ vs _ Q1.out.LL).mono ?_
  rw [HR.out, HC.out, HD.out]
  rintro e v12 ⟨bHR2, qHR2, rfl, ho, hb⟩
  have hs12 : v11.heap.size ≤ v12.heap.size := by have hq := hb.size; (try simp at hq); omega
  replace J1 := Lib.hid (J1.out.keep hb)
  replace WR := Lib.hid (WR.out.keep hb)
  replace GR := Lib.hid (GR.out.keep hb)
  replace Q1 := Lib.hid (Q1.out.keep hb)
  replace HB := Lib.hid (below_then HB.out hb)
  clear hb
  have HR2 := Lib.hid ho
  clear ho
  go_wp2_with fail
  refine (laws_eqInt64SS _ _ _ _ _ rows _ HR2.out.LL WR.out.LL).mono ?_
  rintro e v13 ⟨rfl, hb⟩
  have hs13 : v12.heap.size ≤ v13.heap.size := by have hq := hb.size; (try simp at hq); omega
  replace J1 := Lib.hid (J1.out.keep hb)
  replace WR := Lib.hid (WR.out.keep hb)
  replace GR := Lib.hid (GR.out.keep hb)
  replace Q1 := Lib.hid (Q1.out.keep hb)
  replace HR2 := Lib.hid (HR2.out.keep hb)
  replace HB := Lib.hid (below_then HB.out hb)
  clear hb
  go_wp2_with fail
  refine (laws_heldInt64SS _ _ _ rows _ GR.out.LL HD.out (by rw [HND.out]; omega) (by omega)).mono ?_
  rw [HND.out]
  rintro e _v ⟨rfl, rfl⟩
  go_wp2_with fail
  go_ret
  exact ⟨rfl, HB.out⟩

set_option maxRecDepth 100000 in
theorem lifted (os : Os) (started : os.Started) (H : Type) (enc : TypeId × Value → H) :
    ReturnsInHanded {} Try.checked os 3 .any (Rows.fnExactSpanBasisSpec.pre6 enc Try.prog Try.f3 Rows.fnExactSpanBasisRow.domain false) (Rows.fnExactSpanBasisSpec.post enc Try.prog Try.f3 false true false false) := by
  refine returnsInHanded_of_change (C := Try.checked) own started (by kernel_rfl) Try.func3
    (ChangeSpec.witness6 (enc := enc) (C := Try.checked) false ⟨#[], #[.int .i64 0, .slice none 0 0], []⟩ 8 (by kernel_rfl) (by kernel_rfl) (by kernel_rfl) (by kernel_rfl)) ?_
  intro W base args ds gs before hval0 hW hcnd _
  have hval : ∀ (j : Nat) t v, Try.f3.params[j]? = some t → args[j]? = some v → Value.okWide Try.prog W .any base t v := hval0
  have hW' := hW
  obtain ⟨p, q, hA0, hV, rfl, hfz, hnd⟩ := hW
  have hA : DataW.TrodAll enc Try.prog W 0 (fun _ => true) true Try.f3.params.toList args.toList ds p := hA0
  rw [Try.params3] at hA hval
  obtain ⟨v0, vs0, d0, ds0, p0, q0, hargs, rfl, rfl, h0, r0⟩ := trodAll_cons hA
  obtain ⟨v1, vs1, d1, ds1, p1, q1, rfl, rfl, rfl, h1, r1⟩ := trodAll_cons r0
  obtain ⟨rfl, rfl, rfl⟩ := trodAll_nil r1
  obtain rfl : args = #[v0, v1] := by cases args; simp_all
  obtain ⟨rfl, rfl⟩ := trodVars_none hV
  obtain ⟨a0, rfl, rfl, rfl, w0⟩ := open_int Try.underlying2 (hval 0 2 v0 rfl rfl) h0
  obtain ⟨a1, len1, cap1, rfl⟩ := okWide_slice Try.underlying22 (hval 1 22 v1 rfl rfl)
  have k1 := h1
  have lt1 : ∀ x ∈ p1, x.block < W.heap.size := by obtain ⟨m, hm⟩ := k1; exact DataW.trod_lt m _ _ _ hm
  obtain ⟨z1, w1⟩ : ∃ zs, LL W a1 len1 zs := by
    obtain ⟨fuel, hf⟩ := h1
    rcases Go.Deep.open_int_rows Try.underlying22 Try.underlying29 Try.underlying2 (by kernel_rfl) (by kernel_rfl) hf with ⟨hcs, _⟩ | ⟨x, l, c, A, L, C, Z, hcs, _, hl, hm, _, hcell⟩
    · simp [Value.cells] at hcs
      obtain ⟨rfl, rfl, rfl⟩ := hcs
      exact ⟨[], LL.nil W _⟩
    · simp [Value.cells] at hcs
      obtain ⟨rfl, rfl, rfl⟩ := hcs
      exact ⟨_, LL.of_rows hl hm hcell⟩
  clear hA0 hval0
  refine (walk a0 a1 len1 cap1 z1 W w0 w1).mono fun e W' ⟨he, bel⟩ => ?_
  subst he
  exact ⟨_, rfl, _, _, _, [], _, [], hW', trodAll_mk1 (shut_bool Try.underlying4 _), (trodAll_cons_mk (shut_int Try.underlying2 w0) (trodAll_cons_mk (Below.trod laidOut (by kernel_rfl) (of_decide_eq_true (by kernel_rfl)) k1 bel lt1) trodAll_mk0)), rfl, bel.frame _, fun h => by cases h⟩

theorem closed : joinedFacts Try.prog 3 Try.f3 Rows.fnExactSpanBasisSpec Rows.fnExactSpanBasisRow = true := by
  unfold joinedFacts
  rw [mayEnterT, stopsHeardT, liftsFinalT, makeT]
  kernel_rfl

theorem over : Rows.fnExactSpanBasisRow.holds Try.pinned (OpenSpec.ofChange Rows.fnExactSpanBasisSpec) :=
  OpenClaim.holds_of_wide 3 Try.f3 rfl rfl rfl rfl rfl rfl rfl ⟨rfl, rfl, rfl, rfl, rfl⟩ rfl rfl rfl rfl rfl (by kernel_rfl) Try.func3 closed
    (of_decide_eq_true (by kernel_rfl)) (by unfold Func.isWrapper; first | (rw [if_pos (by decide +kernel)]; kernel_rfl) | (rw [if_neg (by decide +kernel)]; exact ⟨rfl, rfl⟩))
    (fun os started H enc _ => lifted os started H enc)

/-- the statement -/
theorem proved : Rows.FnExactSpanBasisSaid := over
#print axioms proved
end Go.Proofs.Ytcgghjhccnjeoaa.fnExactSpanBasis
