/- IsotropicVector of the program and of the reference agree on every input, leave their arguments alone and share no memory. No condition. -/
import Derived.Test.YtincppklphahpaaFacts
import Derived.Test.YtincppklphahpaaLex4
import Derived.Test.YtincppklphahpaaRows
namespace Go.Proofs.Ytincppklphahpaa.fnExactIsotropicVector
open Go.ChangeShapes Go.WideShapes Go.ChangeAt Go.RowKit
open Go.ChangeMaps (open_string shut_string)
set_option linter.unusedVariables false

set_option maxRecDepth 100000 in
set_option maxHeartbeats 4000000 in
theorem walk (p0 : Int) (a0 : Option Addr) (len0 cap0 : Nat) (z0 : List Int) (w : World) (wp0 : (Lit.int .i64 p0).wf = true) (w0 : Ints w a0 len0 z0) :
    Calls Try.prog 13 #[.agg #[.int .i64 p0, .slice a0 len0 cap0]] w fun e w' => e = .returned (.bool true) ∧ Below w.heap.size w w' := by
  have ml0 := w0.2.1
  unfold maxLen at ml0
  have HBD := Lib.hid (Nat.le_trans (ivL_len p0 z0) (show 6 ≤ 1000000000 by omega))
  by_cases s0 : len0 ≤ 1048576
  rotate_left
  · go_enter Try.func13, Try.ntmps13
    go_wp2_with fail
    refine (laws_szSpace_no p0 a0 len0 cap0 _ _ (by unfold maxLen; omega) (by omega) (by omega) (by omega)).mono ?_
    rintro e u0 ⟨rfl, hb0⟩
    go_wp2_with fail
    go_ret
    exact ⟨rfl, ((Below.refl _ _).alloc (by simp) _).trans (hb0.mono (by simp))⟩
  go_enter Try.func13, Try.ntmps13
  have c0a : (w.alloc (.cells #[.int .i64 p0, .slice a0 len0 cap0] 24)).cell? ⟨w.heap.size, 0, none⟩ = some (.int .i64 p0) := by simp [go_sem]
  have c0b : (w.alloc (.cells #[.int .i64 p0, .slice a0 len0 cap0] 24)).cell? ⟨w.heap.size, 1, none⟩ = some (.slice a0 len0 cap0) := by simp [go_sem]
  have HB : Hid (Below w.heap.size w (w.alloc (.cells #[.int .i64 p0, .slice a0 len0 cap0] 24))) := Lib.hid ((Below.refl _ _).alloc (by simp) _)
  have J0 := Lib.hid (w0.keep HB.out)
  go_wp2_with fail
  refine (laws_szSpace_ok p0 a0 len0 cap0 _ _ (by omega) (by omega)).mono ?_
  rintro e v1 ⟨rfl, hb⟩
  have hs1 : w.heap.size ≤ v1.heap.size := by have hq := hb.size; (try simp at hq); omega
  replace c0a := keep_cell hb c0a
  replace c0b := keep_cell hb c0b
  replace J0 := Lib.hid (J0.out.keep hb)
  replace HB := Lib.hid (below_then HB.out hb)
  clear hb
  have hsb : w.heap.size < v1.heap.size := World.block_lt_of_cell? _ _ c0a
  go_wp2_with fail
  refine (laws_toSpace p0 a0 len0 cap0 z0 _ J0.out (by omega)).mono ?_
  rintro e v2 ⟨bp0, rfl, ho, hb⟩
  have hs2 : v1.heap.size ≤ v2.heap.size := by have hq := hb.size; (try simp at hq); omega
  have P0 := Lib.hid (OwnIn.of (ho.less (show v1.heap.size ≤ _ from by simp)))
  clear ho
  replace c0a := keep_cell hb c0a
  replace c0b := keep_cell hb c0b
  replace J0 := Lib.hid (J0.out.keep hb)
  replace HB := Lib.hid (below_then HB.out hb)
  clear hb
  go_wp2_with fail
  refine (spec_IsotropicVector _ _ _ _ z0  _ P0.out.ints).mono ?_
  rintro e v3 ⟨cwr, qwr, rfl, ho, hb⟩
  have hs3 : v2.heap.size ≤ v3.heap.size := by have hq := hb.size; (try simp at hq); omega
  have WR := Lib.hid (OwnIn.of (ho.less (show v2.heap.size ≤ _ from by simp)))
  clear ho
  replace c0a := keep_cell hb c0a
  replace c0b := keep_cell hb c0b
  replace J0 := Lib.hid (J0.out.keep hb)
  replace HB := Lib.hid (below_then HB.out hb)
  replace P0 := Lib.hid (P0.out.keep hb)
  clear hb
  clear P0
  go_wp2_with fail
  refine (laws_toSpace p0 a0 len0 cap0 z0 _ J0.out (by omega)).mono ?_
  rintro e v4 ⟨bx0, rfl, ho, hb⟩
  have hs4 : v3.heap.size ≤ v4.heap.size := by have hq := hb.size; (try simp at hq); omega
  have X0 := Lib.hid (OwnIn.of (ho.less (show v3.heap.size ≤ _ from by simp)))
  clear ho
  replace c0a := keep_cell hb c0a
  replace c0b := keep_cell hb c0b
  replace J0 := Lib.hid (J0.out.keep hb)
  replace HB := Lib.hid (below_then HB.out hb)
  replace WR := Lib.hid (WR.out.keep hb)
  clear hb
  go_wp2_with fail
  have hb : Below v4.heap.size v4 (v4.alloc (.cells #[.int .i64 p0, .slice (some ⟨bx0, 0, none⟩) len0 len0] 28)) := (Below.refl _ _).alloc (Nat.le_refl _) _
  replace c0a := keep_cell hb c0a
  replace c0b := keep_cell hb c0b
  replace J0 := Lib.hid (J0.out.keep hb)
  replace HB := Lib.hid (below_then HB.out hb)
  replace WR := Lib.hid (WR.out.keep hb)
  replace X0 := Lib.hid (X0.out.keep hb)
  have d0a : (v4.alloc (.cells #[.int .i64 p0, .slice (some ⟨bx0, 0, none⟩) len0 len0] 28)).cell? ⟨v4.heap.size, 0, none⟩ = some (.int .i64 p0) := by simp [go_sem]
  have d0b : (v4.alloc (.cells #[.int .i64 p0, .slice (some ⟨bx0, 0, none⟩) len0 len0] 28)).cell? ⟨v4.heap.size, 1, none⟩ = some (.slice (some ⟨bx0, 0, none⟩) len0 len0) := by simp [go_sem]
  refine (impl_IsotropicVector _ _ _ _ z0  _ X0.out.ints).mono ?_
  rintro e v5 ⟨cgr, qgr, rfl, ho, hb⟩
  have hs5 : v4.heap.size ≤ v5.heap.size := by have hq := hb.size; (try simp at hq); omega
  have GR := Lib.hid (OwnIn.of (ho.less (show v4.heap.size ≤ _ from by simp)))
  clear ho
  replace c0a := keep_cell hb c0a
  replace c0b := keep_cell hb c0b
  replace d0a := keep_cell hb d0a
  replace d0b := keep_cell hb d0b
  replace J0 := Lib.hid (J0.out.keep hb)
  replace HB := Lib.hid (below_then HB.out hb)
  replace WR := Lib.hid (WR.out.keep hb)
  replace X0 := Lib.hid (X0.out.keep hb)
  clear hb
  go_wp2_with fail
  refine (laws_eqInt64S _ _ _ _ _ _ (ivL p0 z0) (ivL p0 z0) _ GR.out.ints WR.out.ints).mono ?_
  rintro e v6 ⟨rfl, hb⟩
  have hs6 : v5.heap.size ≤ v6.heap.size := by have hq := hb.size; (try simp at hq); omega
  replace c0a := keep_cell hb c0a
  replace c0b := keep_cell hb c0b
  replace d0a := keep_cell hb d0a
  replace d0b := keep_cell hb d0b
  replace J0 := Lib.hid (J0.out.keep hb)
  replace HB := Lib.hid (below_then HB.out hb)
  replace WR := Lib.hid (WR.out.keep hb)
  replace X0 := Lib.hid (X0.out.keep hb)
  replace GR := Lib.hid (GR.out.keep hb)
  clear hb
  go_wp2_with fail
  go_region_held3 (fun w' => w'.cell? ⟨w.heap.size, 0, none⟩ = some (.int .i64 p0) ∧ w'.cell? ⟨w.heap.size, 1, none⟩ = some (.slice a0 len0 cap0) ∧ w'.cell? ⟨v4.heap.size, 0, none⟩ = some (.int .i64 p0) ∧ w'.cell? ⟨v4.heap.size, 1, none⟩ = some (.slice (some ⟨bx0, 0, none⟩) len0 len0) ∧ Ints w' a0 len0 z0 ∧ Below w.heap.size w w' ∧ OwnIn v2.heap.size v3.heap.size w' cwr (ivL p0 z0).length (ivL p0 z0) ∧ OwnIn v3.heap.size v4.heap.size w' (some ⟨bx0, 0, none⟩) len0 z0 ∧ OwnIn v4.heap.size v5.heap.size w' cgr (ivL p0 z0).length (ivL p0 z0) ∧ v6.heap.size ≤ w'.heap.size)
    (first
      | exact ⟨c0a, c0b, d0a, d0b, J0.out, HB.out.drew, WR.out, X0.out, GR.out, Nat.le_refl _⟩
      | (go_split_ands; exact ⟨‹_›, ‹_›, ‹_›, ‹_›, ‹_›, ‹_›, ‹_›, ‹_›, ‹_›, ‹_›⟩)
      | (go_split_ands; exact ⟨keep_cell hbz ‹_›, keep_cell hbz ‹_›, keep_cell hbz ‹_›, keep_cell hbz ‹_›, Ints.keep ‹_› hbz, below_then ‹_› hbz, OwnIn.keep ‹_› hbz, OwnIn.keep ‹_› hbz, OwnIn.keep ‹_› hbz, Nat.le_trans ‹v6.heap.size ≤ _› hbz.size⟩)
      | go_keep)
    (first
      | (go_at_call 16; refine (laws_toSpace p0 a0 len0 cap0 z0 _ (by go_split_ands; assumption) (by omega)).mono ?_; rintro e vz ⟨bz, rfl, oz, hbz⟩)
      | (go_at_call 19; refine (laws_eqSpace p0 _ _ _ _ _ z0 _ (by go_split_ands; exact OwnIn.ints (xs := z0) (A := (some ⟨bx0, 0, none⟩)) ‹_›) oz.ints).mono ?_; rintro e vy ⟨rfl, hbz⟩))
  rename_i hh
  obtain ⟨v7, hv7⟩ : ∃ v, v = vy := ⟨_, rfl⟩
  subst hv7
  obtain ⟨c0a, c0b, d0a, d0b, j0q, hbq, wrq, x0q, grq, hs7⟩ := hh
  replace J0 := Lib.hid j0q
  clear j0q
  replace HB := Lib.hid hbq
  clear hbq
  replace WR := Lib.hid wrq
  clear wrq
  replace X0 := Lib.hid x0q
  clear x0q
  replace GR := Lib.hid grq
  clear grq
  clear hbz
  go_wp2_with fail
  refine (laws_markSpace _ _ _ _ _ _ _ _ _ X0.out (by omega) (by omega) (by omega)).mono ?_
  rintro e v8 ⟨rfl, ht⟩
  have hs8 : v7.heap.size ≤ v8.heap.size := ht.2.2.2.1
  replace c0a := cell_touch c0a ht (by first | omega | (simp; omega))
  replace c0b := cell_touch c0b ht (by first | omega | (simp; omega))
  clear d0a
  clear d0b
  replace HB := Lib.hid (below_touch HB.out ht (by omega))
  replace J0 := Lib.hid (w0.keep HB.out)
  replace WR := Lib.hid (WR.out.far ht (by omega))
  replace GR := Lib.hid (GR.out.far ht (by omega))
  clear ht
  clear X0
  go_wp2_with fail
  refine (laws_eqInt64S _ _ _ _ _ _ (ivL p0 z0) (ivL p0 z0) _ GR.out.ints WR.out.ints).mono ?_
  rintro e v9 ⟨rfl, hb⟩
  have hs9 : v8.heap.size ≤ v9.heap.size := by have hq := hb.size; (try simp at hq); omega
  replace c0a := keep_cell hb c0a
  replace c0b := keep_cell hb c0b
  replace J0 := Lib.hid (J0.out.keep hb)
  replace HB := Lib.hid (below_then HB.out hb)
  replace WR := Lib.hid (WR.out.keep hb)
  replace GR := Lib.hid (GR.out.keep hb)
  clear hb
  go_wp2_with fail
  refine (laws_markInt64S _ _ _ _ _ _ _ _ GR.out (by omega) (by omega) HBD.out).mono ?_
  rintro e v10 ⟨rfl, og, ht⟩
  have hs10 : v9.heap.size ≤ v10.heap.size := ht.2.2.2.1
  replace GR := Lib.hid og
  clear og
  replace c0a := cell_touch c0a ht (by first | omega | (simp; omega))
  replace c0b := cell_touch c0b ht (by first | omega | (simp; omega))
  replace HB := Lib.hid (below_touch HB.out ht (by omega))
  replace J0 := Lib.hid (w0.keep HB.out)
  replace WR := Lib.hid (WR.out.far ht (by omega))
  clear ht
  go_wp2_with fail
  refine (laws_heldInt64S _ _ _ _ _ GR.out.ints (by omega) (by omega) HBD.out).mono ?_
  rintro e _v ⟨rfl, rfl⟩
  go_wp2_with fail
  refine (laws_toSpace p0 a0 len0 cap0 z0 _ J0.out (by omega)).mono ?_
  rintro e v11 ⟨bq0, rfl, ho, hb⟩
  have hs11 : v10.heap.size ≤ v11.heap.size := by have hq := hb.size; (try simp at hq); omega
  have Q0 := Lib.hid (OwnIn.of (ho.less (show v10.heap.size ≤ _ from by simp)))
  clear ho
  replace c0a := keep_cell hb c0a
  replace c0b := keep_cell hb c0b
  replace J0 := Lib.hid (J0.out.keep hb)
  replace HB := Lib.hid (below_then HB.out hb)
  replace WR := Lib.hid (WR.out.keep hb)
  replace GR := Lib.hid (GR.out.keep hb)
  clear hb
  go_wp2_with fail
  refine (impl_IsotropicVector _ _ _ _ z0  _ Q0.out.ints).mono ?_
  rintro e v12 ⟨chr, qhr, rfl, ho, hb⟩
  have hs12 : v11.heap.size ≤ v12.heap.size := by have hq := hb.size; (try simp at hq); omega
  have HR := Lib.hid (OwnIn.of (ho.less (show v11.heap.size ≤ _ from by simp)))
  clear ho
  replace c0a := keep_cell hb c0a
  replace c0b := keep_cell hb c0b
  replace J0 := Lib.hid (J0.out.keep hb)
  replace HB := Lib.hid (below_then HB.out hb)
  replace WR := Lib.hid (WR.out.keep hb)
  replace GR := Lib.hid (GR.out.keep hb)
  replace Q0 := Lib.hid (Q0.out.keep hb)
  clear hb
  go_wp2_with fail
  refine (laws_eqInt64S _ _ _ _ _ _ (ivL p0 z0) (ivL p0 z0) _ HR.out.ints WR.out.ints).mono ?_
  rintro e v13 ⟨rfl, hb⟩
  have hs13 : v12.heap.size ≤ v13.heap.size := by have hq := hb.size; (try simp at hq); omega
  replace c0a := keep_cell hb c0a
  replace c0b := keep_cell hb c0b
  replace J0 := Lib.hid (J0.out.keep hb)
  replace HB := Lib.hid (below_then HB.out hb)
  replace WR := Lib.hid (WR.out.keep hb)
  replace GR := Lib.hid (GR.out.keep hb)
  replace Q0 := Lib.hid (Q0.out.keep hb)
  replace HR := Lib.hid (HR.out.keep hb)
  clear hb
  go_wp2_with fail
  refine (laws_heldInt64S _ _ _ _ _ GR.out.ints (by omega) (by omega) HBD.out).mono ?_
  rintro e _v ⟨rfl, rfl⟩
  go_wp2_with fail
  go_ret
  exact ⟨rfl, HB.out⟩

set_option maxRecDepth 100000 in
theorem lifted (os : Os) (started : os.Started) (H : Type) (enc : TypeId × Value → H) :
    ReturnsInHanded {} Try.checked os 13 .any (Rows.fnExactIsotropicVectorSpec.pre6 enc Try.prog Try.f13 Rows.fnExactIsotropicVectorRow.domain false) (Rows.fnExactIsotropicVectorSpec.post enc Try.prog Try.f13 false true false false) := by
  refine returnsInHanded_of_change (C := Try.checked) own started (by kernel_rfl) Try.func13
    (ChangeSpec.witness6 (enc := enc) (C := Try.checked) false ⟨#[], #[.agg #[.int .i64 0, .slice none 0 0]], []⟩ 8 (by kernel_rfl) (by kernel_rfl) (by kernel_rfl) (by kernel_rfl)) ?_
  intro W base args ds gs before hval0 hW hcnd _
  have hval : ∀ (j : Nat) t v, Try.f13.params[j]? = some t → args[j]? = some v → Value.okWide Try.prog W .any base t v := hval0
  have hW' := hW
  obtain ⟨p, q, hA0, hV, rfl, hfz, hnd⟩ := hW
  have hA : DataW.TrodAll enc Try.prog W 0 (fun _ => true) true Try.f13.params.toList args.toList ds p := hA0
  rw [Try.params13] at hA hval
  obtain ⟨v0, vs0, d0, ds0, p0, q0, hargs, rfl, rfl, h0, r0⟩ := trodAll_cons hA
  obtain ⟨rfl, rfl, rfl⟩ := trodAll_nil r0
  obtain rfl : args = #[v0] := by cases args; simp_all
  obtain ⟨rfl, rfl⟩ := trodVars_none hV
  have k0 := h0
  have lt0 : ∀ x ∈ p0, x.block < W.heap.size := by obtain ⟨m, hm⟩ := k0; exact DataW.trod_lt m _ _ _ hm
  obtain ⟨c0, e0, y0, x0, m0, rfl, hd0, hp0, hy0, hx0⟩ := Go.Joins.open_agg2 Try.underlying24 (by kernel_rfl) (by kernel_rfl) (hval 0 24 v0 rfl rfl) h0
  obtain ⟨pp0, hc0, _, wp0⟩ := DataW.trod_int Try.underlying2 hy0
  simp only [List.cons.injEq, and_true] at hc0
  subst hc0
  obtain ⟨a0, len0, cap0, z0, he0, w0⟩ : ∃ (a : Option Addr) (len cap : Nat) (zs : List Int), e0 = .slice a len cap ∧ Ints W a len zs := by
    rcases open_ints Try.underlying22 Try.underlying2 (by kernel_rfl) hx0 with ⟨hcs, _⟩ | ⟨x, l, c, zs, hcs, _, hl, hm, hz, _, hcell, hwz⟩
    · simp only [List.cons.injEq, and_true] at hcs
      exact ⟨none, 0, 0, [], hcs, Ints.nil W⟩
    · simp only [List.cons.injEq, and_true] at hcs
      exact ⟨some x, l, c, zs.take l, hcs, Ints.of_row hl hm (by simpa using hz) hcell⟩
  subst he0
  clear hA0 hval0
  refine (walk pp0 a0 len0 cap0 z0 W wp0 w0).mono fun e W' ⟨he, bel⟩ => ?_
  subst he
  exact ⟨_, rfl, _, _, _, [], _, [], hW', trodAll_mk1 (shut_bool Try.underlying4 _), (trodAll_cons_mk (Below.trod laidOut (by kernel_rfl) (of_decide_eq_true (by kernel_rfl)) k0 bel lt0) trodAll_mk0), rfl, bel.frame _, fun h => by cases h⟩

theorem closed : joinedFacts Try.prog 13 Try.f13 Rows.fnExactIsotropicVectorSpec Rows.fnExactIsotropicVectorRow = true := by
  unfold joinedFacts
  rw [mayEnterT, stopsHeardT, liftsFinalT, makeT]
  kernel_rfl

theorem over : Rows.fnExactIsotropicVectorRow.holds Try.pinned (OpenSpec.ofChange Rows.fnExactIsotropicVectorSpec) :=
  OpenClaim.holds_of_wide 13 Try.f13 rfl rfl rfl rfl rfl rfl rfl ⟨rfl, rfl, rfl, rfl, rfl⟩ rfl rfl rfl rfl rfl (by kernel_rfl) Try.func13 closed
    (of_decide_eq_true (by kernel_rfl)) (by unfold Func.isWrapper; first | (rw [if_pos (by decide +kernel)]; kernel_rfl) | (rw [if_neg (by decide +kernel)]; exact ⟨rfl, rfl⟩))
    (fun os started H enc _ => lifted os started H enc)

/-- the statement -/
theorem proved : Rows.FnExactIsotropicVectorSaid := over
#print axioms proved
end Go.Proofs.Ytincppklphahpaa.fnExactIsotropicVector
