/- Contract: the first isotropic vector, the program. Conditions stand in each theorem. -/
import Derived.Test.YtincppklphahpaaLex3
namespace Go.Proofs.Ytincppklphahpaa
open Go.RowKit
set_option linter.unusedVariables false
set_option linter.unusedSimpArgs false
set_option maxRecDepth 4096

theorem impl_IsotropicVector (p : Int) (A : Option Addr) (n c : Nat) (xs : List Int) (w : World) (hx : Ints w A n xs) :
    Calls Try.prog 43 #[.agg #[.int .i64 p, .slice A n c]] w fun e w' => ∃ C q, e = .returned (.tuple #[.slice C (ivL p xs).length q, .int .i64 (ivC p xs)]) ∧ Own w.heap.size w' C (ivL p xs).length (ivL p xs) ∧ Below w.heap.size w w' := by
  have HX := Lib.hid hx
  have hm := hx.2.1
  have HN := Lib.hid hx.1
  clear hx
  unfold maxLen at hm
  have H2 := Lib.hid (show Below w.heap.size w (w.alloc (.cells #[.int .i64 p, .slice A n c] 28)) from (Below.refl _ _).alloc (Nat.le_refl _) _)
  by_cases hs : spaceB p xs = true
  rotate_left
  · have hs' : spaceB p xs = false := by simpa using hs
    have HS := Lib.hid hs'
    have HL := Lib.hid (show ivL p xs = [] from if_neg hs)
    have HC := Lib.hid (show ivC p xs = 1 from if_neg hs)
    rw [HL.out, HC.out]
    clear hs hs'
    go_enter Try.func43, Try.ntmps43
    have c0 : (w.alloc (.cells #[.int .i64 p, .slice A n c] 28)).cell? ⟨w.heap.size, 0, none⟩ = some (.int .i64 p) := by simp [go_sem]
    have c1 : (w.alloc (.cells #[.int .i64 p, .slice A n c] 28)).cell? ⟨w.heap.size, 1, none⟩ = some (.slice A n c) := by simp [go_sem]
    have HW := Lib.hid (Below.refl (w.alloc (.cells #[.int .i64 p, .slice A n c] 28)).heap.size (w.alloc (.cells #[.int .i64 p, .slice A n c] 28)))
    go_wp2_with fail
    refine (impl_IsSpace _ _ _ _ xs _ (HX.out.keep (H2.out.trans (HW.out.mono H2.out.size)))).mono ?_
    rw [HS.out]
    rintro e v ⟨rfl, hb⟩
    replace HW := Lib.hid (below_then HW.out hb)
    clear hb c0 c1
    go_wp2_with fail
    go_ret2
    exact ⟨none, 0, rfl, ⟨rfl, by unfold maxLen; omega, fun h => by cases h⟩, (H2.out.trans (HW.out.mono H2.out.size))⟩
  obtain ⟨hp, hl0, hl1, hn⟩ := spaceB_true hs
  rw [HN.out] at hl0 hl1
  have h0 := prime_lo hp
  have h1 := prime_hi hp
  have HNU := Lib.hid hn
  have HS := Lib.hid hs
  have HSN := Lib.hid hs
  clear hp hn hs
  go_enter Try.func43, Try.ntmps43
  have c0 : (w.alloc (.cells #[.int .i64 p, .slice A n c] 28)).cell? ⟨w.heap.size, 0, none⟩ = some (.int .i64 p) := by simp [go_sem]
  have c1 : (w.alloc (.cells #[.int .i64 p, .slice A n c] 28)).cell? ⟨w.heap.size, 1, none⟩ = some (.slice A n c) := by simp [go_sem]
  have HW := Lib.hid (Below.refl (w.alloc (.cells #[.int .i64 p, .slice A n c] 28)).heap.size (w.alloc (.cells #[.int .i64 p, .slice A n c] 28)))
  go_wp2_with fail
  refine (impl_IsSpace _ _ _ _ xs _ (HX.out.keep (H2.out.trans (HW.out.mono H2.out.size)))).mono ?_
  rw [HS.out]
  rintro e v ⟨rfl, hb⟩
  replace c0 := keep_cell hb c0
  replace c1 := keep_cell hb c1
  replace HW := Lib.hid (below_then HW.out hb)
  have HB := Lib.hid (H2.out.trans (HW.out.mono H2.out.size))
  clear hb
  have hwv := World.block_lt_of_cell? _ _ c0
  go_wp2_with fail
  obtain ⟨W2, HW2⟩ : ∃ W2, Hid (W2 = (v.alloc (Obj.cells #[] 2)).alloc (Obj.cells #[Value.slice (some ⟨v.heap.size, 0, none⟩) 0 0] 22)) := ⟨_, Lib.hid rfl⟩
  have HV2 := Lib.hid (show Below v.heap.size v W2 by
    rw [HW2.out]
    exact ((Below.refl _ _).alloc (Nat.le_refl _) _).alloc (by simp) _)
  have hz2 : W2.heap.size = v.heap.size + 2 := by rw [HW2.out]; simp
  have cg : W2.cell? ⟨v.heap.size + 1, 0, none⟩ = some (Value.slice (some ⟨v.heap.size, 0, none⟩) 0 0) := by rw [HW2.out]; simp [go_sem]
  have fg : W2.frozen? ⟨v.heap.size + 1, 0, none⟩ = false := by rw [HW2.out]; simp [go_sem]
  have HGA : Hid (∀ a, A = some a → a.block < v.heap.size + 1) := Lib.hid fun a ha => by
    obtain ⟨b, off, e, hl, _⟩ := HX.out.2.2 (by omega)
    rw [e] at ha
    injection ha with ha
    subst ha
    show b < _
    omega
  have HV := Space_vectors p A n c (v.heap.size + 1) w.heap.size xs _ W2 (HX.out.keep (HB.out.trans (HV2.out.mono HB.out.size))) (keep_cell HV2.out c0) (keep_cell HV2.out c1) cg fg (by omega) HGA.out h0 h1 HNU.out hl0 hl1
  rw [HW2.out] at HV
  refine HV.mono ?_
  clear HV cg fg
  have hzz : ((v.alloc (Obj.cells #[] 2)).alloc (Obj.cells #[Value.slice (some ⟨v.heap.size, 0, none⟩) 0 0] 22)).heap.size = v.heap.size + 2 := by simp
  rw [hzz, ← HW2.out]
  clear hzz
  cases hr : isoR p xs with
  | none =>
    have HL := Lib.hid (show ivL p xs = [] from (if_pos HSN.out).trans (by rw [hr]; rfl))
    have HC := Lib.hid (show ivC p xs = 4 from (if_pos HSN.out).trans (by rw [hr]; rfl))
    have HR := Lib.hid hr
    clear hr
    rintro e v2 ⟨hrr, hb2⟩
    have HB2 := Lib.hid hb2
    obtain rfl : e = .returned (.bool false) := by
      rcases hrr with ⟨_, h2⟩ | ⟨u, C, q, h1, _⟩
      · exact h2
      · cases h1
    clear hrr hb2
    go_wp2_with fail
    go_ret2
    have HBB := HB.out.trans (((HV2.out.mono HB.out.size)).trans (HB2.out.mono (by omega)))
    exact ⟨none, 0, by rw [HL.out, HC.out]; rfl, by rw [HL.out]; exact ⟨rfl, by unfold maxLen; simp, fun h => absurd h (by simp)⟩, HBB⟩
  | some u =>
    have HL := Lib.hid (show ivL p xs = u from (if_pos HSN.out).trans (by rw [hr]; rfl))
    have HC := Lib.hid (show ivC p xs = 0 from (if_pos HSN.out).trans (by rw [hr]; rfl))
    have HUL := Lib.hid ((isoR_len hr).trans HN.out)
    have HR := Lib.hid hr
    clear hr
    rintro e v2 ⟨hrr, hb2⟩
    have HB2 := Lib.hid hb2
    obtain ⟨C, q, rfl, hcg, HO⟩ : ∃ C q, e = .returned (.bool true) ∧ v2.cell? ⟨v.heap.size + 1, 0, none⟩ = some (.slice C n q) ∧ Hid (Own w.heap.size v2 C n u) := by
      rcases hrr with ⟨h1, _⟩ | ⟨u', C, q, h1, h2, h3, h4⟩
      · cases h1
      · injection h1 with h1
        subst h1
        exact ⟨C, q, h2, h3, Lib.hid (h4.less (by omega))⟩
    clear hrr hb2
    go_wp2_with fail
    go_ret2
    have HBB := HB.out.trans (((HV2.out.mono HB.out.size)).trans (HB2.out.mono (by omega)))
    exact ⟨C, q, by rw [HL.out, HC.out, HUL.out]; rfl, by rw [HL.out, HUL.out]; exact HO.out, HBB⟩

end Go.Proofs.Ytincppklphahpaa
