/- Contracts: the zero multivector, blades, vectors. Conditions stand in each theorem. -/
import Derived.Test.YtincppklphahpaaLists
import Derived.Test.YtincppklphahpaaMark
namespace Go.Proofs.Ytincppklphahpaa
open Go.RowKit
set_option linter.unusedVariables false

theorem toNat_pow (n : Nat) : ((2 : Int) ^ n).toNat = 2 ^ n := by rw [ipow_cast]; exact Int.toNat_natCast _
theorem make_pow {n : Nat} (hn : n ≤ 6) (w : World) : (Instr.makeSlice 22 (.int .i64 (2 ^ n)) (.int .i64 (2 ^ n))).run Try.prog w = .ok (.slice (some ⟨w.heap.size, 0, none⟩) (2 ^ n) (2 ^ n)) (w.alloc (.cells (madeCells #[.int .i64 0] (2 ^ n)) 2)) := by
  have h := pow_le6 hn
  rw [ipow_cast]
  exact run_make_row' (P := Try.prog) 22 2 (.int .i64 0) 8 Try.underlying22 int_info rfl .i64 .i64 (2 ^ n) (by omega) (by omega) w
theorem own_zeros (w : World) (n : Nat) (hn : n ≤ maxLen) (b : Nat) (hb : b = w.heap.size) (t : TypeId) (B : Nat) (hB : B ≤ b) : Own B (w.alloc (.cells (madeCells #[.int .i64 0] n) t)) (some ⟨b, 0, none⟩) n (List.replicate n 0) := by
  subst hb
  exact Own.of_row (World.rowIs_made w (.int .i64 0) n t) (by simp) hn hB (fun i x hi => by
    have h := List.mem_of_getElem? hi
    rw [(List.mem_replicate.1 h).2])
theorem Own.set_ {w : World} {B n b off j : Nat} {xs : List Int} (h : Own B w (some ⟨b, off, none⟩) n xs) (hj : j < n) (v : Int) : Own B (w.setCell ⟨b, off + j, none⟩ (.int .i64 v)) (some ⟨b, off, none⟩) n (xs.set j v) := by
  have h1 := (OwnIn.of h).set_ hj v
  exact ⟨h1.1, h1.2.1, fun hn => by
    obtain ⟨b', off', e, h2, h3, h4, h5⟩ := h1.2.2.2 hn
    exact ⟨b', off', e, h2, by simpa [World.setCell] using h3, h4, h5⟩⟩
theorem Own.fresh_set {w w' : World} {b off j : Nat} (hb : Below w.heap.size w w') (h : w.heap.size ≤ b) (v : Value) : Below w.heap.size w (w'.setCell ⟨b, off + j, none⟩ v) := hb.setCell h v

theorem Space_nothing (p : Int) (A : Option Addr) (n c : Nat) (w : World) (hn : n ≤ 6) : Calls Try.prog 88 #[.agg #[.int .i64 p, .slice A n c]] w fun e w' => ∃ b, e = .returned (.slice (some ⟨b, 0, none⟩) (2 ^ n) (2 ^ n)) ∧ Own w.heap.size w' (some ⟨b, 0, none⟩) (2 ^ n) (List.replicate (2 ^ n) 0) ∧ Below w.heap.size w w' := by
  have hmk := make_pow hn
  obtain ⟨g0, g1, g2⟩ := ipow_le6 hn
  have g3 := pow_le6 hn
  have g4 : 1 ≤ (2 : Nat) ^ n := Nat.one_le_two_pow
  have H2 := Lib.hid (show Below w.heap.size w (w.alloc (.cells #[.int .i64 p, .slice A n c] 28)) from (Below.refl _ _).alloc (Nat.le_refl _) _)
  go_enter Try.func88, Try.ntmps88
  have c0 : (w.alloc (.cells #[.int .i64 p, .slice A n c] 28)).cell? ⟨w.heap.size, 0, none⟩ = some (.int .i64 p) := by simp [go_sem]
  have c1 : (w.alloc (.cells #[.int .i64 p, .slice A n c] 28)).cell? ⟨w.heap.size, 1, none⟩ = some (.slice A n c) := by simp [go_sem]
  have HW := Lib.hid (Below.refl (w.alloc (.cells #[.int .i64 p, .slice A n c] 28)).heap.size (w.alloc (.cells #[.int .i64 p, .slice A n c] 28)))
  go_wp2_with fail
  refine (Space_dim _ _ _ _ _).mono ?_
  rintro e v ⟨rfl, hb⟩
  replace c0 := keep_cell hb c0
  replace c1 := keep_cell hb c1
  replace HW := Lib.hid (below_then HW.out hb)
  clear hb
  go_wp2
  go_ret
  exact ⟨_, rfl, own_zeros _ _ (by unfold maxLen; omega) _ rfl _ _ (by have := (H2.out.trans (HW.out.mono H2.out.size)).size; omega), (H2.out.trans (HW.out.mono H2.out.size)).alloc ((H2.out.trans (HW.out.mono H2.out.size)).size) _⟩

theorem spec_l04Zero (p : Int) (A : Option Addr) (n c : Nat) (w : World) (hn : n ≤ 6) : Calls Try.prog 51 #[.agg #[.int .i64 p, .slice A n c]] w fun e w' => ∃ b, e = .returned (.slice (some ⟨b, 0, none⟩) (2 ^ n) (2 ^ n)) ∧ Own w.heap.size w' (some ⟨b, 0, none⟩) (2 ^ n) (List.replicate (2 ^ n) 0) ∧ Below w.heap.size w w' := by
  have hmk := make_pow hn
  obtain ⟨g0, g1, g2⟩ := ipow_le6 hn
  have g3 := pow_le6 hn
  have g4 : 1 ≤ (2 : Nat) ^ n := Nat.one_le_two_pow
  have H2 := Lib.hid (show Below w.heap.size w (w.alloc (.cells #[.int .i64 p, .slice A n c] 28)) from (Below.refl _ _).alloc (Nat.le_refl _) _)
  go_enter Try.func51, Try.ntmps51
  have c0 : (w.alloc (.cells #[.int .i64 p, .slice A n c] 28)).cell? ⟨w.heap.size, 0, none⟩ = some (.int .i64 p) := by simp [go_sem]
  have c1 : (w.alloc (.cells #[.int .i64 p, .slice A n c] 28)).cell? ⟨w.heap.size, 1, none⟩ = some (.slice A n c) := by simp [go_sem]
  have HW := Lib.hid (Below.refl (w.alloc (.cells #[.int .i64 p, .slice A n c] 28)).heap.size (w.alloc (.cells #[.int .i64 p, .slice A n c] 28)))
  go_wp2_with fail
  refine (spec_l04Size _ _ _ _ _ hn).mono ?_
  rintro e v ⟨rfl, hb⟩
  replace c0 := keep_cell hb c0
  replace c1 := keep_cell hb c1
  replace HW := Lib.hid (below_then HW.out hb)
  clear hb
  go_wp2
  go_ret
  exact ⟨_, rfl, own_zeros _ _ (by unfold maxLen; omega) _ rfl _ _ (by have := (H2.out.trans (HW.out.mono H2.out.size)).size; omega), (H2.out.trans (HW.out.mono H2.out.size)).alloc ((H2.out.trans (HW.out.mono H2.out.size)).size) _⟩

theorem Space_blade (p : Int) (A : Option Addr) (n c : Nat) (j : Nat) (w : World) (hn : n ≤ 6) (hj : j < 2 ^ n) : Calls Try.prog 54 #[.agg #[.int .i64 p, .slice A n c], .int .i64 j] w fun e w' => ∃ b, e = .returned (.slice (some ⟨b, 0, none⟩) (2 ^ n) (2 ^ n)) ∧ Own w.heap.size w' (some ⟨b, 0, none⟩) (2 ^ n) ((List.replicate (2 ^ n) 0).set j 1) ∧ Below w.heap.size w w' := by
  have hmk := make_pow hn
  obtain ⟨g0, g1, g2⟩ := ipow_le6 hn
  have g3 := pow_le6 hn
  have g4 : 1 ≤ (2 : Nat) ^ n := Nat.one_le_two_pow
  have H2 := Lib.hid (show Below w.heap.size w (w.alloc (.cells #[.int .i64 p, .slice A n c] 28)) from (Below.refl _ _).alloc (Nat.le_refl _) _)
  go_enter Try.func54, Try.ntmps54
  have c0 : (w.alloc (.cells #[.int .i64 p, .slice A n c] 28)).cell? ⟨w.heap.size, 0, none⟩ = some (.int .i64 p) := by simp [go_sem]
  have c1 : (w.alloc (.cells #[.int .i64 p, .slice A n c] 28)).cell? ⟨w.heap.size, 1, none⟩ = some (.slice A n c) := by simp [go_sem]
  have HW := Lib.hid (Below.refl (w.alloc (.cells #[.int .i64 p, .slice A n c] 28)).heap.size (w.alloc (.cells #[.int .i64 p, .slice A n c] 28)))
  go_wp2_with fail
  refine (Space_nothing _ _ _ _ _ hn).mono ?_
  rintro e v ⟨b, rfl, ho, hb⟩
  have HO := Lib.hid (ho.less (B' := w.heap.size) (by have := (H2.out.trans (HW.out.mono H2.out.size)).size; omega))
  have hB := ho.2.2 (by omega)
  clear ho
  replace c0 := keep_cell hb c0
  replace c1 := keep_cell hb c1
  replace HW := Lib.hid (below_then HW.out hb)
  clear hb
  obtain ⟨b', off', e', hb1, hb2, hcl, hfz⟩ := hB
  injection e' with e'
  injection e' with e1 e2
  subst e1 e2
  have hcell := hcl j 0 (by rw [List.getElem?_replicate, if_pos (by omega)])
  have hfr := hfz j (by omega)
  clear hcl hfz
  have hb3 : w.heap.size ≤ b := by have := hb1; have := H2.out.size; omega
  simp only [Nat.zero_add] at hcell hfr
  go_wp2
  go_ret
  refine ⟨b, rfl, ?_, (H2.out.trans (HW.out.mono H2.out.size)).setCell hb3 _⟩
  have := HO.out.set_ (j := j) (by omega) 1
  simpa only [Nat.zero_add] using this

theorem spec_l05Top (p : Int) (A : Option Addr) (n c : Nat)  (w : World) (hn : n ≤ 6)  : Calls Try.prog 46 #[.agg #[.int .i64 p, .slice A n c], .int .i64 1] w fun e w' => ∃ b, e = .returned (.slice (some ⟨b, 0, none⟩) (2 ^ n) (2 ^ n)) ∧ Own w.heap.size w' (some ⟨b, 0, none⟩) (2 ^ n) ((List.replicate (2 ^ n) 0).set (2 ^ n - 1) 1) ∧ Below w.heap.size w w' := by
  have hmk := make_pow hn
  obtain ⟨g0, g1, g2⟩ := ipow_le6 hn
  have g3 := pow_le6 hn
  have g4 : 1 ≤ (2 : Nat) ^ n := Nat.one_le_two_pow
  have H2 := Lib.hid (show Below w.heap.size w (w.alloc (.cells #[.int .i64 p, .slice A n c] 28)) from (Below.refl _ _).alloc (Nat.le_refl _) _)
  have hj : 2 ^ n - 1 < 2 ^ n := by omega
  go_enter Try.func46, Try.ntmps46
  have c0 : (w.alloc (.cells #[.int .i64 p, .slice A n c] 28)).cell? ⟨w.heap.size, 0, none⟩ = some (.int .i64 p) := by simp [go_sem]
  have c1 : (w.alloc (.cells #[.int .i64 p, .slice A n c] 28)).cell? ⟨w.heap.size, 1, none⟩ = some (.slice A n c) := by simp [go_sem]
  have HW := Lib.hid (Below.refl (w.alloc (.cells #[.int .i64 p, .slice A n c] 28)).heap.size (w.alloc (.cells #[.int .i64 p, .slice A n c] 28)))
  go_wp2_with fail
  refine (spec_l04Zero _ _ _ _ _ hn).mono ?_
  rintro e v ⟨b, rfl, ho, hb⟩
  have HO := Lib.hid (ho.less (B' := w.heap.size) (by have := (H2.out.trans (HW.out.mono H2.out.size)).size; omega))
  have hB := ho.2.2 (by omega)
  clear ho
  replace c0 := keep_cell hb c0
  replace c1 := keep_cell hb c1
  replace HW := Lib.hid (below_then HW.out hb)
  clear hb
  obtain ⟨b', off', e', hb1, hb2, hcl, hfz⟩ := hB
  injection e' with e'
  injection e' with e1 e2
  subst e1 e2
  have hcell := hcl (2 ^ n - 1) 0 (by rw [List.getElem?_replicate, if_pos (by omega)])
  have hfr := hfz (2 ^ n - 1) (by omega)
  clear hcl hfz
  have hb3 : w.heap.size ≤ b := by have := hb1; have := H2.out.size; omega
  simp only [Nat.zero_add] at hcell hfr
  rw [← toNat_pow] at hcell hfr
  go_wp2
  simp only [toNat_pow]
  go_ret
  refine ⟨b, rfl, ?_, (H2.out.trans (HW.out.mono H2.out.size)).setCell hb3 _⟩
  have := HO.out.set_ (j := (2 ^ n - 1)) (by omega) 1
  simpa only [Nat.zero_add] using this

end Go.Proofs.Ytincppklphahpaa
