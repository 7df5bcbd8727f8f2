/- A list of lists handed over reads as lists. Conditions stand in each theorem. -/
import Derived.Test.YtcgghjhccnjeoaaLL
import Derived.Deep.Matrix
namespace Go.Proofs.Ytcgghjhccnjeoaa
open Go.RowKit Go.ChangeShapes Go.WideShapes Go.ChangeAt
set_option linter.unusedVariables false

theorem cells_at {w : World} {a : Addr} {cap : Nat} {F : Nat → Value} (hc : ∀ i, i < cap → w.cell? (a.add i) = some (F i)) (h0 : 0 < cap) : ∃ b off, a = ⟨b, off, none⟩ ∧ b < w.heap.size ∧ ∀ i, i < cap → w.cell? ⟨b, off + i, none⟩ = some (F i) := by
  obtain ⟨b, off, s⟩ := a
  have hs : s = none := by
    have := hc 0 h0
    cases s with
    | none => rfl
    | some x =>
      simp only [Addr.add, if_true, World.cell?] at this
      split at this <;> simp at this
  subst hs
  have h2 : ∀ i, i < cap → w.cell? ⟨b, off + i, none⟩ = some (F i) := fun i hi => by
    have := hc i hi
    unfold Addr.add at this
    by_cases h : i = 0
    · subst h; simpa using this
    · simpa [if_neg h] using this
  exact ⟨b, off, rfl, World.block_lt_of_cell? _ _ (h2 0 h0), h2⟩

theorem LL.of_rows {w : World} {a : Addr} {len cap base : Nat} {A : Nat → Option Addr} {L C : Nat → Nat} {Z : Nat → List Int} (hl : len ≤ cap) (hm : cap ≤ maxLen)
    (h : ∀ r, r < cap → w.cell? (a.add r) = some (.slice (A r) (L r) (C r)) ∧ L r ≤ C r ∧ C r ≤ maxLen ∧ (Z r).length = C r ∧ (∀ n ∈ Z r, (Lit.int .i64 n).wf = true) ∧ (A r = none → C r = 0) ∧
        ∀ a', A r = some a' → base ≤ a'.block ∧ ∀ c, c < C r → w.cell? (a'.add c) = some (.int .i64 ((Z r).getD c 0))) :
    LL w (some a) len ((List.range len).map fun r => (Z r).take (L r)) := by
  refine ⟨by simp, Nat.le_trans hl hm, fun h0 => ?_⟩
  obtain ⟨b, off, rfl, hb, hc⟩ := cells_at (fun i hi => (h i hi).1) (by omega)
  refine ⟨b, off, rfl, hb, fun j hj => ?_⟩
  obtain ⟨_, h2, h3, h4, _, h6, h7⟩ := h j (by omega)
  have hr : rowAt ((List.range len).map fun r => (Z r).take (L r)) j = (Z j).take (L j) := by
    unfold rowAt
    simp [hj]
  have hrl : ((Z j).take (L j)).length = L j := by rw [List.length_take]; omega
  rw [hr, hrl]
  refine ⟨A j, C j, hc j (by omega), ?_⟩
  cases hA : A j with
  | none =>
    have := h6 hA
    have hL : L j = 0 := by omega
    exact ⟨hrl, by omega, fun h => absurd h (by omega)⟩
  | some a' => exact Ints.of_row h2 h3 h4 (fun i hi => (h7 a' hA).2 i (by omega))
end Go.Proofs.Ytcgghjhccnjeoaa
