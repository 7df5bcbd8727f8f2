/- Contracts: the laws' own helpers over slices of numbers (copy, compare). Conditions stand in each theorem. -/
import Derived.Test.YtcgghjhccnjeoaaDoorBase
import Derived.Deep.OwnRows
namespace Go.Proofs.YtcgghjhccnjeoaaDoor
open Go.RowKit

theorem below_then {w v v' : World} (h : Below w.heap.size w v) (k : Below v.heap.size v v') : Below w.heap.size w v' := h.trans (k.mono h.size)
theorem keep_cell {w w1 : World} {a : Addr} {v : Value} (hb : Below w.heap.size w w1) (h : w.cell? a = some v) : w1.cell? a = some v := (hb.cell (World.block_lt_of_cell? _ _ h)).trans h

/-- a slice of the call's own: from block B on, read as a list, not frozen -/
def Own (B : Nat) (w : World) (A : Option Addr) (n : Nat) (xs : List Int) : Prop :=
  xs.length = n ∧ n ≤ maxLen ∧ (0 < n → ∃ b off, A = some ⟨b, off, none⟩ ∧ B ≤ b ∧ b < w.heap.size ∧ (∀ j x, xs[j]? = some x → w.cell? ⟨b, off + j, none⟩ = some (.int .i64 x)) ∧ ∀ j, j < n → w.frozen? ⟨b, off + j, none⟩ = false)

section
variable {w w' : World} {A : Option Addr} {n B B' : Nat} {xs : List Int}
theorem Own.ints (h : Own B w A n xs) : Ints w A n xs := ⟨h.1, h.2.1, fun hn => by
  obtain ⟨b, off, e, _, hl, hc, _⟩ := h.2.2 hn
  exact ⟨b, off, e, hl, hc⟩⟩
theorem Own.keep (h : Own B w A n xs) (hb : Below w.heap.size w w') : Own B w' A n xs := ⟨h.1, h.2.1, fun hn => by
  obtain ⟨b, off, e, hB, hl, hc, hf⟩ := h.2.2 hn
  exact ⟨b, off, e, hB, Nat.lt_of_lt_of_le hl hb.size, fun j x hj => (hb.cell (p := ⟨b, off + j, none⟩) hl).trans (hc j x hj), fun j hj => (hb.frozen (p := ⟨b, off + j, none⟩) hl).trans (hf j hj)⟩⟩
theorem Own.less (h : Own B w A n xs) (hB : B' ≤ B) : Own B' w A n xs := ⟨h.1, h.2.1, fun hn => by
  obtain ⟨b, off, e, hb, hl, hc, hf⟩ := h.2.2 hn
  exact ⟨b, off, e, by omega, hl, hc, hf⟩⟩
theorem Own.setFar (h : Own B w A n xs) {p : Addr} (hp : p.block < B) (v : Value) : Own B (w.setCell p v) A n xs := ⟨h.1, h.2.1, fun hn => by
  obtain ⟨b, off, e, hB, hl, hc, hf⟩ := h.2.2 hn
  exact ⟨b, off, e, hB, by simpa [World.setCell] using hl, fun j x hj => by rw [World.cell?_setCell_other _ _ _ _ (by intro h; subst h; simp at hp; omega)]; exact hc j x hj,
    fun j hj => by rw [World.frozen?_setCell]; exact hf j hj⟩⟩
theorem Own.drew (h : Own B w A n xs) : Own B w.drew A n xs := h
theorem Ints.drew (h : Ints w A n xs) : Ints w.drew A n xs := h
theorem Own.nil (B : Nat) (w : World) : Own B w none 0 [] := ⟨rfl, by unfold maxLen; omega, fun h => absurd h (by omega)⟩
end

theorem Own.of_row {w : World} {b n B : Nat} {t : TypeId} {f : Nat → Value} {xs : List Int} (h : w.rowIs b t n f) (hl : xs.length = n) (hm : n ≤ maxLen) (hB : B ≤ b) (hf : ∀ i x, xs[i]? = some x → f i = .int .i64 x) : Own B w (some ⟨b, 0, none⟩) n xs :=
  ⟨hl, hm, fun _ => ⟨b, 0, rfl, hB, h.lt, fun j x hj => by
    have hjn : j < n := by have := (List.getElem?_eq_some_iff.1 hj).1; omega
    rw [Nat.zero_add, h.cell hjn, hf j x hj], fun j _ => by rw [Nat.zero_add]; exact h.frozen j⟩⟩

theorem int_info : (Tryd.prog.info? 2).map (fun i => (i.zero, i.size, i.bytes)) = some (some (.int .i64 0), 1, 8) := by kernel_rfl

/-- what a copy of the list reads as after k rounds -/
def copyAt (xs : List Int) (k i : Nat) : Value := if i < k then .int .i64 (xs[i]?.getD 0) else .int .i64 0
theorem copyAt_step {xs : List Int} {k : Nat} {x : Int} (h : xs[k]? = some x) (i : Nat) : (if i = k then Value.int .i64 x else copyAt xs k i) = copyAt xs (k + 1) i := by
  unfold copyAt
  by_cases e : i = k
  · subst e; rw [if_pos rfl, if_pos (by omega), h]; rfl
  · rw [if_neg e]
    by_cases e2 : i < k
    · rw [if_pos e2, if_pos (by omega)]
    · rw [if_neg e2, if_neg (by omega)]

end Go.Proofs.YtcgghjhccnjeoaaDoor
