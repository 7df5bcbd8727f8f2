/- Words for memory and small helpers, used by every walk of this seat. No condition. -/
import Derived.Test.YtcgghjhccnjeoaaChecked
import Derived.Test.YtcgghjhccnjeoaaPlain
import Derived.WalkKit
import Derived.ProofKit
import Derived.OpenShut
import Derived.ShutString
import Derived.ChangeOld
import Derived.Below
import Derived.WalkLawsBesides
import Derived.WalkSpells
import Derived.Outline
import Derived.Lib.Hide
import Derived.Deep.DeepFit
import Derived.Deep.DeepMust
import Derived.Deep.LoopGhost
import Derived.Deep.QuietTactic
import Derived.BigQuiet
namespace Go.Proofs.Ytcgghjhccnjeoaa
open Go.RowKit

/-- a slice value's place and length read as a list of integers in a world -/
def Ints (w : World) (A : Option Addr) (n : Nat) (xs : List Int) : Prop :=
  xs.length = n ∧ n ≤ maxLen ∧ (0 < n → ∃ b off, A = some ⟨b, off, none⟩ ∧ b < w.heap.size ∧ ∀ j x, xs[j]? = some x → w.cell? ⟨b, off + j, none⟩ = some (.int .i64 x))

theorem Ints.nil (w : World) : Ints w none 0 [] := ⟨rfl, by unfold maxLen; omega, fun h => absurd h (by omega)⟩
theorem Ints.keep {w w' : World} {A : Option Addr} {n : Nat} {xs : List Int} (h : Ints w A n xs) (hb : Below w.heap.size w w') : Ints w' A n xs :=
  ⟨h.1, h.2.1, fun hn => by
    obtain ⟨b, off, e, hl, hc⟩ := h.2.2 hn
    exact ⟨b, off, e, Nat.lt_of_lt_of_le hl hb.size, fun j x hj => (hb.cell (p := ⟨b, off + j, none⟩) hl).trans (hc j x hj)⟩⟩
theorem Ints.at_ {w : World} {A : Option Addr} {n k : Nat} {xs : List Int} (h : Ints w A n xs) (hk : k < n) :
    ∃ b off x, A = some ⟨b, off, none⟩ ∧ b < w.heap.size ∧ xs[k]? = some x ∧ w.cell? ⟨b, off + k, none⟩ = some (.int .i64 x) := by
  obtain ⟨b, off, e, hl, hc⟩ := h.2.2 (by omega)
  have hx : xs[k]? = some (xs[k]'(by have := h.1; omega)) := List.getElem?_eq_getElem _
  exact ⟨b, off, _, e, hl, hx, hc k _ hx⟩
theorem Ints.of_row {w : World} {x : Addr} {len cap : Nat} {zs : List Int} (hl : len ≤ cap) (hm : cap ≤ maxLen) (hz : zs.length = cap) (hc : ∀ i, i < zs.length → w.cell? (x.add i) = some (.int .i64 (zs.getD i 0))) : Ints w (some x) len (zs.take len) := by
  refine ⟨by rw [List.length_take]; omega, Nat.le_trans hl hm, fun hn => ?_⟩
  obtain ⟨b, off, rfl, hcell⟩ := ints_at hc (by omega)
  have h0 := hcell 0 (by omega)
  refine ⟨b, off, rfl, World.block_lt_of_cell? _ _ h0, fun j y hj => ?_⟩
  have hjl : j < len := by
    have := (List.getElem?_eq_some_iff.1 hj).1
    rw [List.length_take] at this; omega
  rw [List.getElem?_take_of_lt hjl] at hj
  rw [hcell j (by omega)]
  simp [List.getD, hj]
theorem Ints.mk1 (w : World) (a : Int) (t : TypeId) : Ints (w.alloc (.cells #[.int .i64 a] t)) (some ⟨w.heap.size, 0, none⟩) 1 [a] :=
  ⟨rfl, by unfold maxLen; omega, fun _ => ⟨_, 0, rfl, by simp, fun j x hj => by
    rcases j with _ | j
    · simp at hj; subst hj; simp [go_sem]
    · simp at hj⟩⟩
theorem Ints.mk2 (w : World) (a b : Int) (t : TypeId) : Ints (w.alloc (.cells #[.int .i64 a, .int .i64 b] t)) (some ⟨w.heap.size, 0, none⟩) 2 [a, b] :=
  ⟨rfl, by unfold maxLen; omega, fun _ => ⟨_, 0, rfl, by simp, fun j x hj => by
    rcases j with _ | _ | j
    · simp at hj; subst hj; simp [go_sem]
    · simp at hj; subst hj; simp [go_sem]
    · simp at hj⟩⟩
theorem ret_pair {k : IntKind} {a b c : Int} (h : a = b) : Ending.returned (.tuple #[.int k a, .int k c]) = .returned (.tuple #[.int k b, .int k c]) := by rw [h]
theorem ret_mid {k : IntKind} {x a b c : Int} (h : a = b) : Ending.returned (.tuple #[.int k x, .int k a, .int k c]) = .returned (.tuple #[.int k x, .int k b, .int k c]) := by rw [h]
theorem ret_int {k : IntKind} {a b : Int} (h : a = b) : Ending.returned (.int k a) = .returned (.int k b) := by rw [h]
theorem ret_bool {a b : Bool} (h : a = b) : Ending.returned (.bool a) = .returned (.bool b) := by rw [h]
end Go.Proofs.Ytcgghjhccnjeoaa
