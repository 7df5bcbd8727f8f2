/- Contracts: a list of lists as argument; the codes of a space and lists. Conditions stand in each theorem. -/
import Derived.Test.YtcgghjhccnjeoaaMulti
namespace Go.Proofs.Ytcgghjhccnjeoaa
open Go.RowKit
set_option linter.unusedVariables false

/-- a slice of slices of integers read as a list of lists -/
def Lists (w : World) (L : Option Addr) (m : Nat) (vs : List (List Int)) : Prop :=
  vs.length = m ∧ m ≤ 1000 ∧ (0 < m → ∃ b off, L = some ⟨b, off, none⟩ ∧ b < w.heap.size ∧ ∀ j v, vs[j]? = some v → ∃ B n c, w.cell? ⟨b, off + j, none⟩ = some (.slice B n c) ∧ Ints w B n v)
theorem Lists.keep {w w' : World} {L : Option Addr} {m : Nat} {vs : List (List Int)} (h : Lists w L m vs) (hb : Below w.heap.size w w') : Lists w' L m vs :=
  ⟨h.1, h.2.1, fun hm => by
    obtain ⟨b, off, e, hl, hc⟩ := h.2.2 hm
    refine ⟨b, off, e, Nat.lt_of_lt_of_le hl hb.size, fun j v hj => ?_⟩
    obtain ⟨B, n, c, h1, h2⟩ := hc j v hj
    exact ⟨B, n, c, keep_cell hb h1, h2.keep hb⟩⟩
theorem Lists.at_ {w : World} {L : Option Addr} {m k : Nat} {vs : List (List Int)} (h : Lists w L m vs) (hk : k < m) :
    ∃ b off v B n c, L = some ⟨b, off, none⟩ ∧ vs[k]? = some v ∧ w.cell? ⟨b, off + k, none⟩ = some (.slice B n c) ∧ Ints w B n v := by
  obtain ⟨b, off, e, hl, hc⟩ := h.2.2 (by omega)
  have hx : vs[k]? = some (vs[k]'(by have := h.1; omega)) := List.getElem?_eq_getElem _
  obtain ⟨B, n, c, h1, h2⟩ := hc k _ hx
  exact ⟨b, off, _, B, n, c, e, hx, h1, h2⟩
theorem Lists.nil (w : World) : Lists w none 0 [] := ⟨rfl, by omega, fun h => absurd h (by omega)⟩
theorem Lists.mk1 {w : World} {B : Option Addr} {n c : Nat} {v : List Int} (t : TypeId) (b : Nat) (hb : b = w.heap.size) (h : Ints w B n v) : Lists (w.alloc (.cells #[.slice B n c] t)) (some ⟨b, 0, none⟩) 1 [v] :=
  ⟨rfl, by omega, fun _ => ⟨_, 0, rfl, by simp [hb], fun j u hj => by
    subst hb
    rcases j with _ | j
    · simp at hj; subst hj; exact ⟨B, n, c, by simp [go_sem], h.keep ((Below.refl _ _).alloc (Nat.le_refl _) _)⟩
    · simp at hj⟩⟩
theorem Lists.mk2 {w : World} {B C : Option Addr} {n c m d : Nat} {u v : List Int} (t : TypeId) (b : Nat) (hb : b = w.heap.size) (h : Ints w B n u) (k : Ints w C m v) : Lists (w.alloc (.cells #[.slice B n c, .slice C m d] t)) (some ⟨b, 0, none⟩) 2 [u, v] :=
  ⟨rfl, by omega, fun _ => ⟨_, 0, rfl, by simp [hb], fun j x hj => by
    subst hb
    rcases j with _ | _ | j
    · simp at hj; subst hj; exact ⟨B, n, c, by simp [go_sem], h.keep ((Below.refl _ _).alloc (Nat.le_refl _) _)⟩
    · simp at hj; subst hj; exact ⟨C, m, d, by simp [go_sem], k.keep ((Below.refl _ _).alloc (Nat.le_refl _) _)⟩
    · simp at hj⟩⟩
theorem all_step {p : Int} {N k : Nat} {v : List Int} {vs : List (List Int)} (hk : vs[k]? = some v) (h : (vs.take k).all (lstB p N) = true) (hv : lstB p N v = true) : (vs.take (k + 1)).all (lstB p N) = true := by
  rw [take_snoc hk, List.all_append, h]; simpa using hv
theorem all_bad {p : Int} {N k : Nat} {v : List Int} {vs : List (List Int)} (hk : vs[k]? = some v) (hv : lstB p N v = false) : vs.all (lstB p N) = false := by
  cases e : vs.all (lstB p N) with
  | false => rfl
  | true => have := List.all_eq_true.1 e _ (List.mem_of_getElem? hk); rw [hv] at this; cases this

end Go.Proofs.Ytcgghjhccnjeoaa
