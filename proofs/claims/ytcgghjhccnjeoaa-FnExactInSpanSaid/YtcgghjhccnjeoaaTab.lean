/- Words for a table of rows whose cells are overwritten in place. No condition. -/
import Derived.Test.YtcgghjhccnjeoaaGrid
import Derived.Test.YtcgghjhccnjeoaaElimR
namespace Go.Proofs.Ytcgghjhccnjeoaa
open Go.RowKit
set_option linter.unusedVariables false

theorem plusR_eq {p k : Int} {a b : List Int} (h : a.length = b.length) : plusL p k a b = plusR p a b k := by
  unfold plusL plusR
  refine List.ext_getElem? fun i => ?_
  by_cases hi : i < a.length
  · rw [List.getElem?_map, List.getElem?_range hi, List.getElem?_zipWith, ent_get hi, ent_get (show i < b.length by omega)]
    rfl
  · rw [List.getElem?_eq_none (by simp; omega), List.getElem?_eq_none (by simp; omega)]
theorem scaleR_eq (p k : Int) (a : List Int) : scaleL p k a = scaleR p a k := rfl

/-- block g holds m slices of n numbers each, which read as the rows -/
structure Tab (B : Nat) (w : World) (g m n : Nat) (rows : List (List Int)) (A : Nat → Option Addr) (c : Nat → Nat) : Prop where
  len : rows.length = m
  gB : B ≤ g
  glt : g < w.heap.size
  cell : ∀ j, j < m → w.cell? ⟨g, j, none⟩ = some (.slice (A j) n (c j))
  fr : ∀ j, j < m → w.frozen? ⟨g, j, none⟩ = false
  own : ∀ j, j < m → Own B w (A j) n (rowAt rows j)
  ne : ∀ j, j < m → ∀ a, A j = some a → a.block ≠ g
/-- no two of the rows share a block -/
def Dst (m : Nat) (A : Nat → Option Addr) : Prop := ∀ i j, i < m → j < m → i ≠ j → ∀ a b, A i = some a → A j = some b → a.block ≠ b.block
def upd {α : Type} (f : Nat → α) (j : Nat) (x : α) (i : Nat) : α := if i = j then x else f i
theorem upd_eq {α : Type} (f : Nat → α) (j : Nat) (x : α) : upd f j x j = x := if_pos rfl
theorem upd_ne {α : Type} {f : Nat → α} {j i : Nat} {x : α} (h : i ≠ j) : upd f j x i = f i := if_neg h
theorem rowAt_set {rows : List (List Int)} {j i : Nat} {r : List Int} (hj : j < rows.length) : rowAt (rows.set j r) i = if i = j then r else rowAt rows i := by
  unfold rowAt
  by_cases h : i = j
  · subst h; rw [if_pos rfl, List.getElem?_set_self hj]; rfl
  · rw [if_neg h, List.getElem?_set_ne (fun e => h e.symm)]

section
variable {B g m n : Nat} {w w' : World} {rows : List (List Int)} {A : Nat → Option Addr} {c : Nat → Nat}
theorem Tab.keep (h : Tab B w g m n rows A c) (hb : Below w.heap.size w w') : Tab B w' g m n rows A c :=
  ⟨h.len, h.gB, Nat.lt_of_lt_of_le h.glt hb.size, fun j hj => (hb.cell (p := ⟨g, j, none⟩) h.glt).trans (h.cell j hj), fun j hj => (hb.frozen (p := ⟨g, j, none⟩) h.glt).trans (h.fr j hj), fun j hj => (h.own j hj).keep hb, h.ne⟩
theorem Tab.drewN (h : Tab B w g m n rows A c) (k : Nat) : Tab B (w.drewN k) g m n rows A c := h.keep (below_drewN (Below.refl _ _) k)
theorem Tab.drew (h : Tab B w g m n rows A c) : Tab B w.drew g m n rows A c := ⟨h.len, h.gB, h.glt, h.cell, h.fr, h.own, h.ne⟩
theorem Tab.lt (h : Tab B w g m n rows A c) (hn : 0 < n) {j : Nat} (hj : j < m) : ∃ b off, A j = some ⟨b, off, none⟩ ∧ b < w.heap.size ∧ b ≠ g := by
  obtain ⟨b, off, e, _, hl, _⟩ := (h.own j hj).2.2 hn
  exact ⟨b, off, e, hl, h.ne j hj _ e⟩
/-- one cell of a row -/
theorem Tab.ent (h : Tab B w g m n rows A c) {j k : Nat} (hj : j < m) (hk : k < n) : ∃ b off, A j = some ⟨b, off, none⟩ ∧ b < w.heap.size ∧ w.cell? ⟨b, off + k, none⟩ = some (.int .i64 (ent (rowAt rows j) k)) := by
  have ho := h.own j hj
  obtain ⟨b, off, e, _, hl, hc, _⟩ := ho.2.2 (by omega)
  exact ⟨b, off, e, hl, hc k _ (ent_get (by have := ho.1; omega))⟩
theorem Own.farBlk {v : World} {O : Option Addr} {xs : List Int} {k : Nat} {x : Value} (h : Own B v O n xs) (hg : ∀ a, O = some a → a.block ≠ g) : Own B (v.setCell ⟨g, k, none⟩ x) O n xs := ⟨h.1, h.2.1, fun hn => by
  obtain ⟨b, off, e, hB, hl, hc, hf⟩ := h.2.2 hn
  have hne : b ≠ g := hg _ e
  exact ⟨b, off, e, hB, by simpa [World.setCell] using hl, fun j x hj => (World.cell?_setCell_far v ⟨g, k, none⟩ ⟨b, off + j, none⟩ _ (fun e => hne e.symm)).trans (hc j x hj), fun j hj => by rw [World.frozen?_setCell]; exact hf j hj⟩⟩
/-- a row is laid into cell k -/
theorem Tab.put (h : Tab B w g m n rows A c) {k q : Nat} {O : Option Addr} {v : List Int} (hk : k < m) (ho : Own B w O n v) (hg : ∀ a, O = some a → a.block ≠ g) : Tab B (w.setCell ⟨g, k, none⟩ (.slice O n q)) g m n (rows.set k v) (upd A k O) (upd c k q) := by
  refine ⟨by rw [List.length_set]; exact h.len, h.gB, by simpa [World.setCell] using h.glt, fun j hj => ?_, fun j hj => by rw [World.frozen?_setCell]; exact h.fr j hj, fun j hj => ?_, fun j hj a ha => ?_⟩
  · by_cases e : j = k
    · subst e
      rw [upd_eq, upd_eq]
      exact World.cell?_setCell_same _ _ _ (h.cell j hj)
    · rw [upd_ne e, upd_ne e, World.cell?_setCell_other _ _ _ _ (by intro h; injection h with _ h; exact e h.symm)]
      exact h.cell j hj
  · rw [rowAt_set (by rw [h.len]; exact hk)]
    by_cases e : j = k
    · subst e
      rw [upd_eq, if_pos rfl]
      exact ho.farBlk hg
    · rw [upd_ne e, if_neg e]
      exact (h.own j hj).farBlk (h.ne j hj)
  · by_cases e : j = k
    · subst e
      rw [upd_eq] at ha
      exact hg a ha
    · rw [upd_ne e] at ha
      exact h.ne j hj a ha
/-- every row's block lies below a number -/
theorem Tab.blk (h : Tab B w g m n rows A c) (hn : 0 < n) : ∀ j, j < m → ∀ a, A j = some a → a.block < w.heap.size := fun j hj a ha => by
  obtain ⟨b, off, e, hl, _⟩ := h.lt hn hj
  rw [e] at ha
  injection ha with ha
  subst ha
  exact hl
theorem Dst.fresh {N k : Nat} {O : Option Addr} (h : Dst m A) (hb : ∀ j, j < m → ∀ a, A j = some a → a.block < N) (ho : ∀ a, O = some a → N ≤ a.block) : Dst m (upd A k O) := fun i j hi hj hij a b ha hb' => by
  by_cases e1 : i = k
  · subst e1
    rw [upd_eq] at ha
    rw [upd_ne (fun e => hij e.symm)] at hb'
    have := ho a ha
    have := hb j hj b hb'
    omega
  · rw [upd_ne e1] at ha
    by_cases e2 : j = k
    · subst e2
      rw [upd_eq] at hb'
      have := ho b hb'
      have := hb i hi a ha
      omega
    · rw [upd_ne e2] at hb'
      exact h i j hi hj hij a b ha hb'
/-- cell f takes what d holds, d what is new -/
theorem Dst.move {N d f : Nat} {O : Option Addr} (h : Dst m A) (hd : d < m) (hb : ∀ j, j < m → ∀ a, A j = some a → a.block < N) (ho : ∀ a, O = some a → N ≤ a.block) : Dst m (upd (upd A f (A d)) d O) := fun i j hi hj hij a b ha hb' => by
  have key : ∀ i, i < m → i ≠ d → ∀ a, upd (upd A f (A d)) d O i = some a → a.block < N ∧ ((i = f ∧ A d = some a) ∨ (i ≠ f ∧ A i = some a)) := fun i hi hid a ha => by
    rw [upd_ne hid] at ha
    by_cases e : i = f
    · subst e; rw [upd_eq] at ha; exact ⟨hb d hd a ha, .inl ⟨rfl, ha⟩⟩
    · rw [upd_ne e] at ha; exact ⟨hb i hi a ha, .inr ⟨e, ha⟩⟩
  by_cases e1 : i = d
  · have e2 : j ≠ d := fun e => hij (e1.trans e.symm)
    subst e1
    rw [upd_eq] at ha
    have h1 := ho a ha
    have h2 := (key j hj e2 b hb').1
    omega
  · by_cases e2 : j = d
    · subst e2
      rw [upd_eq] at hb'
      have h1 := ho b hb'
      have h2 := (key i hi e1 a ha).1
      omega
    · rcases (key i hi e1 a ha).2 with ⟨h1, h2⟩ | ⟨h1, h2⟩ <;> rcases (key j hj e2 b hb').2 with ⟨h3, h4⟩ | ⟨h3, h4⟩
      · exact absurd (h1.trans h3.symm) hij
      · exact h d j hd hj (fun e => e2 e.symm) a b h2 h4
      · exact h i d hi hd e1 a b h2 h4
      · exact h i j hi hj hij a b h2 h4
/-- two cells exchanged -/
theorem Dst.swap {d f : Nat} (h : Dst m A) (hd : d < m) (hf : f < m) : Dst m (upd (upd A d (A f)) f (A d)) := by
  have key : ∀ i, i < m → ∃ i', i' < m ∧ upd (upd A d (A f)) f (A d) i = A i' ∧ ((i = f ∧ i' = d) ∨ (i = d ∧ i ≠ f ∧ i' = f) ∨ (i ≠ d ∧ i ≠ f ∧ i' = i)) := fun i hi => by
    by_cases e : i = f
    · subst e; exact ⟨d, hd, upd_eq _ _ _, .inl ⟨rfl, rfl⟩⟩
    · by_cases e2 : i = d
      · subst e2; exact ⟨f, hf, by rw [upd_ne e, upd_eq], .inr (.inl ⟨rfl, e, rfl⟩)⟩
      · exact ⟨i, hi, by rw [upd_ne e, upd_ne e2], .inr (.inr ⟨e2, e, rfl⟩)⟩
  intro i j hi hj hij a b ha hb
  obtain ⟨i', hi', e1, k1⟩ := key i hi
  obtain ⟨j', hj', e2, k2⟩ := key j hj
  rw [e1] at ha
  rw [e2] at hb
  exact h i' j' hi' hj' (by omega) a b ha hb
end
end Go.Proofs.Ytcgghjhccnjeoaa
