/- Words for slices of slices of integers that a call makes: rows in blocks of their own. No condition. -/
import Derived.Test.YtcgghjhccnjeoaaVec
import Derived.Test.YtcgghjhccnjeoaaLists
import Derived.Test.YtcgghjhccnjeoaaBlade
namespace Go.Proofs.Ytcgghjhccnjeoaa
open Go.RowKit
set_option linter.unusedVariables false

theorem Own.grown {w w1 : World} {B n : Nat} {A : Option Addr} {v : List Int} {row : Option Nat} (h : Own B w A n v) (hg : w.grownBy w1 row) (hA : ∀ a, A = some a → row ≠ some a.block) : Own B w1 A n v :=
  ⟨h.1, h.2.1, fun hn => by
    obtain ⟨b, off, e, hB, hl, hc, hf⟩ := h.2.2 hn
    subst e
    have hne := hA _ rfl
    exact ⟨b, off, rfl, hB, Nat.lt_of_lt_of_le hl hg.size, fun j x hj => (hg.cell_far ⟨b, off + j, none⟩ hl (fun e => hne e.symm)).trans (hc j x hj), fun j hj => (hg.frozen_far ⟨b, off + j, none⟩ hl (fun e => hne e.symm)).trans (hf j hj)⟩⟩
theorem Ints.grown {w w1 : World} {n : Nat} {A : Option Addr} {v : List Int} {row : Option Nat} (h : Ints w A n v) (hg : w.grownBy w1 row) (hA : ∀ a, A = some a → row ≠ some a.block) : Ints w1 A n v :=
  ⟨h.1, h.2.1, fun hn => by
    obtain ⟨b, off, e, hl, hc⟩ := h.2.2 hn
    subst e
    have hne := hA _ rfl
    exact ⟨b, off, rfl, Nat.lt_of_lt_of_le hl hg.size, fun j x hj => (hg.cell_far ⟨b, off + j, none⟩ hl (fun e => hne e.symm)).trans (hc j x hj)⟩⟩

/-- the value o owns k slices cs, which read as the rows vs; each row lies in a block of its own, from B on, not frozen -/
structure RowsC (B : Nat) (w : World) (E : TypeId) (o : Value) (k : Nat) (vs : List (List Int)) (cs : List Value) : Prop where
  len : vs.length = k
  own : w.ownsRow B E 1 o k cs
  row : ∀ (j : Nat) (v : List Int), vs[j]? = some v → ∃ (A : Option Addr) (n c : Nat), cs[j]? = some (Value.slice A n c) ∧ n ≤ c ∧ c ≤ maxLen ∧ Own B w A n v ∧ ∀ a : Addr, A = some a → o.ownBlock ≠ some a.block ∧ a.block < w.heap.size
  dist : ∀ (i j : Nat) (a b : Addr) (n m c d : Nat), i ≠ j → cs[i]? = some (Value.slice (some a) n c) → cs[j]? = some (Value.slice (some b) m d) → a.block ≠ b.block

section
variable {B k n c : Nat} {w w1 : World} {E : TypeId} {o o' : Value} {vs : List (List Int)} {cs : List Value} {A : Option Addr} {v : List Int}
theorem RowsC.clen (h : RowsC B w E o k vs cs) : cs.length = k := by have := h.own.1; omega
theorem RowsC.keep (h : RowsC B w E o k vs cs) (hb : Below w.heap.size w w1) : RowsC B w1 E o k vs cs :=
  ⟨h.len, own_keep hb h.own, fun j v hj => by
    obtain ⟨A, n, c, h1, hc1, hc2, h2, h3⟩ := h.row j v hj
    exact ⟨A, n, c, h1, hc1, hc2, h2.keep hb, fun a ha => ⟨(h3 a ha).1, Nat.lt_of_lt_of_le (h3 a ha).2 hb.size⟩⟩, h.dist⟩
theorem RowsC.less {B' : Nat} (h : RowsC B w E o k vs cs) (hB : B' ≤ B) : RowsC B' w E o k vs cs :=
  ⟨h.len, by
    rcases h.own with ⟨h1, h2 | ⟨g, cap, cur, e1, e2, e3⟩⟩
    · exact ⟨h1, .inl h2⟩
    · exact ⟨h1, .inr ⟨g, cap, cur, e1, Nat.le_trans hB e2, e3⟩⟩, fun j v hj => by
    obtain ⟨A, n, c, h1, hc1, hc2, h2, h3⟩ := h.row j v hj
    exact ⟨A, n, c, h1, hc1, hc2, h2.less hB, h3⟩, h.dist⟩
theorem RowsC.push (h : RowsC B w E o k vs cs) (hv : Own B w A n v) (hc1 : n ≤ c) (hc2 : c ≤ maxLen) (hA : ∀ a, A = some a → o.ownBlock ≠ some a.block ∧ a.block < w.heap.size)
    (hd : ∀ a, A = some a → ∀ (j : Nat) b m d, cs[j]? = some (Value.slice (some b) m d) → b.block ≠ a.block) (hg : w.grownBy w1 o.ownBlock)
    (hown : w1.ownsRow B E 1 o' (k + 1) (cs ++ [.slice A n c])) (hat : o.ownBlock = o'.ownBlock ∨ ∃ H, o'.ownBlock = some H ∧ w.heap.size ≤ H) : RowsC B w1 E o' (k + 1) (vs ++ [v]) (cs ++ [.slice A n c]) := by
  have hlen := h.clen
  have far : ∀ a : Addr, o.ownBlock ≠ some a.block ∧ a.block < w.heap.size → o'.ownBlock ≠ some a.block ∧ a.block < w1.heap.size := fun a ⟨h1, h2⟩ => by
    refine ⟨?_, Nat.lt_of_lt_of_le h2 hg.size⟩
    rcases hat with e | ⟨H, e1, e2⟩
    · rw [← e]; exact h1
    · rw [e1]; intro e; injection e with e; omega
  refine ⟨by rw [List.length_append, h.len]; rfl, hown, fun j u hj => ?_, fun i j a b n' m c' d hij hi hj => ?_⟩
  · by_cases hjk : j < vs.length
    · rw [List.getElem?_append_left hjk] at hj
      obtain ⟨A', n', c', h1, hd1, hd2, h2, h3⟩ := h.row j u hj
      exact ⟨A', n', c', by rw [List.getElem?_append_left (by have := h.len; omega)]; exact h1, hd1, hd2, h2.grown hg (fun a ha => (h3 a ha).1), fun a ha => far a (h3 a ha)⟩
    · have hjl : j < (vs ++ [v]).length := (List.getElem?_eq_some_iff.1 hj).1
      rw [List.length_append] at hjl
      simp at hjl
      obtain rfl : j = vs.length := by omega
      rw [List.getElem?_append_right (Nat.le_refl _), Nat.sub_self] at hj
      injection hj with hj
      subst hj
      exact ⟨A, n, c, by rw [h.len, ← hlen, List.getElem?_append_right (Nat.le_refl _), Nat.sub_self]; rfl, hc1, hc2, hv.grown hg (fun a ha => (hA a ha).1), fun a ha => far a (hA a ha)⟩
  · have last : ∀ (t : Nat) z, (cs ++ [Value.slice A n c])[t]? = some z → cs[t]? = some z ∨ (t = cs.length ∧ z = Value.slice A n c) := fun t z ht => by
      by_cases htl : t < cs.length
      · rw [List.getElem?_append_left htl] at ht; exact .inl ht
      · have := (List.getElem?_eq_some_iff.1 ht).1
        rw [List.length_append] at this
        simp at this
        obtain rfl : t = cs.length := by omega
        rw [List.getElem?_append_right (Nat.le_refl _), Nat.sub_self] at ht
        injection ht with ht
        exact .inr ⟨rfl, ht.symm⟩
    rcases last i _ hi with h1 | ⟨e1, h1⟩ <;> rcases last j _ hj with h2 | ⟨e2, h2⟩
    · exact h.dist i j a b n' m c' d hij h1 h2
    · injection h2 with h2 _ _
      exact hd b h2.symm i a n' c' h1
    · injection h1 with h1 _ _
      exact fun e => hd a h1.symm j b m d h2 e.symm
    · omega
theorem RowsC.empty (w : World) (t : TypeId) (b base : Nat) (hb : b = w.heap.size) (h : base ≤ b) : RowsC base (w.alloc (.cells #[] t)) t (.slice (some ⟨b, 0, none⟩) 0 0) 0 [] [] :=
  ⟨rfl, own_empty w t b base hb h, fun j v hj => by simp at hj, fun i j a b n m c d _ hi _ => by simp at hi⟩
theorem RowsC.block (h : RowsC B w E o k vs cs) (j : Nat) (b : Addr) (m d : Nat) (hj : cs[j]? = some (Value.slice (some b) m d)) : b.block < w.heap.size := by
  have hlt := (List.getElem?_eq_some_iff.1 hj).1
  have hx : vs[j]? = some (vs[j]'(by have := h.len; have := h.clen; omega)) := List.getElem?_eq_getElem _
  obtain ⟨A, n, c, h1, _, _, h2, h3⟩ := h.row j _ hx
  rw [hj] at h1
  injection h1 with h1
  injection h1 with h1 _ _
  exact (h3 b h1.symm).2
/-- as rows to be read -/
theorem RowsC.lists (h : RowsC B w E o k vs cs) (hk : k ≤ 1000) : ∃ L c, o = Value.slice L k c ∧ Lists w L k vs := by
  rcases h.own.2 with ⟨rfl, h0⟩ | ⟨g, cap, cur, rfl, hg, hh, hn, hc, hs, ht⟩
  · subst h0
    have : vs = [] := List.eq_nil_of_length_eq_zero h.len
    subst this
    exact ⟨none, 0, rfl, Lists.nil w⟩
  · refine ⟨_, cap, rfl, h.len, hk, fun hk0 => ⟨g, 0, rfl, h.own.lt g (by simp [Value.ownBlock]) |>.2, fun j v hj => ?_⟩⟩
    obtain ⟨A, n, c, h1, _, _, h2, h3⟩ := h.row j v hj
    have hjk : j < k := by have := (List.getElem?_eq_some_iff.1 hj).1; have := h.len; omega
    exact ⟨A, n, c, by rw [Nat.zero_add, h.own.cellAt j (by omega)]; exact h1, h2.ints⟩
/-- one row, with the cell that names it -/
theorem RowsC.get (h : RowsC B w E o k vs cs) {j : Nat} (hj : j < k) : ∃ g cap v A n c, o = Value.slice (some ⟨g, 0, none⟩) k cap ∧ vs[j]? = some v ∧ w.cell? ⟨g, j, none⟩ = some (Value.slice A n c) ∧ Own B w A n v := by
  rcases h.own.2 with ⟨rfl, h0⟩ | ⟨g, cap, cur, rfl, hg, hh, hn, hc, hs, ht⟩
  · omega
  · have hx : vs[j]? = some (vs[j]'(by have := h.len; omega)) := List.getElem?_eq_getElem _
    obtain ⟨A, n, c, h1, _, _, h2, h3⟩ := h.row j _ hx
    exact ⟨g, cap, _, A, n, c, rfl, hx, by rw [h.own.cellAt j (by omega)]; exact h1, h2⟩
end

/-- rows to be read that lie between two block numbers -/
def RowsIn (lo hi : Nat) (w : World) (L : Option Addr) (m : Nat) (vs : List (List Int)) : Prop :=
  vs.length = m ∧ m ≤ 1000 ∧ hi ≤ w.heap.size ∧ (0 < m → ∃ b off, L = some ⟨b, off, none⟩ ∧ lo ≤ b ∧ b < hi ∧ ∀ (j : Nat) (v : List Int), vs[j]? = some v → ∃ (A : Option Addr) (n c : Nat), w.cell? ⟨b, off + j, none⟩ = some (.slice A n c) ∧ n ≤ c ∧ c ≤ maxLen ∧ OwnIn lo hi w A n v)
theorem RowsIn.same {lo hi m : Nat} {w w' : World} {L : Option Addr} {vs : List (List Int)} (h : RowsIn lo hi w L m vs) (hs : w.heap.size ≤ w'.heap.size) (hb : ∀ i, lo ≤ i → i < hi → w'.heap[i]? = w.heap[i]?) : RowsIn lo hi w' L m vs :=
  ⟨h.1, h.2.1, Nat.le_trans h.2.2.1 hs, fun hm => by
    obtain ⟨b, off, e, h1, h2, h3⟩ := h.2.2.2 hm
    refine ⟨b, off, e, h1, h2, fun j v hj => ?_⟩
    obtain ⟨A, n, c, k1, k2, k3, k4⟩ := h3 j v hj
    exact ⟨A, n, c, (World.cell?_of_block (hb b h1 h2)).trans k1, k2, k3, k4.same hs hb⟩⟩
theorem RowsIn.keep {lo hi m : Nat} {w w' : World} {L : Option Addr} {vs : List (List Int)} (h : RowsIn lo hi w L m vs) (hb : Below w.heap.size w w') : RowsIn lo hi w' L m vs :=
  h.same hb.size fun i _ h2 => hb.block i (Nat.lt_of_lt_of_le h2 h.2.2.1)
theorem RowsIn.grown {lo hi m : Nat} {w w' : World} {L : Option Addr} {vs : List (List Int)} {row : Option Nat} (h : RowsIn lo hi w L m vs) (hg : w.grownBy w' row) (hr : ∀ b, row = some b → b < lo ∨ hi ≤ b) : RowsIn lo hi w' L m vs :=
  h.same hg.size fun i h1 h2 => hg.block i (Nat.lt_of_lt_of_le h2 h.2.2.1) (fun e => by have := hr i e.symm; omega)
theorem RowsIn.at_ {lo hi m j : Nat} {w : World} {L : Option Addr} {vs : List (List Int)} (h : RowsIn lo hi w L m vs) (hj : j < m) :
    ∃ b off v A n c, L = some ⟨b, off, none⟩ ∧ vs[j]? = some v ∧ w.cell? ⟨b, off + j, none⟩ = some (.slice A n c) ∧ n ≤ c ∧ c ≤ maxLen ∧ OwnIn lo hi w A n v := by
  obtain ⟨b, off, e, _, _, h3⟩ := h.2.2.2 (by omega)
  have hx : vs[j]? = some (vs[j]'(by have := h.1; omega)) := List.getElem?_eq_getElem _
  obtain ⟨A, n, c, k1, k2, k3, k4⟩ := h3 j _ hx
  exact ⟨b, off, _, A, n, c, e, hx, k1, k2, k3, k4⟩
theorem RowsC.in_ {B k : Nat} {w : World} {E : TypeId} {o : Value} {vs : List (List Int)} {cs : List Value} (h : RowsC B w E o k vs cs) (hk : k ≤ 1000) : ∃ L c, o = .slice L k c ∧ RowsIn B w.heap.size w L k vs := by
  rcases h.own.2 with ⟨rfl, h0⟩ | ⟨g, cap, cur, rfl, hg, hh, hn, hc, hs, ht⟩
  · subst h0
    exact ⟨none, 0, rfl, h.len, hk, Nat.le_refl _, fun h0 => by omega⟩
  · refine ⟨_, cap, rfl, h.len, hk, Nat.le_refl _, fun hk0 => ⟨g, 0, rfl, hg, h.own.lt g (by simp [Value.ownBlock]) |>.2, fun j v hj => ?_⟩⟩
    obtain ⟨A, n, c, h1, k1, k2, h2, h3⟩ := h.row j v hj
    have hjk : j < k := by have := (List.getElem?_eq_some_iff.1 hj).1; have := h.len; omega
    exact ⟨A, n, c, by rw [Nat.zero_add, h.own.cellAt j (by omega)]; exact h1, k1, k2, OwnIn.of h2⟩
theorem cell_one_at (w : World) (x : Value) (t : TypeId) (b : Nat) (hb : b = w.heap.size) : ∀ (j : Nat) (u : Value), [x][j]? = some u → (w.alloc (.cells #[x] t)).cell? ((⟨b, 0, none⟩ : Addr).add j) = some u := by
  subst hb
  exact cell_one_new w x t
theorem rows_info : (Try.prog.info? 29).map (fun i => (i.zero, i.size, i.bytes)) = some (some (Value.slice none 0 0), 1, 24) := by kernel_rfl
end Go.Proofs.Ytcgghjhccnjeoaa
