/- Contracts: the laws' own marks in slices of numbers. Conditions stand in each theorem. -/
import Derived.Test.YtcgghjhccnjeoaaSpace
namespace Go.Proofs.Ytcgghjhccnjeoaa
open Go.RowKit
set_option linter.unusedVariables false

/-- only blocks from lo on and below hi (and what is new) may have changed -/
def Touch (lo hi : Nat) (w w' : World) : Prop :=
  w'.os = w.os ∧ w'.tape = w.tape ∧ w'.output = w.output ∧ w.heap.size ≤ w'.heap.size ∧ ∀ i, i < w.heap.size → ¬ (lo ≤ i ∧ i < hi) → w'.heap[i]? = w.heap[i]?

/-- a slice of the call's own between two block numbers, read as a list, not frozen -/
def OwnIn (lo hi : Nat) (w : World) (A : Option Addr) (n : Nat) (xs : List Int) : Prop :=
  xs.length = n ∧ n ≤ maxLen ∧ hi ≤ w.heap.size ∧ (0 < n → ∃ b off, A = some ⟨b, off, none⟩ ∧ lo ≤ b ∧ b < hi ∧ (∀ j x, xs[j]? = some x → w.cell? ⟨b, off + j, none⟩ = some (.int .i64 x)) ∧ ∀ j, j < n → w.frozen? ⟨b, off + j, none⟩ = false)

section
variable {w w' w0 : World} {A : Option Addr} {n lo hi lo' hi' B : Nat} {xs : List Int}
theorem OwnIn.of (h : Own lo w A n xs) : OwnIn lo w.heap.size w A n xs := ⟨h.1, h.2.1, Nat.le_refl _, fun hn => by
  obtain ⟨b, off, e, h1, h2, h3, h4⟩ := h.2.2 hn
  exact ⟨b, off, e, h1, h2, h3, h4⟩⟩
theorem OwnIn.ints (h : OwnIn lo hi w A n xs) : Ints w A n xs := ⟨h.1, h.2.1, fun hn => by
  obtain ⟨b, off, e, _, hl, hc, _⟩ := h.2.2.2 hn
  exact ⟨b, off, e, Nat.lt_of_lt_of_le hl h.2.2.1, hc⟩⟩
theorem OwnIn.same (h : OwnIn lo hi w A n xs) (hs : w.heap.size ≤ w'.heap.size) (hb : ∀ i, lo ≤ i → i < hi → w'.heap[i]? = w.heap[i]?) : OwnIn lo hi w' A n xs := ⟨h.1, h.2.1, Nat.le_trans h.2.2.1 hs, fun hn => by
  obtain ⟨b, off, e, h1, h2, hc, hf⟩ := h.2.2.2 hn
  exact ⟨b, off, e, h1, h2, fun j x hj => (World.cell?_of_block (hb b h1 h2)).trans (hc j x hj), fun j hj => (World.frozen?_of_block (hb b h1 h2)).trans (hf j hj)⟩⟩
theorem OwnIn.keep (h : OwnIn lo hi w A n xs) (hb : Below w.heap.size w w') : OwnIn lo hi w' A n xs := h.same hb.size fun i _ h2 => hb.block i (Nat.lt_of_lt_of_le h2 h.2.2.1)
theorem OwnIn.far (h : OwnIn lo hi w A n xs) (ht : Touch lo' hi' w w') (hd : hi ≤ lo' ∨ hi' ≤ lo) : OwnIn lo hi w' A n xs := h.same ht.2.2.2.1 fun i h1 h2 => ht.2.2.2.2 i (Nat.lt_of_lt_of_le h2 h.2.2.1) (by omega)
theorem Ints.far_ (h : Ints w0 A n xs) (hb : Below w0.heap.size w0 w) (ht : Touch lo hi w w') (hd : w0.heap.size ≤ lo) : Ints w' A n xs := ⟨h.1, h.2.1, fun hn => by
  obtain ⟨b, off, e, hl, hc⟩ := h.2.2 hn
  exact ⟨b, off, e, Nat.lt_of_lt_of_le hl (Nat.le_trans hb.size ht.2.2.2.1), fun j x hj => (World.cell?_of_block (ht.2.2.2.2 b (Nat.lt_of_lt_of_le hl hb.size) (by omega))).trans ((hb.cell (p := ⟨b, off + j, none⟩) hl).trans (hc j x hj))⟩⟩
theorem below_touch (hb : Below w0.heap.size w0 w) (ht : Touch lo hi w w') (hd : w0.heap.size ≤ lo) : Below w0.heap.size w0 w' :=
  ⟨ht.1.trans hb.os, ht.2.1.trans hb.tape, ht.2.2.1.trans hb.output, Nat.le_trans hb.size ht.2.2.2.1, fun i hi =>
    (ht.2.2.2.2 i (Nat.lt_of_lt_of_le hi hb.size) (by omega)).trans (hb.block i hi)⟩
theorem OwnIn.set_ {b off j : Nat} (h : OwnIn lo hi w (some ⟨b, off, none⟩) n xs) (hj : j < n) (v : Int) : OwnIn lo hi (w.setCell ⟨b, off + j, none⟩ (.int .i64 v)) (some ⟨b, off, none⟩) n (xs.set j v) :=
  ⟨by rw [List.length_set]; exact h.1, h.2.1, by simpa [World.setCell] using h.2.2.1, fun hn => by
    obtain ⟨b', off', e, h1, h2, hc, hf⟩ := h.2.2.2 hn
    injection e with e
    injection e with e1 e2
    subst e1 e2
    refine ⟨b, off, rfl, h1, h2, fun i x hi => ?_, fun i hi => by rw [World.frozen?_setCell]; exact hf i hi⟩
    by_cases hij : i = j
    · subst hij
      rw [List.getElem?_set_self (by have := h.1; omega)] at hi
      injection hi with hi
      subst hi
      have hx : xs[i]? = some (xs[i]'(by have := h.1; omega)) := List.getElem?_eq_getElem _
      exact World.cell?_setCell_same _ _ _ (hc i _ hx)
    · rw [List.getElem?_set_ne (fun e => hij e.symm)] at hi
      rw [World.cell?_setCell_other _ _ _ _ (by intro e; injection e with _ e; omega)]
      exact hc i x hi⟩
theorem cell_touch {a : Addr} {v : Value} (h : w.cell? a = some v) (ht : Touch lo hi w w') (hd : a.block < lo ∨ hi ≤ a.block) : w'.cell? a = some v :=
  (World.cell?_of_block (ht.2.2.2.2 a.block (World.block_lt_of_cell? _ _ h) (by omega))).trans h
theorem Touch.of_below (h : Below w.heap.size w w') : Touch lo hi w w' := ⟨h.os, h.tape, h.output, h.size, fun i hi _ => h.block i hi⟩
theorem Touch.refl (w : World) : Touch lo hi w w := ⟨rfl, rfl, rfl, Nat.le_refl _, fun _ _ _ => rfl⟩
theorem Touch.trans {w'' : World} (h : Touch lo hi w w') (k : Touch lo hi w' w'') : Touch lo hi w w'' :=
  ⟨k.1.trans h.1, k.2.1.trans h.2.1, k.2.2.1.trans h.2.2.1, Nat.le_trans h.2.2.2.1 k.2.2.2.1, fun i hi hn => (k.2.2.2.2 i (Nat.lt_of_lt_of_le hi h.2.2.2.1) hn).trans (h.2.2.2.2 i hi hn)⟩
theorem Touch.set {p : Addr} (h1 : lo ≤ p.block) (h2 : p.block < hi) (v : Value) : Touch lo hi w (w.setCell p v) :=
  ⟨rfl, rfl, rfl, by simp [World.setCell], fun i _ hn => Below.heap_setCell w p v i (by omega)⟩
end

/-- the marks from k on -/
def marksL (k : Int) (n : Nat) : List Int := (List.range n).map fun (i : Nat) => k + (i : Int)
theorem marksL_at {k : Int} {n i : Nat} {x : Int} (h : (marksL k n)[i]? = some x) : i < n ∧ x = k + i := by
  unfold marksL at h
  have hi : i < n := by have := (List.getElem?_eq_some_iff.1 h).1; simpa using this
  rw [List.getElem?_map, List.getElem?_range hi] at h
  simp at h
  exact ⟨hi, h.symm⟩
theorem marksL_get {k : Int} {n i : Nat} (h : i < n) : (marksL k n)[i]? = some (k + i) := by
  unfold marksL; rw [List.getElem?_map, List.getElem?_range h]; rfl

theorem laws_markInt64S (A : Option Addr) (n c : Nat) (xs : List Int) (k0 : Int) (lo hi : Nat) (w : World) (hx : OwnIn lo hi w A n xs) (hk0 : 0 ≤ k0) (hk1 : k0 ≤ 1000000000) (hn : n ≤ 1000000000) :
    Calls Try.prog 47 #[.slice A n c, .int .i64 k0] w fun e w' => e = .returned (.int .i64 (k0 + n)) ∧ OwnIn lo hi w' A n (marksL k0 n) ∧ Touch lo hi w w' := by
  have HX := Lib.hid hx
  clear hx
  go_enter Try.func47, Try.ntmps47
  go_wp2
  go_loopw [1, 5] (fun q i wr => ∃ (j : Nat) (L : List Int), j ≤ n ∧ i = .int .i64 j ∧ q = .int .i64 (k0 + j) ∧ OwnIn lo hi wr A n L ∧ (∀ t : Nat, t < j → L[t]? = some (k0 + (t : Int))) ∧ Touch lo hi w wr) (fun _ i _ => n - (intOf i).toNat)
  case atStart => exact ⟨0, xs, Nat.zero_le _, rfl, by simp, HX.out, fun t ht => by omega, Touch.refl w⟩
  case round =>
    obtain ⟨j, L, hj, rfl, rfl, ho, hL, ht⟩ := hrel
    have HO := Lib.hid ho
    have HL := Lib.hid hL
    have HT := Lib.hid ht
    clear ho hL ht
    by_cases hlt : j < n
    · obtain ⟨b, off, rfl, h1, h2, hc, hf⟩ := HO.out.2.2.2 (by omega)
      have hx : L[j]? = some (L[j]'(by have := HO.out.1; omega)) := List.getElem?_eq_getElem _
      obtain ⟨x, HXX⟩ : ∃ x, Hid (L[j]? = some x) := ⟨_, Lib.hid hx⟩
      have hcell := hc j x HXX.out
      have hfr := hf j hlt
      clear hx hc hf
      go_wp2
      go_roundw
      case rel => exact ⟨j + 1, L.set j (k0 + j), by omega, by go_num, by congr 1; omega, HO.out.set_ hlt _, fun t ht => by
        by_cases e : t = j
        · subst e; rw [List.getElem?_set_self (by have := HO.out.1; omega)]
        · rw [List.getElem?_set_ne (fun h => e h.symm)]; exact HL.out t (by omega), HT.out.trans (Touch.set h1 h2 _)⟩
      case measure => simp [intOf]; omega
    · obtain rfl : j = n := by omega
      have HE := Lib.hid (show L = marksL k0 j by
        apply List.ext_getElem?
        intro i
        by_cases hi : i < j
        · rw [HL.out i hi, marksL_get hi]
        · rw [List.getElem?_eq_none (by have := HO.out.1; omega), List.getElem?_eq_none (by simp [marksL]; omega)])
      go_wp2
      go_ret
      exact ⟨rfl, by rw [← HE.out]; exact HO.out, HT.out⟩

theorem laws_heldInt64S (A : Option Addr) (n c : Nat) (k0 : Int) (w : World) (hx : Ints w A n (marksL k0 n)) (hk0 : 0 ≤ k0) (hk1 : k0 ≤ 1000000000) (hn : n ≤ 1000000000) :
    Calls Try.prog 48 #[.slice A n c, .int .i64 k0] w fun e w' => e = .returned (.int .i64 (k0 + n)) ∧ w = w' := by
  have HX := Lib.hid hx
  clear hx
  go_enter Try.func48, Try.ntmps48
  go_wp2
  go_loop [1, 5] (fun q i => ∃ (j : Nat), j ≤ n ∧ i = .int .i64 j ∧ q = .int .i64 (k0 + j)) (fun _ i => n - (intOf i).toNat)
  case atStart => exact ⟨0, Nat.zero_le _, rfl, by simp⟩
  case round =>
    obtain ⟨j, hj, rfl, rfl⟩ := hrel
    by_cases hlt : j < n
    · obtain ⟨b, off, x, rfl, hb, hxk, hcell⟩ := HX.out.at_ hlt
      obtain ⟨_, rfl⟩ := marksL_at hxk
      clear hxk hb
      go_wp2
      go_round
      case rel => exact ⟨j + 1, by omega, by go_num, by congr 1; omega⟩
      case measure => simp [intOf]; omega
    · obtain rfl : j = n := by omega
      go_wp2
      go_ret
      exact ⟨rfl, rfl⟩

end Go.Proofs.Ytcgghjhccnjeoaa
