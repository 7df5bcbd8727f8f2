/- Contracts: a source of numbers that follow from a code. Conditions stand in each theorem. -/
import Derived.Test.YtcgghjhccnjeoaaDoorBase
import Derived.Test.YtcgghjhccnjeoaaDoorLcg
import Derived.RegionTactic
import Derived.ChangeAlike
import Derived.BigQuiet
import Derived.IntWalk
import Derived.Laws.Shifts
namespace Go.Proofs.YtcgghjhccnjeoaaDoor
open Go.RowKit
set_option linter.unusedVariables false
set_option linter.unusedSimpArgs false

/-- only the block s (and what is new) may have changed -/
def Tch (s : Nat) (w w' : World) : Prop :=
  w'.os = w.os ∧ w'.tape = w.tape ∧ w'.output = w.output ∧ w.heap.size ≤ w'.heap.size ∧ ∀ i, i < w.heap.size → i ≠ s → w'.heap[i]? = w.heap[i]?
section
variable {s : Nat} {w w' w0 : World}
theorem Tch.refl (s : Nat) (w : World) : Tch s w w := ⟨rfl, rfl, rfl, Nat.le_refl _, fun _ _ _ => rfl⟩
theorem Tch.of (h : Below w.heap.size w w') : Tch s w w' := ⟨h.os, h.tape, h.output, h.size, fun i hi _ => h.block i hi⟩
theorem Tch.trans {w'' : World} (h : Tch s w w') (k : Tch s w' w'') : Tch s w w'' :=
  ⟨k.1.trans h.1, k.2.1.trans h.2.1, k.2.2.1.trans h.2.2.1, Nat.le_trans h.2.2.2.1 k.2.2.2.1, fun i hi hn => (k.2.2.2.2 i (Nat.lt_of_lt_of_le hi h.2.2.2.1) hn).trans (h.2.2.2.2 i hi hn)⟩
theorem Tch.drewN (h : Tch s w w') (n : Nat) : Tch s w (w'.drewN n) := h.trans (Tch.of (below_drewN (Below.refl _ _) n))
theorem Tch.set (h : Tch s w w') (j : Nat) (v : Value) : Tch s w (w'.setCell ⟨s, j, none⟩ v) :=
  h.trans ⟨rfl, rfl, rfl, by simp [World.setCell], fun i _ hn => Below.heap_setCell w' ⟨s, j, none⟩ v i hn⟩
theorem Tch.cell (h : Tch s w w') {a : Addr} {v : Value} (hc : w.cell? a = some v) (hn : a.block ≠ s) : w'.cell? a = some v :=
  (World.cell?_of_block (h.2.2.2.2 a.block (World.block_lt_of_cell? _ _ hc) hn)).trans hc
theorem Tch.below (h : Tch s w w') (hb : Below w0.heap.size w0 w) (hs : w0.heap.size ≤ s) : Below w0.heap.size w0 w' :=
  ⟨h.1.trans hb.os, h.2.1.trans hb.tape, h.2.2.1.trans hb.output, Nat.le_trans hb.size h.2.2.2.1, fun i hi =>
    (h.2.2.2.2 i (Nat.lt_of_lt_of_le hi hb.size) (by omega)).trans (hb.block i hi)⟩
theorem Ints.tch {A : Option Addr} {n : Nat} {xs : List Int} (h : Ints w A n xs) (ht : Tch s w w') (hA : ∀ a, A = some a → a.block ≠ s) : Ints w' A n xs :=
  ⟨h.1, h.2.1, fun hn => by
    obtain ⟨b, off, e, hl, hc⟩ := h.2.2 hn
    exact ⟨b, off, e, Nat.lt_of_lt_of_le hl ht.2.2.2.1, fun j x hj => ht.cell (hc j x hj) (show b ≠ s from hA ⟨b, off, none⟩ e)⟩⟩
end

/-- a slice of bytes reads as the list -/
def Bts (w : World) (A : Option Addr) (n : Nat) (bs : List Int) : Prop :=
  bs.length = n ∧ n ≤ maxLen ∧ (0 < n → ∃ b off, A = some ⟨b, off, none⟩ ∧ b < w.heap.size ∧ ∀ j x, bs[j]? = some x → w.cell? ⟨b, off + j, none⟩ = some (.int .u8 x) ∧ 0 ≤ x ∧ x ≤ 255)
theorem Bts.nil (w : World) : Bts w none 0 [] := ⟨rfl, by unfold maxLen; omega, fun h => absurd h (by omega)⟩
theorem Bts.keep {w w' : World} {A : Option Addr} {n : Nat} {bs : List Int} (h : Bts w A n bs) (hb : Below w.heap.size w w') : Bts w' A n bs :=
  ⟨h.1, h.2.1, fun hn => by
    obtain ⟨b, off, e, hl, hc⟩ := h.2.2 hn
    exact ⟨b, off, e, Nat.lt_of_lt_of_le hl hb.size, fun j x hj => ⟨(hb.cell (p := ⟨b, off + j, none⟩) hl).trans (hc j x hj).1, (hc j x hj).2⟩⟩⟩
theorem Bts.at_ {w : World} {A : Option Addr} {n k : Nat} {bs : List Int} (h : Bts w A n bs) (hk : k < n) :
    ∃ b off x, A = some ⟨b, off, none⟩ ∧ b < w.heap.size ∧ bs[k]? = some x ∧ w.cell? ⟨b, off + k, none⟩ = some (.int .u8 x) ∧ 0 ≤ x ∧ x ≤ 255 := by
  obtain ⟨b, off, e, hl, hc⟩ := h.2.2 (by omega)
  have hx : bs[k]? = some (bs[k]'(by have := h.1; omega)) := List.getElem?_eq_getElem _
  exact ⟨b, off, _, e, hl, hx, (hc k _ hx).1, (hc k _ hx).2⟩
theorem Bts.of_row {w : World} {x : Addr} {len cap : Nat} {zs : List Int} (hl : len ≤ cap) (hm : cap ≤ maxLen) (hz : zs.length = cap) (hc : ∀ i, i < zs.length → w.cell? (x.add i) = some (.int .u8 (zs.getD i 0))) (hw : ∀ n ∈ zs, (Lit.int .u8 n).wf = true) : Bts w (some x) len (zs.take len) := by
  refine ⟨by rw [List.length_take]; omega, Nat.le_trans hl hm, fun hn => ?_⟩
  obtain ⟨b, off, rfl, hcell⟩ := ints_at hc (by omega)
  have h0 := hcell 0 (by omega)
  refine ⟨b, off, rfl, World.block_lt_of_cell? _ _ h0, fun j y hj => ?_⟩
  have hjl : j < len := by
    have := (List.getElem?_eq_some_iff.1 hj).1
    rw [List.length_take] at this; omega
  rw [List.getElem?_take_of_lt hjl] at hj
  have hm := List.mem_of_getElem? hj
  have hwf := hw _ hm
  rw [hcell j (by omega)]
  refine ⟨by simp [List.getD, hj], ?_⟩
  simp [Lit.wf, IntKind.min, IntKind.max, IntKind.bits, IntKind.signed] at hwf
  omega

/-- a source in the block s: what is left of the code, and the state -/
structure Src (w : World) (s : Nat) (A : Option Addr) (n c at_ : Nat) (h : Int) : Prop where
  code : w.cell? ⟨s, 0, none⟩ = some (.slice A n c)
  pos : w.cell? ⟨s, 1, none⟩ = some (.int .i64 at_)
  hash : w.cell? ⟨s, 2, none⟩ = some (.int .u64 h)
  f1 : w.frozen? ⟨s, 1, none⟩ = false
  f2 : w.frozen? ⟨s, 2, none⟩ = false
  le : at_ ≤ n
  h0 : 0 ≤ h
  h1 : h < 18446744073709551616
theorem Src.keep {w w' : World} {s : Nat} {A : Option Addr} {n c at_ : Nat} {h : Int} (k : Src w s A n c at_ h) (hb : Below w.heap.size w w') : Src w' s A n c at_ h := by
  have hs := World.block_lt_of_cell? _ _ k.code
  exact ⟨(hb.cell (p := ⟨s, 0, none⟩) hs).trans k.code, (hb.cell (p := ⟨s, 1, none⟩) hs).trans k.pos, (hb.cell (p := ⟨s, 2, none⟩) hs).trans k.hash, (hb.frozen (p := ⟨s, 1, none⟩) hs).trans k.f1, (hb.frozen (p := ⟨s, 2, none⟩) hs).trans k.f2, k.le, k.h0, k.h1⟩
theorem u64_wrap (x : Int) : IntKind.u64.wrap x = x % 18446744073709551616 := by simp [IntKind.wrap, IntKind.bits, IntKind.signed]
theorem u64_and (x : Int) (h0 : 0 ≤ x) (h1 : x < 18446744073709551616) : IntKind.u64.wrap ((BitVec.ofInt 64 x &&& BitVec.ofInt 64 16777215).toNat : Int) = x % 16777216 := by
  rw [BitVec.toNat_and, BitVec.toNat_ofInt, BitVec.toNat_ofInt]
  rw [show (16777215 % ((2 ^ 64 : Nat) : Int)).toNat = 2 ^ 24 - 1 by decide, Nat.and_two_pow_sub_one_eq_mod]
  rw [u64_wrap]
  omega
end Go.Proofs.YtcgghjhccnjeoaaDoor
