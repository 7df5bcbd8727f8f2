/- Contracts: the laws' own helpers over slices of numbers (copy, compare). Conditions stand in each theorem. -/
import Derived.Test.YtcgghjhccnjeoaaBase
import Derived.Deep.OwnRows
namespace Go.Proofs.Ytcgghjhccnjeoaa
open Go.RowKit

theorem below_then {w v v' : World} (h : Below w.heap.size w v) (k : Below v.heap.size v v') : Below w.heap.size w v' := h.trans (k.mono h.size)
theorem keep_cell {w w1 : World} {a : Addr} {v : Value} (hb : Below w.heap.size w w1) (h : w.cell? a = some v) : w1.cell? a = some v := (hb.cell (World.block_lt_of_cell? _ _ h)).trans h

/-- a slice of the call's own: from block B on, read as a list, not frozen -/
def Own (B : Nat) (w : World) (A : Option Addr) (n : Nat) (xs : List Int) : Prop :=
  xs.length = n ∧ n ≤ maxLen ∧ (0 < n → ∃ b off, A = some ⟨b, off, none⟩ ∧ B ≤ b ∧ b < w.heap.size ∧ (∀ j x, xs[j]? = some x → w.cell? ⟨b, off + j, none⟩ = some (.int .i64 x)) ∧ ∀ j, j < n → w.frozen? ⟨b, off + j, none⟩ = false)

section
variable {w w' : World} {A : Option Addr} {n B B' : Nat} {xs : List Int}
theorem Own.ints (h : Own B w A n xs) : Ints w A n xs := ⟨h.1, h.2.1, fun hn => by
  obtain ⟨b, off, e, _, hl, hc, _⟩ := h.2.2 hn
  exact ⟨b, off, e, hl, hc⟩⟩
theorem Own.keep (h : Own B w A n xs) (hb : Below w.heap.size w w') : Own B w' A n xs := ⟨h.1, h.2.1, fun hn => by
  obtain ⟨b, off, e, hB, hl, hc, hf⟩ := h.2.2 hn
  exact ⟨b, off, e, hB, Nat.lt_of_lt_of_le hl hb.size, fun j x hj => (hb.cell (p := ⟨b, off + j, none⟩) hl).trans (hc j x hj), fun j hj => (hb.frozen (p := ⟨b, off + j, none⟩) hl).trans (hf j hj)⟩⟩
theorem Own.less (h : Own B w A n xs) (hB : B' ≤ B) : Own B' w A n xs := ⟨h.1, h.2.1, fun hn => by
  obtain ⟨b, off, e, hb, hl, hc, hf⟩ := h.2.2 hn
  exact ⟨b, off, e, by omega, hl, hc, hf⟩⟩
theorem Own.setFar (h : Own B w A n xs) {p : Addr} (hp : p.block < B) (v : Value) : Own B (w.setCell p v) A n xs := ⟨h.1, h.2.1, fun hn => by
  obtain ⟨b, off, e, hB, hl, hc, hf⟩ := h.2.2 hn
  exact ⟨b, off, e, hB, by simpa [World.setCell] using hl, fun j x hj => by rw [World.cell?_setCell_other _ _ _ _ (by intro h; subst h; simp at hp; omega)]; exact hc j x hj,
    fun j hj => by rw [World.frozen?_setCell]; exact hf j hj⟩⟩
theorem Own.drew (h : Own B w A n xs) : Own B w.drew A n xs := h
theorem Ints.drew (h : Ints w A n xs) : Ints w.drew A n xs := h
theorem Own.nil (B : Nat) (w : World) : Own B w none 0 [] := ⟨rfl, by unfold maxLen; omega, fun h => absurd h (by omega)⟩
end

theorem Own.of_row {w : World} {b n B : Nat} {t : TypeId} {f : Nat → Value} {xs : List Int} (h : w.rowIs b t n f) (hl : xs.length = n) (hm : n ≤ maxLen) (hB : B ≤ b) (hf : ∀ i x, xs[i]? = some x → f i = .int .i64 x) : Own B w (some ⟨b, 0, none⟩) n xs :=
  ⟨hl, hm, fun _ => ⟨b, 0, rfl, hB, h.lt, fun j x hj => by
    have hjn : j < n := by have := (List.getElem?_eq_some_iff.1 hj).1; omega
    rw [Nat.zero_add, h.cell hjn, hf j x hj], fun j _ => by rw [Nat.zero_add]; exact h.frozen j⟩⟩

theorem int_info : (Try.prog.info? 2).map (fun i => (i.zero, i.size, i.bytes)) = some (some (.int .i64 0), 1, 8) := by kernel_rfl

/-- what a copy of the list reads as after k rounds -/
def copyAt (xs : List Int) (k i : Nat) : Value := if i < k then .int .i64 (xs[i]?.getD 0) else .int .i64 0
theorem copyAt_step {xs : List Int} {k : Nat} {x : Int} (h : xs[k]? = some x) (i : Nat) : (if i = k then Value.int .i64 x else copyAt xs k i) = copyAt xs (k + 1) i := by
  unfold copyAt
  by_cases e : i = k
  · subst e; rw [if_pos rfl, if_pos (by omega), h]; rfl
  · rw [if_neg e]
    by_cases e2 : i < k
    · rw [if_pos e2, if_pos (by omega)]
    · rw [if_neg e2, if_neg (by omega)]

theorem laws_toInt64S (A : Option Addr) (n c : Nat) (xs : List Int) (w : World) (hx : Ints w A n xs) (hn : n * 8 ≤ 281474976710656) :
    Calls Try.prog 15 #[.slice A n c] w fun e w' => ∃ b, e = .returned (.slice (some ⟨b, 0, none⟩) n n) ∧ Own w.heap.size w' (some ⟨b, 0, none⟩) n xs ∧ Below w.heap.size w w' := by
  have HX := Lib.hid hx
  clear hx
  have hmk := run_make_row' (P := Try.prog) 29 2 (.int .i64 0) 8 Try.underlying29 int_info rfl .i64 .i64 n (by omega) (by omega)
  go_enter Try.func15, Try.ntmps15
  go_wp2
  go_loopw [4] (fun i wr => ∃ k : Nat, k ≤ n ∧ i = .int .i64 k ∧ wr.rowIs w.heap.size 2 n (copyAt xs k) ∧ Below w.heap.size w wr) (fun i _ => n - (intOf i).toNat)
  case atStart => exact ⟨0, Nat.zero_le _, rfl, World.rowIs_made w (.int .i64 0) n 2, (Below.refl _ _).alloc (Nat.le_refl _) _⟩
  case round =>
    obtain ⟨k, hk, rfl, hrow, hbel⟩ := hrel
    have HR := Lib.hid hrow
    have HB := Lib.hid hbel
    clear hrow hbel
    by_cases hlt : k < n
    · obtain ⟨b, off, x, rfl, hb, hxk, hck⟩ := HX.out.at_ hlt
      have hck2 := (HB.out.cell (p := ⟨b, off + k, none⟩) hb).trans hck
      have HK := Lib.hid hxk
      have hcell := HR.out.cell hlt
      have hfr := HR.out.frozen k
      simp only [copyAt, Nat.lt_irrefl, if_false] at hcell
      clear hck hxk hb
      go_wp2
      go_roundw
      case rel => exact ⟨k + 1, by omega, by go_num, (HR.out.set k _).congr fun i _ => copyAt_step HK.out i, HB.out.setCell (Nat.le_refl _) _⟩
      case measure => simp [intOf]; omega
    · obtain rfl : k = n := by omega
      go_wp2
      go_ret
      exact ⟨_, rfl, Own.of_row HR.out HX.out.1 HX.out.2.1 (Nat.le_refl _) fun i x hi => by
        have hin : i < xs.length := (List.getElem?_eq_some_iff.1 hi).1
        rw [copyAt, if_pos (by have := HX.out.1; omega), hi]; rfl, HB.out⟩

/-- the first k places of two lists are equal -/
theorem laws_eqInt64S (A B : Option Addr) (n m c d : Nat) (xs ys : List Int) (w : World) (hx : Ints w A n xs) (hy : Ints w B m ys) :
    Calls Try.prog 17 #[.slice A n c, .slice B m d] w fun e w' => e = .returned (.bool (decide (xs = ys))) ∧ Below w.heap.size w w' := by
  by_cases hnm : n = m
  · subst hnm
    have HX := Lib.hid hx
    have HY := Lib.hid hy
    have hmax := hx.2.1
    clear hx hy
    unfold maxLen at hmax
    go_enter Try.func17, Try.ntmps17
    go_wp2
    go_loopw [5] (fun i wr => ∃ k : Nat, k ≤ n ∧ i = .int .i64 k ∧ xs.take k = ys.take k ∧ Below w.heap.size w wr) (fun i _ => n - (intOf i).toNat)
    case atStart => exact ⟨0, Nat.zero_le _, rfl, rfl, Below.refl _ _⟩
    case round =>
      obtain ⟨k, hk, rfl, heq, hbel⟩ := hrel
      have HB := Lib.hid hbel
      have HE := Lib.hid heq
      clear heq hbel
      by_cases hlt : k < n
      · obtain ⟨b1, off1, x, rfl, hb1, hxk, hck1⟩ := (HX.out.keep HB.out).at_ hlt
        obtain ⟨b2, off2, y, rfl, hb2, hyk, hck2⟩ := (HY.out.keep HB.out).at_ hlt
        have HK := Lib.hid hxk
        have HL := Lib.hid hyk
        clear hxk hyk hb1 hb2
        by_cases hxy : x = y
        · subst hxy
          go_wp2
          go_quiet (fail)
          go_wp2
          go_roundw
          case rel => exact ⟨k + 1, by omega, by go_num, by rw [take_snoc HK.out, take_snoc HL.out, HE.out], below_drewN HB.out _⟩
          case measure => simp [intOf]; omega
        · have h1 : (x == y) = false := by simpa using hxy
          have h2 : (x != y) = true := by simpa using hxy
          have HXY := Lib.hid hxy
          clear hxy
          go_wp2
          go_quiet (fail)
          go_wp2
          go_ret
          exact ⟨ret_bool (Eq.symm (decide_eq_false (by
            intro e; subst e
            have h3 := HK.out
            rw [HL.out] at h3
            injection h3 with h3
            exact HXY.out h3.symm))), below_drewN HB.out _⟩
      · obtain rfl : k = n := by omega
        go_wp2
        go_ret
        exact ⟨ret_bool (Eq.symm (decide_eq_true (by
          have h := HE.out
          rw [List.take_of_length_le (by have := HX.out.1; omega), List.take_of_length_le (by have := HY.out.1; omega)] at h
          exact h))), HB.out⟩
  · have h1 : ((n : Int) == (m : Int)) = false := by simp; omega
    have h2 : ((n : Int) != (m : Int)) = true := by simp; omega
    have HN := Lib.hid (show ¬ xs = ys by intro e; subst e; exact hnm (hx.1.symm.trans hy.1))
    clear hnm hx hy
    go_enter Try.func17, Try.ntmps17
    go_wp2
    go_ret
    exact ⟨ret_bool (Eq.symm (decide_eq_false HN.out)), Below.refl _ _⟩
end Go.Proofs.Ytcgghjhccnjeoaa
