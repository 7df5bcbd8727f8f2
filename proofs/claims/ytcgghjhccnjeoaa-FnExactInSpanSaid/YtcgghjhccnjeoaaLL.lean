/- Words and contracts: lists of lists of whatever lengths, read, copied, compared. Conditions stand in each theorem. -/
import Derived.Test.YtcgghjhccnjeoaaClone
import Derived.RegionTactic
import Derived.ChangeAlike
import Derived.BigQuiet
namespace Go.Proofs.Ytcgghjhccnjeoaa
open Go.RowKit
set_option linter.unusedVariables false
set_option linter.unusedSimpArgs false

/-- a slice of slices reads as the lists -/
def LL (w : World) (L : Option Addr) (m : Nat) (vs : List (List Int)) : Prop :=
  vs.length = m ∧ m ≤ maxLen ∧ (0 < m → ∃ b off, L = some ⟨b, off, none⟩ ∧ b < w.heap.size ∧ ∀ j, j < m → ∃ B c, w.cell? ⟨b, off + j, none⟩ = some (.slice B (rowAt vs j).length c) ∧ Ints w B (rowAt vs j).length (rowAt vs j))
theorem LL.nil (w : World) (L : Option Addr) : LL w L 0 [] := ⟨rfl, by unfold maxLen; omega, fun h => absurd h (by omega)⟩
theorem LL.keep {w w' : World} {L : Option Addr} {m : Nat} {vs : List (List Int)} (h : LL w L m vs) (hb : Below w.heap.size w w') : LL w' L m vs :=
  ⟨h.1, h.2.1, fun hm => by
    obtain ⟨b, off, e, hl, hc⟩ := h.2.2 hm
    refine ⟨b, off, e, Nat.lt_of_lt_of_le hl hb.size, fun j hj => ?_⟩
    obtain ⟨B, c, h1, h2⟩ := hc j hj
    exact ⟨B, c, keep_cell hb h1, h2.keep hb⟩⟩
theorem LL.at_ {w : World} {L : Option Addr} {m k : Nat} {vs : List (List Int)} (h : LL w L m vs) (hk : k < m) :
    ∃ b off B c, L = some ⟨b, off, none⟩ ∧ b < w.heap.size ∧ w.cell? ⟨b, off + k, none⟩ = some (.slice B (rowAt vs k).length c) ∧ Ints w B (rowAt vs k).length (rowAt vs k) := by
  obtain ⟨b, off, e, hl, hc⟩ := h.2.2 (by omega)
  obtain ⟨B, c, h1, h2⟩ := hc k hk
  exact ⟨b, off, B, c, e, hl, h1, h2⟩
theorem LL.lists {w : World} {L : Option Addr} {m : Nat} {vs : List (List Int)} (h : LL w L m vs) (hm : m ≤ 1000) : Lists w L m vs :=
  ⟨h.1, hm, fun h0 => by
    obtain ⟨b, off, e, hl, hc⟩ := h.2.2 h0
    refine ⟨b, off, e, hl, fun j v hj => ?_⟩
    have hjm : j < m := by rw [← h.1]; exact (List.getElem?_eq_some_iff.1 hj).1
    obtain ⟨B, c, h1, h2⟩ := hc j hjm
    rw [rowAt_of hj] at h1 h2
    exact ⟨B, _, c, h1, h2⟩⟩
theorem Tab.LL {B g m n q : Nat} {w : World} {rows : List (List Int)} {A : Nat → Option Addr} {c : Nat → Nat} (h : Tab B w g m n rows A c) (hm : m ≤ maxLen) : LL w (some ⟨g, 0, none⟩) m rows :=
  ⟨h.len, hm, fun _ => ⟨g, 0, rfl, h.glt, fun j hj => ⟨A j, c j, by rw [Nat.zero_add, (h.own j hj).1]; exact h.cell j hj, by have := (h.own j hj).ints; rwa [← (h.own j hj).1] at this⟩⟩⟩

/-- how many numbers the first k lists hold -/
def preL (vs : List (List Int)) : Nat → Nat
  | 0 => 0
  | k + 1 => preL vs k + (rowAt vs k).length
theorem preL_mono (vs : List (List Int)) {j k : Nat} (h : j ≤ k) : preL vs j ≤ preL vs k := by
  induction k with
  | zero => obtain rfl : j = 0 := by omega
            exact Nat.le_refl _
  | succ k ih =>
    by_cases e : j = k + 1
    · subst e; exact Nat.le_refl _
    · have := ih (by omega)
      show _ ≤ preL vs k + _
      omega

theorem laws_szInt64SS (L : Option Addr) (m c : Nat) (vs : List (List Int)) (w : World) (hl : LL w L m vs) :
    Calls Try.prog 7 #[.slice L m c, .int .i64 1048576] w fun e w' => ∃ r : Int, e = .returned (.int .i64 r) ∧ (0 ≤ r → m + preL vs m ≤ 1048576) ∧ w = w' := by
  have HL := Lib.hid hl
  have hm := hl.2.1
  unfold maxLen at hm
  clear hl
  by_cases hbig : m ≤ 1048576
  · go_enter Try.func7, Try.ntmps7
    go_wp2_with fail
    go_loop [1, 5] (fun l i => ∃ (k : Nat) (r : Int), k ≤ m ∧ i = .int .i64 k ∧ l = .int .i64 r ∧ 0 ≤ r ∧ r ≤ 1048576 ∧ Hid (r = 1048576 - m - preL vs k)) (fun _ i => m - (intOf i).toNat)
    case atStart => exact ⟨0, _, Nat.zero_le _, rfl, rfl, by omega, by omega, Lib.hid (by simp [preL])⟩
    case round =>
      obtain ⟨k, r, hk, rfl, rfl, hr0, hr1, HR⟩ := hrel
      by_cases hlt : k < m
      · obtain ⟨b, off, B, c1, rfl, hb, hcell, hints⟩ := HL.out.at_ hlt
        have hklt : (k : Int) < m := by omega
        obtain ⟨n, HN⟩ : ∃ n, Hid ((rowAt vs k).length = n) := ⟨_, Lib.hid rfl⟩
        have hnm := hints.2.1
        rw [HN.out] at hcell hnm
        have hnm2 := Lib.hid hnm
        have HP := Lib.hid (show preL vs (k + 1) = preL vs k + n by rw [← HN.out]; rfl)
        clear hints hb hnm
        by_cases hneg : r - n < 0
        · have HIF := Lib.hid (show (if r - (n : Int) < 0 then (-1 : Int) else r - n) = -1 from if_pos hneg)
          clear hneg
          go_wp2_with fail
          refine (laws_szInt64S _ n c1 r _ hnm2.out (by omega) (by omega)).mono ?_
          rw [HIF.out]
          rintro e w' ⟨rfl, rfl⟩
          go_wp2_with fail
          go_ret
          exact ⟨-1, rfl, fun h => absurd h (by omega), rfl⟩
        · have HIF := Lib.hid (show (if r - (n : Int) < 0 then (-1 : Int) else r - n) = r - n from if_neg hneg)
          obtain ⟨r2, HR2⟩ : ∃ r2, Hid (r - (n : Int) = r2) := ⟨_, Lib.hid rfl⟩
          have hr20 : 0 ≤ r2 := by have := HR2.out; omega
          have hr21 : r2 ≤ 1048576 := by have := HR2.out; omega
          clear hneg
          go_wp2_with fail
          refine (laws_szInt64S _ n c1 r _ hnm2.out (by omega) (by omega)).mono ?_
          rw [HIF.out, HR2.out]
          rintro e w' ⟨rfl, rfl⟩
          go_wp2_with fail
          go_round
          case rel => exact ⟨k + 1, r2, by omega, by go_num, rfl, hr20, hr21, Lib.hid (by have h1 := HR.out; have h2 := HR2.out; have h3 := HP.out; omega)⟩
          case measure => simp [intOf]; omega
      · obtain rfl : k = m := by omega
        go_wp2_with fail
        go_ret
        exact ⟨r, rfl, fun _ => by have := HR.out; omega, rfl⟩
  · go_enter Try.func7, Try.ntmps7
    go_wp2_with fail
    go_ret
    exact ⟨-1, rfl, fun h => absurd h (by omega), rfl⟩

theorem eq_same (A B : Option Addr) (n c d : Nat) (xs : List Int) (w : World) (hx : Ints w A n xs) (hy : Ints w B n xs) :
    Calls Try.prog 17 #[.slice A n c, .slice B n d] w fun e w' => e = .returned (.bool true) ∧ Below w.heap.size w w' := by
  refine (laws_eqInt64S A B n n c d xs xs w hx hy).mono ?_
  rintro e w' ⟨rfl, hb⟩
  exact ⟨by rw [decide_eq_true rfl], hb⟩
/-- two slices of slices that read alike are found equal -/
theorem laws_eqInt64SS (L K : Option Addr) (m c d : Nat) (vs : List (List Int)) (w : World) (hl : LL w L m vs) (hk : LL w K m vs) :
    Calls Try.prog 11 #[.slice L m c, .slice K m d] w fun e w' => e = .returned (.bool true) ∧ Below w.heap.size w w' := by
  have HL := Lib.hid hl
  have HK := Lib.hid hk
  have hm := hl.2.1
  unfold maxLen at hm
  clear hl hk
  go_enter Try.func11, Try.ntmps11
  go_wp2_with fail
  go_loopw [5] (fun i wr => ∃ k : Nat, k ≤ m ∧ i = .int .i64 k ∧ Hid (Below w.heap.size w wr)) (fun i _ => m - (intOf i).toNat)
  case atStart => exact ⟨0, Nat.zero_le _, rfl, Lib.hid (Below.refl _ _)⟩
  case round =>
    obtain ⟨k, hk, rfl, HB⟩ := hrel
    by_cases hlt : k < m
    · obtain ⟨b1, off1, B1, c1, rfl, hb1, hcell1, hints1⟩ := (HL.out.keep HB.out).at_ hlt
      obtain ⟨b2, off2, B2, c2, rfl, hb2, hcell2, hints2⟩ := (HK.out.keep HB.out).at_ hlt
      have HI1 := Lib.hid hints1
      have HI2 := Lib.hid hints2
      have hklt : (k : Int) < m := by omega
      obtain ⟨n, HN⟩ : ∃ n, Hid ((rowAt vs k).length = n) := ⟨_, Lib.hid rfl⟩
      rw [HN.out] at hcell1 hcell2 HI1 HI2
      clear hints1 hints2 hb1 hb2
      go_wp2_with fail
      go_region_with (go_at_call 17; refine (eq_same _ _ n _ _ (rowAt vs k) _ HI1.out.drew HI2.out.drew).mono ?_; rintro e w2 ⟨rfl, hb⟩)
      all_goals
        have HB2 := Lib.hid (below_then HB.out.drew hb)
        clear hb
        go_wp2_with fail
        go_roundw
        case rel => exact ⟨k + 1, by omega, by go_num, HB2⟩
        case measure => simp [intOf]; omega
    · obtain rfl : k = m := by omega
      go_wp2_with fail
      go_ret
      exact ⟨rfl, HB.out⟩
end Go.Proofs.Ytcgghjhccnjeoaa
